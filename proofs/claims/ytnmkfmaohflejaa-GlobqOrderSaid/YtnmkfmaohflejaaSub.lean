/- Machines that run other machines. -/
import Derived.Test.YtnmkfmaohflejaaBase5
set_option maxRecDepth 100000
set_option maxHeartbeats 4000000
set_option linter.unusedVariables false
set_option linter.unusedSimpArgs false
namespace Go.Proofs.Ytnmkfmaohflejaa.Mach
open Go.RowKit Go.Shelf Go.Proofs.Ytnmkfmaohflejaa.TK Go.Proofs.Ytnmkfmaohflejaa.Flag Go.Proofs.Ytnmkfmaohflejaa.Words Go.Proofs.Ytnmkfmaohflejaa.Mem Go.Proofs.Ytnmkfmaohflejaa.Flow Go.Proofs.Ytnmkfmaohflejaa.Layout Go.Proofs.Ytnmkfmaohflejaa.Lock Go.Proofs.Ytnmkfmaohflejaa.Run Go.Proofs.Ytnmkfmaohflejaa.Sys
def Rng (a : Int) : Prop := 0 ≤ a ∧ a < 18446744073709551616
/-- A machine, as others run it. -/
structure Subm (σ : Type) where
  ty : TypeId
  F : Nat
  wr : List TypeId
  at_ : World → Nat → σ → Prop
  sys : Rsys σ
/-- What a machine that writes these types stands on. -/
def rdT (wr : List TypeId) : List TypeId := wr ++ [1, 166, 143]
theorem rdT_mono {a b : List TypeId} (h : ∀ T ∈ a, T ∈ b) : ∀ T ∈ rdT a, T ∈ rdT b := by
  intro T hT
  rcases List.mem_append.1 hT with hT | hT
  · exact List.mem_append.2 (.inl (h T hT))
  · exact List.mem_append.2 (.inr hT)
/-- Step is the flow's. -/
def Thru (F : Nat) : Prop := ∀ (x : Nat) (m : Option Addr) (o : Bool) (w : World) (R : World → Prop), Calls Try.prog 72 #[.pointer (some ⟨x, 0, none⟩), .pointer m] w (fun e w' => e = .returned (.bool o) ∧ R w') → Calls Try.prog F #[.pointer (some ⟨x, 0, none⟩), .pointer m] w (fun e w' => e = .returned (.bool o) ∧ R w')
structure SubOk {σ : Type} (S : Subm σ) (lo : Nat) (who : Int) : Prop where
  step : StepOf S.ty S.F
  quiet : NoSleeper S.ty
  blk : ∀ {w y st}, S.at_ w y st → lo ≤ y ∧ ∃ T ∈ S.wr, ∃ cs, Blk w y cs T
  own : ∀ T ∈ rdT S.wr, T ∉ theirs
  kept : ∀ {w w' y st Z}, S.at_ w y st → Kept Z w w' → (∀ i ∈ Z, Not (rdT S.wr) w i) → S.at_ w' y st
  wnt : ∀ {w y st W}, S.at_ w y st → S.sys.want st = some W → W.slp = false ∧ (W.kind = 1 ∨ W.kind = 2 ∨ W.kind = 3 ∨ W.kind = 4) ∧ Rng W.new
  nil_ : ∀ {w y st}, S.at_ w y st → Calls Try.prog S.F #[.pointer (some ⟨y, 0, none⟩), .pointer none] w fun e w' => e = .returned (.bool (S.sys.want st).isNone) ∧ w = w'
  goes : ∀ {w y st m mg s}, S.at_ w y st → MemAt w m mg s → s.clock < 1000000 → s.bad < 1000000 → Calls Try.prog S.F #[.pointer (some ⟨y, 0, none⟩), .pointer (some ⟨m, 0, none⟩)] w fun e w' => e = .returned (.bool (S.sys.want (stepOf S.sys who st s).1).isNone) ∧ S.at_ w' y (stepOf S.sys who st s).1 ∧ MemAt w' m mg (stepOf S.sys who st s).2 ∧ KeptOwn S.wr lo m mg w w'
theorem SubOk.at_quiet {σ : Type} {S : Subm σ} {lo : Nat} {who : Int} (h : SubOk S lo who) {w w' : World} {y : Nat} {st : σ} (hA : S.at_ w y st) (hb : Below w.heap.size w w') : S.at_ w' y st := h.kept hA (Kept.of_below hb []) (by simp)
/-- What is to come: an access, or a machine that is run. -/
inductive Ny : Type 1
  | own (n : Nx)
  | sub {σ : Type} (S : Subm σ) (y : Nat) (s : σ) (fn : Nat)
def Ny.want : Ny → Option Wnt
  | .own n => n.want
  | .sub S _ s _ => S.sys.want s
/-- A flow that runs that machine. -/
def SubAt (w : World) (x : Nat) (who : Int) (rest : List Value) (T : TypeId) (ty : TypeId) (y fn : Nat) : Prop := ∃ f, FlAt w x f rest T ∧ f.who = who ∧ f.sub = .iface ty (.pointer (some ⟨y, 0, none⟩)) ∧ f.kind = 0 ∧ f.asleep = false ∧ f.af = meth fn x
theorem SubAt.kept {w w' : World} {x : Nat} {who : Int} {rest : List Value} {T ty : TypeId} {y fn : Nat} {S : List Nat} (h : SubAt w x who rest T ty y fn) (hk : Kept S w w') (hx : x ∉ S) : SubAt w' x who rest T ty y fn := by
  obtain ⟨f, h, h1⟩ := h
  exact ⟨f, FlAt.kept h hk hx, h1⟩
def Pend2 (w : World) (x : Nat) (who : Int) (rest : List Value) (T : TypeId) : Ny → Prop
  | .own n => Pend w x who rest T n
  | .sub S y s fn => SubAt w x who rest T S.ty y fn ∧ S.at_ w y s ∧ S.sys.want s ≠ none
theorem Pend2.blk {w : World} {x : Nat} {who : Int} {rest : List Value} {T : TypeId} {n : Ny} (h : Pend2 w x who rest T n) : ∃ f, FlAt w x f rest T ∧ f.fine ∧ f.over = n.want.isNone := by
  cases n with
  | own n =>
    obtain ⟨f, h1, h2, h3⟩ := pend_over (n := n) h
    exact ⟨f, h1, h2, by rw [h3]; cases n <;> rfl⟩
  | sub S y s fn =>
    obtain ⟨⟨f, h1, h2, h3, h4, h5, h6⟩, _, h8⟩ := h
    refine ⟨f, h1, .inr ⟨_, _, h3⟩, ?_⟩
    have e : (Ny.sub S y s fn).want.isNone = false := by
      show (S.sys.want s).isNone = false
      cases hw : S.sys.want s with
      | none => exact absurd hw h8
      | some W => rfl
    rw [e]
    unfold Fl.over
    rw [h3]
    simp
/-- A machine by its states, which may run others: e are the blocks that it knows. -/
structure Mch2 (σ ε : Type) : Type 1 where
  T : TypeId
  wr : List TypeId
  nx : σ → ε → Ny
  rest : σ → ε → List Value
  inv : σ → ε → World → Prop
  invT : σ → List TypeId
  sys : Rsys σ
  ok : σ → Prop
def Mch2.is_ {σ ε : Type} (K : Mch2 σ ε) (x : Nat) (who : Int) (w : World) (st : σ) (e : ε) : Prop := Pend2 w x who (K.rest st e) K.T (K.nx st e) ∧ K.inv st e w
def Mch2.at_ {σ ε : Type} (K : Mch2 σ ε) (lo l x : Nat) (p t g who : Int) (w : World) (st : σ) : Prop := (∃ e, K.is_ x who w st e) ∧ lo ≤ x ∧ Lay w l p t g ∧ K.ok st
/-- What is to be shown of what comes. -/
def NyGoes {σ ε : Type} (K : Mch2 σ ε) (lo l x : Nat) (p t g who : Int) (st : σ) (e : ε) : Ny → Prop
  | .own n => n = .done ∨ (Rng n.val ∧ (∀ vs w, (callFunc n.fn vs).run Try.prog w = .ok (.enter n.fn vs) w) ∧ ∀ a w, Rng a → lo ≤ w.heap.size → Pend w x who (K.rest st e) K.T .done → K.inv st e w → Lay w l p t g → Calls Try.prog n.fn (n.args x a) w fun q w' => (∃ r, q = .returned r) ∧ (∃ e2, K.is_ x who w' (K.sys.next st a) e2) ∧ Kept [x] w w')
  | .sub S y s fn => SubOk S lo who ∧ (∀ T ∈ S.wr, T ∈ K.wr ∧ T ≠ K.T ∧ T ∉ K.invT st) ∧ (∀ vs w, (callFunc fn vs).run Try.prog w = .ok (.enter fn vs) w) ∧ ∀ a, Rng a →
      (S.sys.want (S.sys.next s a) ≠ none → K.nx (K.sys.next st a) e = .sub S y (S.sys.next s a) fn ∧ K.rest (K.sys.next st a) e = K.rest st e ∧ ∀ w, K.inv st e w → K.inv (K.sys.next st a) e w) ∧
      (S.sys.want (S.sys.next s a) = none → ∀ w, lo ≤ w.heap.size → Pend w x who (K.rest st e) K.T .done → S.at_ w y (S.sys.next s a) → K.inv st e w → Lay w l p t g → Calls Try.prog fn #[.pointer (some ⟨x, 0, none⟩)] w fun q w' => (∃ r, q = .returned r) ∧ (∃ e2, K.is_ x who w' (K.sys.next st a) e2) ∧ Kept [x] w w')
structure Goes2 {σ ε : Type} (K : Mch2 σ ε) (lo l x : Nat) (p t g who : Int) : Prop where
  own : ∀ T ∈ rdT K.wr, T ∉ theirs
  mem : K.T ∈ K.wr
  neq : 1 ∉ K.wr ∧ 166 ∉ K.wr ∧ 143 ∉ K.wr
  inT : ∀ st, ∀ T ∈ K.invT st, T ∈ rdT K.wr ∧ T ≠ K.T
  ok : ∀ st a, K.ok st → Rng a → K.ok (K.sys.next st a)
  want : ∀ st e, (K.nx st e).want = K.sys.want st
  invk : ∀ st e w w' Z, K.inv st e w → Kept Z w w' → (∀ i ∈ Z, Not (K.invT st) w i) → K.inv st e w'
  goes : ∀ st e, K.ok st → NyGoes K lo l x p t g who st e (K.nx st e)
/-- A step that is an access. -/
theorem pend_fstep {n : Nx} {x m mg : Nat} {who : Int} {rest : List Value} {T : TypeId} {s : St} {w : World} {o : Bool} {R : World → Prop} (h1 : Pend w x who rest T n) (hT : T ∉ theirs ∧ T ≠ 1 ∧ T ≠ 166) (hM : MemAt w m mg s) (hc : s.clock < 1000000) (hbd : s.bad < 1000000)
    {W : Wnt} (hw : n.want = some W) (hv : Rng n.val) (hen : ∀ vs w, (callFunc n.fn vs).run Try.prog w = .ok (.enter n.fn vs) w)
    (H : ∀ w1, Pend w1 x who rest T .done → MemAt w1 m mg (s.acc W.kind who W.at_ W.old W.new).1 → Rng (s.acc W.kind who W.at_ W.old W.new).2 → Kept [x, m, mg] w w1 → Calls Try.prog n.fn (n.args x (s.acc W.kind who W.at_ W.old W.new).2) w1 fun e w' => (∃ r, e = .returned r) ∧ R w')
    (ovr : ∀ w', R w' → ∃ f' rest', FlAt w' x f' rest' T ∧ f'.fine ∧ f'.over = o) :
    Calls Try.prog 72 #[.pointer (some ⟨x, 0, none⟩), .pointer (some ⟨m, 0, none⟩)] w fun e w' => e = .returned (.bool o) ∧ R w' := by
  obtain ⟨cs, hb⟩ := h1.blk
  have n1 : T ≠ 108 := fun e => hT.1 (by rw [e]; decide)
  have n2 : T ≠ 31 := fun e => hT.1 (by rw [e]; decide)
  have hxm : x ≠ m := hM.neT hb n1
  have hxg : x ≠ mg := hM.neG hb n2
  cases n with
  | load a fn =>
    obtain rfl := Option.some.inj hw
    have hr := (acc_wf hM.wf 1 who a 0 (w := 0) ⟨by omega, by omega⟩).2
    rcases h1 with h1 | ⟨af, h1⟩
    · refine fstep_then _ x m mg _ _ _ s w _ h1 rfl hM hxm hxg ⟨by simp, by simp⟩ hc hbd (by simp) rfl (.inl (by simp)) _ _ _ rfl hen ?_ ovr
      intro w1 q1 q2 q3
      exact H w1 (fl_cleared _ _ _ _ _ _ _ _ _ _ q1) q2 hr q3
    · refine fstep_then _ x m mg _ _ _ s w _ h1 rfl hM hxm hxg ⟨by simp, by simp⟩ hc hbd (by simp) rfl (.inl (by simp)) _ _ _ rfl hen ?_ ovr
      intro w1 q1 q2 q3
      exact H w1 (fl_cleared _ _ _ _ _ _ _ _ _ _ q1) q2 hr q3
  | add a v fn =>
    obtain rfl := Option.some.inj hw
    have hr := (acc_wf hM.wf 4 who a 0 (w := v) hv).2
    obtain ⟨af, h1⟩ := h1
    refine fstep_then _ x m mg _ _ _ s w _ h1 rfl hM hxm hxg hv hc hbd (by simp) rfl (.inl (by simp)) _ _ _ rfl hen ?_ ovr
    intro w1 q1 q2 q3
    exact H w1 (fl_cleared _ _ _ _ _ _ _ _ _ _ q1) q2 hr q3
  | store a v fn =>
    obtain rfl := Option.some.inj hw
    have hr := (acc_wf hM.wf 2 who a 0 (w := v) hv).2
    obtain ⟨af, b, h1, hB⟩ := h1
    refine fstep_then _ x m mg _ _ _ s w _ h1 rfl hM hxm hxg hv hc hbd (by simp) rfl (.inl (by simp)) _ _ _ rfl (enters_of Try.func112 (by kernel_rfl) rfl) ?_ ovr
    intro w1 q1 q2 q3
    have hbx : b ∉ [x, m, mg] := by
      have n1 := Blk.ne hB hb (fun e => hT.2.1 e.symm)
      have n2 := hM.neT hB (by decide)
      have n3 := hM.neG hB (by decide)
      simp [n1, n2, n3]
    exact fstore1_run _ b _ _ _ w1 _ (hB.kept q3 hbx) hen (H w1 (fl_cleared _ _ _ _ _ _ _ _ _ _ q1) q2 hr q3)
  | swap a o v fn =>
    obtain rfl := Option.some.inj hw
    have hr := (acc_wf hM.wf 3 who a o (w := v) hv).2
    obtain ⟨af, b, h1, hB⟩ := h1
    refine fstep_then _ x m mg _ _ _ s w _ h1 rfl hM hxm hxg hv hc hbd (by simp) rfl (.inl (by simp)) _ _ _ rfl (enters_of Try.func170 (by kernel_rfl) rfl) ?_ ovr
    intro w1 q1 q2 q3
    have hbx : b ∉ [x, m, mg] := by
      have n1 := Blk.ne hB hb (fun e => hT.2.2 e.symm)
      have n2 := hM.neT hB (by decide)
      have n3 := hM.neG hB (by decide)
      simp [n1, n2, n3]
    exact fswap1_run _ b _ _ _ w1 _ (hB.kept q3 hbx) hen (H w1 (fl_cleared _ _ _ _ _ _ _ _ _ _ q1) q2 hr q3)
  | done => cases hw
theorem keptOwn_trans {wr wr' : List TypeId} {lo m g x : Nat} {w w1 w' : World} {cs : List Value} {T : TypeId} (h : KeptOwn wr' lo m g w w1) (hwr : ∀ T ∈ wr', T ∈ wr) (hk : Kept [x] w1 w') (hb : Blk w x cs T) (hT : T ∈ wr) (hx : lo ≤ x) : KeptOwn wr lo m g w w' := by
  obtain ⟨S, h1, h2⟩ := h
  refine ⟨x :: S, (h1.mono (S' := x :: S) (fun i hi => .inl (List.mem_cons_of_mem _ hi))).trans hk (by intro i hi; simp at hi; subst hi; exact .inl (by simp)), ?_⟩
  intro i hi
  rcases List.mem_cons.1 hi with rfl | hi
  · exact .inr (.inr ⟨hx, T, hT, cs, hb⟩)
  · rcases h2 i hi with h | h | ⟨h3, T', h4, h5⟩
    · exact .inl h
    · exact .inr (.inl h)
    · exact .inr (.inr ⟨h3, T', hwr T' h4, h5⟩)
theorem keptOwn_of {wr : List TypeId} {lo m g x : Nat} {w w' : World} {cs : List Value} {T : TypeId} (hk : Kept [x, m, g] w w') (hb : Blk w x cs T) (hT : T ∈ wr) (hx : lo ≤ x) : KeptOwn wr lo m g w w' := by
  refine ⟨_, hk, ?_⟩
  intro i hi
  simp at hi
  rcases hi with rfl | rfl | rfl
  · exact .inr (.inr ⟨hx, T, hT, cs, hb⟩)
  · exact .inl rfl
  · exact .inr (.inl rfl)
section
variable {σ ε : Type} {K : Mch2 σ ε} {lo l x m mg : Nat} {p t g who : Int} {st : σ} {s : St} {w : World}
theorem m2_fstep (G : Goes2 K lo l x p t g who) (hA : K.at_ lo l x p t g who w st) (hM : MemAt w m mg s) (hc : s.clock < 1000000) (hbd : s.bad < 1000000) :
    Calls Try.prog 72 #[.pointer (some ⟨x, 0, none⟩), .pointer (some ⟨m, 0, none⟩)] w fun e w' => e = .returned (.bool (K.sys.want (stepOf K.sys who st s).1).isNone) ∧ K.at_ lo l x p t g who w' (stepOf K.sys who st s).1 ∧ MemAt w' m mg (stepOf K.sys who st s).2 ∧ KeptOwn K.wr lo m mg w w' := by
  obtain ⟨⟨e, hp, hi⟩, hlo, hL, hok⟩ := hA
  obtain ⟨f0, hb, hfine, hfo⟩ := hp.blk
  have hT : K.T ∉ theirs := G.own K.T (List.mem_append.2 (.inl G.mem))
  have n1 : K.T ≠ 108 := fun e => hT (by rw [e]; decide)
  have n2 : K.T ≠ 31 := fun e => hT (by rw [e]; decide)
  have hxm : x ≠ m := hM.neT hb n1
  have hxg : x ≠ mg := hM.neG hb n2
  have nl : K.T ≠ 143 := fun e => G.neq.2.2 (by rw [← e]; exact G.mem)
  have na : K.T ≠ 1 := fun e => G.neq.1 (by rw [← e]; exact G.mem)
  have ns : K.T ≠ 166 := fun e => G.neq.2.1 (by rw [← e]; exact G.mem)
  have hlx : l ≠ x := Blk.ne hL.1 hb (fun e => nl e.symm)
  have hlm := hM.neT hL.1 (by decide)
  have hlg := hM.neG hL.1 (by decide)
  have hg := G.goes st e hok
  have hwant := G.want st e
  have hxs : lo ≤ w.heap.size := Nat.le_trans hlo (Nat.le_of_lt (Blk.lt hb))
  have hmne : ∀ T ∈ K.invT st, T ≠ 108 ∧ T ≠ 31 ∧ T ≠ K.T := by
    intro T hT
    have h1 := G.inT st T hT
    have h2 := G.own T h1.1
    exact ⟨fun e => h2 (by rw [e]; decide), fun e => h2 (by rw [e]; decide), h1.2⟩
  -- the memory's blocks are none of these
  have hmem : ∀ (Own : List TypeId), (∀ T ∈ Own, T ≠ 108 ∧ T ≠ 31) → Not Own w m ∧ Not Own w mg := by
    intro Own hO
    obtain ⟨_, _, b1, b2, _⟩ := hM.ex
    exact ⟨not_of b1 (fun h => (hO _ h).1 rfl), not_of b2 (fun h => (hO _ h).2 rfl)⟩
  have ovr : ∀ (w' : World) (st' : σ), K.at_ lo l x p t g who w' st' → ∃ f' rest', FlAt w' x f' rest' K.T ∧ f'.fine ∧ f'.over = (K.sys.want st').isNone := by
    rintro w' st' ⟨⟨e2, hp2, _⟩, _⟩
    obtain ⟨f', a, b, c⟩ := hp2.blk
    exact ⟨f', _, a, b, by rw [c, G.want]⟩
  generalize hnx : K.nx st e = n at hp hg hwant
  cases n with
  | own n =>
    have hp : Pend w x who (K.rest st e) K.T n := hp
    cases hw : n.want with
    | none =>
      have hwt : K.sys.want st = none := by rw [← hwant]; exact hw
      have hst : stepOf K.sys who st s = (st, s) := by unfold stepOf; rw [hwt]
      rw [hst]
      have hd : n = .done := by cases n <;> first | rfl | cases hw
      subst hd
      obtain ⟨f, hf, q1, q2, q3, q4⟩ := hp
      refine (fstep_done x f _ _ _ w hf q2 q4).mono ?_
      rintro e2 w' ⟨rfl, rfl⟩
      refine ⟨by simp only [hwt]; rfl, ⟨⟨e, by show Pend2 w x who (K.rest st e) K.T (K.nx st e); rw [hnx]; exact ⟨f, hf, q1, q2, q3, q4⟩, hi⟩, hlo, hL, hok⟩, hM, ⟨[], Kept.refl _ _, by simp⟩⟩
    | some W =>
      have hwt : K.sys.want st = some W := by rw [← hwant]; exact hw
      rcases hg with hd | ⟨hv, hen, hgo⟩
      · subst hd; cases hw
      have hsl : W.slp = false := by cases n <;> first | (obtain rfl := Option.some.inj hw; rfl) | cases hw
      have hst : stepOf K.sys who st s = (K.sys.next st (s.acc W.kind who W.at_ W.old W.new).2, (s.acc W.kind who W.at_ W.old W.new).1) := by
        obtain ⟨kd, ad, o, nw, slp⟩ := W
        simp only at hsl
        subst hsl
        exact stepOf_go hwt rfl
      rw [hst]
      refine pend_fstep hp ⟨hT, na, ns⟩ hM hc hbd hw hv hen ?_ (fun w' h => ovr w' _ h.1)
      intro w1 q1 q2 hr q3
      have hi1 := G.invk st e w w1 _ hi q3 (by
        intro i hi2
        simp at hi2
        have hm2 := hmem (K.invT st) (fun T hT => ⟨(hmne T hT).1, (hmne T hT).2.1⟩)
        rcases hi2 with rfl | rfl | rfl
        · exact not_of hb (fun h => (hmne _ h).2.2 rfl)
        · exact hm2.1
        · exact hm2.2)
      have hL1 := hL.kept q3 (by simp [hlx, hlm, hlg])
      refine (hgo _ w1 hr (Nat.le_trans hxs q3.size) q1 hi1 hL1).mono ?_
      rintro e2 w2 ⟨he, hp2, hK2⟩
      exact ⟨he, ⟨hp2, hlo, hL1.kept hK2 (by simp [hlx]), G.ok st _ hok hr⟩, q2.kept hK2 (by simp; omega) (by simp; omega), keptOwn_of (q3.trans hK2 (by intro i hi; simp at hi; subst hi; exact .inl (by simp))) hb G.mem hlo⟩
  | sub S y sy fn =>
    obtain ⟨hS, hwr, hen, hgo⟩ := hg
    obtain ⟨⟨f, hf, h2, h3, h4, h5, h6⟩, hSA, hSw⟩ := hp
    obtain ⟨W, hW⟩ : ∃ W, S.sys.want sy = some W := by
      cases hw : S.sys.want sy with
      | none => exact absurd hw hSw
      | some W => exact ⟨W, rfl⟩
    have hwt : K.sys.want st = some W := by rw [← hwant]; exact hW
    obtain ⟨hsl, hkd, hnw⟩ := hS.wnt hSA hW
    obtain ⟨kd, ad, o, nw, slp⟩ := W
    simp only at hsl hkd hnw
    subst hsl
    have hr : Rng (s.acc kd who ad o nw).2 := (acc_wf hM.wf kd who ad o hnw).2
    rw [stepOf_go hwt rfl]
    have hstS : stepOf S.sys who sy s = (S.sys.next sy (s.acc kd who ad o nw).2, (s.acc kd who ad o nw).1) := stepOf_go hW rfl
    have HG := hS.goes hSA hM hc hbd
    rw [hstS] at HG
    obtain ⟨a, ha⟩ : ∃ a, a = (s.acc kd who ad o nw).2 := ⟨_, rfl⟩
    obtain ⟨s2, hs2⟩ : ∃ s2, s2 = (s.acc kd who ad o nw).1 := ⟨_, rfl⟩
    rw [← ha] at hr HG
    rw [← ha, ← hs2]
    rw [← hs2] at HG
    obtain ⟨hon, hoff⟩ := hgo a hr
    -- what the other one's step keeps
    have nX : ∀ Z : List Nat, (∀ i ∈ Z, i = m ∨ i = mg ∨ (lo ≤ i ∧ ∃ T ∈ S.wr, ∃ cs, Blk w i cs T)) → x ∉ Z ∧ l ∉ Z ∧ ∀ i ∈ Z, Not (K.invT st) w i := by
      intro Z hZ
      have hm2 := hmem (K.invT st) (fun T hT => ⟨(hmne T hT).1, (hmne T hT).2.1⟩)
      refine ⟨?_, ?_, ?_⟩
      · intro hx
        rcases hZ x hx with h | h | ⟨_, T', h7, cs', h8⟩
        · exact hxm h
        · exact hxg h
        · exact Blk.ne hb h8 (fun e => (hwr T' h7).2.1 e.symm) rfl
      · intro hx
        rcases hZ l hx with h | h | ⟨_, T', h7, cs', h8⟩
        · exact hlm h
        · exact hlg h
        · exact Blk.ne hL.1 h8 (fun e => G.neq.2.2 (by rw [e]; exact (hwr T' h7).1)) rfl
      · intro i hx
        rcases hZ i hx with rfl | rfl | ⟨_, T', h7, cs', h8⟩
        · exact hm2.1
        · exact hm2.2
        · exact not_of h8 (hwr T' h7).2.2
    cases hw2 : S.sys.want (S.sys.next sy a) with
    | some W2 =>
      obtain ⟨q1, q2, q3⟩ := hon (by rw [hw2]; simp)
      have hwt2 : (K.sys.want (K.sys.next st a)).isNone = false := by
        rw [← G.want (K.sys.next st a) e, q1]
        show (S.sys.want (S.sys.next sy a)).isNone = false
        rw [hw2]; rfl
      rw [hwt2]
      refine fstep_sub x m mg f _ _ S.ty S.F y s w _ hf h3 h4 hS.step hS.quiet hM ?_
      refine HG.mono ?_
      rintro e2 w' ⟨he, hA', hM', Z, hK', hZ⟩
      obtain ⟨hx, hl, hI⟩ := nX Z hZ
      refine ⟨by rw [he]; simp only [hw2]; rfl, hf.kept hK' hx, ⟨⟨e, ?_, q3 _ (G.invk _ _ _ _ _ hi hK' hI)⟩, hlo, hL.kept hK' hl, G.ok st _ hok hr⟩, hM', ⟨Z, hK', fun i hiz => ?_⟩⟩
      · rw [q1, q2]
        exact ⟨⟨f, hf.kept hK' hx, h2, h3, h4, h5, h6⟩, hA', by rw [hw2]; simp⟩
      · rcases hZ i hiz with h | h | ⟨h7, T', h8, h9⟩
        · exact .inl h
        · exact .inr (.inl h)
        · exact .inr (.inr ⟨h7, T', (hwr T' h8).1, h9⟩)
    | none =>
      have hgo2 := hoff hw2
      refine fstep_sub_done _ x m mg f _ _ S.ty S.F y fn s w (fun w1 => S.at_ w1 y (S.sys.next sy a) ∧ MemAt w1 m mg s2 ∧ KeptOwn S.wr lo m mg w w1) _ hf h3 h4 h6 hS.step hS.quiet hM hen ?_ ?_ (fun w' h => ovr w' _ h.1)
      · refine HG.mono ?_
        rintro e2 w' ⟨he, hA', hM', Z, hK', hZ⟩
        obtain ⟨hx, hl, hI⟩ := nX Z hZ
        exact ⟨by rw [he]; simp only [hw2]; rfl, hf.kept hK' hx, hA', hM', Z, hK', hZ⟩
      · rintro w1 w2 ⟨hA1, hM1, Z, hK1, hZ⟩ hK2 hf2
        obtain ⟨hx, hl, hI⟩ := nX Z hZ
        have hbx : Blk w1 x _ K.T := Blk.kept hb hK1 hx
        have hi1 := G.invk _ _ _ _ _ hi hK1 hI
        have hi2 := G.invk _ _ _ _ _ hi1 hK2 (by intro i hi; simp at hi; subst hi; exact not_of hbx (fun h => (hmne _ h).2.2 rfl))
        have hA2 := hS.kept hA1 hK2 (by
          intro i hi
          simp at hi
          subst hi
          refine not_of hbx ?_
          intro h
          rcases List.mem_append.1 h with h | h
          · exact (hwr _ h).2.1 rfl
          · simp at h
            rcases h with h | h | h
            · exact na h
            · exact ns h
            · exact nl h)
        have hL2 := (hL.kept hK1 hl).kept hK2 (by simp [hlx])
        refine (hgo2 w2 (Nat.le_trans hxs (Nat.le_trans hK1.size hK2.size)) ⟨f.left, hf2, h2, rfl, h5, h4⟩ hA2 hi2 hL2).mono ?_
        rintro e3 w3 ⟨he, hp3, hK3⟩
        refine ⟨he, ⟨hp3, hlo, hL2.kept hK3 (by simp [hlx]), G.ok st _ hok hr⟩, (hM1.kept hK2 (by simp; omega) (by simp; omega)).kept hK3 (by simp; omega) (by simp; omega), ?_⟩
        exact keptOwn_trans (wr' := S.wr) ⟨Z, hK1, hZ⟩ (fun T h => (hwr T h).1) (hK2.trans hK3 (by intro i hi; exact .inl hi)) hb G.mem hlo
theorem m2_kept (G : Goes2 K lo l x p t g who) {w' : World} {Z : List Nat} (hA : K.at_ lo l x p t g who w st) (hk : Kept Z w w') (hZ : ∀ i ∈ Z, Not (rdT K.wr) w i) : K.at_ lo l x p t g who w' st := by
  obtain ⟨⟨e, hp, hi⟩, hlo, hL, hok⟩ := hA
  have hg := G.goes st e hok
  have hmT : K.T ∈ rdT K.wr := List.mem_append.2 (.inl G.mem)
  refine ⟨⟨e, ?_, G.invk _ _ _ _ _ hi hk (fun i h T hT => hZ i h T (G.inT st T hT).1)⟩, hlo, hL.kept hk (fun h => hZ l h 143 (by simp [rdT]) _ hL.1), hok⟩
  generalize hnx : K.nx st e = n at hp hg
  cases n with
  | own n =>
    refine Pend.kept (n := n) hp hk ?_
    intro i h T hT
    have : T ∈ rdT K.wr := by
      simp [ownT] at hT
      rcases hT with rfl | rfl | rfl | rfl
      · exact hmT
      · simp [rdT]
      · simp [rdT]
      · simp [rdT]
    exact hZ i h T this
  | sub S y sy fn =>
    obtain ⟨hS, hwr, hen, hgo⟩ := hg
    obtain ⟨hs, hSA, hSw⟩ := hp
    obtain ⟨f, hf, _⟩ := hs
    refine ⟨SubAt.kept ⟨f, hf, by assumption⟩ hk (fun h => hZ x h _ hmT _ hf), hS.kept hSA hk (fun i h T hT => hZ i h T (rdT_mono (fun T h => (hwr T h).1) T hT)), hSw⟩
theorem m2_of (G : ∀ y, lo ≤ y → Goes2 K lo l y p t g who) (hown : ∀ T ∈ rdT K.wr, T ∉ theirs) : MachOf (K.at_ lo l x p t g who) (rdT K.wr) := by
  refine ⟨?_, hown⟩
  intro w w' st S hA hK hS
  exact m2_kept (G x hA.2.1) hA hK hS
theorem m2_done (G : Goes2 K lo l x p t g who) (hA : K.at_ lo l x p t g who w st) : Calls Try.prog 67 #[.pointer (some ⟨x, 0, none⟩)] w fun e w' => e = .returned (.bool (K.sys.want st).isNone) ∧ w = w' := by
  obtain ⟨⟨e, hp, _⟩, _⟩ := hA
  obtain ⟨f, h1, h2, h3⟩ := hp.blk
  have := fdone_any x f _ _ w h1 h2
  rw [h3, G.want] at this
  exact this
theorem m2_nil (G : Goes2 K lo l x p t g who) (hA : K.at_ lo l x p t g who w st) : Calls Try.prog 72 #[.pointer (some ⟨x, 0, none⟩), .pointer none] w fun e w' => e = .returned (.bool (K.sys.want st).isNone) ∧ w = w' := by
  obtain ⟨⟨e, hp, _⟩, _⟩ := hA
  obtain ⟨f, h1, h2, h3⟩ := hp.blk
  have := fstep_nil x f _ _ w h1 h2
  rw [h3, G.want] at this
  exact this
theorem m2_wnt (G : Goes2 K lo l x p t g who) (hA : K.at_ lo l x p t g who w st) {W : Wnt} (h : K.sys.want st = some W) : W.slp = false ∧ (W.kind = 1 ∨ W.kind = 2 ∨ W.kind = 3 ∨ W.kind = 4) ∧ Rng W.new := by
  obtain ⟨⟨e, hp, hi⟩, hlo, hL, hok⟩ := hA
  have hg := G.goes st e hok
  rw [← G.want st e] at h
  generalize hnx : K.nx st e = n at hp hg h
  cases n with
  | own n =>
    rcases hg with rfl | ⟨hv, _⟩
    · cases h
    · cases n <;> first | (obtain rfl := Option.some.inj h; refine ⟨rfl, by simp, ?_⟩; first | exact hv | (constructor <;> simp)) | cases h
  | sub S y sy fn => exact hg.1.wnt hp.2.1 h
end
/-- Such a machine, as others run it. -/
def Mch2.sub {σ ε : Type} (K : Mch2 σ ε) (ty : TypeId) (F lo l : Nat) (p t g who : Int) : Subm σ := ⟨ty, F, K.wr, fun w y st => K.at_ lo l y p t g who w st, K.sys⟩
theorem m2_sub {σ ε : Type} {K : Mch2 σ ε} {ty : TypeId} {F lo l : Nat} {p t g who : Int} (hs : StepOf ty F) (hq : NoSleeper ty) (ht : Thru F) (G : ∀ y, lo ≤ y → Goes2 K lo l y p t g who) (hown : ∀ T ∈ rdT K.wr, T ∉ theirs) : SubOk (K.sub ty F lo l p t g who) lo who := by
  refine ⟨hs, hq, ?_, hown, ?_, ?_, ?_, ?_⟩
  · rintro w y st ⟨⟨e, hp, hi⟩, hlo, hL, hok⟩
    obtain ⟨f, h1, _⟩ := hp.blk
    exact ⟨hlo, K.T, (G y hlo).mem, _, h1⟩
  · intro w w' y st Z hA hk hZ
    exact m2_kept (G y hA.2.1) hA hk hZ
  · intro w y st W hA h
    exact m2_wnt (G y hA.2.1) hA h
  · intro w y st hA
    have := ht y none _ w (fun w' => w = w') (m2_nil (G y hA.2.1) hA)
    exact this
  · intro w y st m mg s hA hM hc hbd
    exact ht y _ _ w _ (m2_fstep (G y hA.2.1) hA hM hc hbd)
/-- A machine that runs no others, as others run it. -/
def Mch.sub {σ : Type} (K : Mch σ) (ty : TypeId) (F lo l : Nat) (p t g who : Int) : Subm σ := ⟨ty, F, [K.T], fun w y st => K.at_ lo l y p t g who w st, K.sys⟩
theorem mch_sub {σ : Type} {K : Mch σ} {ty : TypeId} {F lo l : Nat} {p t g who : Int} (hs : StepOf ty F) (hq : NoSleeper ty) (ht : Thru F) (G : ∀ y, Goes K l y p t g who) : SubOk (K.sub ty F lo l p t g who) lo who := by
  refine ⟨hs, hq, ?_, ?_, ?_, ?_, ?_, ?_⟩
  · rintro w y st ⟨hp, hlo, hL, hok⟩
    obtain ⟨cs, h1⟩ := hp.blk
    exact ⟨hlo, K.T, by simp [Mch.sub], _, h1⟩
  · exact (G 0).own
  · intro w w' y st Z hA hk hZ
    exact (mach_of (G y).own).kept w w' st Z hA hk hZ
  · intro w y st W hA h
    exact mch_wnt (G y) h hA.2.2.2
  · intro w y st hA
    have H : Calls Try.prog 72 #[.pointer (some ⟨y, 0, none⟩), .pointer none] w fun e w' => e = .returned (.bool (K.sys.want st).isNone) ∧ w = w' := by
      obtain ⟨f, h1, h2, h3⟩ := pend_over hA.1
      have := fstep_nil y f _ _ w h1 h2
      rw [h3, mch_over] at this
      exact this
    exact ht y none _ w (fun w' => w = w') H
  · intro w y st m mg s hA hM hc hbd
    obtain ⟨cs, hb⟩ := hA.1.blk
    refine ht y _ _ w _ ((mch_fstep (G y) hA hM hc hbd).mono ?_)
    rintro e w' ⟨he, h1, h2, h3⟩
    refine ⟨by rw [he, mch_over]; rfl, h1, h2, keptOwn_of h3 hb (by simp [Mch.sub]) hA.2.1⟩
/-- To run a machine. -/
theorem irun_run {σ : Type} {S : Subm σ} {lo : Nat} {who0 who : Int} {w : World} {x y fn : Nat} {rest : List Value} {T : TypeId} {s : σ} (hS : SubOk S lo who0) (h : Pend w x who rest T .done) (hA : S.at_ w y s) (hw : S.sys.want s ≠ none) (hT : T ∉ rdT S.wr) :
    Calls Try.prog 85 #[.pointer (some ⟨x, 0, none⟩), .iface S.ty (.pointer (some ⟨y, 0, none⟩)), meth fn x] w fun e w' => e = .returned (.tuple #[]) ∧ SubAt w' x who rest T S.ty y fn ∧ S.at_ w' y s ∧ Kept [x] w w' := by
  obtain ⟨f, hf, q1, q2, q3, q4⟩ := h
  have hn := hS.nil_ hA
  rw [show (S.sys.want s).isNone = false by cases h : S.sys.want s with | none => exact absurd h hw | some W => rfl] at hn
  refine (frun_run x f rest T S.ty S.F y (.func fn) #[.pointer (some ⟨x, 0, none⟩)] #[] w hf hS.step hn).mono ?_
  rintro e w' ⟨rfl, h1, h2⟩
  refine ⟨rfl, ⟨_, h1, q1, rfl, q4, q3, rfl⟩, hS.kept hA h2 ?_, h2⟩
  intro i hi
  simp at hi
  subst hi
  exact not_of hf hT
/-- Done is the flow's. -/
def ThruD (F : Nat) : Prop := ∀ (x : Nat) (o : Bool) (w : World), Calls Try.prog 67 #[.pointer (some ⟨x, 0, none⟩)] w (fun e w' => e = .returned (.bool o) ∧ w = w') → Calls Try.prog F #[.pointer (some ⟨x, 0, none⟩)] w (fun e w' => e = .returned (.bool o) ∧ w = w')
theorem keptOwn_mono {wr wr' : List TypeId} {lo m g : Nat} {w w' : World} (h : KeptOwn wr lo m g w w') (hs : ∀ T ∈ wr, T ∈ wr') : KeptOwn wr' lo m g w w' := by
  obtain ⟨S, h1, h2⟩ := h
  refine ⟨S, h1, fun i hi => ?_⟩
  rcases h2 i hi with h | h | ⟨h3, T, h4, h5⟩
  · exact .inl h
  · exact .inr (.inl h)
  · exact .inr (.inr ⟨h3, T, hs T h4, h5⟩)
theorem m2_stepL {σ ε : Type} {K : Mch2 σ ε} {F lo l x m mg : Nat} {p t g who : Int} {st : σ} {s : St} {w : World} (ht : Thru F) (G : Goes2 K lo l x p t g who) (hA : K.at_ lo l x p t g who w st) (hM : MemAt w m mg s) (hc : s.clock < 1000000) (hbd : s.bad < 1000000) :
    Calls Try.prog F #[.pointer (some ⟨x, 0, none⟩), .pointer (some ⟨m, 0, none⟩)] w fun e w' => (∃ b, e = .returned (.bool b)) ∧ K.at_ lo l x p t g who w' (stepOf K.sys who st s).1 ∧ MemAt w' m mg (stepOf K.sys who st s).2 ∧ KeptOwn (rdT K.wr) lo m mg w w' := by
  refine (ht x _ _ w _ (m2_fstep G hA hM hc hbd)).mono ?_
  rintro e w' ⟨he, h1, h2, h3⟩
  exact ⟨⟨_, he⟩, h1, h2, keptOwn_mono h3 (fun T hT => List.mem_append.2 (.inl hT))⟩
theorem m2_doneL {σ ε : Type} {K : Mch2 σ ε} {F lo l x : Nat} {p t g who : Int} {st : σ} {w : World} (ht : ThruD F) (G : Goes2 K lo l x p t g who) (hA : K.at_ lo l x p t g who w st) : Calls Try.prog F #[.pointer (some ⟨x, 0, none⟩)] w fun e w' => e = .returned (.bool (K.sys.want st).isNone) ∧ w = w' := ht x _ w (m2_done G hA)
theorem Pend2.rest_ {w : World} {x : Nat} {who : Int} {rest : List Value} {T : TypeId} {n : Ny} (h : Pend2 w x who rest T n) (i : Nat) : w.cell? ⟨x, i + 9, none⟩ = rest[i]? := by
  obtain ⟨f, h, _⟩ := h.blk
  have := Blk.cell h (i + 9)
  rw [List.getElem?_append_right (by simp [fl])] at this
  simpa [fl] using this
theorem Pend2.quiet {w w' : World} {x : Nat} {who : Int} {rest : List Value} {T : TypeId} {σ : Type} {S : Subm σ} {y fn lo : Nat} {s : σ} {who0 : Int} (h : Pend2 w x who rest T (.sub S y s fn)) (hS : SubOk S lo who0) (hb : Below w.heap.size w w') : Pend2 w' x who rest T (.sub S y s fn) :=
  ⟨h.1.kept (Kept.of_below hb []) (by simp), hS.at_quiet h.2.1 hb, h.2.2⟩
theorem ifwho_run {w : World} {x : Nat} {who : Int} {rest : List Value} {T : TypeId} {n : Nx} (h : Pend w x who rest T n) :
    Calls Try.prog 135 #[.pointer (some ⟨x, 0, none⟩)] w fun e w' => e = .returned (.int .i64 who) ∧ w = w' := by
  obtain ⟨f, hf, q1, _⟩ := h.idle
  subst q1
  exact fwho_run x f rest T w hf
theorem MI.drewS {w0 w : World} {x : Nat} {who : Int} {rest : List Value} {T : TypeId} {l : Nat} {p t g : Int} {N : Nat} (h : MI w0 w x who rest T l p t g) (hs : w.heap.size = N) : MI w0 w.drew x who rest T l p t g ∧ w.drew.heap.size = N := ⟨h.drew, hs⟩
/-- A region with two operations that turn the world, one behind the other. -/
def tcl2 (I0 I1 R : World → Prop) : List Bool → World → Prop
  | [false, _], w => I0 w
  | [true, false], w => I1 w
  | _, w => R w
/-- A cell of another block is set. -/
theorem sub_set {σ : Type} {S : Subm σ} {lo : Nat} {who0 who : Int} {w : World} {x y : Nat} {rest : List Value} {T : TypeId} {n : Nx} {st : σ} (hS : SubOk S lo who0) (hA : S.at_ w y st) (hp : Pend w x who rest T n) (hT : T ∉ rdT S.wr) (i : Nat) (v : Value) : S.at_ (w.setCell ⟨x, i, none⟩ v) y st := by
  refine hS.kept hA ((Kept.refl [x] w).set (.inl (by simp)) _) ?_
  intro i hi
  simp at hi
  subst hi
  obtain ⟨cs, hb⟩ := hp.blk
  exact not_of hb hT
/-- A state of a machine that runs another one. -/
def runs {σ τ : Type} (M : Rsys τ) (k emb : τ → σ) (s : τ) : σ := if (M.want s).isNone then k s else emb s
theorem runs_on {σ τ : Type} {M : Rsys τ} {k emb : τ → σ} {s : τ} (h : M.want s ≠ none) : runs M k emb s = emb s := by
  unfold runs
  cases hw : M.want s with
  | none => exact absurd hw h
  | some W => rfl
theorem runs_off {σ τ : Type} {M : Rsys τ} {k emb : τ → σ} {s : τ} (h : M.want s = none) : runs M k emb s = k s := by
  unfold runs
  rw [h]; rfl
theorem Ran.runs {σ τ : Type} {M : Rsys σ} {M' : Rsys τ} {got : List Int} (k emb : τ → σ) (E : ∀ s W, M'.want s = some W → M.want (emb s) = some W ∧ ∀ a, M.next (emb s) a = Mach.runs M' k emb (M'.next s a)) {s s1 : τ} {a b : RunSt} (h : Ran M' got s a s1 b) : Ran M got (Mach.runs M' k emb s) a (Mach.runs M' k emb s1) b := by
  refine h.emb (Mach.runs M' k emb) ?_
  intro s W hw
  rw [runs_on (by rw [hw]; simp)]
  exact E s W hw
end Go.Proofs.Ytnmkfmaohflejaa.Mach
