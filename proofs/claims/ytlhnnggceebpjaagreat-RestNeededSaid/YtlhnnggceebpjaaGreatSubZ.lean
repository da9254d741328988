/- Machines that sleep inside machines. -/
import Derived.Test.YtlhnnggceebpjaaGreatSub
import Derived.Test.YtlhnnggceebpjaaGreatNoteSys
set_option maxRecDepth 100000
set_option maxHeartbeats 4000000
set_option linter.unusedVariables false
set_option linter.unusedSimpArgs false
namespace Go.Proofs.YtlhnnggceebpjaaGreat.Flow
open Go.RowKit Go.Shelf Go.Proofs.YtlhnnggceebpjaaGreat.TK Go.Proofs.YtlhnnggceebpjaaGreat.Flag Go.Proofs.YtlhnnggceebpjaaGreat.Words Go.Proofs.YtlhnnggceebpjaaGreat.Mem Go.Proofs.YtlhnnggceebpjaaGreat.Lock Go.Proofs.YtlhnnggceebpjaaGreat.Mach
/-- This type's Asleep is that function. -/
structure Snooze (ty : TypeId) (FA : Nat) : Prop where
  is_ : ∀ (y : Nat) (w : World), (Instr.typeAssert (.iface ty (.pointer (some ⟨y, 0, none⟩))) 155 265 true).run Tryz.prog w = .ok (.tuple #[.iface ty (.pointer (some ⟨y, 0, none⟩)), .bool true]) w
  meth : ∀ (y : Nat) (w : World), (method 461 ty (.pointer (some ⟨y, 0, none⟩)) "Asleep").run Tryz.prog w = .ok (FA, .pointer (some ⟨y, 0, none⟩)) w
  enters : ∀ vs w, (callFunc FA vs).run Tryz.prog w = .ok (.enter FA vs) w
/-- Whether what is run is asleep. -/
def SubAsl (ty : TypeId) (y m : Nat) (w : World) (o : Bool) : Prop := (NoSleeper ty ∧ o = false) ∨ ∃ FA, Snooze ty FA ∧ Calls Tryz.prog FA #[.pointer (some ⟨y, 0, none⟩), .pointer (some ⟨m, 0, none⟩)] w fun e w' => e = .returned (.bool o) ∧ w = w'
theorem fasleep_subZ (x m g : Nat) (f : Fl) (rest : List Value) (T : TypeId) (ty : TypeId) (y : Nat) (s : St) (w : World) {o : Bool} (hb : FlAt w x f rest T) (hs : f.sub = .iface ty (.pointer (some ⟨y, 0, none⟩))) (hk : f.kind = 0) (hN : SubAsl ty y m w o) (hM : MemAt w m g s) :
    Calls Tryz.prog 162 #[.pointer (some ⟨x, 0, none⟩), .pointer (some ⟨m, 0, none⟩)] w fun e w' => e = .returned (.bool o) ∧ w = w' := by
  rcases hN with ⟨hN, rfl⟩ | ⟨FA, hZ, H⟩
  · exact fasleep_sub x m g f rest T ty y s w hb hs hk hN hM
  · obtain ⟨c0, c1, c2, c3, c4, c5, c6, c7, c8⟩ := hb.cells
    rw [hs] at c7
    have hta := hZ.is_ y
    have hme := hZ.meth y
    have hen := hZ.enters
    have HH := hid H
    clear hb hs hk hZ hM H c0 c1 c2 c3 c4 c5 c6 c8
    go_enter Tryz.func162, Tryz.ntmps162
    go_wp2_with fail
    refine HH.out.mono ?_
    rintro e w1 ⟨rfl, rfl⟩
    go_wp2
    go_ret
    exact ⟨rfl, rfl⟩
/-- A step of a flow that runs a machine which is asleep. -/
theorem fstep_sub_asleepZ (x m g : Nat) (f : Fl) (rest : List Value) (T : TypeId) (ty : TypeId) (y : Nat) (s : St) (w : World) (hb : FlAt w x f rest T) (hs : f.sub = .iface ty (.pointer (some ⟨y, 0, none⟩))) (hk : f.kind = 0) (hN : SubAsl ty y m w true) (hM : MemAt w m g s) :
    Calls Tryz.prog 127 #[.pointer (some ⟨x, 0, none⟩), .pointer (some ⟨m, 0, none⟩)] w fun e w' => e = .returned (.bool false) ∧ w = w' := by
  have hfine : f.fine := .inr ⟨_, _, hs⟩
  have hov : f.over = false := by unfold Fl.over; rw [hs]; simp
  have HD := fdone_any x f rest T w hb hfine
  rw [hov] at HD
  have HD := hid HD
  have HA := hid (fasleep_subZ x m g f rest T ty y s w hb hs hk hN hM)
  clear hb hs hk hN hM hfine hov
  go_enter Tryz.func127, Tryz.ntmps127
  go_wp2_with fail
  refine HD.out.mono ?_
  rintro e w1 ⟨rfl, rfl⟩
  go_wp2_with fail
  refine HA.out.mono ?_
  rintro e w1 ⟨rfl, rfl⟩
  go_wp2_with fail
  refine HD.out.mono ?_
  rintro e w1 ⟨rfl, rfl⟩
  go_wp2
  go_ret
  exact ⟨rfl, rfl⟩
/-- A step of a flow that runs a machine: the machine goes on. -/
theorem fstep_subZ (x m g : Nat) (f : Fl) (rest : List Value) (T : TypeId) (ty : TypeId) (F y : Nat) (s : St) (w : World) (R : World → Prop) (hb : FlAt w x f rest T) (hs : f.sub = .iface ty (.pointer (some ⟨y, 0, none⟩))) (hk : f.kind = 0) (hS : StepOf ty F) (hN : SubAsl ty y m w false) (hM : MemAt w m g s)
    (H : Calls Tryz.prog F #[.pointer (some ⟨y, 0, none⟩), .pointer (some ⟨m, 0, none⟩)] w fun e w' => e = .returned (.bool false) ∧ FlAt w' x f rest T ∧ R w') :
    Calls Tryz.prog 127 #[.pointer (some ⟨x, 0, none⟩), .pointer (some ⟨m, 0, none⟩)] w fun e w' => e = .returned (.bool false) ∧ R w' := by
  have hfine : f.fine := .inr ⟨_, _, hs⟩
  have hov : f.over = false := by unfold Fl.over; rw [hs]; simp
  have HD := fdone_any x f rest T w hb hfine
  rw [hov] at HD
  have HD := hid HD
  have HA := hid (fasleep_subZ x m g f rest T ty y s w hb hs hk hN hM)
  have HH := hid H
  have HF := hid (And.intro hs hfine)
  have HOV := hid hov
  obtain ⟨c0, c1, c2, c3, c4, c5, c6, c7, c8⟩ := hb.cells
  rw [hs] at c7
  have hq : ∀ w : World, (binOp .eql 155 (.iface ty (.pointer (some ⟨y, 0, none⟩))) .nilIface).run Tryz.prog w = .ok (.bool false) w := fun w => run_eql_held_nil w _ _ _ (by kernel_rfl)
  have hme := hS.meth y
  have hen := hS.enters
  clear hb hs hk hS hN hM H hfine hov c0 c1 c2 c3 c4 c5 c6 c8
  go_enter Tryz.func127, Tryz.ntmps127
  go_wp2_with fail
  refine HD.out.mono ?_
  rintro e w1 ⟨rfl, rfl⟩
  go_wp2_with fail
  refine HA.out.mono ?_
  rintro e w1 ⟨rfl, rfl⟩
  go_wp2_with fail
  refine HH.out.mono ?_
  rintro e w1 ⟨rfl, hb1, hR⟩
  have HD1 := fdone_any x f rest T w1 hb1 HF.out.2
  rw [HOV.out] at HD1
  have HD1 := hid HD1
  have HR := hid hR
  clear hb1 hR
  go_wp2_with fail
  refine HD1.out.mono ?_
  rintro e w2 ⟨rfl, rfl⟩
  go_wp2
  go_ret
  exact ⟨rfl, HR.out⟩
/-- .. the machine is done, and what follows it goes on. -/
theorem fstep_sub_doneZ (o : Bool) (x m g : Nat) (f : Fl) (rest : List Value) (T : TypeId) (ty : TypeId) (F y FA : Nat) (s : St) (w : World) (R1 R : World → Prop) (hb : FlAt w x f rest T) (hs : f.sub = .iface ty (.pointer (some ⟨y, 0, none⟩))) (hk : f.kind = 0) (haf : f.af = meth FA x) (hS : StepOf ty F) (hN : SubAsl ty y m w false) (hM : MemAt w m g s)
    (eg : ∀ vs w, (callFunc FA vs).run Tryz.prog w = .ok (.enter FA vs) w)
    (H : Calls Tryz.prog F #[.pointer (some ⟨y, 0, none⟩), .pointer (some ⟨m, 0, none⟩)] w fun e w' => e = .returned (.bool true) ∧ FlAt w' x f rest T ∧ R1 w')
    (hthen : ∀ w1 w2, R1 w1 → Kept [x] w1 w2 → FlAt w2 x f.left rest T → Calls Tryz.prog FA #[.pointer (some ⟨x, 0, none⟩)] w2 fun e w' => (∃ r, e = .returned r) ∧ R w')
    (hR : ∀ w', R w' → ∃ f' rest', FlAt w' x f' rest' T ∧ f'.fine ∧ f'.over = o) :
    Calls Tryz.prog 127 #[.pointer (some ⟨x, 0, none⟩), .pointer (some ⟨m, 0, none⟩)] w fun e w' => e = .returned (.bool o) ∧ R w' := by
  have hfine : f.fine := .inr ⟨_, _, hs⟩
  have hov : f.over = false := by unfold Fl.over; rw [hs]; simp
  have HD := fdone_any x f rest T w hb hfine
  rw [hov] at HD
  have HD := hid HD
  have HA := hid (fasleep_subZ x m g f rest T ty y s w hb hs hk hN hM)
  have HH := hid H
  have HT := hid hthen
  have HRR := hid hR
  have HAF := hid haf
  obtain ⟨c0, c1, c2, c3, c4, c5, c6, c7, c8⟩ := hb.cells
  rw [hs] at c7
  have hq : ∀ w : World, (binOp .eql 155 (.iface ty (.pointer (some ⟨y, 0, none⟩))) .nilIface).run Tryz.prog w = .ok (.bool false) w := fun w => run_eql_held_nil w _ _ _ (by kernel_rfl)
  have hme := hS.meth y
  have hen := hS.enters
  clear hb hs hk hS hN hM H hfine hov c0 c1 c2 c3 c4 c5 c6 c8 hthen hR haf
  go_enter Tryz.func127, Tryz.ntmps127
  go_wp2_with fail
  refine HD.out.mono ?_
  rintro e w1 ⟨rfl, rfl⟩
  go_wp2_with fail
  refine HA.out.mono ?_
  rintro e w1 ⟨rfl, rfl⟩
  go_wp2_with fail
  refine HH.out.mono ?_
  rintro e w1 ⟨rfl, hb1, hR1⟩
  obtain ⟨c0, c1, c2, c3, c4, c5, c6, c7', c8⟩ := hb1.cells
  rw [HAF.out] at c8
  have hf := Blk.frozen hb1
  have hb2 : FlAt ((w1.setCell ⟨x, 7, none⟩ .nilIface).setCell ⟨x, 8, none⟩ .nilFunc) x f.left rest T := (Blk.set hb1 7 .nilIface).set 8 .nilFunc
  have hk2 : Kept [x] w1 ((w1.setCell ⟨x, 7, none⟩ .nilIface).setCell ⟨x, 8, none⟩ .nilFunc) := ((Kept.refl [x] w1).set (.inl (by simp)) _).set (.inl (by simp)) _
  have H2 := hid (HT.out w1 _ hR1 hk2 hb2)
  simp only [meth] at c8
  clear hb1 hR1 hb2 hk2 c0 c1 c2 c3 c4 c5 c6
  go_wp2_with fail
  refine H2.out.mono ?_
  rintro e w2 ⟨⟨r, rfl⟩, hR2⟩
  obtain ⟨f', rest', hb', hfine', ho⟩ := HRR.out w2 hR2
  have HD2 := fdone_any x f' rest' T w2 hb' hfine'
  rw [ho] at HD2
  have HD2 := hid HD2
  have HR2 := hid hR2
  clear hb' hR2 ho hfine'
  go_wp2_with fail
  refine HD2.out.mono ?_
  rintro e w3 ⟨rfl, rfl⟩
  go_wp2
  go_ret
  exact ⟨rfl, HR2.out⟩
end Go.Proofs.YtlhnnggceebpjaaGreat.Flow
namespace Go.Proofs.YtlhnnggceebpjaaGreat.Mach
open Go.RowKit Go.Shelf Go.Proofs.YtlhnnggceebpjaaGreat.TK Go.Proofs.YtlhnnggceebpjaaGreat.Flag Go.Proofs.YtlhnnggceebpjaaGreat.Words Go.Proofs.YtlhnnggceebpjaaGreat.Mem Go.Proofs.YtlhnnggceebpjaaGreat.Flow Go.Proofs.YtlhnnggceebpjaaGreat.Layout Go.Proofs.YtlhnnggceebpjaaGreat.Lock Go.Proofs.YtlhnnggceebpjaaGreat.Run Go.Proofs.YtlhnnggceebpjaaGreat.Sys
structure SubOkZ {σ : Type} (S : Subm σ) (lo : Nat) (who : Int) : Prop where
  step : StepOf S.ty S.F
  asl : ∀ {w y st m mg s}, S.at_ w y st → MemAt w m mg s → SubAsl S.ty y m w (asleepOf S.sys st s)
  blk : ∀ {w y st}, S.at_ w y st → lo ≤ y ∧ ∃ T ∈ S.wr, ∃ cs, Blk w y cs T
  own : ∀ T ∈ rdT S.wr, T ∉ theirs
  kept : ∀ {w w' y st Z}, S.at_ w y st → Kept Z w w' → (∀ i ∈ Z, Not (rdT S.wr) w i) → S.at_ w' y st
  wnt : ∀ {w y st W}, S.at_ w y st → S.sys.want st = some W → (W.kind = 1 ∨ W.kind = 2 ∨ W.kind = 3 ∨ W.kind = 4) ∧ Rng W.new
  nil_ : ∀ {w y st}, S.at_ w y st → Calls Tryz.prog S.F #[.pointer (some ⟨y, 0, none⟩), .pointer none] w fun e w' => e = .returned (.bool (S.sys.want st).isNone) ∧ w = w'
  goes : ∀ {w y st m mg s}, S.at_ w y st → MemAt w m mg s → s.clock < 1000000 → s.bad < 1000000 → Calls Tryz.prog S.F #[.pointer (some ⟨y, 0, none⟩), .pointer (some ⟨m, 0, none⟩)] w fun e w' => e = .returned (.bool (S.sys.want (stepOf S.sys who st s).1).isNone) ∧ S.at_ w' y (stepOf S.sys who st s).1 ∧ MemAt w' m mg (stepOf S.sys who st s).2 ∧ KeptOwn S.wr lo m mg w w'
theorem SubOk.toZ {σ : Type} {S : Subm σ} {lo : Nat} {who : Int} (h : SubOk S lo who) : SubOkZ S lo who := by
  refine ⟨h.step, ?_, h.blk, h.own, h.kept, fun hA hW => (h.wnt hA hW).2, h.nil_, h.goes⟩
  intro w y st m mg s hA hM
  refine .inl ⟨h.quiet, ?_⟩
  unfold asleepOf
  cases hW : S.sys.want st with
  | none => rfl
  | some W => simp only; rw [(h.wnt hA hW).1]; rfl
theorem SubOkZ.at_quiet {σ : Type} {S : Subm σ} {lo : Nat} {who : Int} (h : SubOkZ S lo who) {w w' : World} {y : Nat} {st : σ} (hA : S.at_ w y st) (hb : Below w.heap.size w w') : S.at_ w' y st := h.kept hA (Kept.of_below hb []) (by simp)
/-- What is to be shown of what comes. -/
def NyGoesZ {σ ε : Type} (K : Mch2 σ ε) (lo l x : Nat) (p t g who : Int) (st : σ) (e : ε) : Ny → Prop
  | .own n => n = .done ∨ (Rng n.val ∧ (∀ vs w, (callFunc n.fn vs).run Tryz.prog w = .ok (.enter n.fn vs) w) ∧ ∀ a w, Rng a → lo ≤ w.heap.size → Pend w x who (K.rest st e) K.T .done → K.inv st e w → Lay w l p t g → Calls Tryz.prog n.fn (n.args x a) w fun q w' => (∃ r, q = .returned r) ∧ (∃ e2, K.is_ x who w' (K.sys.next st a) e2) ∧ Kept [x] w w')
  | .sub S y s fn => SubOkZ S lo who ∧ (∀ T ∈ S.wr, T ∈ K.wr ∧ T ≠ K.T ∧ T ∉ K.invT st) ∧ (∀ vs w, (callFunc fn vs).run Tryz.prog w = .ok (.enter fn vs) w) ∧ ∀ a, Rng a →
      (S.sys.want (S.sys.next s a) ≠ none → K.nx (K.sys.next st a) e = .sub S y (S.sys.next s a) fn ∧ K.rest (K.sys.next st a) e = K.rest st e ∧ ∀ w, K.inv st e w → K.inv (K.sys.next st a) e w) ∧
      (S.sys.want (S.sys.next s a) = none → ∀ w, lo ≤ w.heap.size → Pend w x who (K.rest st e) K.T .done → S.at_ w y (S.sys.next s a) → K.inv st e w → Lay w l p t g → Calls Tryz.prog fn #[.pointer (some ⟨x, 0, none⟩)] w fun q w' => (∃ r, q = .returned r) ∧ (∃ e2, K.is_ x who w' (K.sys.next st a) e2) ∧ Kept [x] w w')
structure GoesZ {σ ε : Type} (K : Mch2 σ ε) (lo l x : Nat) (p t g who : Int) : Prop where
  own : ∀ T ∈ rdT K.wr, T ∉ theirs
  mem : K.T ∈ K.wr
  neq : 1 ∉ K.wr ∧ 204 ∉ K.wr ∧ 214 ∉ K.wr
  inT : ∀ st, ∀ T ∈ K.invT st, T ∈ rdT K.wr ∧ T ≠ K.T
  ok : ∀ st a, K.ok st → Rng a → K.ok (K.sys.next st a)
  want : ∀ st e, (K.nx st e).want = K.sys.want st
  invk : ∀ st e w w' Z, K.inv st e w → Kept Z w w' → (∀ i ∈ Z, Not (K.invT st) w i) → K.inv st e w'
  goes : ∀ st e, K.ok st → NyGoesZ K lo l x p t g who st e (K.nx st e)
section
variable {σ ε : Type} {K : Mch2 σ ε} {lo l x m mg : Nat} {p t g who : Int} {st : σ} {s : St} {w : World}
theorem mz_fstep (G : GoesZ K lo l x p t g who) (hA : K.at_ lo l x p t g who w st) (hM : MemAt w m mg s) (hc : s.clock < 1000000) (hbd : s.bad < 1000000) :
    Calls Tryz.prog 127 #[.pointer (some ⟨x, 0, none⟩), .pointer (some ⟨m, 0, none⟩)] w fun e w' => e = .returned (.bool (K.sys.want (stepOf K.sys who st s).1).isNone) ∧ K.at_ lo l x p t g who w' (stepOf K.sys who st s).1 ∧ MemAt w' m mg (stepOf K.sys who st s).2 ∧ KeptOwn K.wr lo m mg w w' := by
  obtain ⟨⟨e, hp, hi⟩, hlo, hL, hok⟩ := hA
  obtain ⟨f0, hb, hfine, hfo⟩ := hp.blk
  have hT : K.T ∉ theirs := G.own K.T (List.mem_append.2 (.inl G.mem))
  have n1 : K.T ≠ 166 := fun e => hT (by rw [e]; decide)
  have n2 : K.T ≠ 25 := fun e => hT (by rw [e]; decide)
  have hxm : x ≠ m := hM.neT hb n1
  have hxg : x ≠ mg := hM.neG hb n2
  have nl : K.T ≠ 214 := fun e => G.neq.2.2 (by rw [← e]; exact G.mem)
  have na : K.T ≠ 1 := fun e => G.neq.1 (by rw [← e]; exact G.mem)
  have ns : K.T ≠ 204 := fun e => G.neq.2.1 (by rw [← e]; exact G.mem)
  have hlx : l ≠ x := Blk.ne hL.1 hb (fun e => nl e.symm)
  have hlm := hM.neT hL.1 (by decide)
  have hlg := hM.neG hL.1 (by decide)
  have hg := G.goes st e hok
  have hwant := G.want st e
  have hxs : lo ≤ w.heap.size := Nat.le_trans hlo (Nat.le_of_lt (Blk.lt hb))
  have hmne : ∀ T ∈ K.invT st, T ≠ 166 ∧ T ≠ 25 ∧ T ≠ K.T := by
    intro T hT
    have h1 := G.inT st T hT
    have h2 := G.own T h1.1
    exact ⟨fun e => h2 (by rw [e]; decide), fun e => h2 (by rw [e]; decide), h1.2⟩
  -- the memory's blocks are none of these
  have hmem : ∀ (Own : List TypeId), (∀ T ∈ Own, T ≠ 166 ∧ T ≠ 25) → Not Own w m ∧ Not Own w mg := by
    intro Own hO
    obtain ⟨_, _, b1, b2, _⟩ := hM.ex
    exact ⟨not_of b1 (fun h => (hO _ h).1 rfl), not_of b2 (fun h => (hO _ h).2 rfl)⟩
  have ovr : ∀ (w' : World) (st' : σ), K.at_ lo l x p t g who w' st' → ∃ f' rest', FlAt w' x f' rest' K.T ∧ f'.fine ∧ f'.over = (K.sys.want st').isNone := by
    rintro w' st' ⟨⟨e2, hp2, _⟩, _⟩
    obtain ⟨f', a, b, c⟩ := hp2.blk
    exact ⟨f', _, a, b, by rw [c, G.want]⟩
  generalize hnx : K.nx st e = n at hp hg hwant
  cases n with
  | own n =>
    have hp : Pend w x who (K.rest st e) K.T n := hp
    cases hw : n.want with
    | none =>
      have hwt : K.sys.want st = none := by rw [← hwant]; exact hw
      have hst : stepOf K.sys who st s = (st, s) := by unfold stepOf; rw [hwt]
      rw [hst]
      have hd : n = .done := by cases n <;> first | rfl | cases hw
      subst hd
      obtain ⟨f, hf, q1, q2, q3, q4⟩ := hp
      refine (fstep_done x f _ _ _ w hf q2 q4).mono ?_
      rintro e2 w' ⟨rfl, rfl⟩
      refine ⟨by simp only [hwt]; rfl, ⟨⟨e, by show Pend2 w x who (K.rest st e) K.T (K.nx st e); rw [hnx]; exact ⟨f, hf, q1, q2, q3, q4⟩, hi⟩, hlo, hL, hok⟩, hM, ⟨[], Kept.refl _ _, by simp⟩⟩
    | some W =>
      have hwt : K.sys.want st = some W := by rw [← hwant]; exact hw
      rcases hg with hd | ⟨hv, hen, hgo⟩
      · subst hd; cases hw
      have hsl : W.slp = false := by cases n <;> first | (obtain rfl := Option.some.inj hw; rfl) | cases hw
      have hst : stepOf K.sys who st s = (K.sys.next st (s.acc W.kind who W.at_ W.old W.new).2, (s.acc W.kind who W.at_ W.old W.new).1) := by
        obtain ⟨kd, ad, o, nw, slp⟩ := W
        simp only at hsl
        subst hsl
        exact stepOf_go hwt rfl
      rw [hst]
      refine pend_fstep hp ⟨hT, na, ns⟩ hM hc hbd hw hv hen ?_ (fun w' h => ovr w' _ h.1)
      intro w1 q1 q2 hr q3
      have hi1 := G.invk st e w w1 _ hi q3 (by
        intro i hi2
        simp at hi2
        have hm2 := hmem (K.invT st) (fun T hT => ⟨(hmne T hT).1, (hmne T hT).2.1⟩)
        rcases hi2 with rfl | rfl | rfl
        · exact not_of hb (fun h => (hmne _ h).2.2 rfl)
        · exact hm2.1
        · exact hm2.2)
      have hL1 := hL.kept q3 (by simp [hlx, hlm, hlg])
      refine (hgo _ w1 hr (Nat.le_trans hxs q3.size) q1 hi1 hL1).mono ?_
      rintro e2 w2 ⟨he, hp2, hK2⟩
      exact ⟨he, ⟨hp2, hlo, hL1.kept hK2 (by simp [hlx]), G.ok st _ hok hr⟩, q2.kept hK2 (by simp; omega) (by simp; omega), keptOwn_of (q3.trans hK2 (by intro i hi; simp at hi; subst hi; exact .inl (by simp))) hb G.mem hlo⟩
  | sub S y sy fn =>
    obtain ⟨hS, hwr, hen, hgo⟩ := hg
    obtain ⟨⟨f, hf, h2, h3, h4, h5, h6⟩, hSA, hSw⟩ := hp
    obtain ⟨W, hW⟩ : ∃ W, S.sys.want sy = some W := by
      cases hw : S.sys.want sy with
      | none => exact absurd hw hSw
      | some W => exact ⟨W, rfl⟩
    have hwt : K.sys.want st = some W := by rw [← hwant]; exact hW
    obtain ⟨hkd, hnw⟩ := hS.wnt hSA hW
    obtain ⟨kd, ad, o, nw, slp⟩ := W
    simp only at hkd hnw
    cases has : (slp && decide ((s.peek ad).1 = 0)) with
    | true =>
      have hst : stepOf K.sys who st s = (st, s) := by unfold stepOf; rw [hwt]; simp only; rw [if_pos has]
      have hsl2 := hS.asl hSA hM
      rw [show asleepOf S.sys sy s = true by unfold asleepOf; rw [hW]; exact has] at hsl2
      rw [hst]
      refine (fstep_sub_asleepZ x m mg f _ _ S.ty y s w hf h3 h4 hsl2 hM).mono ?_
      rintro e2 w' ⟨rfl, rfl⟩
      exact ⟨by simp only [hwt]; rfl, ⟨⟨e, by show Pend2 w x who (K.rest st e) K.T (K.nx st e); rw [hnx]; exact ⟨⟨f, hf, h2, h3, h4, h5, h6⟩, hSA, hSw⟩, hi⟩, hlo, hL, hok⟩, hM, ⟨[], Kept.refl _ _, by simp⟩⟩
    | false =>
    have hsl2 := hS.asl hSA hM
    rw [show asleepOf S.sys sy s = false by unfold asleepOf; rw [hW]; exact has] at hsl2
    have hr : Rng (s.acc kd who ad o nw).2 := (acc_wf hM.wf kd who ad o hnw).2
    rw [stepOf_go hwt has]
    have hstS : stepOf S.sys who sy s = (S.sys.next sy (s.acc kd who ad o nw).2, (s.acc kd who ad o nw).1) := stepOf_go hW has
    have HG := hS.goes hSA hM hc hbd
    rw [hstS] at HG
    obtain ⟨a, ha⟩ : ∃ a, a = (s.acc kd who ad o nw).2 := ⟨_, rfl⟩
    obtain ⟨s2, hs2⟩ : ∃ s2, s2 = (s.acc kd who ad o nw).1 := ⟨_, rfl⟩
    rw [← ha] at hr HG
    rw [← ha, ← hs2]
    rw [← hs2] at HG
    obtain ⟨hon, hoff⟩ := hgo a hr
    -- what the other one's step keeps
    have nX : ∀ Z : List Nat, (∀ i ∈ Z, i = m ∨ i = mg ∨ (lo ≤ i ∧ ∃ T ∈ S.wr, ∃ cs, Blk w i cs T)) → x ∉ Z ∧ l ∉ Z ∧ ∀ i ∈ Z, Not (K.invT st) w i := by
      intro Z hZ
      have hm2 := hmem (K.invT st) (fun T hT => ⟨(hmne T hT).1, (hmne T hT).2.1⟩)
      refine ⟨?_, ?_, ?_⟩
      · intro hx
        rcases hZ x hx with h | h | ⟨_, T', h7, cs', h8⟩
        · exact hxm h
        · exact hxg h
        · exact Blk.ne hb h8 (fun e => (hwr T' h7).2.1 e.symm) rfl
      · intro hx
        rcases hZ l hx with h | h | ⟨_, T', h7, cs', h8⟩
        · exact hlm h
        · exact hlg h
        · exact Blk.ne hL.1 h8 (fun e => G.neq.2.2 (by rw [e]; exact (hwr T' h7).1)) rfl
      · intro i hx
        rcases hZ i hx with rfl | rfl | ⟨_, T', h7, cs', h8⟩
        · exact hm2.1
        · exact hm2.2
        · exact not_of h8 (hwr T' h7).2.2
    cases hw2 : S.sys.want (S.sys.next sy a) with
    | some W2 =>
      obtain ⟨q1, q2, q3⟩ := hon (by rw [hw2]; simp)
      have hwt2 : (K.sys.want (K.sys.next st a)).isNone = false := by
        rw [← G.want (K.sys.next st a) e, q1]
        show (S.sys.want (S.sys.next sy a)).isNone = false
        rw [hw2]; rfl
      rw [hwt2]
      refine fstep_subZ x m mg f _ _ S.ty S.F y s w _ hf h3 h4 hS.step hsl2 hM ?_
      refine HG.mono ?_
      rintro e2 w' ⟨he, hA', hM', Z, hK', hZ⟩
      obtain ⟨hx, hl, hI⟩ := nX Z hZ
      refine ⟨by rw [he]; simp only [hw2]; rfl, hf.kept hK' hx, ⟨⟨e, ?_, q3 _ (G.invk _ _ _ _ _ hi hK' hI)⟩, hlo, hL.kept hK' hl, G.ok st _ hok hr⟩, hM', ⟨Z, hK', fun i hiz => ?_⟩⟩
      · rw [q1, q2]
        exact ⟨⟨f, hf.kept hK' hx, h2, h3, h4, h5, h6⟩, hA', by rw [hw2]; simp⟩
      · rcases hZ i hiz with h | h | ⟨h7, T', h8, h9⟩
        · exact .inl h
        · exact .inr (.inl h)
        · exact .inr (.inr ⟨h7, T', (hwr T' h8).1, h9⟩)
    | none =>
      have hgo2 := hoff hw2
      refine fstep_sub_doneZ _ x m mg f _ _ S.ty S.F y fn s w (fun w1 => S.at_ w1 y (S.sys.next sy a) ∧ MemAt w1 m mg s2 ∧ KeptOwn S.wr lo m mg w w1) _ hf h3 h4 h6 hS.step hsl2 hM hen ?_ ?_ (fun w' h => ovr w' _ h.1)
      · refine HG.mono ?_
        rintro e2 w' ⟨he, hA', hM', Z, hK', hZ⟩
        obtain ⟨hx, hl, hI⟩ := nX Z hZ
        exact ⟨by rw [he]; simp only [hw2]; rfl, hf.kept hK' hx, hA', hM', Z, hK', hZ⟩
      · rintro w1 w2 ⟨hA1, hM1, Z, hK1, hZ⟩ hK2 hf2
        obtain ⟨hx, hl, hI⟩ := nX Z hZ
        have hbx : Blk w1 x _ K.T := Blk.kept hb hK1 hx
        have hi1 := G.invk _ _ _ _ _ hi hK1 hI
        have hi2 := G.invk _ _ _ _ _ hi1 hK2 (by intro i hi; simp at hi; subst hi; exact not_of hbx (fun h => (hmne _ h).2.2 rfl))
        have hA2 := hS.kept hA1 hK2 (by
          intro i hi
          simp at hi
          subst hi
          refine not_of hbx ?_
          intro h
          rcases List.mem_append.1 h with h | h
          · exact (hwr _ h).2.1 rfl
          · simp at h
            rcases h with h | h | h
            · exact na h
            · exact ns h
            · exact nl h)
        have hL2 := (hL.kept hK1 hl).kept hK2 (by simp [hlx])
        refine (hgo2 w2 (Nat.le_trans hxs (Nat.le_trans hK1.size hK2.size)) ⟨f.left, hf2, h2, rfl, h5, h4⟩ hA2 hi2 hL2).mono ?_
        rintro e3 w3 ⟨he, hp3, hK3⟩
        refine ⟨he, ⟨hp3, hlo, hL2.kept hK3 (by simp [hlx]), G.ok st _ hok hr⟩, (hM1.kept hK2 (by simp; omega) (by simp; omega)).kept hK3 (by simp; omega) (by simp; omega), ?_⟩
        exact keptOwn_trans (wr' := S.wr) ⟨Z, hK1, hZ⟩ (fun T h => (hwr T h).1) (hK2.trans hK3 (by intro i hi; exact .inl hi)) hb G.mem hlo
theorem mz_kept (G : GoesZ K lo l x p t g who) {w' : World} {Z : List Nat} (hA : K.at_ lo l x p t g who w st) (hk : Kept Z w w') (hZ : ∀ i ∈ Z, Not (rdT K.wr) w i) : K.at_ lo l x p t g who w' st := by
  obtain ⟨⟨e, hp, hi⟩, hlo, hL, hok⟩ := hA
  have hg := G.goes st e hok
  have hmT : K.T ∈ rdT K.wr := List.mem_append.2 (.inl G.mem)
  refine ⟨⟨e, ?_, G.invk _ _ _ _ _ hi hk (fun i h T hT => hZ i h T (G.inT st T hT).1)⟩, hlo, hL.kept hk (fun h => hZ l h 214 (by simp [rdT]) _ hL.1), hok⟩
  generalize hnx : K.nx st e = n at hp hg
  cases n with
  | own n =>
    refine Pend.kept (n := n) hp hk ?_
    intro i h T hT
    have : T ∈ rdT K.wr := by
      simp [ownT] at hT
      rcases hT with rfl | rfl | rfl | rfl
      · exact hmT
      · simp [rdT]
      · simp [rdT]
      · simp [rdT]
    exact hZ i h T this
  | sub S y sy fn =>
    obtain ⟨hS, hwr, hen, hgo⟩ := hg
    obtain ⟨hs, hSA, hSw⟩ := hp
    obtain ⟨f, hf, _⟩ := hs
    refine ⟨SubAt.kept ⟨f, hf, by assumption⟩ hk (fun h => hZ x h _ hmT _ hf), hS.kept hSA hk (fun i h T hT => hZ i h T (rdT_mono (fun T h => (hwr T h).1) T hT)), hSw⟩
theorem mz_of (G : ∀ y, lo ≤ y → GoesZ K lo l y p t g who) (hown : ∀ T ∈ rdT K.wr, T ∉ theirs) : MachOf (K.at_ lo l x p t g who) (rdT K.wr) := by
  refine ⟨?_, hown⟩
  intro w w' st S hA hK hS
  exact mz_kept (G x hA.2.1) hA hK hS
theorem mz_done (G : GoesZ K lo l x p t g who) (hA : K.at_ lo l x p t g who w st) : Calls Tryz.prog 130 #[.pointer (some ⟨x, 0, none⟩)] w fun e w' => e = .returned (.bool (K.sys.want st).isNone) ∧ w = w' := by
  obtain ⟨⟨e, hp, _⟩, _⟩ := hA
  obtain ⟨f, h1, h2, h3⟩ := hp.blk
  have := fdone_any x f _ _ w h1 h2
  rw [h3, G.want] at this
  exact this
theorem mz_nil (G : GoesZ K lo l x p t g who) (hA : K.at_ lo l x p t g who w st) : Calls Tryz.prog 127 #[.pointer (some ⟨x, 0, none⟩), .pointer none] w fun e w' => e = .returned (.bool (K.sys.want st).isNone) ∧ w = w' := by
  obtain ⟨⟨e, hp, _⟩, _⟩ := hA
  obtain ⟨f, h1, h2, h3⟩ := hp.blk
  have := fstep_nil x f _ _ w h1 h2
  rw [h3, G.want] at this
  exact this
theorem mz_wnt (G : GoesZ K lo l x p t g who) (hA : K.at_ lo l x p t g who w st) {W : Wnt} (h : K.sys.want st = some W) : (W.kind = 1 ∨ W.kind = 2 ∨ W.kind = 3 ∨ W.kind = 4) ∧ Rng W.new := by
  obtain ⟨⟨e, hp, hi⟩, hlo, hL, hok⟩ := hA
  have hg := G.goes st e hok
  rw [← G.want st e] at h
  generalize hnx : K.nx st e = n at hp hg h
  cases n with
  | own n =>
    rcases hg with rfl | ⟨hv, _⟩
    · cases h
    · cases n <;> first | (obtain rfl := Option.some.inj h; refine ⟨by simp, ?_⟩; first | exact hv | (constructor <;> simp)) | cases h
  | sub S y sy fn => exact hg.1.wnt hp.2.1 h
theorem mz_asleep (G : GoesZ K lo l x p t g who) (hA : K.at_ lo l x p t g who w st) (hM : MemAt w m mg s) : Calls Tryz.prog 162 #[.pointer (some ⟨x, 0, none⟩), .pointer (some ⟨m, 0, none⟩)] w fun e w' => e = .returned (.bool (asleepOf K.sys st s)) ∧ w = w' := by
  obtain ⟨⟨e, hp, hi⟩, hlo, hL, hok⟩ := hA
  have hg := G.goes st e hok
  have hwant := G.want st e
  generalize hnx : K.nx st e = n at hp hg hwant
  cases n with
  | own n =>
    have hp : Pend w x who (K.rest st e) K.T n := hp
    obtain ⟨f, hf, h1, h2, h3⟩ := hp.idle
    have e1 : asleepOf K.sys st s = false := by
      unfold asleepOf
      rw [← hwant]
      cases n <;> rfl
    rw [e1]
    have := fasleep_run x m mg f _ _ s w hf h2 hM
    rw [show f.sleeps s = false by unfold Fl.sleeps; rw [h3]; simp] at this
    exact this
  | sub S y sy fn =>
    obtain ⟨hS, _⟩ := hg
    obtain ⟨⟨f, hf, h2, h3, h4, h5, h6⟩, hSA, hSw⟩ := hp
    have e1 : asleepOf K.sys st s = asleepOf S.sys sy s := by
      unfold asleepOf
      rw [← hwant]
      rfl
    rw [e1]
    exact fasleep_subZ x m mg f _ _ S.ty y s w hf h3 h4 (hS.asl hSA hM) hM
end
/-- Asleep is the flow's. -/
def ThruA (F : Nat) : Prop := ∀ (x m : Nat) (o : Bool) (w : World), Calls Tryz.prog 162 #[.pointer (some ⟨x, 0, none⟩), .pointer (some ⟨m, 0, none⟩)] w (fun e w' => e = .returned (.bool o) ∧ w = w') → Calls Tryz.prog F #[.pointer (some ⟨x, 0, none⟩), .pointer (some ⟨m, 0, none⟩)] w (fun e w' => e = .returned (.bool o) ∧ w = w')
theorem mz_sub {σ ε : Type} {K : Mch2 σ ε} {ty : TypeId} {F FA lo l : Nat} {p t g who : Int} (hs : StepOf ty F) (hz : Snooze ty FA) (ht : Thru F) (ha : ThruA FA) (G : ∀ y, lo ≤ y → GoesZ K lo l y p t g who) (hown : ∀ T ∈ rdT K.wr, T ∉ theirs) : SubOkZ (K.sub ty F lo l p t g who) lo who := by
  refine ⟨hs, ?_, ?_, hown, ?_, ?_, ?_, ?_⟩
  · intro w y st m mg s hA hM
    exact .inr ⟨FA, hz, ha y m _ w (mz_asleep (G y hA.2.1) hA hM)⟩
  · rintro w y st ⟨⟨e, hp, hi⟩, hlo, hL, hok⟩
    obtain ⟨f, h1, _⟩ := hp.blk
    exact ⟨hlo, K.T, (G y hlo).mem, _, h1⟩
  · intro w w' y st Z hA hk hZ
    exact mz_kept (G y hA.2.1) hA hk hZ
  · intro w y st W hA h
    exact mz_wnt (G y hA.2.1) hA h
  · intro w y st hA
    exact ht y none _ w (fun w' => w = w') (mz_nil (G y hA.2.1) hA)
  · intro w y st m mg s hA hM hc hbd
    exact ht y _ _ w _ (mz_fstep (G y hA.2.1) hA hM hc hbd)
theorem mz_stepL {σ ε : Type} {K : Mch2 σ ε} {F lo l x m mg : Nat} {p t g who : Int} {st : σ} {s : St} {w : World} (ht : Thru F) (G : GoesZ K lo l x p t g who) (hA : K.at_ lo l x p t g who w st) (hM : MemAt w m mg s) (hc : s.clock < 1000000) (hbd : s.bad < 1000000) :
    Calls Tryz.prog F #[.pointer (some ⟨x, 0, none⟩), .pointer (some ⟨m, 0, none⟩)] w fun e w' => (∃ b, e = .returned (.bool b)) ∧ K.at_ lo l x p t g who w' (stepOf K.sys who st s).1 ∧ MemAt w' m mg (stepOf K.sys who st s).2 ∧ KeptOwn (rdT K.wr) lo m mg w w' := by
  refine (ht x _ _ w _ (mz_fstep G hA hM hc hbd)).mono ?_
  rintro e w' ⟨he, h1, h2, h3⟩
  exact ⟨⟨_, he⟩, h1, h2, keptOwn_mono h3 (fun T hT => List.mem_append.2 (.inl hT))⟩
theorem mz_doneL {σ ε : Type} {K : Mch2 σ ε} {F lo l x : Nat} {p t g who : Int} {st : σ} {w : World} (ht : ThruD F) (G : GoesZ K lo l x p t g who) (hA : K.at_ lo l x p t g who w st) : Calls Tryz.prog F #[.pointer (some ⟨x, 0, none⟩)] w fun e w' => e = .returned (.bool (K.sys.want st).isNone) ∧ w = w' := ht x _ w (mz_done G hA)
/-- To run a machine. -/
theorem irunZ_run {σ : Type} {S : Subm σ} {lo : Nat} {who0 who : Int} {w : World} {x y fn : Nat} {rest : List Value} {T : TypeId} {s : σ} (hS : SubOkZ S lo who0) (h : Pend w x who rest T .done) (hA : S.at_ w y s) (hw : S.sys.want s ≠ none) (hT : T ∉ rdT S.wr) :
    Calls Tryz.prog 124 #[.pointer (some ⟨x, 0, none⟩), .iface S.ty (.pointer (some ⟨y, 0, none⟩)), meth fn x] w fun e w' => e = .returned (.tuple #[]) ∧ SubAt w' x who rest T S.ty y fn ∧ S.at_ w' y s ∧ Kept [x] w w' := by
  obtain ⟨f, hf, q1, q2, q3, q4⟩ := h
  have hn := hS.nil_ hA
  rw [show (S.sys.want s).isNone = false by cases h : S.sys.want s with | none => exact absurd h hw | some W => rfl] at hn
  refine (frun_run x f rest T S.ty S.F y (.func fn) #[.pointer (some ⟨x, 0, none⟩)] #[] w hf hS.step hn).mono ?_
  rintro e w' ⟨rfl, h1, h2⟩
  refine ⟨rfl, ⟨_, h1, q1, rfl, q4, q3, rfl⟩, hS.kept hA h2 ?_, h2⟩
  intro i hi
  simp at hi
  subst hi
  exact not_of hf hT
/-- A cell of another block is set. -/
theorem sub_setZ {σ : Type} {S : Subm σ} {lo : Nat} {who0 who : Int} {w : World} {x y : Nat} {rest : List Value} {T : TypeId} {n : Nx} {st : σ} (hS : SubOkZ S lo who0) (hA : S.at_ w y st) (hp : Pend w x who rest T n) (hT : T ∉ rdT S.wr) (i : Nat) (v : Value) : S.at_ (w.setCell ⟨x, i, none⟩ v) y st := by
  refine hS.kept hA ((Kept.refl [x] w).set (.inl (by simp)) _) ?_
  intro i hi
  simp at hi
  subst hi
  obtain ⟨cs, hb⟩ := hp.blk
  exact not_of hb hT
end Go.Proofs.YtlhnnggceebpjaaGreat.Mach
