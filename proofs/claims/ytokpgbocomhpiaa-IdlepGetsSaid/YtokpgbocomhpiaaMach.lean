/- Machines in general: what is pending, a step; a machine by its states. -/
import Derived.Test.YtokpgbocomhpiaaSysI
set_option maxRecDepth 100000
set_option maxHeartbeats 4000000
set_option linter.unusedVariables false
set_option linter.unusedSimpArgs false
namespace Go.Proofs.Ytokpgbocomhpiaa.Mach
open Go.RowKit Go.Shelf Go.Proofs.Ytokpgbocomhpiaa.TK Go.Proofs.Ytokpgbocomhpiaa.Flag Go.Proofs.Ytokpgbocomhpiaa.Words Go.Proofs.Ytokpgbocomhpiaa.Mem Go.Proofs.Ytokpgbocomhpiaa.Flow Go.Proofs.Ytokpgbocomhpiaa.Layout Go.Proofs.Ytokpgbocomhpiaa.Lock Go.Proofs.Ytokpgbocomhpiaa.Run Go.Proofs.Ytokpgbocomhpiaa.Sys
/-- What is to come: an access, and the method that follows it. -/
inductive Nx
  | load (at_ : Int) (fn : Nat)
  | add (at_ v : Int) (fn : Nat)
  | store (at_ v : Int) (fn : Nat)
  | swap (at_ o v : Int) (fn : Nat)
  | done
def Nx.want : Nx → Option Wnt
  | .load a _ => some ⟨1, a, 0, 0, false⟩
  | .add a v _ => some ⟨4, a, 0, v, false⟩
  | .store a v _ => some ⟨2, a, 0, v, false⟩
  | .swap a o v _ => some ⟨3, a, o, v, false⟩
  | .done => none
def Nx.fn : Nx → Nat
  | .load _ f => f
  | .add _ _ f => f
  | .store _ _ f => f
  | .swap _ _ _ f => f
  | .done => 0
def Nx.val : Nx → Int
  | .load _ _ => 0
  | .add _ v _ => v
  | .store _ v _ => v
  | .swap _ _ v _ => v
  | .done => 0
def Nx.over : Nx → Bool
  | .done => true
  | _ => false
/-- What the method is called with. -/
def Nx.args (n : Nx) (x : Nat) (a : Int) : Array Value :=
  match n with
  | .load _ _ => #[.pointer (some ⟨x, 0, none⟩), .int .u64 a]
  | .add _ _ _ => #[.pointer (some ⟨x, 0, none⟩), .int .u64 a]
  | .store _ _ _ => #[.pointer (some ⟨x, 0, none⟩)]
  | .swap _ _ _ _ => #[.pointer (some ⟨x, 0, none⟩), .bool (a == 1)]
  | .done => #[]
/-- A flow of this machine's, with nothing said of what comes. -/
def Idle (w : World) (x : Nat) (who : Int) (rest : List Value) (T : TypeId) : Prop := ∃ f, FlAt w x f rest T ∧ f.who = who ∧ f.sub = .nilIface ∧ f.asleep = false
def Pend (w : World) (x : Nat) (who : Int) (rest : List Value) (T : TypeId) : Nx → Prop
  | .load a m => FlAt w x ⟨who, 1, a, 0, 0, meth m x, false, .nilIface, .nilFunc⟩ rest T ∨ ∃ af, FlAt w x ⟨who, 1, a, 0, 0, meth m x, false, .nilIface, af⟩ rest T
  | .add a v m => ∃ af, FlAt w x ⟨who, 4, a, 0, v, meth m x, false, .nilIface, af⟩ rest T
  | .store a v m => ∃ af b, FlAt w x ⟨who, 2, a, 0, v, .func (.func 201) #[] #[.pointer (some ⟨b, 0, none⟩)], false, .nilIface, af⟩ rest T ∧ Blk w b [meth m x] 1
  | .swap a o v m => ∃ af b, FlAt w x ⟨who, 3, a, o, v, .func (.func 257) #[] #[.pointer (some ⟨b, 0, none⟩)], false, .nilIface, af⟩ rest T ∧ Blk w b [meth m x] 233
  | .done => ∃ f, FlAt w x f rest T ∧ f.who = who ∧ f.sub = .nilIface ∧ f.asleep = false ∧ f.kind = 0
theorem Pend.idle {w : World} {x : Nat} {who : Int} {rest : List Value} {T : TypeId} {n : Nx} (h : Pend w x who rest T n) : Idle w x who rest T := by
  cases n with
  | load a m => rcases h with h | ⟨af, h⟩ <;> exact ⟨_, h, rfl, rfl, rfl⟩
  | add a v m => obtain ⟨af, h⟩ := h; exact ⟨_, h, rfl, rfl, rfl⟩
  | store a v m => obtain ⟨af, b, h, _⟩ := h; exact ⟨_, h, rfl, rfl, rfl⟩
  | swap a o v m => obtain ⟨af, b, h, _⟩ := h; exact ⟨_, h, rfl, rfl, rfl⟩
  | done => obtain ⟨f, h, h1, h2, h3, _⟩ := h; exact ⟨f, h, h1, h2, h3⟩
theorem Pend.blk {w : World} {x : Nat} {who : Int} {rest : List Value} {T : TypeId} {n : Nx} (h : Pend w x who rest T n) : ∃ cs, Blk w x cs T := by
  obtain ⟨f, h, _⟩ := h.idle
  exact ⟨_, h⟩
theorem Idle.set {w : World} {x : Nat} {who : Int} {rest : List Value} {T : TypeId} (h : Idle w x who rest T) (i : Nat) (v : Value) : Idle (w.setCell ⟨x, i + 9, none⟩ v) x who (rest.set i v) T := by
  obtain ⟨f, h, h1, h2, h3⟩ := h
  refine ⟨f, ?_, h1, h2, h3⟩
  have := Blk.set h (i + 9) v
  unfold FlAt
  rw [List.set_append_right _ _ (by simp [fl])] at this
  simpa [fl] using this
/-- The same of one that is done. -/
theorem Pend.setD {w : World} {x : Nat} {who : Int} {rest : List Value} {T : TypeId} (h : Pend w x who rest T .done) (i : Nat) (v : Value) : Pend (w.setCell ⟨x, i + 9, none⟩ v) x who (rest.set i v) T .done := by
  obtain ⟨f, h, h1, h2, h3, h4⟩ := h
  refine ⟨f, ?_, h1, h2, h3, h4⟩
  have := Blk.set h (i + 9) v
  unfold FlAt
  rw [List.set_append_right _ _ (by simp [fl])] at this
  simpa [fl] using this
theorem Idle.kept {w w' : World} {x : Nat} {who : Int} {rest : List Value} {T : TypeId} {S : List Nat} (h : Idle w x who rest T) (hk : Kept S w w') (hx : x ∉ S) : Idle w' x who rest T := by
  obtain ⟨f, h, h1⟩ := h
  exact ⟨f, FlAt.kept h hk hx, h1⟩
theorem Idle.quiet {w w' : World} {x : Nat} {who : Int} {rest : List Value} {T : TypeId} (h : Idle w x who rest T) (hb : Below w.heap.size w w') : Idle w' x who rest T := h.kept (Kept.of_below hb []) (by simp)
theorem Idle.rest {w : World} {x : Nat} {who : Int} {rest : List Value} {T : TypeId} (h : Idle w x who rest T) (i : Nat) : w.cell? ⟨x, i + 9, none⟩ = rest[i]? := by
  obtain ⟨f, h, _⟩ := h
  have := Blk.cell h (i + 9)
  rw [List.getElem?_append_right (by simp [fl])] at this
  simpa [fl] using this
theorem Idle.frozen {w : World} {x : Nat} {who : Int} {rest : List Value} {T : TypeId} (h : Idle w x who rest T) (i : Nat) : w.frozen? ⟨x, i, none⟩ = false := by
  obtain ⟨f, h, _⟩ := h
  exact Blk.frozen h i
theorem Idle.lt {w : World} {x : Nat} {who : Int} {rest : List Value} {T : TypeId} (h : Idle w x who rest T) : x < w.heap.size := by
  obtain ⟨f, h, _⟩ := h
  exact Blk.lt h
/-- The types of a machine's blocks: its own, what follows a store, or a swap, a layout. -/
def ownT (T : TypeId) : List TypeId := [T, 1, 233, 216]
theorem Pend.kept {w w' : World} {x : Nat} {who : Int} {rest : List Value} {T : TypeId} {n : Nx} {S : List Nat} (h : Pend w x who rest T n) (hk : Kept S w w') (hS : ∀ i ∈ S, Not (ownT T) w i) : Pend w' x who rest T n := by
  have hx : x ∉ S := by
    intro hi
    obtain ⟨cs, hb⟩ := h.blk
    exact hS x hi T (by simp [ownT]) cs hb
  cases n with
  | load a m => rcases h with h | ⟨af, h⟩; exact .inl (h.kept hk hx); exact .inr ⟨af, h.kept hk hx⟩
  | add a v m => obtain ⟨af, h⟩ := h; exact ⟨af, h.kept hk hx⟩
  | store a v m => obtain ⟨af, b, h, h2⟩ := h; exact ⟨af, b, h.kept hk hx, h2.kept hk (fun hi => hS b hi _ (by simp [ownT]) _ h2)⟩
  | swap a o v m => obtain ⟨af, b, h, h2⟩ := h; exact ⟨af, b, h.kept hk hx, h2.kept hk (fun hi => hS b hi _ (by simp [ownT]) _ h2)⟩
  | done => obtain ⟨f, h, h1⟩ := h; exact ⟨f, h.kept hk hx, h1⟩
theorem Pend.quiet {w w' : World} {x : Nat} {who : Int} {rest : List Value} {T : TypeId} {n : Nx} (h : Pend w x who rest T n) (hb : Below w.heap.size w w') : Pend w' x who rest T n := h.kept (Kept.of_below hb []) (by simp)
section
variable {x : Nat} {who : Int} {rest : List Value} {T : TypeId} {w : World}
theorem iload_run (h : Idle w x who rest T) (at_ : Int) (m : Nat) :
    Calls Try.prog 164 #[.pointer (some ⟨x, 0, none⟩), .int .i64 at_, meth m x] w fun e w' => e = .returned (.tuple #[]) ∧ Pend w' x who rest T (.load at_ m) ∧ Kept [x] w w' := by
  obtain ⟨⟨who', kd, at0, o, nw, th, asl, sub, af⟩, h, h1, h2, h3⟩ := h
  simp only at h1 h2 h3
  subst h1 h2 h3
  refine (fload_run x _ rest T at_ _ _ _ w h).mono ?_
  rintro e w1 ⟨rfl, h, hK⟩
  exact ⟨rfl, .inr ⟨af, h⟩, hK⟩
theorem iadd_run (h : Idle w x who rest T) (at_ v : Int) (m : Nat) :
    Calls Try.prog 146 #[.pointer (some ⟨x, 0, none⟩), .int .i64 at_, .int .u64 v, meth m x] w fun e w' => e = .returned (.tuple #[]) ∧ Pend w' x who rest T (.add at_ v m) ∧ Kept [x] w w' := by
  obtain ⟨⟨who', kd, at0, o, nw, th, asl, sub, af⟩, h, h1, h2, h3⟩ := h
  simp only at h1 h2 h3
  subst h1 h2 h3
  refine (fadd_run x _ rest T at_ v _ _ _ w h).mono ?_
  rintro e w1 ⟨rfl, h, hK⟩
  exact ⟨rfl, ⟨af, h⟩, hK⟩
theorem istore_run (h : Idle w x who rest T) (at_ v : Int) (m : Nat) :
    Calls Try.prog 144 #[.pointer (some ⟨x, 0, none⟩), .int .i64 at_, .int .u64 v, meth m x] w fun e w' => e = .returned (.tuple #[]) ∧ Pend w' x who rest T (.store at_ v m) ∧ Kept [x] w w' := by
  obtain ⟨⟨who', kd, at0, o, nw, th, asl, sub, af⟩, h, h1, h2, h3⟩ := h
  simp only at h1 h2 h3
  subst h1 h2 h3
  refine (fstore_run x _ rest T at_ v _ _ _ w h).mono ?_
  rintro e w1 ⟨rfl, b, h, hb, _, hK⟩
  exact ⟨rfl, ⟨af, b, h, hb⟩, hK⟩
theorem iswap_run (h : Idle w x who rest T) (at_ o v : Int) (m : Nat) :
    Calls Try.prog 241 #[.pointer (some ⟨x, 0, none⟩), .int .i64 at_, .int .u64 o, .int .u64 v, meth m x] w fun e w' => e = .returned (.tuple #[]) ∧ Pend w' x who rest T (.swap at_ o v m) ∧ Kept [x] w w' := by
  obtain ⟨⟨who', kd, at0, o0, nw, th, asl, sub, af⟩, h, h1, h2, h3⟩ := h
  simp only at h1 h2 h3
  subst h1 h2 h3
  refine (fswap_run x _ rest T at_ o v _ _ _ w h).mono ?_
  rintro e w1 ⟨rfl, b, h, hb, _, hK⟩
  exact ⟨rfl, ⟨af, b, h, hb⟩, hK⟩
theorem iof_run (h : FlAt w x fl0 rest T) (who : Int) :
    Calls Try.prog 138 #[.pointer (some ⟨x, 0, none⟩), .int .i64 who] w fun e w' => e = .returned (.tuple #[]) ∧ Pend w' x who rest T .done ∧ Kept [x] w w' := by
  refine (fof_run x fl0 rest T who w h).mono ?_
  rintro e w1 ⟨rfl, h, hK⟩
  exact ⟨rfl, ⟨_, h, rfl, rfl, rfl, rfl⟩, hK⟩
theorem pend_done {n : Nx} (h : Pend w x who rest T n) : Calls Try.prog 131 #[.pointer (some ⟨x, 0, none⟩)] w fun e w' => e = .returned (.bool n.over) ∧ w = w' := by
  have key : ∀ f, FlAt w x f rest T → f.sub = .nilIface → f.over = n.over → Calls Try.prog 131 #[.pointer (some ⟨x, 0, none⟩)] w fun e w' => e = .returned (.bool n.over) ∧ w = w' := by
    intro f hf hs ho
    have := fdone_any x f rest T w hf (.inl hs)
    rw [ho] at this
    exact this
  cases n with
  | load a m => rcases h with h | ⟨af, h⟩ <;> exact key _ h rfl rfl
  | add a v m => obtain ⟨af, h⟩ := h; exact key _ h rfl rfl
  | store a v m => obtain ⟨af, b, h, _⟩ := h; exact key _ h rfl rfl
  | swap a o v m => obtain ⟨af, b, h, _⟩ := h; exact key _ h rfl rfl
  | done => obtain ⟨f, h, _, h2, _, h4⟩ := h; exact key _ h h2 (by unfold Fl.over; rw [h2, h4]; rfl)
theorem pend_over {n : Nx} (h : Pend w x who rest T n) : ∃ f', FlAt w x f' rest T ∧ f'.fine ∧ f'.over = n.over := by
  cases n with
  | load a m => rcases h with h | ⟨af, h⟩ <;> exact ⟨_, h, .inl rfl, rfl⟩
  | add a v m => obtain ⟨af, h⟩ := h; exact ⟨_, h, .inl rfl, rfl⟩
  | store a v m => obtain ⟨af, b, h, _⟩ := h; exact ⟨_, h, .inl rfl, rfl⟩
  | swap a o v m => obtain ⟨af, b, h, _⟩ := h; exact ⟨_, h, .inl rfl, rfl⟩
  | done => obtain ⟨f, h, _, h2, _, h4⟩ := h; exact ⟨_, h, .inl h2, by unfold Fl.over; rw [h2, h4]; rfl⟩
end
/-- A machine by its states: what comes, what its other cells hold, what follows an answer. -/
structure Mch (σ : Type) where
  T : TypeId
  nx : σ → Nx
  rest : σ → List Value
  next : σ → Int → σ
  ok : σ → Prop
def Mch.sys {σ : Type} (K : Mch σ) : Rsys σ := ⟨fun st => (K.nx st).want, K.next⟩
/-- The machine in a world, its block from lo on, and its layout. -/
def Mch.at_ {σ : Type} (K : Mch σ) (lo l x : Nat) (p t g who : Int) (w : World) (st : σ) : Prop := Pend w x who (K.rest st) K.T (K.nx st) ∧ lo ≤ x ∧ Lay w l p t g ∧ K.ok st
/-- Its methods do what its states say. -/
structure Goes {σ : Type} (K : Mch σ) (l x : Nat) (p t g who : Int) : Prop where
  own : ∀ T ∈ ownT K.T, T ∉ theirs
  neq : K.T ≠ 1 ∧ K.T ≠ 233 ∧ K.T ≠ 216
  val : ∀ st, K.ok st → 0 ≤ (K.nx st).val ∧ (K.nx st).val < 18446744073709551616
  ok : ∀ st a, K.ok st → 0 ≤ a ∧ a < 18446744073709551616 → K.ok (K.next st a)
  enters : ∀ st, (K.nx st) ≠ .done → ∀ vs w, (callFunc (K.nx st).fn vs).run Try.prog w = .ok (.enter (K.nx st).fn vs) w
  goes : ∀ st a w, K.nx st ≠ .done → K.ok st → 0 ≤ a ∧ a < 18446744073709551616 → Pend w x who (K.rest st) K.T .done → Lay w l p t g → Calls Try.prog (K.nx st).fn ((K.nx st).args x a) w fun e w' => (∃ r, e = .returned r) ∧ Pend w' x who (K.rest (K.next st a)) K.T (K.nx (K.next st a)) ∧ Kept [x] w w'
theorem mach_of {σ : Type} {K : Mch σ} {lo l x : Nat} {p t g who : Int} (h : ∀ T ∈ ownT K.T, T ∉ theirs) : MachOf (K.at_ lo l x p t g who) (ownT K.T) := by
  refine ⟨?_, h⟩
  rintro w w' st S ⟨h1, h2, h3, h4⟩ hK hS
  refine ⟨h1.kept hK hS, h2, h3.kept hK ?_, h4⟩
  intro hi
  exact hS l hi 216 (by simp [ownT]) _ h3.1
section
variable {σ : Type} {K : Mch σ} {lo l x m mg : Nat} {p t g who : Int} {st : σ} {s : St} {w : World}
theorem fl_cleared (who k a o nw : Int) (th af : Value) (rest : List Value) (T : TypeId) (w : World) (h : FlAt w x (Fl.cleared ⟨who, k, a, o, nw, th, false, .nilIface, af⟩) rest T) : Pend w x who rest T .done := ⟨_, h, rfl, rfl, rfl, rfl⟩
/-- A step of the flow. -/
theorem mch_fstep (G : Goes K l x p t g who) (hA : K.at_ lo l x p t g who w st) (hM : MemAt w m mg s) (hc : s.clock < 1000000) (hbd : s.bad < 1000000) :
    Calls Try.prog 130 #[.pointer (some ⟨x, 0, none⟩), .pointer (some ⟨m, 0, none⟩)] w fun e w' => e = .returned (.bool (K.nx (stepOf K.sys who st s).1).over) ∧ K.at_ lo l x p t g who w' (stepOf K.sys who st s).1 ∧ MemAt w' m mg (stepOf K.sys who st s).2 ∧ Kept [x, m, mg] w w' := by
  obtain ⟨h1, h2, h3, h4⟩ := hA
  obtain ⟨cs, hb⟩ := h1.blk
  have n1 : K.T ≠ 164 := fun e => G.own K.T (by simp [ownT]) (by rw [e]; decide)
  have n2 : K.T ≠ 25 := fun e => G.own K.T (by simp [ownT]) (by rw [e]; decide)
  have hxm : x ≠ m := hM.neT hb n1
  have hxg : x ≠ mg := hM.neG hb n2
  have hlx : l ≠ x := Blk.ne h3.1 hb (fun e => G.neq.2.2 e.symm)
  have hlm := hM.neT h3.1 (by decide)
  have hlg := hM.neG h3.1 (by decide)
  have hgo := G.goes st
  have hen := G.enters st
  have hv := G.val st h4
  -- what follows the access, and what is then
  have fin : ∀ (kd ad o nw : Int), (K.sys).want st = some ⟨kd, ad, o, nw, false⟩ → (0 ≤ nw ∧ nw < 18446744073709551616) → K.nx st ≠ .done → ∀ w1, Pend w1 x who (K.rest st) K.T .done → MemAt w1 m mg (s.acc kd who ad o nw).1 → Kept [x, m, mg] w w1 →
      Calls Try.prog (K.nx st).fn ((K.nx st).args x (s.acc kd who ad o nw).2) w1 fun e w' => (∃ r, e = .returned r) ∧ (K.at_ lo l x p t g who w' (stepOf K.sys who st s).1 ∧ MemAt w' m mg (stepOf K.sys who st s).2 ∧ Kept [x, m, mg] w w') := by
    intro kd ad o nw hwt hnw hnd w1 hp1 hM1 hK1
    have hr := (acc_wf hM.wf kd who ad o hnw).2
    rw [stepOf_go hwt rfl]
    refine (hgo _ w1 hnd h4 hr hp1 (h3.kept hK1 (by simp [hlx, hlm, hlg]))).mono ?_
    rintro e w2 ⟨he, hp2, hK2⟩
    refine ⟨he, ⟨hp2, h2, (h3.kept hK1 (by simp [hlx, hlm, hlg])).kept hK2 (by simp [hlx]), G.ok st _ h4 hr⟩, hM1.kept hK2 (by simp; omega) (by simp; omega), hK1.trans hK2 (by intro i hi; simp at hi; subst hi; exact .inl (by simp))⟩
  have ovr : ∀ w', (K.at_ lo l x p t g who w' (stepOf K.sys who st s).1 ∧ MemAt w' m mg (stepOf K.sys who st s).2 ∧ Kept [x, m, mg] w w') → ∃ f' rest', FlAt w' x f' rest' K.T ∧ f'.fine ∧ f'.over = (K.nx (stepOf K.sys who st s).1).over := by
    rintro w' ⟨⟨hp, _⟩, _⟩
    obtain ⟨f', a, b, c⟩ := pend_over hp
    exact ⟨f', _, a, b, c⟩
  cases hnx : K.nx st with
  | load a fn =>
    have hwt : K.sys.want st = some ⟨1, a, 0, 0, false⟩ := by show (K.nx st).want = _; rw [hnx]; rfl
    rw [hnx] at h1 hgo hen fin
    rcases h1 with h1 | ⟨af, h1⟩
    · refine fstep_then _ x m mg _ _ _ s w _ h1 rfl hM hxm hxg ⟨by simp, by simp⟩ hc hbd (by simp) rfl (.inl (by simp)) _ _ _ rfl (hen (by simp)) ?_ ovr
      intro w1 q1 q2 q3
      exact fin 1 a 0 0 hwt ⟨by omega, by omega⟩ (by simp) w1 (fl_cleared _ _ _ _ _ _ _ _ _ _ q1) q2 q3
    · refine fstep_then _ x m mg _ _ _ s w _ h1 rfl hM hxm hxg ⟨by simp, by simp⟩ hc hbd (by simp) rfl (.inl (by simp)) _ _ _ rfl (hen (by simp)) ?_ ovr
      intro w1 q1 q2 q3
      exact fin 1 a 0 0 hwt ⟨by omega, by omega⟩ (by simp) w1 (fl_cleared _ _ _ _ _ _ _ _ _ _ q1) q2 q3
  | add a v fn =>
    have hwt : K.sys.want st = some ⟨4, a, 0, v, false⟩ := by show (K.nx st).want = _; rw [hnx]; rfl
    rw [hnx] at h1 hgo hen fin hv
    obtain ⟨af, h1⟩ := h1
    refine fstep_then _ x m mg _ _ _ s w _ h1 rfl hM hxm hxg hv hc hbd (by simp) rfl (.inl (by simp)) _ _ _ rfl (hen (by simp)) ?_ ovr
    intro w1 q1 q2 q3
    exact fin 4 a 0 v hwt hv (by simp) w1 (fl_cleared _ _ _ _ _ _ _ _ _ _ q1) q2 q3
  | store a v fn =>
    have hwt : K.sys.want st = some ⟨2, a, 0, v, false⟩ := by show (K.nx st).want = _; rw [hnx]; rfl
    rw [hnx] at h1 hgo hen fin hv
    obtain ⟨af, b, h1, hB⟩ := h1
    refine fstep_then _ x m mg _ _ _ s w _ h1 rfl hM hxm hxg hv hc hbd (by simp) rfl (.inl (by simp)) _ _ _ rfl (enters_of Try.func201 (by kernel_rfl) rfl) ?_ ovr
    intro w1 q1 q2 q3
    have hbx : b ∉ [x, m, mg] := by
      have n1 := Blk.ne hB hb (fun e => G.neq.1 e.symm)
      have n2 := hM.neT hB (by decide)
      have n3 := hM.neG hB (by decide)
      simp [n1, n2, n3]
    exact fstore1_run _ b _ _ _ w1 _ (hB.kept q3 hbx) (hen (by simp)) (fin 2 a 0 v hwt hv (by simp) w1 (fl_cleared _ _ _ _ _ _ _ _ _ _ q1) q2 q3)
  | swap a o v fn =>
    have hwt : K.sys.want st = some ⟨3, a, o, v, false⟩ := by show (K.nx st).want = _; rw [hnx]; rfl
    rw [hnx] at h1 hgo hen fin hv
    obtain ⟨af, b, h1, hB⟩ := h1
    refine fstep_then _ x m mg _ _ _ s w _ h1 rfl hM hxm hxg hv hc hbd (by simp) rfl (.inl (by simp)) _ _ _ rfl (enters_of Try.func257 (by kernel_rfl) rfl) ?_ ovr
    intro w1 q1 q2 q3
    have hbx : b ∉ [x, m, mg] := by
      have n1 := Blk.ne hB hb (fun e => G.neq.2.1 e.symm)
      have n2 := hM.neT hB (by decide)
      have n3 := hM.neG hB (by decide)
      simp [n1, n2, n3]
    exact fswap1_run _ b _ _ _ w1 _ (hB.kept q3 hbx) (hen (by simp)) (fin 3 a o v hwt hv (by simp) w1 (fl_cleared _ _ _ _ _ _ _ _ _ _ q1) q2 q3)
  | done =>
    have hwt : K.sys.want st = none := by show (K.nx st).want = _; rw [hnx]; rfl
    have hst : stepOf K.sys who st s = (st, s) := by unfold stepOf; rw [hwt]
    rw [hst]
    rw [hnx] at h1
    obtain ⟨f, hf, q1, q2, q3, q4⟩ := h1
    refine (fstep_done x f _ _ _ w hf q2 q4).mono ?_
    rintro e w' ⟨rfl, rfl⟩
    refine ⟨?_, ⟨?_, h2, h3, h4⟩, hM, Kept.refl _ _⟩
    · simp only [hnx]; rfl
    · rw [hnx]; exact ⟨f, hf, q1, q2, q3, q4⟩
theorem mch_kept (h2 : lo ≤ x) {cs : List Value} (hb : Blk w x cs K.T) {w' : World} (hK : Kept [x, m, mg] w w') : KeptOwn (ownT K.T) lo m mg w w' := by
  refine ⟨_, hK, ?_⟩
  intro i hi
  simp at hi
  rcases hi with rfl | rfl | rfl
  · exact .inr (.inr ⟨h2, _, by simp [ownT], _, hb⟩)
  · exact .inl rfl
  · exact .inr (.inl rfl)
end
theorem mch_over {σ : Type} (K : Mch σ) (st : σ) : (K.nx st).over = (K.sys.want st).isNone := by
  show _ = (K.nx st).want.isNone
  cases K.nx st <;> rfl
theorem mch_wnt {σ : Type} {K : Mch σ} {l x : Nat} {p t g who : Int} (G : Goes K l x p t g who) {st : σ} {W : Wnt} (h : K.sys.want st = some W) (hok : K.ok st) : W.slp = false ∧ (W.kind = 1 ∨ W.kind = 2 ∨ W.kind = 3 ∨ W.kind = 4) ∧ (0 ≤ W.new ∧ W.new < 18446744073709551616) := by
  have hv := G.val st hok
  have h : (K.nx st).want = some W := h
  cases hn : K.nx st <;> rw [hn] at h hv <;> first | (obtain rfl := Option.some.inj h; refine ⟨rfl, by simp, ?_⟩; first | exact hv | simp) | cases h
/-- What is known in the midst of a method's region. -/
structure MI (w0 w : World) (x : Nat) (who : Int) (rest : List Value) (T : TypeId) (l : Nat) (p t g : Int) : Prop where
  pend : Pend w x who rest T .done
  lay : Lay w l p t g
  kept : Kept [x] w0 w
theorem MI.start {w : World} {x : Nat} {who : Int} {rest : List Value} {T : TypeId} {l : Nat} {p t g : Int} (h : Pend w x who rest T .done) (hL : Lay w l p t g) : MI w w x who rest T l p t g := ⟨h, hL, Kept.refl _ _⟩
theorem MI.put {w0 w : World} {x : Nat} {who : Int} {rest : List Value} {T : TypeId} {l : Nat} {p t g : Int} (h : MI w0 w x who rest T l p t g) (hT : T ≠ 216) (i : Nat) (v : Value) : MI w0 (w.setCell ⟨x, i + 9, none⟩ v) x who (rest.set i v) T l p t g := by
  obtain ⟨cs, hb⟩ := h.pend.blk
  exact ⟨h.pend.setD i v, h.lay.kept (S := [x]) ((Kept.refl _ _).set (.inl (by simp)) _) (by have := Blk.ne h.lay.1 hb (Ne.symm hT); simpa using this), h.kept.set (.inl (by simp)) _⟩
theorem MI.drew {w0 w : World} {x : Nat} {who : Int} {rest : List Value} {T : TypeId} {l : Nat} {p t g : Int} (h : MI w0 w x who rest T l p t g) : MI w0 w.drew x who rest T l p t g := ⟨h.pend.quiet (below_drewN (Below.refl _ w) 1), h.lay.quiet (below_drewN (Below.refl _ w) 1), h.kept.drew⟩
theorem MI.quiet {w0 w w' : World} {x : Nat} {who : Int} {rest : List Value} {T : TypeId} {l : Nat} {p t g : Int} (h : MI w0 w x who rest T l p t g) (hb : Below w.heap.size w w') : MI w0 w' x who rest T l p t g := ⟨h.pend.quiet hb, h.lay.quiet hb, h.kept.quiet hb⟩
end Go.Proofs.Ytokpgbocomhpiaa.Mach
