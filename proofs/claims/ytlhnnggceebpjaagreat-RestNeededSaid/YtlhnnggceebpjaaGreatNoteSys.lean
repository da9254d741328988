/- A sleep as a system of states; the document's. -/
import Derived.Test.YtlhnnggceebpjaaGreatBase5
import Derived.Test.YtlhnnggceebpjaaGreatBase4
set_option maxRecDepth 100000
set_option maxHeartbeats 4000000
set_option linter.unusedVariables false
set_option linter.unusedSimpArgs false
namespace Go.Proofs.YtlhnnggceebpjaaGreat.Note
open Go.RowKit Go.Shelf Go.Proofs.YtlhnnggceebpjaaGreat.TK Go.Proofs.YtlhnnggceebpjaaGreat.Flag Go.Proofs.YtlhnnggceebpjaaGreat.Words Go.Proofs.YtlhnnggceebpjaaGreat.Mem Go.Proofs.YtlhnnggceebpjaaGreat.Flow Go.Proofs.YtlhnnggceebpjaaGreat.Layout Go.Proofs.YtlhnnggceebpjaaGreat.Lock Go.Proofs.YtlhnnggceebpjaaGreat.Run Go.Proofs.YtlhnnggceebpjaaGreat.Sys
def slWant (a : Int) : SlSt → Option Wnt
  | .waits f => some ⟨1, a, 0, 0, f⟩
  | .puts => some ⟨2, a, 0, 0, false⟩
  | .done => none
def slNext (st : SlSt) (x : Int) : SlSt :=
  match st with
  | .waits _ => if x = 0 then .waits true else .puts
  | .puts => .done
  | .done => .done
def slSys (a : Int) : Rsys SlSt := ⟨slWant a, slNext⟩
theorem sl_stepOf (a who : Int) (st : SlSt) (s : St) : stepOf (slSys a) who st s = st.step a who s := by
  cases st with
  | waits f =>
    have e : s.acc 5 who a 0 0 = s.acc 1 who a 0 0 := acc5 s 5 who a 0 0 (by omega) (by omega) (by omega)
    by_cases z : (s.acc 1 who a 0 0).2 = 0 <;> by_cases h : (s.peek a).1 = 0 <;> cases f <;> simp [stepOf, slSys, slWant, SlSt.step, slNext, SlSt.asleep, e, z, h]
  | puts => rfl
  | done => rfl
theorem sl_over (a : Int) (st : SlSt) : st.over = ((slSys a).want st).isNone := by cases st <;> rfl
theorem sl_asleep (a : Int) (st : SlSt) (s : St) : st.asleep a s = asleepOf (slSys a) st s := by
  cases st with
  | waits f => cases f <;> simp [SlSt.asleep, asleepOf, slSys, slWant]
  | puts => simp [SlSt.asleep, asleepOf, slSys, slWant]
  | done => simp [SlSt.asleep, asleepOf, slSys, slWant]
def slOwn : List TypeId := [263, 1, 214]
/-- A sleep in a world, its blocks from lo on, and the layout that it is of. -/
def NAt (lo l x : Nat) (p T gs a who : Int) (w : World) (st : SlSt) : Prop := SlAt w x a who st ∧ lo ≤ x ∧ Lay w l p T gs
theorem n_mach (lo l x : Nat) (p T gs a who : Int) : MachOf (NAt lo l x p T gs a who) slOwn := by
  refine ⟨?_, by decide⟩
  rintro w w' st S ⟨h1, h2, h3⟩ hK hS
  obtain ⟨f, hf, _⟩ := h1.fl
  refine ⟨h1.kept hK ?_ ?_, h2, h3.kept hK ?_⟩
  · intro hi
    exact hS x hi 263 (by simp [slOwn]) _ hf
  · intro i hi
    exact hS i hi 1 (by simp [slOwn])
  · intro hi
    exact hS l hi 214 (by simp [slOwn]) _ h3.1
theorem nstep_sys (lo l x m g : Nat) (p T gs a who : Int) (st : SlSt) (s : St) (w : World) (hA : NAt lo l x p T gs a who w st) (hM : MemAt w m g s) (hc : s.clock < 1000000) (hbd : s.bad < 1000000) :
    Calls Tryz.prog 432 #[.pointer (some ⟨x, 0, none⟩), .pointer (some ⟨m, 0, none⟩)] w fun e w' => (∃ b, e = .returned (.bool b)) ∧ NAt lo l x p T gs a who w' (stepOf (slSys a) who st s).1 ∧ MemAt w' m g (stepOf (slSys a) who st s).2 ∧ KeptOwn slOwn lo m g w w' := by
  obtain ⟨h1, h2, h3⟩ := hA
  obtain ⟨f, hf, _⟩ := h1.fl
  rw [sl_stepOf]
  refine (nstep_run x m g a who st s w h1 hM hc hbd).mono ?_
  rintro e w1 ⟨rfl, hA1, hM1, hK1⟩
  have n1 : l ≠ x := Blk.ne h3.1 hf (by decide)
  have n2 := hM.neT h3.1 (by decide)
  have n3 := hM.neG h3.1 (by decide)
  refine ⟨⟨_, rfl⟩, ⟨hA1, h2, h3.kept hK1 (by simp [n1, n2, n3])⟩, hM1, _, hK1, ?_⟩
  intro i hi
  simp at hi
  rcases hi with rfl | rfl | rfl
  · exact .inr (.inr ⟨h2, _, by simp [slOwn], _, hf⟩)
  · exact .inl rfl
  · exact .inr (.inl rfl)
theorem sl_ok (a : Int) (st : SlSt) (W : Wnt) (h : (slSys a).want st = some W) : (W.kind = 1 ∨ W.kind = 2 ∨ W.kind = 3 ∨ W.kind = 4) ∧ (0 ≤ W.new ∧ W.new < 18446744073709551616) := by
  cases st with
  | waits f => obtain rfl := Option.some.inj h; simp
  | puts => obtain rfl := Option.some.inj h; simp
  | done => cases h
theorem rsleep_run (B r : Nat) (v : Value) (b0 : RunSt) (got : List Int) (p T gs t a : Int) (s : SlSt) (w : World) (h : RunAt w B r v b0) (hg : Fits got b0) (hs : b0.stop = false → s = .waits false) (hp : 0 ≤ p ∧ p ≤ 1000) (ht : 0 ≤ t ∧ t < T) (hT : T ≤ 1000) (ha : a = 20 + 264 * p + 3 * t + 0) :
    Calls Tryz.prog 160 #[.pointer (some ⟨r, 0, none⟩), .agg #[.int .i64 p, .int .i64 T, .int .i64 gs], .int .i64 t] w fun e w' => e = .returned (.tuple #[]) ∧ ∃ b s1, RunAt w' B r v b ∧ Kept [r] w w' ∧ Ran (slSys a) got s b0 s1 b ∧ Fits got b ∧ (b.stop = false → (slSys a).want s1 = none) := by
  have H := hid (And.intro h (And.intro hg hs))
  have hbx := Blk.new w [.int .i64 p, .int .i64 T, .int .i64 gs] 23
  have hrl := h.blk.lt
  have HA := hid ha
  have HP := hid (And.intro hp (And.intro ht hT))
  clear h hg hs ha hp ht hT
  go_enter Tryz.func160, Tryz.ntmps160
  go_wp2_with fail
  refine (rthreadat_run p T gs t 0 _ HP.out.1 HP.out.2.1 HP.out.2.2 (by omega)).mono ?_
  rintro e w1 ⟨rfl, hb⟩
  rw [← HA.out]
  have hb1 := Below.then_ (below_one w (.cells #[.int .i64 p, .int .i64 T, .int .i64 gs] 23)) hb
  have hbx1 := hbx.quiet hb
  clear hbx hb
  go_wp2_with fail
  refine (dwait_run (slSys a) .waits s a (fun _ => rfl) (fun _ => rfl) B r v b0 w1 (H.out.1.quiet hb1) H.out.2.1 H.out.2.2).mono ?_
  rintro e w2 ⟨b1, s1, x, rfl, hr1, hk1, hran1, hg1, hon1, hx1, hoff1⟩
  have hbx2 := hbx1.kept hk1 (by simp; omega)
  have c0 := hbx2.cell 0
  have c1 := hbx2.cell 1
  have c2 := hbx2.cell 2
  simp only [List.getElem?_cons_zero, List.getElem?_cons_succ] at c0 c1 c2
  have H1 := hid (And.intro hr1 (And.intro hk1 (And.intro hran1 (And.intro hg1 hon1))))
  clear hr1 hk1 hran1 hg1 hon1 hoff1 hbx1 H
  go_wp2_with fail
  refine (rthreadat_run p T gs t 0 _ HP.out.1 HP.out.2.1 HP.out.2.2 (by omega)).mono ?_
  rintro e w3 ⟨rfl, hb3⟩
  rw [← HA.out]
  obtain ⟨hr1, hk1, hran1, hg1, hon1⟩ := H1.out
  have hw1 : b1.stop = false → (slSys a).want s1 = some ⟨2, a, 0, 0, false⟩ := by
    intro h
    obtain ⟨_, hx, f, rfl⟩ := hon1 h
    show slWant a (slNext (.waits f) x) = _
    unfold slNext
    rw [if_neg hx]
    rfl
  have HQ := hid (And.intro (hr1.quiet hb3) (And.intro hg1 hw1))
  have HK := hid (((Kept.of_below hb1 [r]).trans hk1 (by intro i hi; exact .inl hi)).quiet hb3)
  have HR := hid (And.intro hran1 hw1)
  clear hr1 hk1 hran1 hg1 hon1 hw1 hb3 hb1 hbx2 c0 c1 c2 H1
  go_wp2_with fail
  refine (dstore_run (slSys a) s1 B r v b1 a 0 w3 HQ.out.1 HQ.out.2.1 HQ.out.2.2).mono ?_
  rintro e w4 ⟨rfl, b2, s2, y, hd⟩
  have HD := hid hd
  clear hd
  go_wp2
  go_returns
  refine ⟨rfl, b2, s2, HD.out.run, HK.out.trans HD.out.kept (by intro i hi; exact .inl hi), HR.out.1.trans HD.out.ran, HD.out.good, ?_⟩
  intro h
  obtain ⟨h1, rfl⟩ := HD.out.on h
  have hw := HR.out.2 h1
  cases s1 with
  | waits f => simp [slSys, slWant] at hw
  | puts => rfl
  | done => rfl
end Go.Proofs.YtlhnnggceebpjaaGreat.Note
