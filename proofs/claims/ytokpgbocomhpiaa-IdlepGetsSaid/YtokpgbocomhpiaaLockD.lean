/- The locks' example. -/
import Derived.Test.YtokpgbocomhpiaaLockC
set_option maxRecDepth 100000
set_option maxHeartbeats 4000000
set_option linter.unusedVariables false
set_option linter.unusedSimpArgs false
namespace Go.Proofs.Ytokpgbocomhpiaa.Lock
open Go.RowKit Go.Shelf Go.Proofs.Ytokpgbocomhpiaa.TK Go.Proofs.Ytokpgbocomhpiaa.Flag Go.Proofs.Ytokpgbocomhpiaa.Words Go.Proofs.Ytokpgbocomhpiaa.Mem Go.Proofs.Ytokpgbocomhpiaa.Flow Go.Proofs.Ytokpgbocomhpiaa.Layout Go.Proofs.Ytokpgbocomhpiaa.Run
def s0 : St := fresh (layW (lenOf 1 2 1) [])
theorem few121 : FewP 1 2 1 := by unfold FewP Right; omega
theorem ex_run : (AcqSt.ask.step 1 1 s0).1.over = false ∧ ((AcqSt.ask.step 1 1 s0).1.step 1 1 (AcqSt.ask.step 1 1 s0).2).1.over = false
    ∧ (((AcqSt.ask.step 1 1 s0).1.step 1 1 (AcqSt.ask.step 1 1 s0).2).1.step 1 1 ((AcqSt.ask.step 1 1 s0).1.step 1 1 (AcqSt.ask.step 1 1 s0).2).2).1.over = true
    ∧ (((AcqSt.ask.step 1 1 s0).1.step 1 1 (AcqSt.ask.step 1 1 s0).2).1.step 1 1 ((AcqSt.ask.step 1 1 s0).1.step 1 1 (AcqSt.ask.step 1 1 s0).2).2).2.peek 5 = (2, true)
    ∧ s0.clock = 0 ∧ s0.bad = 0 ∧ (AcqSt.ask.step 1 1 s0).2.clock = 1 ∧ (AcqSt.ask.step 1 1 s0).2.bad = 0 ∧ ((AcqSt.ask.step 1 1 s0).1.step 1 1 (AcqSt.ask.step 1 1 s0).2).2.clock = 2 ∧ ((AcqSt.ask.step 1 1 s0).1.step 1 1 (AcqSt.ask.step 1 1 s0).2).2.bad = 0 := by
  refine ⟨?_, ?_, ?_, ?_, ?_, ?_, ?_, ?_, ?_, ?_⟩ <;> decide +kernel
theorem awake_run (w : World) : Calls Try.prog 28 #[] w fun e w' => e = .returned (.bool true) ∧ Below w.heap.size w w' := by
  obtain ⟨e1, e2, e3, e4, e5, e6, e7, e8, e9, e10⟩ := ex_run
  generalize hr1 : AcqSt.ask.step 1 1 s0 = r1 at *
  generalize hr2 : r1.1.step 1 1 r1.2 = r2 at *
  generalize hr3 : r2.1.step 1 1 r2.2 = r3 at *
  have HR1 := hid hr1
  have HR2 := hid hr2
  have HR3 := hid hr3
  have E1 := hid e1
  have E2 := hid e2
  have E3 := hid e3
  have E4 := hid e4
  clear hr1 hr2 hr3 e1 e2 e3 e4
  go_enter Try.func28, Try.ntmps28
  go_wp2_with fail
  refine (lay_yes 1 2 1 none 0 [] _ few121 (by simp) ?_ (by simp)).mono ?_
  · intro i hi; simp at hi
  rintro e w1 ⟨l, m, g, rm, rg, rfl, hL⟩
  have hM := hL.mem
  have hlow := hL.low
  obtain ⟨q1, q2, q3, q4, q5⟩ := hL.low5
  clear hL
  go_wp2_with fail
  refine (acq_new l 1 1 w1).mono ?_
  rintro e w2 ⟨rfl, hA, hb⟩
  replace hM := hM.quiet hb
  have hlow2 := hlow.trans (hb.mono hlow.size)
  have hA : AcqAt w2 w1.heap.size l 1 1 .ask := hA
  have q6 := hlow.size
  generalize w1.heap.size = x at *
  clear hlow hb
  go_wp2_with fail
  refine (astep_run x l m g 1 1 .ask s0 w2 hA hM (by omega) (by omega) (by omega)).mono ?_
  rintro e w3 ⟨rfl, hA3, hM3, hK3⟩
  rw [HR1.out] at hA3 hM3 ⊢
  rw [E1.out]
  go_wp2_with fail
  refine (astep_run x l m g 1 1 _ _ w3 hA3 hM3 (by omega) (by omega) (by omega)).mono ?_
  rintro e w4 ⟨rfl, hA4, hM4, hK4⟩
  rw [HR2.out] at hA4 hM4 ⊢
  rw [E2.out]
  go_wp2_with fail
  refine (astep_run x l m g 1 1 _ _ w4 hA4 hM4 (by omega) (by omega) (by omega)).mono ?_
  rintro e w5 ⟨rfl, hA5, hM5, hK5⟩
  rw [HR3.out] at hA5 hM5 ⊢
  rw [E3.out]
  have hlow5 : Below w.heap.size w w5 := hlow2.trans (((hK3.trans hK4 (by intro i hi; exact .inl hi)).trans hK5 (by intro i hi; exact .inl hi)).below (by simp; omega) hlow2.size)
  go_wp2_with fail
  refine (mpeek_run m g _ 5 w5 hM5).mono ?_
  rintro e w6 ⟨rfl, rfl⟩
  rw [E4.out]
  go_wp2_with fail
  refine (adone_run x l 1 1 _ w5 hA5).mono ?_
  rintro e w6 ⟨rfl, rfl⟩
  rw [E3.out]
  go_wp2
  go_ret
  exact ⟨rfl, hlow5⟩
end Go.Proofs.Ytokpgbocomhpiaa.Lock
