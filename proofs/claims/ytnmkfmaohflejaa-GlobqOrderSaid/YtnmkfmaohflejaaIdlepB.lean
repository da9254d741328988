/- The document's list of processors. -/
import Derived.Test.YtnmkfmaohflejaaListPR
import Derived.Test.YtnmkfmaohflejaaBase5
set_option maxRecDepth 100000
set_option maxHeartbeats 4000000
set_option linter.unusedVariables false
set_option linter.unusedSimpArgs false
namespace Go.Proofs.Ytnmkfmaohflejaa.Idlep
open Go.RowKit Go.Shelf Go.Proofs.Ytnmkfmaohflejaa.TK Go.Proofs.Ytnmkfmaohflejaa.Flag Go.Proofs.Ytnmkfmaohflejaa.Read Go.Proofs.Ytnmkfmaohflejaa.Grow Go.Proofs.Ytnmkfmaohflejaa.Words Go.Proofs.Ytnmkfmaohflejaa.Mem Go.Proofs.Ytnmkfmaohflejaa.Flow Go.Proofs.Ytnmkfmaohflejaa.Layout Go.Proofs.Ytnmkfmaohflejaa.Lock Go.Proofs.Ytnmkfmaohflejaa.Run Go.Proofs.Ytnmkfmaohflejaa.Sys Go.Proofs.Ytnmkfmaohflejaa.Mach Go.Proofs.Ytnmkfmaohflejaa.Doc Go.Proofs.Ytnmkfmaohflejaa.Ref05 Go.Proofs.Ytnmkfmaohflejaa.Bits Go.Proofs.Ytnmkfmaohflejaa.MapL
theorem w10 : wordN 10 = 10 := by decide
theorem w19 : wordN 19 = 19 := by decide
theorem rbit_run (p : Int) (w : World) : Calls Try.prog 35 #[.int .i64 p] w fun e w' => e = .returned (.int .u64 (bitOf p)) ∧ w = w' := by
  by_cases h1 : p < 0
  · have d1 : decide (p < 0) = true := decide_eq_true h1
    have HB := hid (show bitOf p = 0 by unfold bitOf; rw [if_neg (by omega)])
    rw [HB.out]
    go_enter Try.func35, Try.ntmps35
    go_wp2
    go_ret
    exact ⟨rfl, rfl⟩
  have d1 : decide (p < 0) = false := decide_eq_false h1
  by_cases h2 : 63 < p
  · have d2 : decide (63 < p) = true := decide_eq_true h2
    have HB := hid (show bitOf p = 0 by unfold bitOf; rw [if_neg (by omega)])
    rw [HB.out]
    go_enter Try.func35, Try.ntmps35
    go_wp2
    go_ret
    exact ⟨rfl, rfl⟩
  have d2 : decide (63 < p) = false := decide_eq_false h2
  obtain ⟨k, rfl⟩ : ∃ k : Nat, p = (k : Int) := ⟨p.toNat, by omega⟩
  have HB := hid (show bitOf (k : Int) = ((2 ^ k : Nat) : Int) by unfold bitOf; rw [if_pos (by omega)]; simp)
  rw [HB.out]
  go_enter Try.func35, Try.ntmps35
  go_wp2_with fail
  go_loopw [4, 3] (fun i o wr => ∃ j : Nat, j ≤ k ∧ i = .int .i64 (j : Int) ∧ o = .int .u64 ((2 ^ j : Nat) : Int) ∧ w = wr) (fun i _ _ => k - (intOf i).toNat)
  case atStart => exact ⟨0, by omega, rfl, rfl, rfl⟩
  case round =>
    obtain ⟨j, hj, rfl, rfl, rfl⟩ := hrel
    by_cases hlt : j < k
    · have hlt' : decide ((j : Int) < (k : Int)) = true := decide_eq_true (by omega)
      have hb : 2 ^ (j + 1) ≤ 2 ^ 63 := Nat.pow_le_pow_right (by omega) (by omega)
      have hs : 2 ^ (j + 1) = 2 * 2 ^ j := by rw [Nat.pow_succ, Nat.mul_comm]
      obtain ⟨m, hm⟩ : ∃ m, m = 2 ^ j := ⟨_, rfl⟩
      rw [← hm] at hs ⊢
      have hw : IntKind.u64.wrap (2 * (m : Int)) = 2 * (m : Int) := by rw [IntKind.wrap_u64]; omega
      have HM := hid hs
      clear hm hb hs
      go_wp2_with fail
      go_roundw
      case rel => exact ⟨j + 1, by omega, by go_num, by rw [HM.out]; first | rfl | (congr 1; push_cast; rfl) | simp, by first | trivial | rfl⟩
      case measure => simp [intOf]; omega
    · obtain rfl : j = k := by omega
      have hlt' : decide ((j : Int) < (j : Int)) = false := decide_eq_false (by omega)
      go_wp2
      go_ret
      exact ⟨rfl, rfl⟩
theorem setB_no {x p : Int} (hx : 0 ≤ x ∧ x < 18446744073709551616) (h : hasB x p = false) : setB x p = x + bitOf p ∧ x + bitOf p < 18446744073709551616 := by
  have h2 := setB_range x p hx
  have h1 : setB x p = x + bitOf p := by unfold setB; rw [h]; rfl
  rw [h1] at h2
  exact ⟨h1, h2.2⟩
theorem delB_yes {x p : Int} (hx : 0 ≤ x ∧ x < 18446744073709551616) (h : hasB x p = true) : delB x p = x - bitOf p ∧ 0 ≤ x - bitOf p := by
  have h2 := delB_range x p hx
  have h1 : delB x p = x - bitOf p := by unfold delB; rw [h]; rfl
  rw [h1] at h2
  exact ⟨h1, h2.1⟩
end Go.Proofs.Ytnmkfmaohflejaa.Idlep
