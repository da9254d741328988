/- The walk of WakeWords. -/
import Derived.Test.YtlhnnggceebpjaaGreatWakerE
set_option maxRecDepth 100000
set_option maxHeartbeats 4000000
set_option linter.unusedVariables false
set_option linter.unusedSimpArgs false
namespace Go.Proofs.YtlhnnggceebpjaaGreat.Wake
open Go.RowKit Go.Shelf Go.Proofs.YtlhnnggceebpjaaGreat.TK Go.Proofs.YtlhnnggceebpjaaGreat.Flag Go.Proofs.YtlhnnggceebpjaaGreat.Words Go.Proofs.YtlhnnggceebpjaaGreat.Mem
def gvP (w : Int) : Int := w % 4294967296 - 1
def gvS (w : Int) : Bool := decide (4294967296 ≤ w)
theorem given_run (x : Int) (hx : 0 ≤ x ∧ x < 18446744073709551616) (w : World) : Calls Tryz.prog 77 #[.int .u64 x] w fun e w' => e = .returned (.tuple #[.int .i64 (gvP x), .bool (gvS x)]) ∧ w = w' := by
  have hm : x.tmod 4294967296 = x % 4294967296 := Int.tmod_eq_emod_of_nonneg hx.1
  obtain ⟨k, hk⟩ : ∃ k, k = x % 4294967296 := ⟨_, rfl⟩
  have hk1 : 0 ≤ k ∧ k < 4294967296 := by omega
  rw [← hk] at hm
  have n1 : IntKind.i64.wrap k = k := by rw [IntKind.wrap_i64]; omega
  have n2 : IntKind.i64.wrap (k - 1) = k - 1 := by rw [IntKind.wrap_i64]; omega
  have n3 : wrap64 k = k := by rw [← IntWalk.i64_left]; exact n1
  have n4 : wrap64 (k - 1) = k - 1 := by rw [← IntWalk.i64_left]; exact n2
  have hp : gvP x = k - 1 := by unfold gvP; rw [← hk]
  rw [hp]
  by_cases h : 4294967296 ≤ x
  · have d1 : decide (4294967296 ≤ x) = true := decide_eq_true h
    have hs : gvS x = true := d1
    rw [hs]
    clear hk hk1 hp hs h hx
    go_enter Tryz.func77, Tryz.ntmps77
    go_wp2
    go_ret2
    exact ⟨rfl, rfl⟩
  · have d1 : decide (4294967296 ≤ x) = false := decide_eq_false h
    have hs : gvS x = false := d1
    rw [hs]
    clear hk hk1 hp hs h hx
    go_enter Tryz.func77, Tryz.ntmps77
    go_wp2
    go_ret2
    exact ⟨rfl, rfl⟩
theorem wkw_of (p : Int) (sp : Bool) (h : 0 ≤ p ∧ p ≤ 2147483648) : gvP (wkw p sp) = p ∧ gvS (wkw p sp) = sp := by
  have hu : Idlep.u1 p = p + 1 := by unfold Idlep.u1; rw [IntKind.wrap_u64, IntKind.wrap_u64]; omega
  unfold gvP gvS wkw
  cases sp with
  | true =>
    simp only [if_true]
    rw [hu, IntKind.wrap_u64]
    refine ⟨by omega, decide_eq_true (by omega)⟩
  | false =>
    simp only [Bool.false_eq_true, if_false]
    rw [hu]
    refine ⟨by omega, decide_eq_false (by omega)⟩
end Go.Proofs.YtlhnnggceebpjaaGreat.Wake
