/- The walk of WakeWords. -/
import Derived.Test.YtncmajflakkibaaGreatWakerE
set_option maxRecDepth 100000
set_option maxHeartbeats 4000000
set_option linter.unusedVariables false
set_option linter.unusedSimpArgs false
namespace Go.Proofs.YtncmajflakkibaaGreat.Wake
open Go.RowKit Go.Shelf Go.Proofs.YtncmajflakkibaaGreat.TK Go.Proofs.YtncmajflakkibaaGreat.Flag Go.Proofs.YtncmajflakkibaaGreat.Words Go.Proofs.YtncmajflakkibaaGreat.Mem
def gvP (w : Int) : Int := w % 4294967296 - 1
def gvS (w : Int) : Bool := decide (4294967296 ≤ w)
theorem given_run (x : Int) (hx : 0 ≤ x ∧ x < 18446744073709551616) (w : World) : Calls Tryz.prog 23 #[.int .u64 x] w fun e w' => e = .returned (.tuple #[.int .i64 (gvP x), .bool (gvS x)]) ∧ w = w' := by
  have hm : x.tmod 4294967296 = x % 4294967296 := Int.tmod_eq_emod_of_nonneg hx.1
  obtain ⟨k, hk⟩ : ∃ k, k = x % 4294967296 := ⟨_, rfl⟩
  have hk1 : 0 ≤ k ∧ k < 4294967296 := by omega
  rw [← hk] at hm
  have n1 : IntKind.i64.wrap k = k := by rw [IntKind.wrap_i64]; omega
  have n2 : IntKind.i64.wrap (k - 1) = k - 1 := by rw [IntKind.wrap_i64]; omega
  have n3 : wrap64 k = k := by rw [← IntWalk.i64_left]; exact n1
  have n4 : wrap64 (k - 1) = k - 1 := by rw [← IntWalk.i64_left]; exact n2
  have hp : gvP x = k - 1 := by unfold gvP; rw [← hk]
  rw [hp]
  by_cases h : 4294967296 ≤ x
  · have d1 : decide (4294967296 ≤ x) = true := decide_eq_true h
    have hs : gvS x = true := d1
    rw [hs]
    clear hk hk1 hp hs h hx
    go_enter Tryz.func23, Tryz.ntmps23
    go_wp2
    go_ret2
    exact ⟨rfl, rfl⟩
  · have d1 : decide (4294967296 ≤ x) = false := decide_eq_false h
    have hs : gvS x = false := d1
    rw [hs]
    clear hk hk1 hp hs h hx
    go_enter Tryz.func23, Tryz.ntmps23
    go_wp2
    go_ret2
    exact ⟨rfl, rfl⟩
theorem wkw_of (p : Int) (sp : Bool) (h : 0 ≤ p ∧ p ≤ 2147483648) : gvP (wkw p sp) = p ∧ gvS (wkw p sp) = sp := by
  have hu : Idlep.u1 p = p + 1 := by unfold Idlep.u1; rw [IntKind.wrap_u64, IntKind.wrap_u64]; omega
  unfold gvP gvS wkw
  cases sp with
  | true =>
    simp only [if_true]
    rw [hu, IntKind.wrap_u64]
    refine ⟨by omega, decide_eq_true (by omega)⟩
  | false =>
    simp only [Bool.false_eq_true, if_false]
    rw [hu]
    refine ⟨by omega, decide_eq_false (by omega)⟩
theorem words_walk (w : World) (p : Int) (wp : (Lit.int .i64 p).wf = true) (sp : Bool) (x : Int) (wx : (Lit.int .u64 x).wf = true) :
    Calls Tryz.prog 4 #[.int .i64 p, .bool sp, .int .u64 x] w fun e w' => e = .returned (.bool true) ∧ Below w.heap.size w w' := by
  have hx := wf_u64 wx
  have H1 := hid (fun w => given_run x hx w)
  have hm : x.tmod 4294967296 = x % 4294967296 := Int.tmod_eq_emod_of_nonneg hx.1
  obtain ⟨k, hk⟩ : ∃ k, k = x % 4294967296 := ⟨_, rfl⟩
  have hk1 : 0 ≤ k ∧ k < 4294967296 := by omega
  rw [← hk] at hm
  have n1 : IntKind.i64.wrap k = k := by rw [IntKind.wrap_i64]; omega
  have n2 : IntKind.i64.wrap (k - 1) = k - 1 := by rw [IntKind.wrap_i64]; omega
  have n3 : wrap64 k = k := by rw [← IntWalk.i64_left]; exact n1
  have n4 : wrap64 (k - 1) = k - 1 := by rw [← IntWalk.i64_left]; exact n2
  have hp : gvP x = k - 1 := by unfold gvP; rw [← hk]
  rw [hp] at H1
  have hs : gvS x = decide (4294967296 ≤ x) := rfl
  rw [hs] at H1
  have H3 := hid (fun w => word_run2 p sp w)
  have H4 := hid (fun w => rword_run p sp w)
  have H2 := hid (fun w => given_run (wkw p sp) (wkw_range p sp) w)
  have HK := hid (wkw_of p sp)
  obtain ⟨y, hy⟩ : ∃ y, y = wkw p sp := ⟨_, rfl⟩
  rw [← hy] at H2 H3 H4 HK
  obtain ⟨b, hb⟩ : ∃ b, b = decide (4294967296 ≤ x) := ⟨_, rfl⟩
  have hb' := hb.symm
  rw [← hb] at H1
  clear hy hb hs hp hk hk1 hx wx wp
  by_cases g1 : p < 0
  · have d1 : decide (p < 0) = true := decide_eq_true g1
    clear g1 HK
    cases b <;> (
      go_enter Tryz.func4, Tryz.ntmps4
      go_wp2_with fail
      refine (H1.out _).mono ?_
      rintro e w2 ⟨rfl, rfl⟩
      go_wp2_with (first | (go_at_call 24; refine (awake_run _).mono ?_; rintro e w1 ⟨rfl, hb⟩) | (go_at_call 23; refine (H2.out _).mono ?_; rintro e w2 ⟨rfl, rfl⟩) | (go_at_call 25; refine (H3.out _).mono ?_; rintro e w2 ⟨rfl, rfl⟩) | (go_at_call 26; refine (H4.out _).mono ?_; rintro e w2 ⟨rfl, rfl⟩))
      go_ret
      exact ⟨rfl, hb⟩)
  have d1 : decide (p < 0) = false := decide_eq_false g1
  by_cases g2 : 2147483648 < p
  · have d2 : decide (2147483648 < p) = true := decide_eq_true g2
    clear g1 g2 HK
    cases b <;> (
      go_enter Tryz.func4, Tryz.ntmps4
      go_wp2_with fail
      refine (H1.out _).mono ?_
      rintro e w2 ⟨rfl, rfl⟩
      go_wp2_with (first | (go_at_call 24; refine (awake_run _).mono ?_; rintro e w1 ⟨rfl, hb⟩) | (go_at_call 23; refine (H2.out _).mono ?_; rintro e w2 ⟨rfl, rfl⟩) | (go_at_call 25; refine (H3.out _).mono ?_; rintro e w2 ⟨rfl, rfl⟩) | (go_at_call 26; refine (H4.out _).mono ?_; rintro e w2 ⟨rfl, rfl⟩))
      go_ret
      exact ⟨rfl, hb⟩)
  have d2 : decide (2147483648 < p) = false := decide_eq_false g2
  obtain ⟨e1, e2⟩ := HK.out ⟨by omega, by omega⟩
  rw [e1, e2] at H2
  clear e1 e2 g1 g2 HK
  cases sp <;> cases b <;> (
    go_enter Tryz.func4, Tryz.ntmps4
    go_wp2_with fail
    refine (H1.out _).mono ?_
    rintro e w2 ⟨rfl, rfl⟩
    go_wp2_with (first | (go_at_call 24; refine (awake_run _).mono ?_; rintro e w1 ⟨rfl, hb⟩) | (go_at_call 23; refine (H2.out _).mono ?_; rintro e w2 ⟨rfl, rfl⟩) | (go_at_call 25; refine (H3.out _).mono ?_; rintro e w2 ⟨rfl, rfl⟩) | (go_at_call 26; refine (H4.out _).mono ?_; rintro e w2 ⟨rfl, rfl⟩))
    go_ret
    exact ⟨rfl, hb⟩)
end Go.Proofs.YtncmajflakkibaaGreat.Wake
