/- Contracts of the layout: the words of processors, rings, threads, goroutines, locks. -/
import Derived.Test.YtokpgbocomhpiaaLayout
set_option maxRecDepth 100000
set_option linter.unusedVariables false
set_option linter.unusedSimpArgs false
namespace Go.Proofs.Ytokpgbocomhpiaa.Layout
open Go.RowKit Go.Proofs.Ytokpgbocomhpiaa.TK

theorem cfg_field0 (a b c : Int) (w : World) : (Instr.field 36 (.agg #[.int .i64 a, .int .i64 b, .int .i64 c]) 0).run Try.prog w = .ok (.int .i64 a) w := by kernel_rfl
theorem cfg_field1 (a b c : Int) (w : World) : (Instr.field 36 (.agg #[.int .i64 a, .int .i64 b, .int .i64 c]) 1).run Try.prog w = .ok (.int .i64 b) w := by kernel_rfl
theorem cfg_field2 (a b c : Int) (w : World) : (Instr.field 36 (.agg #[.int .i64 a, .int .i64 b, .int .i64 c]) 2).run Try.prog w = .ok (.int .i64 c) w := by kernel_rfl

theorem proc_run (l : Nat) (p t g : Int) (n field : Int) (w : World) (h : Lay w l p t g) :
    Calls Try.prog 165 #[.pointer (some ⟨l, 0, none⟩), .int .i64 n, .int .i64 field] w fun e w' => e = .returned (.int .i64 (placeN true 20 n p 264 field 8)) ∧ Below w.heap.size w w' := by
  have hR := h.2
  unfold Right at hR
  have hf0 := cfg_field0
  go_enter Try.func165, Try.ntmps165
  go_wp2_with (first | (go_at_call 171; refine (config_run _ p t g _ h).mono ?_; rintro e w1 ⟨rfl, hb⟩) | (go_at_call 199; refine (place_run _ _ _ _ _ _ _ _ (by omega) (by omega) (by omega) (by omega) (by omega) (by omega)).mono ?_; rintro e w2 ⟨rfl, rfl⟩))
  go_ret
  exact ⟨rfl, hb⟩
theorem proc_nil (n field : Int) (w : World) :
    Calls Try.prog 165 #[.pointer none, .int .i64 n, .int .i64 field] w fun e w' => e = .returned (.int .i64 (-1)) ∧ Below w.heap.size w w' := by
  have hf0 := cfg_field0
  go_enter Try.func165, Try.ntmps165
  go_wp2_with (first | (go_at_call 171; refine (config_nil _).mono ?_; rintro e w1 ⟨rfl, hb⟩) | (go_at_call 199; refine (place_run _ _ _ _ _ _ _ _ (by omega) (by omega) (by omega) (by omega) (by omega) (by omega)).mono ?_; rintro e w2 ⟨rfl, rfl⟩))
  go_ret
  exact ⟨rfl, hb⟩

theorem ring_run (l : Nat) (p t g : Int) (n i : Int) (hi : 0 ≤ i ∧ i < 18446744073709551616) (w : World) (h : Lay w l p t g) :
    Calls Try.prog 185 #[.pointer (some ⟨l, 0, none⟩), .int .i64 n, .int .u64 i] w fun e w' => e = .returned (.int .i64 (placeN true 28 n p 264 (i % 256) 256)) ∧ Below w.heap.size w w' := by
  have hR := h.2
  unfold Right at hR
  have hi0 : 0 ≤ i := hi.1
  have hm : i.tmod 256 = i % 256 := Int.tmod_eq_emod_of_nonneg hi.1
  have hm2 : 0 ≤ i % 256 ∧ i % 256 < 256 := by omega
  have hf0 := cfg_field0
  go_enter Try.func185, Try.ntmps185
  go_wp2_with (first | (go_at_call 171; refine (config_run _ p t g _ h).mono ?_; rintro e w1 ⟨rfl, hb⟩) | (go_at_call 199; refine (place_run _ _ _ _ _ _ _ _ (by omega) (by omega) (by omega) (by omega) (by omega) (by omega)).mono ?_; rintro e w2 ⟨rfl, rfl⟩))
  go_ret
  exact ⟨rfl, hb⟩
theorem ring_nil (n i : Int) (hi : 0 ≤ i ∧ i < 18446744073709551616) (w : World) :
    Calls Try.prog 185 #[.pointer none, .int .i64 n, .int .u64 i] w fun e w' => e = .returned (.int .i64 (-1)) ∧ Below w.heap.size w w' := by
  have hi0 : 0 ≤ i := hi.1
  have hm : i.tmod 256 = i % 256 := Int.tmod_eq_emod_of_nonneg hi.1
  have hm2 : 0 ≤ i % 256 ∧ i % 256 < 256 := by omega
  have hf0 := cfg_field0
  go_enter Try.func185, Try.ntmps185
  go_wp2_with (first | (go_at_call 171; refine (config_nil _).mono ?_; rintro e w1 ⟨rfl, hb⟩) | (go_at_call 199; refine (place_run _ _ _ _ _ _ _ _ (by omega) (by omega) (by omega) (by omega) (by omega) (by omega)).mono ?_; rintro e w2 ⟨rfl, rfl⟩))
  go_ret
  exact ⟨rfl, hb⟩

theorem thread_run (l : Nat) (p t g : Int) (n field : Int) (w : World) (h : Lay w l p t g) :
    Calls Try.prog 137 #[.pointer (some ⟨l, 0, none⟩), .int .i64 n, .int .i64 field] w fun e w' => e = .returned (.int .i64 (placeN true (20 + p * 264) n t 3 field 3)) ∧ Below w.heap.size w w' := by
  have hR := h.2
  unfold Right at hR
  have hc1 := h.1.cell 1
  have hc2 := h.1.cell 2
  have hc3 := h.1.cell 3
  have hc4 := h.1.cell 4
  simp only [layCells, List.getElem?_cons_zero, List.getElem?_cons_succ] at hc1 hc2 hc3 hc4
  clear h
  go_enter Try.func137, Try.ntmps137
  go_wp2_with (first | (go_at_call 199; refine (place_run _ _ _ _ _ _ _ _ (by omega) (by omega) (by omega) (by omega) (by omega) (by omega)).mono ?_; rintro e w2 ⟨rfl, rfl⟩))
  repeat (go_quiet ((go_at_call 199; exact quiet_same (place_run _ _ _ _ _ _ _ _ (by omega) (by omega) (by omega) (by omega) (by omega) (by omega)))); go_wp2)
  go_ret
  exact ⟨rfl, by first | exact Below.refl _ _ | exact below_drewN (Below.refl _ _) _⟩
theorem thread_nil (n field : Int) (w : World) :
    Calls Try.prog 137 #[.pointer none, .int .i64 n, .int .i64 field] w fun e w' => e = .returned (.int .i64 (-1)) ∧ Below w.heap.size w w' := by
  go_enter Try.func137, Try.ntmps137
  go_wp2
  go_ret
  exact ⟨rfl, Below.refl _ _⟩

theorem g_run (l : Nat) (p t g : Int) (n field : Int) (w : World) (h : Lay w l p t g) :
    Calls Try.prog 183 #[.pointer (some ⟨l, 0, none⟩), .int .i64 n, .int .i64 field] w fun e w' => e = .returned (.int .i64 (placeN true (20 + p * 264 + t * 3) n g 2 field 2)) ∧ Below w.heap.size w w' := by
  have hR := h.2
  unfold Right at hR
  have hc1 := h.1.cell 1
  have hc2 := h.1.cell 2
  have hc3 := h.1.cell 3
  have hc4 := h.1.cell 4
  simp only [layCells, List.getElem?_cons_zero, List.getElem?_cons_succ] at hc1 hc2 hc3 hc4
  clear h
  go_enter Try.func183, Try.ntmps183
  go_wp2_with (first | (go_at_call 199; refine (place_run _ _ _ _ _ _ _ _ (by omega) (by omega) (by omega) (by omega) (by omega) (by omega)).mono ?_; rintro e w2 ⟨rfl, rfl⟩))
  repeat (go_quiet ((go_at_call 199; exact quiet_same (place_run _ _ _ _ _ _ _ _ (by omega) (by omega) (by omega) (by omega) (by omega) (by omega)))); go_wp2)
  go_ret
  exact ⟨rfl, by first | exact Below.refl _ _ | exact below_drewN (Below.refl _ _) _⟩
theorem g_nil (n field : Int) (w : World) :
    Calls Try.prog 183 #[.pointer none, .int .i64 n, .int .i64 field] w fun e w' => e = .returned (.int .i64 (-1)) ∧ Below w.heap.size w w' := by
  go_enter Try.func183, Try.ntmps183
  go_wp2
  go_ret
  exact ⟨rfl, Below.refl _ _⟩

/-- One of the scheduler's words. -/
def wordN (k : Int) : Int := if 6 ≤ k ∧ k ≤ 19 then k else -1
theorem word_run (l : Nat) (p t g : Int) (k : Int) (w : World) :
    Calls Try.prog 168 #[.pointer (some ⟨l, 0, none⟩), .int .i64 k] w fun e w' => e = .returned (.int .i64 (wordN k)) ∧ w = w' := by
  go_enter Try.func168, Try.ntmps168
  go_wp2
  all_goals (go_ret; exact ⟨ret_int (by unfold wordN; first | exact (if_pos (by omega)).symm | exact (if_neg (by omega)).symm), rfl⟩)
theorem word_nil (k : Int) (w : World) :
    Calls Try.prog 168 #[.pointer none, .int .i64 k] w fun e w' => e = .returned (.int .i64 (-1)) ∧ w = w' := by
  go_enter Try.func168, Try.ntmps168
  go_wp2
  go_ret
  exact ⟨rfl, rfl⟩

theorem ticket_run (l : Nat) (n : Int) (w : World) :
    Calls Try.prog 147 #[.pointer (some ⟨l, 0, none⟩), .int .i64 n] w fun e w' => e = .returned (.int .i64 (placeN true 0 n 2 3 0 3)) ∧ w = w' := by
  go_enter Try.func147, Try.ntmps147
  go_wp2_with (first | (go_at_call 199; refine (place_run _ _ _ _ _ _ _ _ (by omega) (by omega) (by omega) (by omega) (by omega) (by omega)).mono ?_; rintro e w2 ⟨rfl, rfl⟩))
  go_ret
  exact ⟨rfl, rfl⟩
theorem ticket_nil (n : Int) (w : World) :
    Calls Try.prog 147 #[.pointer none, .int .i64 n] w fun e w' => e = .returned (.int .i64 (-1)) ∧ w = w' := by
  go_enter Try.func147, Try.ntmps147
  go_wp2_with (first | (go_at_call 199; refine (place_run _ _ _ _ _ _ _ _ (by omega) (by omega) (by omega) (by omega) (by omega) (by omega)).mono ?_; rintro e w2 ⟨rfl, rfl⟩))
  go_ret
  exact ⟨rfl, rfl⟩

theorem serving_run (l : Nat) (n : Int) (w : World) :
    Calls Try.prog 202 #[.pointer (some ⟨l, 0, none⟩), .int .i64 n] w fun e w' => e = .returned (.int .i64 (placeN true 0 n 2 3 1 3)) ∧ w = w' := by
  go_enter Try.func202, Try.ntmps202
  go_wp2_with (first | (go_at_call 199; refine (place_run _ _ _ _ _ _ _ _ (by omega) (by omega) (by omega) (by omega) (by omega) (by omega)).mono ?_; rintro e w2 ⟨rfl, rfl⟩))
  go_ret
  exact ⟨rfl, rfl⟩
theorem serving_nil (n : Int) (w : World) :
    Calls Try.prog 202 #[.pointer none, .int .i64 n] w fun e w' => e = .returned (.int .i64 (-1)) ∧ w = w' := by
  go_enter Try.func202, Try.ntmps202
  go_wp2_with (first | (go_at_call 199; refine (place_run _ _ _ _ _ _ _ _ (by omega) (by omega) (by omega) (by omega) (by omega) (by omega)).mono ?_; rintro e w2 ⟨rfl, rfl⟩))
  go_ret
  exact ⟨rfl, rfl⟩

theorem owner_run (l : Nat) (n : Int) (w : World) :
    Calls Try.prog 149 #[.pointer (some ⟨l, 0, none⟩), .int .i64 n] w fun e w' => e = .returned (.int .i64 (placeN true 0 n 2 3 2 3)) ∧ w = w' := by
  go_enter Try.func149, Try.ntmps149
  go_wp2_with (first | (go_at_call 199; refine (place_run _ _ _ _ _ _ _ _ (by omega) (by omega) (by omega) (by omega) (by omega) (by omega)).mono ?_; rintro e w2 ⟨rfl, rfl⟩))
  go_ret
  exact ⟨rfl, rfl⟩
theorem owner_nil (n : Int) (w : World) :
    Calls Try.prog 149 #[.pointer none, .int .i64 n] w fun e w' => e = .returned (.int .i64 (-1)) ∧ w = w' := by
  go_enter Try.func149, Try.ntmps149
  go_wp2_with (first | (go_at_call 199; refine (place_run _ _ _ _ _ _ _ _ (by omega) (by omega) (by omega) (by omega) (by omega) (by omega)).mono ?_; rintro e w2 ⟨rfl, rfl⟩))
  go_ret
  exact ⟨rfl, rfl⟩
end Go.Proofs.Ytokpgbocomhpiaa.Layout
