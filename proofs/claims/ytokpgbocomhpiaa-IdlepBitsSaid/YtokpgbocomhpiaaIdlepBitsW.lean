/- The walk of IdlepBits. -/
import Derived.Test.YtokpgbocomhpiaaIdlepD
set_option maxRecDepth 100000
set_option maxHeartbeats 4000000
set_option linter.unusedVariables false
set_option linter.unusedSimpArgs false
namespace Go.Proofs.Ytokpgbocomhpiaa.Idlep
open Go.RowKit Go.Shelf Go.Proofs.Ytokpgbocomhpiaa.TK Go.Proofs.Ytokpgbocomhpiaa.Flag Go.Proofs.Ytokpgbocomhpiaa.Bits
theorem bits_walk (w : World) (x : Int) (wx : (Lit.int .u64 x).wf = true) (p : Int) (wp : (Lit.int .i64 p).wf = true) :
    Calls Try.prog 13 #[.int .u64 x, .int .i64 p] w fun e w' => e = .returned (.bool true) ∧ Below w.heap.size w w' := by
  have hx := hid (wf_u64 wx)
  have H1 := hid (fun w => bit_run p w)
  have H2 := hid (fun w => rbit_run p w)
  have H3 := hid (fun w => masked_run x p w hx.out)
  have H4 := hid (fun w => rmasked_run x p w hx.out)
  obtain ⟨b, hb⟩ : ∃ b, b = bitOf p := ⟨_, rfl⟩
  obtain ⟨q, hq⟩ : ∃ q, q = hasB x p := ⟨_, rfl⟩
  rw [← hb] at H1 H2
  rw [← hq] at H3 H4
  clear hb hq wx wp
  cases q <;> (
    go_enter Try.func13, Try.ntmps13
    go_wp2_with (first | (go_at_call 73; refine (awake_run _).mono ?_; rintro e w1 ⟨rfl, hb⟩) | (go_at_call 74; refine (H1.out _).mono ?_; rintro e w2 ⟨rfl, rfl⟩) | (go_at_call 75; refine (H2.out _).mono ?_; rintro e w2 ⟨rfl, rfl⟩) | (go_at_call 76; refine (H3.out _).mono ?_; rintro e w2 ⟨rfl, rfl⟩) | (go_at_call 77; refine (H4.out _).mono ?_; rintro e w2 ⟨rfl, rfl⟩))
    go_ret
    exact ⟨rfl, hb⟩)
end Go.Proofs.Ytokpgbocomhpiaa.Idlep
