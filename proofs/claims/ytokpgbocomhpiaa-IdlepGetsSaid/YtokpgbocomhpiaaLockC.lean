/- Acquiring a lock: what is called from outside. -/
import Derived.Test.YtokpgbocomhpiaaLockB
import Derived.Test.YtokpgbocomhpiaaGround
set_option maxRecDepth 100000
set_option maxHeartbeats 4000000
set_option linter.unusedVariables false
set_option linter.unusedSimpArgs false
namespace Go.Proofs.Ytokpgbocomhpiaa.Lock
open Go.RowKit Go.Shelf Go.Proofs.Ytokpgbocomhpiaa.TK Go.Proofs.Ytokpgbocomhpiaa.Flag Go.Proofs.Ytokpgbocomhpiaa.Words Go.Proofs.Ytokpgbocomhpiaa.Mem Go.Proofs.Ytokpgbocomhpiaa.Flow Go.Proofs.Ytokpgbocomhpiaa.Layout
theorem astep_nil (m : Option Addr) (w : World) : Calls Try.prog 25 #[.pointer none, .pointer m] w fun e w' => e = .returned (.bool true) ∧ w = w' := by
  go_enter Try.func25, Try.ntmps25
  go_wp2
  go_ret
  exact ⟨rfl, rfl⟩
theorem adone_nil (w : World) : Calls Try.prog 29 #[.pointer none] w fun e w' => e = .returned (.bool true) ∧ w = w' := by
  go_enter Try.func29, Try.ntmps29
  go_wp2
  go_ret
  exact ⟨rfl, rfl⟩
theorem aturn_nil (w : World) : Calls Try.prog 27 #[.pointer none] w fun e w' => e = .returned (.tuple #[.int .u64 0, .bool false]) ∧ w = w' := by
  go_enter Try.func27, Try.ntmps27
  go_wp2
  go_ret2
  exact ⟨rfl, rfl⟩
theorem rlstep_nil (m : Option Addr) (w : World) : Calls Try.prog 26 #[.pointer none, .pointer m] w fun e w' => e = .returned (.bool true) ∧ w = w' := by
  go_enter Try.func26, Try.ntmps26
  go_wp2
  go_ret
  exact ⟨rfl, rfl⟩
theorem rldone_nil (w : World) : Calls Try.prog 30 #[.pointer none] w fun e w' => e = .returned (.bool true) ∧ w = w' := by
  go_enter Try.func30, Try.ntmps30
  go_wp2
  go_ret
  exact ⟨rfl, rfl⟩
theorem astep_run (x l m g : Nat) (k who : Int) (st : AcqSt) (s : St) (w : World) (hA : AcqAt w x l k who st) (hM : MemAt w m g s) (hw : 0 ≤ who ∧ who ≤ 1000) (hc : s.clock < 1000000) (hbd : s.bad < 1000000) :
    Calls Try.prog 25 #[.pointer (some ⟨x, 0, none⟩), .pointer (some ⟨m, 0, none⟩)] w fun e w' => e = .returned (.bool (st.step k who s).1.over) ∧ AcqAt w' x l k who (st.step k who s).1 ∧ MemAt w' m g (st.step k who s).2 ∧ Kept [x, m, g] w w' := by
  have H := hid (acq_fstep x l m g k who st s w hA hM hw hc hbd)
  generalize st.step k who s = r at H ⊢
  clear hA hM
  go_enter Try.func25, Try.ntmps25
  go_wp2_with fail
  refine H.out.mono ?_
  rintro e w1 ⟨rfl, h1, h2, h3⟩
  go_wp2
  go_ret
  exact ⟨rfl, h1, h2, h3⟩
theorem adone_run (x l : Nat) (k who : Int) (st : AcqSt) (w : World) (hA : AcqAt w x l k who st) :
    Calls Try.prog 29 #[.pointer (some ⟨x, 0, none⟩)] w fun e w' => e = .returned (.bool st.over) ∧ w = w' := by
  obtain ⟨f, hF, _, ho, hf⟩ := hA.fl
  have H := fdone_any x f _ _ w hF hf
  rw [ho] at H
  have H := hid H
  clear hA hF ho hf
  go_enter Try.func29, Try.ntmps29
  go_wp2_with fail
  refine H.out.mono ?_
  rintro e w1 ⟨rfl, rfl⟩
  go_wp2
  go_ret
  exact ⟨rfl, rfl⟩
theorem aturn_run (x l : Nat) (k who : Int) (st : AcqSt) (w : World) (hA : AcqAt w x l k who st) :
    Calls Try.prog 27 #[.pointer (some ⟨x, 0, none⟩)] w fun e w' => e = .returned (.tuple #[.int .u64 st.turn, .bool st.known]) ∧ Below w.heap.size w w' := by
  obtain ⟨f, hF, _, ho, hf⟩ := hA.fl
  have c0 := Blk.cell hF 11
  have c1 := Blk.cell hF 12
  simp only [fl, acqR, List.cons_append, List.nil_append, List.getElem?_cons_zero, List.getElem?_cons_succ] at c0 c1
  clear hA hF ho hf
  go_enter Try.func27, Try.ntmps27
  go_wp2_with fail
  go_quiet (fail)
  go_wp2
  go_ret2
  exact ⟨rfl, below_drewN (Below.refl _ _) nq⟩
end Go.Proofs.Ytokpgbocomhpiaa.Lock
