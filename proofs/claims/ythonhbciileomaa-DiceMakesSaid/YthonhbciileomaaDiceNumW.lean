/- The walk of DiceNumbers. -/
import Derived.Test.YthonhbciileomaaDice
set_option maxRecDepth 100000
set_option linter.unusedVariables false
set_option linter.unusedSimpArgs false
namespace Go.Proofs.Ythonhbciileomaa.Dice
open Go.RowKit Go.Proofs.Ythonhbciileomaa.TK Go.Proofs.Ythonhbciileomaa.Flag

theorem mix_one : mix (nx 0) = 16294208416658607535 := by decide +kernel

theorem awake_run (w : World) : Calls Try.prog 4 #[] w fun e w' => e = .returned (.bool true) ∧ Below w.heap.size w w' := by
  have hm : (mix (nx 0) == 16294208416658607535) = true := by rw [mix_one]; rfl
  go_enter Try.func4, Try.ntmps4
  go_wp2_with (first | (go_at_call 5; refine (new_run _ _).mono ?_; rintro e w' ⟨rfl, rfl⟩) | (go_at_call 16; refine (next_run _ 0 _ (Blk.new _ _ _)).mono ?_; rintro e w' ⟨rfl, rfl⟩))
  go_ret
  exact ⟨rfl, (Below.refl _ _).alloc (Nat.le_refl _) _⟩

/-- The worlds of the round's test: whether the first dice, and the second, have told their number. -/
def NumD (w : World) (a0 : Int) (m : Nat) (x : Addr) (k : Nat) (n : Int) (bs : List Bool) (w' : World) : Prop :=
  Blk w' w.heap.size [.int .u64 (if bs.getD 0 false then nx (stt a0 m) else stt a0 m)] 48 ∧ Blk w' (w.heap.size + 1) [.int .u64 (if bs.getD 1 false then nx (stt a0 m) else stt a0 m)] 48 ∧
  Blk w' (w.heap.size + 1 + 1) [.int .u64 a0, .int .i64 ((m : Int) + 1)] 30 ∧ Below w.heap.size w w' ∧ w'.cell? (x.add k) = some (.int .i64 n)
end Go.Proofs.Ythonhbciileomaa.Dice
