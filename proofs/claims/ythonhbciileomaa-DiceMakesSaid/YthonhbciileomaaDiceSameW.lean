/- The walk of DiceSame. -/
import Derived.Test.YthonhbciileomaaScriptB
import Derived.Test.YthonhbciileomaaDiceNumW
import Derived.Deep.RegionHeld3
set_option maxRecDepth 100000
set_option maxHeartbeats 4000000
set_option linter.unusedVariables false
set_option linter.unusedSimpArgs false
namespace Go.Proofs.Ythonhbciileomaa.Dice
open Go.RowKit Go.Proofs.Ythonhbciileomaa.TK Go.Proofs.Ythonhbciileomaa.Flag Go.Proofs.Ythonhbciileomaa.Read Go.Proofs.Ythonhbciileomaa.Grow

theorem dnext_run (g : Nat) (a0 : Int) (m : Nat) (w : World) (hb : DiceAt w g a0 m) :
    Calls Try.prog 16 #[.pointer (some ⟨g, 0, none⟩)] w fun e w' => e = .returned (.int .u64 (mix (stt a0 (m + 1)))) ∧ DiceAt w' g a0 (m + 1) ∧ Kept [g] w w' := by
  refine (next_run g (stt a0 m) w hb).mono ?_
  rintro e w' ⟨rfl, rfl⟩
  exact ⟨rfl, Blk.set hb 0 _, (Kept.refl [g] w).set (.inl (by simp)) _⟩
theorem dbelow_nil (n : Int) (w : World) : Calls Try.prog 18 #[.pointer none, .int .i64 n] w fun e w' => e = .returned (.int .i64 0) ∧ w = w' := by
  go_enter Try.func18, Try.ntmps18
  go_wp2
  go_ret
  exact ⟨rfl, rfl⟩
theorem dprograms_nil (n : Int) (w : World) : Calls Try.prog 11 #[.pointer none, .int .i64 n] w fun e w' => e = .returned (.slice none 0 0) ∧ w = w' := by
  go_enter Try.func11, Try.ntmps11
  go_wp2
  go_ret
  exact ⟨rfl, rfl⟩
theorem ddraws_nil (n : Int) (w : World) : Calls Try.prog 15 #[.pointer none, .int .i64 n] w fun e w' => e = .returned (.slice none 0 0) ∧ w = w' := by
  go_enter Try.func15, Try.ntmps15
  go_wp2
  go_ret
  exact ⟨rfl, rfl⟩
theorem dscript_nil (p t g n : Int) (w : World) : Calls Try.prog 8 #[.pointer none, .agg #[.int .i64 p, .int .i64 t, .int .i64 g], .int .i64 n] w fun e w' => e = .returned (.slice none 0 0) ∧ Below w.heap.size w w' := by
  go_enter Try.func8, Try.ntmps8
  go_wp2
  go_ret
  exact ⟨rfl, below_one _ _⟩
theorem dscript_no (dd : Nat) (p t g n : Int) (w : World) (h : t < 1 ∨ 256 < t) : Calls Try.prog 8 #[.pointer (some ⟨dd, 0, none⟩), .agg #[.int .i64 p, .int .i64 t, .int .i64 g], .int .i64 n] w fun e w' => e = .returned (.slice none 0 0) ∧ Below w.heap.size w w' := by
  rcases h with h | h
  · go_enter Try.func8, Try.ntmps8
    go_wp2
    go_ret
    exact ⟨rfl, below_one _ _⟩
  · have h1 : 1 ≤ t := by omega
    go_enter Try.func8, Try.ntmps8
    go_wp2
    go_ret
    exact ⟨rfl, below_one _ _⟩
theorem dconfig_nil (p t g : Int) (w : World) : Calls Try.prog 6 #[.pointer none, .agg #[.int .i64 p, .int .i64 t, .int .i64 g]] w fun e w' => e = .returned (.tuple #[.agg #[.int .i64 0, .int .i64 0, .int .i64 0], .int .i64 1]) ∧ Below w.heap.size w w' := by
  go_enter Try.func6, Try.ntmps6
  go_wp2
  exact bodyPost_ret (v := .tuple #[.agg #[.int .i64 0, .int .i64 0, .int .i64 0], .int .i64 1]) (by simp [results, Try.results6, go_sem]) rfl ⟨rfl, Below.then_ (below_one _ _) (below_one _ _)⟩

/-- What two scripts have in common, whichever came first. -/
structure Two (w : World) (W : World) (da db : Nat) (a0 : Int) (l : List Ent) (m : Nat) (va vb : Value) (wx : World) : Prop where
  ga : Grow wx W.heap.size 43 2 encE va l
  gb : Grow wx W.heap.size 43 2 encE vb l
  dda : DiceAt wx da a0 m
  ddb : DiceAt wx db a0 m
  kept : Kept [da, db] W wx

end Go.Proofs.Ythonhbciileomaa.Dice
