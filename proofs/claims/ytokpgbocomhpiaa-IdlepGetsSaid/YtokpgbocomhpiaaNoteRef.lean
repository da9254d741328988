/- The document's notes. -/
import Derived.Test.YtokpgbocomhpiaaNoteC
import Derived.Test.YtokpgbocomhpiaaAlike
set_option maxRecDepth 100000
set_option maxHeartbeats 4000000
set_option linter.unusedVariables false
set_option linter.unusedSimpArgs false
namespace Go.Proofs.Ytokpgbocomhpiaa.Run
open Go.RowKit Go.Shelf Go.Proofs.Ytokpgbocomhpiaa.TK Go.Proofs.Ytokpgbocomhpiaa.Flag Go.Proofs.Ytokpgbocomhpiaa.Read Go.Proofs.Ytokpgbocomhpiaa.Grow Go.Proofs.Ytokpgbocomhpiaa.Words Go.Proofs.Ytokpgbocomhpiaa.Mem Go.Proofs.Ytokpgbocomhpiaa.Layout
theorem rthread_run (p T gs t f : Int) (w : World) (hp : 0 ≤ p ∧ p ≤ 1000) (ht : 0 ≤ t ∧ t ≤ 1000) (hf : 0 ≤ f ∧ f ≤ 1000) :
    Calls Try.prog 50 #[.agg #[.int .i64 p, .int .i64 T, .int .i64 gs], .int .i64 t, .int .i64 f] w fun e w' => e = .returned (.int .i64 (20 + 264 * p + 3 * t + f)) ∧ Below w.heap.size w w' := by
  go_enter Try.func50, Try.ntmps50
  go_wp2
  go_ret
  exact ⟨rfl, below_one _ _⟩
theorem rthreadat_run (p T gs t f : Int) (w : World) (hp : 0 ≤ p ∧ p ≤ 1000) (ht : 0 ≤ t ∧ t < T) (hT : T ≤ 1000) (hf : 0 ≤ f ∧ f ≤ 1000) :
    Calls Try.prog 162 #[.agg #[.int .i64 p, .int .i64 T, .int .i64 gs], .int .i64 t, .int .i64 f] w fun e w' => e = .returned (.int .i64 (20 + 264 * p + 3 * t + f)) ∧ Below w.heap.size w w' := by
  have d1 : decide (t < 0) = false := decide_eq_false (by omega)
  have d2 : decide (T ≤ t) = false := decide_eq_false (by omega)
  go_enter Try.func162, Try.ntmps162
  go_wp2_with fail
  refine (rthread_run p T gs t f _ hp (by omega) hf).mono ?_
  rintro e w1 ⟨rfl, hb⟩
  go_wp2
  go_ret
  exact ⟨rfl, Below.then_ (below_one _ _) hb⟩
theorem rwake_run (B r : Nat) (v : Value) (st : RunSt) (p T gs t : Int) (w : World) (h : RunAt w B r v st) (hp : 0 ≤ p ∧ p ≤ 1000) (ht : 0 ≤ t ∧ t < T) (hT : T ≤ 1000) :
    Calls Try.prog 54 #[.pointer (some ⟨r, 0, none⟩), .agg #[.int .i64 p, .int .i64 T, .int .i64 gs], .int .i64 t] w fun e w' => e = .returned (.tuple #[]) ∧ RunAt w' B r v (st.dox ⟨2, 0, 20 + 264 * p + 3 * t, 0, 1, false⟩).1 ∧ Kept [r] w w' := by
  have HH := hid h
  clear h
  go_enter Try.func54, Try.ntmps54
  go_wp2_with fail
  refine (rthreadat_run p T gs t 0 _ hp ht hT (by omega)).mono ?_
  rintro e w1 ⟨rfl, hb⟩
  have hb' : Below w.heap.size w w1 := by first | exact hb | exact Below.then_ (below_one _ _) hb
  go_wp2_with fail
  refine (runstore_run B r v st _ 1 w1 (HH.out.quiet hb')).mono ?_
  rintro e w2 ⟨rfl, h1, h2⟩
  go_wp2
  go_returns
  exact ⟨rfl, by simpa using h1, (Kept.of_below hb' [r]).trans h2 (by intro i hi; exact .inl hi)⟩
theorem row_of_blk {w : World} {b : Nat} {xs : List Int} {spare : List Value} {T : TypeId} (h : Blk w b (u64s xs ++ spare) T) : RowAt w ⟨b, 0, none⟩ xs := by
  intro i hi
  rw [show (⟨b, 0, none⟩ : Addr).add i = ⟨b, i, none⟩ by unfold Addr.add; split <;> simp_all]
  exact ((h.cell i).trans (List.getElem?_append_left (by simpa [u64s] using hi))).trans (u64s_get xs i hi)
end Go.Proofs.Ytokpgbocomhpiaa.Run
