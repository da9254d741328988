/- The document's places, as the program's. -/
import Derived.Test.YtokpgbocomhpiaaMach
import Derived.Test.YtokpgbocomhpiaaNoteRef
set_option maxRecDepth 100000
set_option maxHeartbeats 4000000
set_option linter.unusedVariables false
set_option linter.unusedSimpArgs false
namespace Go.Proofs.Ytokpgbocomhpiaa.Ref05
open Go.RowKit Go.Shelf Go.Proofs.Ytokpgbocomhpiaa.TK Go.Proofs.Ytokpgbocomhpiaa.Flag Go.Proofs.Ytokpgbocomhpiaa.Words Go.Proofs.Ytokpgbocomhpiaa.Mem Go.Proofs.Ytokpgbocomhpiaa.Layout Go.Proofs.Ytokpgbocomhpiaa.Run
def pr (P p f : Int) : Int := placeN true 20 p P 264 f 8
def rg (P p i : Int) : Int := placeN true 28 p P 264 (i % 256) 256
def th (P T t f : Int) : Int := placeN true (20 + P * 264) t T 3 f 3
def gg (P T G n f : Int) : Int := placeN true (20 + P * 264 + T * 3) n G 2 f 2
theorem rproc5_run (p f : Int) (w : World) (hp : 0 ≤ p ∧ p ≤ 1000) (hf : 0 ≤ f ∧ f < 8) :
    Calls Try.prog 212 #[.int .i64 p, .int .i64 f] w fun e w' => e = .returned (.int .i64 (20 + p * 264 + f)) ∧ w = w' := by
  go_enter Try.func212, Try.ntmps212
  go_wp2
  go_ret
  exact ⟨ret_int (by omega), rfl⟩
theorem procat_run (P T G p f : Int) (w : World) (hP : 0 ≤ P ∧ P ≤ 1000) (hf : 0 ≤ f ∧ f < 8) :
    Calls Try.prog 167 #[.agg #[.int .i64 P, .int .i64 T, .int .i64 G], .int .i64 p, .int .i64 f] w fun e w' => e = .returned (.int .i64 (pr P p f)) ∧ Below w.heap.size w w' := by
  by_cases h1 : p < 0
  · have d1 : decide (p < 0) = true := decide_eq_true h1
    have e := hid (show pr P p f = -1 by unfold pr placeN; rw [if_neg (by omega)])
    rw [e.out]
    go_enter Try.func167, Try.ntmps167
    go_wp2
    go_ret
    exact ⟨rfl, below_one _ _⟩
  have d1 : decide (p < 0) = false := decide_eq_false h1
  by_cases h2 : P ≤ p
  · have d2 : decide (P ≤ p) = true := decide_eq_true h2
    have e := hid (show pr P p f = -1 by unfold pr placeN; rw [if_neg (by omega)])
    rw [e.out]
    go_enter Try.func167, Try.ntmps167
    go_wp2
    go_ret
    exact ⟨rfl, below_one _ _⟩
  have d2 : decide (P ≤ p) = false := decide_eq_false h2
  have e := hid (show pr P p f = 20 + p * 264 + f by unfold pr placeN; rw [if_pos (by simp; omega)])
  rw [e.out]
  go_enter Try.func167, Try.ntmps167
  go_wp2_with fail
  refine (rproc5_run p f _ (by omega) hf).mono ?_
  rintro e w1 ⟨rfl, rfl⟩
  go_wp2
  go_ret
  exact ⟨rfl, below_one _ _⟩
theorem threadat_run (P T G t f : Int) (w : World) (hP : 0 ≤ P ∧ P ≤ 1000) (hT : T ≤ 1000) (hf : 0 ≤ f ∧ f < 3) :
    Calls Try.prog 162 #[.agg #[.int .i64 P, .int .i64 T, .int .i64 G], .int .i64 t, .int .i64 f] w fun e w' => e = .returned (.int .i64 (th P T t f)) ∧ Below w.heap.size w w' := by
  by_cases h1 : t < 0
  · have d1 : decide (t < 0) = true := decide_eq_true h1
    have e := hid (show th P T t f = -1 by unfold th placeN; rw [if_neg (by omega)])
    rw [e.out]
    go_enter Try.func162, Try.ntmps162
    go_wp2
    go_ret
    exact ⟨rfl, below_one _ _⟩
  have d1 : decide (t < 0) = false := decide_eq_false h1
  by_cases h2 : T ≤ t
  · have d2 : decide (T ≤ t) = true := decide_eq_true h2
    have e := hid (show th P T t f = -1 by unfold th placeN; rw [if_neg (by omega)])
    rw [e.out]
    go_enter Try.func162, Try.ntmps162
    go_wp2
    go_ret
    exact ⟨rfl, below_one _ _⟩
  have d2 : decide (T ≤ t) = false := decide_eq_false h2
  have e := hid (show th P T t f = 20 + 264 * P + 3 * t + f by unfold th placeN; rw [if_pos (by simp; omega)]; omega)
  rw [e.out]
  go_enter Try.func162, Try.ntmps162
  go_wp2_with fail
  refine (rthread_run P T G t f _ hP (by omega) (by omega)).mono ?_
  rintro e w1 ⟨rfl, hb⟩
  go_wp2
  go_ret
  exact ⟨rfl, Below.then_ (below_one _ _) hb⟩
theorem rring5_run (p i : Int) (w : World) (hp : 0 ≤ p ∧ p ≤ 1000) (hi : 0 ≤ i ∧ i < 18446744073709551616) :
    Calls Try.prog 220 #[.int .i64 p, .int .u64 i] w fun e w' => e = .returned (.int .i64 (28 + p * 264 + i % 256)) ∧ w = w' := by
  have hi0 : 0 ≤ i := hi.1
  have hm : i.tmod 256 = i % 256 := Int.tmod_eq_emod_of_nonneg hi.1
  have hm2 : 0 ≤ i % 256 ∧ i % 256 < 256 := by omega
  go_enter Try.func220, Try.ntmps220
  go_wp2
  go_ret
  exact ⟨ret_int (by omega), rfl⟩
theorem ringat_run (P T G p i : Int) (w : World) (hP : 0 ≤ P ∧ P ≤ 1000) (hi : 0 ≤ i ∧ i < 18446744073709551616) :
    Calls Try.prog 178 #[.agg #[.int .i64 P, .int .i64 T, .int .i64 G], .int .i64 p, .int .u64 i] w fun e w' => e = .returned (.int .i64 (rg P p i)) ∧ Below w.heap.size w w' := by
  have hm2 : 0 ≤ i % 256 ∧ i % 256 < 256 := by omega
  by_cases h1 : p < 0
  · have d1 : decide (p < 0) = true := decide_eq_true h1
    have e := hid (show rg P p i = -1 by unfold rg placeN; rw [if_neg (by omega)])
    rw [e.out]
    go_enter Try.func178, Try.ntmps178
    go_wp2
    go_ret
    exact ⟨rfl, below_one _ _⟩
  have d1 : decide (p < 0) = false := decide_eq_false h1
  by_cases h2 : P ≤ p
  · have d2 : decide (P ≤ p) = true := decide_eq_true h2
    have e := hid (show rg P p i = -1 by unfold rg placeN; rw [if_neg (by omega)])
    rw [e.out]
    go_enter Try.func178, Try.ntmps178
    go_wp2
    go_ret
    exact ⟨rfl, below_one _ _⟩
  have d2 : decide (P ≤ p) = false := decide_eq_false h2
  have e := hid (show rg P p i = 28 + p * 264 + i % 256 by unfold rg placeN; rw [if_pos (by simp; omega)])
  rw [e.out]
  go_enter Try.func178, Try.ntmps178
  go_wp2_with fail
  refine (rring5_run p i _ (by omega) hi).mono ?_
  rintro e w1 ⟨rfl, rfl⟩
  go_wp2
  go_ret
  exact ⟨rfl, below_one _ _⟩
theorem rg5_run (P T G n f : Int) (w : World) (hP : 0 ≤ P ∧ P ≤ 1000) (hT : 0 ≤ T ∧ T ≤ 1000) (hn : 0 ≤ n ∧ n ≤ 100000) (hf : 0 ≤ f ∧ f < 2) :
    Calls Try.prog 226 #[.agg #[.int .i64 P, .int .i64 T, .int .i64 G], .int .i64 n, .int .i64 f] w fun e w' => e = .returned (.int .i64 (20 + P * 264 + T * 3 + n * 2 + f)) ∧ Below w.heap.size w w' := by
  go_enter Try.func226, Try.ntmps226
  go_wp2
  go_ret
  exact ⟨ret_int (by omega), below_one _ _⟩
theorem gat_run (P T G n f : Int) (w : World) (hP : 0 ≤ P ∧ P ≤ 1000) (hT : 0 ≤ T ∧ T ≤ 1000) (hG : G ≤ 100000) (hf : 0 ≤ f ∧ f < 2) :
    Calls Try.prog 188 #[.agg #[.int .i64 P, .int .i64 T, .int .i64 G], .int .i64 n, .int .i64 f] w fun e w' => e = .returned (.int .i64 (gg P T G n f)) ∧ Below w.heap.size w w' := by
  by_cases h1 : n < 0
  · have d1 : decide (n < 0) = true := decide_eq_true h1
    have e := hid (show gg P T G n f = -1 by unfold gg placeN; rw [if_neg (by omega)])
    rw [e.out]
    go_enter Try.func188, Try.ntmps188
    go_wp2
    go_ret
    exact ⟨rfl, below_one _ _⟩
  have d1 : decide (n < 0) = false := decide_eq_false h1
  by_cases h2 : G ≤ n
  · have d2 : decide (G ≤ n) = true := decide_eq_true h2
    have e := hid (show gg P T G n f = -1 by unfold gg placeN; rw [if_neg (by omega)])
    rw [e.out]
    go_enter Try.func188, Try.ntmps188
    go_wp2
    go_ret
    exact ⟨rfl, below_one _ _⟩
  have d2 : decide (G ≤ n) = false := decide_eq_false h2
  have e := hid (show gg P T G n f = 20 + P * 264 + T * 3 + n * 2 + f by unfold gg placeN; rw [if_pos (by simp; omega)])
  rw [e.out]
  go_enter Try.func188, Try.ntmps188
  go_wp2_with fail
  refine (rg5_run P T G n f _ hP hT (by omega) hf).mono ?_
  rintro e w1 ⟨rfl, hb⟩
  go_wp2
  go_ret
  exact ⟨rfl, Below.then_ (below_one _ _) hb⟩
end Go.Proofs.Ytokpgbocomhpiaa.Ref05
