/- Contracts of the layout. -/
import Derived.Test.YtokpgbocomhpiaaProg
import Derived.Test.YtokpgbocomhpiaaKit
import Derived.Test.YtokpgbocomhpiaaFlag
set_option maxRecDepth 100000
set_option linter.unusedVariables false
set_option linter.unusedSimpArgs false
namespace Go.Proofs.Ytokpgbocomhpiaa.Layout
open Go.RowKit Go.Proofs.Ytokpgbocomhpiaa.TK

/-- A word's number within rows. -/
def placeN (is : Bool) (first n many each field fields : Int) : Int :=
  if is = true ∧ 0 ≤ n ∧ n < many ∧ 0 ≤ field ∧ field < fields then first + n * each + field else -1

theorem place_run (is : Bool) (first n many each field fields : Int) (w : World) (h1 : 0 ≤ first) (h2 : first ≤ 1000000) (h3 : many ≤ 1000000) (h4 : 0 ≤ each) (h5 : each ≤ 1000) (h6 : fields ≤ 1000000) :
    Calls Try.prog 199 #[.bool is, .int .i64 first, .int .i64 n, .int .i64 many, .int .i64 each, .int .i64 field, .int .i64 fields] w fun e w' => e = .returned (.int .i64 (placeN is first n many each field fields)) ∧ w = w' := by
  by_cases hok : is = true ∧ 0 ≤ n ∧ n < many ∧ 0 ≤ field ∧ field < fields
  · obtain ⟨rfl, a1, a2, a3, a4⟩ := hok
    have hm : 0 ≤ n * each := Int.mul_nonneg a1 h4
    have hM : n * each ≤ 1000000 * 1000 := Int.mul_le_mul (by omega) h5 h4 (by omega)
    have HX := hid (show placeN true first n many each field fields = first + n * each + field from if_pos ⟨rfl, a1, a2, a3, a4⟩)
    go_enter Try.func199, Try.ntmps199
    go_wp2
    go_ret
    exact ⟨ret_int HX.out.symm, rfl⟩
  · have HX := hid (show placeN is first n many each field fields = -1 from if_neg hok)
    cases is
    · go_enter Try.func199, Try.ntmps199
      go_wp2
      go_ret
      exact ⟨ret_int HX.out.symm, rfl⟩
    · simp only [true_and] at hok
      by_cases a1 : 0 ≤ n
      · by_cases a2 : n < many
        · by_cases a3 : 0 ≤ field
          · have a4 : fields ≤ field := by omega
            clear hok
            go_enter Try.func199, Try.ntmps199
            go_wp2
            go_ret
            exact ⟨ret_int HX.out.symm, rfl⟩
          · clear hok
            have a3' : field < 0 := by omega
            go_enter Try.func199, Try.ntmps199
            go_wp2
            go_ret
            exact ⟨ret_int HX.out.symm, rfl⟩
        · clear hok
          have a2' : many ≤ n := by omega
          go_enter Try.func199, Try.ntmps199
          go_wp2
          go_ret
          exact ⟨ret_int HX.out.symm, rfl⟩
      · clear hok
        have a1' : n < 0 := by omega
        go_enter Try.func199, Try.ntmps199
        go_wp2
        go_ret
        exact ⟨ret_int HX.out.symm, rfl⟩

/-- The configs that may be. -/
def Right (p t g : Int) : Prop := 1 ≤ p ∧ p ≤ 64 ∧ p ≤ t ∧ t ≤ 256 ∧ 1 ≤ g ∧ g ≤ 65536
instance (p t g : Int) : Decidable (Right p t g) := by unfold Right; infer_instance

theorem right_run (p t g : Int) (w : World) :
    Calls Try.prog 198 #[.agg #[.int .i64 p, .int .i64 t, .int .i64 g]] w fun e w' => e = .returned (.bool (decide (Right p t g))) ∧ Below w.heap.size w w' := by
  go_enter Try.func198, Try.ntmps198
  go_wp2
  all_goals (go_ret; refine ⟨?_, below_one _ _⟩; unfold Right; first | exact ret_dec (by omega) | exact ret_yes (by omega) | exact ret_no (by omega))

theorem rright_run (p t g : Int) (w : World) :
    Calls Try.prog 197 #[.agg #[.int .i64 p, .int .i64 t, .int .i64 g]] w fun e w' => e = .returned (.bool (decide (Right p t g))) ∧ Below w.heap.size w w' := by
  go_enter Try.func197, Try.ntmps197
  go_wp2
  all_goals (go_ret; refine ⟨?_, below_one _ _⟩; unfold Right; first | exact ret_dec (by omega) | exact ret_yes (by omega) | exact ret_no (by omega))

/-- A layout of a config. -/
def layCells (p t g : Int) : List Value := [.int .i64 p, .int .i64 t, .int .i64 g, .int .i64 (20 + p * 264), .int .i64 (20 + p * 264 + t * 3), .int .i64 (20 + p * 264 + t * 3 + g * 2)]
/-- At block l lies the layout of a config that may be. -/
def Lay (w : World) (l : Nat) (p t g : Int) : Prop := Blk w l (layCells p t g) 216 ∧ Right p t g
theorem Lay.quiet {w w' : World} {l : Nat} {p t g : Int} (h : Lay w l p t g) (hb : Below w.heap.size w w') : Lay w' l p t g := ⟨h.1.quiet hb, h.2⟩
theorem Lay.kept {w w' : World} {l : Nat} {p t g : Int} {S : List Nat} (h : Lay w l p t g) (hk : Kept S w w') (hne : l ∉ S) : Lay w' l p t g := ⟨h.1.kept hk hne, h.2⟩

theorem of_no (p t g : Int) (w : World) (h : ¬ Right p t g) :
    Calls Try.prog 134 #[.agg #[.int .i64 p, .int .i64 t, .int .i64 g]] w fun e w' => e = .returned (.tuple #[.pointer none, .int .i64 1]) ∧ Below w.heap.size w w' := by
  have hd : decide (Right p t g) = false := decide_eq_false h
  clear h
  go_enter Try.func134, Try.ntmps134
  go_wp2_with (first | (go_at_call 198; refine (right_run _ _ _ _).mono ?_; rintro e w' ⟨rfl, hb⟩))
  go_ret2
  exact ⟨rfl, below_step (below_one _ _) hb (by simp)⟩

theorem of_yes (p t g : Int) (w : World) (h : Right p t g) :
    Calls Try.prog 134 #[.agg #[.int .i64 p, .int .i64 t, .int .i64 g]] w fun e w' => ∃ l, w.heap.size ≤ l ∧ e = .returned (.tuple #[.pointer (some ⟨l, 0, none⟩), .int .i64 0]) ∧ Lay w' l p t g ∧ Below w.heap.size w w' := by
  have hd : decide (Right p t g) = true := decide_eq_true h
  have HR := hid h
  unfold Right at h
  go_enter Try.func134, Try.ntmps134
  go_wp2_with (first | (go_at_call 198; refine (right_run _ _ _ _).mono ?_; rintro e w1 ⟨rfl, hb⟩; obtain ⟨hc, hf, hz0⟩ := below_cells hb; have hz : w.heap.size < w1.heap.size := (by simp at hz0; omega); clear hz0))
  go_region
  go_wp2
  go_region
  go_wp2
  go_ret2
  refine ⟨w1.heap.size, by omega, rfl, ⟨?_, HR.out⟩, ?_⟩
  · exact Blk.new w1 (layCells p t g) _
  · exact ((below_step (below_one _ _) hb (by simp)).alloc (by omega) _).drew.drew

theorem config_run (l : Nat) (p t g : Int) (w : World) (h : Lay w l p t g) :
    Calls Try.prog 171 #[.pointer (some ⟨l, 0, none⟩)] w fun e w' => e = .returned (.agg #[.int .i64 p, .int .i64 t, .int .i64 g]) ∧ Below w.heap.size w w' := by
  have hc0 := h.1.cell 0
  have hc1 := h.1.cell 1
  have hc2 := h.1.cell 2
  have hl := h.1.lt
  simp only [layCells, List.getElem?_cons_zero, List.getElem?_cons_succ] at hc0 hc1 hc2
  clear h
  go_enter Try.func171, Try.ntmps171
  go_wp2
  exact bodyPost_ret (v := .agg #[.int .i64 p, .int .i64 t, .int .i64 g]) (by simp [results, Try.results171, go_sem]) rfl ⟨rfl, below_one _ _⟩
theorem config_nil (w : World) :
    Calls Try.prog 171 #[.pointer none] w fun e w' => e = .returned (.agg #[.int .i64 0, .int .i64 0, .int .i64 0]) ∧ Below w.heap.size w w' := by
  go_enter Try.func171, Try.ntmps171
  go_wp2
  exact bodyPost_ret (v := .agg #[.int .i64 0, .int .i64 0, .int .i64 0]) (by simp [results, Try.results171, go_sem]) rfl ⟨rfl, below_one _ _⟩

end Go.Proofs.Ytokpgbocomhpiaa.Layout
