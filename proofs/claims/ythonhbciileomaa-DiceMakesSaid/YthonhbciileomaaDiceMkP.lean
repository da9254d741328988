/- What dice make up: the plain law. -/
import Derived.Test.YthonhbciileomaaDiceSameW
set_option maxRecDepth 100000
set_option maxHeartbeats 1000000
set_option linter.unusedVariables false
set_option linter.unusedSimpArgs false
namespace Go.Proofs.Ythonhbciileomaa.Dice
open Go.RowKit Go.Proofs.Ythonhbciileomaa.TK Go.Proofs.Ythonhbciileomaa.Flag Go.Proofs.Ythonhbciileomaa.Read Go.Proofs.Ythonhbciileomaa.Grow
/-- A program word, behind m numbers. -/
def instrL (a0 n : Int) (m : Nat) : Int × Nat :=
  if blAt a0 m 8 = 0 then (2 + 8 * blAt a0 (m + 1) n, m + 2)
  else if blAt a0 m 8 = 1 then (3, m + 1)
  else if blAt a0 m 8 = 2 then (4, m + 1)
  else if blAt a0 m 8 = 3 then (5 + 8 * blAt a0 (m + 1) 8, m + 2)
  else if blAt a0 m 8 = 4 then (6, m + 1)
  else (1 + 8 * blAt a0 (m + 1) 16, m + 2)
theorem instrL_le (a0 n : Int) (m : Nat) : (instrL a0 n m).2 ≤ m + 2 := by
  unfold instrL
  repeat' split
  all_goals simp
theorem instrL_range (a0 n : Int) (m : Nat) (hn : 1 ≤ n ∧ n ≤ 16) : 0 ≤ (instrL a0 n m).1 ∧ (instrL a0 n m).1 < 1000 := by
  have h1 := blAt_range a0 (m + 1) n hn.1
  have h2 := blAt_range a0 (m + 1) 8 (by omega)
  have h3 := blAt_range a0 (m + 1) 16 (by omega)
  unfold instrL
  repeat' split
  all_goals simp
  all_goals omega
/-- One word more. -/
def pushW (y : List Int × Nat) (z : Int × Nat) : List Int × Nat := (y.1 ++ [z.1], z.2)
theorem pushW_1 (y : List Int × Nat) (z : Int × Nat) : (pushW y z).1 = y.1 ++ [z.1] := rfl
theorem pushW_2 (y : List Int × Nat) (z : Int × Nat) : (pushW y z).2 = z.2 := rfl
/-- Words of one program, one behind the other. -/
def instrs (a0 n : Int) (s : List Int × Nat) : Nat → List Int × Nat
  | 0 => s
  | j + 1 => pushW (instrs a0 n s j) (instrL a0 n (instrs a0 n s j).2)
theorem instrs_zero (a0 n : Int) (s : List Int × Nat) : instrs a0 n s 0 = s := by rw [instrs]
theorem instrs_succ (a0 n : Int) (s : List Int × Nat) (j : Nat) : instrs a0 n s (j + 1) = pushW (instrs a0 n s j) (instrL a0 n (instrs a0 n s j).2) := by rw [instrs]
theorem one_more (y s : List Int × Nat) (z : Int × Nat) (j : Nat) (h : z.2 ≤ y.2 + 2) (ih : y.1.length = s.1.length + j ∧ y.2 ≤ s.2 + 2 * j) : (pushW y z).1.length = s.1.length + (j + 1) ∧ (pushW y z).2 ≤ s.2 + 2 * (j + 1) := by
  rw [pushW_1, pushW_2]
  simp only [List.length_append, List.length_singleton]
  omega
theorem instrs_le (a0 n : Int) (s : List Int × Nat) (j : Nat) : (instrs a0 n s j).1.length = s.1.length + j ∧ (instrs a0 n s j).2 ≤ s.2 + 2 * j := by
  induction j with
  | zero => rw [instrs_zero]; omega
  | succ j ih =>
    rw [instrs_succ]
    exact one_more (instrs a0 n s j) s (instrL a0 n (instrs a0 n s j).2) j (instrL_le a0 n (instrs a0 n s j).2) ih
def parted (p : Nat) (l : List Int) : List Int := if p = 0 then l else l ++ [7]
def manyP (a0 : Int) (m : Nat) : Nat := (1 + blAt a0 m 8).toNat
/-- Programs, one behind the other. -/
def progs (a0 n : Int) (m : Nat) : Nat → List Int × Nat
  | 0 => ([], m)
  | p + 1 => instrs a0 n (parted p (progs a0 n m p).1, (progs a0 n m p).2 + 1) (manyP a0 (progs a0 n m p).2)
theorem manyP_le (a0 : Int) (m : Nat) : 1 ≤ manyP a0 m ∧ manyP a0 m ≤ 8 ∧ ((manyP a0 m : Nat) : Int) = 1 + blAt a0 m 8 := by
  have := blAt_range a0 m 8 (by omega)
  unfold manyP
  omega
theorem parted_len (p : Nat) (l : List Int) : (parted p l).length ≤ l.length + 1 := by
  unfold parted
  split <;> simp
theorem progs_succ (a0 n : Int) (m p : Nat) : progs a0 n m (p + 1) = instrs a0 n (parted p (progs a0 n m p).1, (progs a0 n m p).2 + 1) (manyP a0 (progs a0 n m p).2) := by rw [progs]
theorem progs_le (a0 n : Int) (m p : Nat) : (progs a0 n m p).1.length ≤ 9 * p ∧ (progs a0 n m p).2 ≤ m + 17 * p ∧ p ≤ (progs a0 n m p).1.length := by
  induction p with
  | zero => rw [progs]; exact ⟨Nat.le_refl _, Nat.le_refl _, Nat.le_refl _⟩
  | succ p ih =>
    have h1 := manyP_le a0 (progs a0 n m p).2
    have h2 := instrs_le a0 n (parted p (progs a0 n m p).1, (progs a0 n m p).2 + 1) (manyP a0 (progs a0 n m p).2)
    have h3 := parted_len p (progs a0 n m p).1
    have h4 : (progs a0 n m p).1.length ≤ (parted p (progs a0 n m p).1).length := by unfold parted; split <;> simp
    rw [progs_succ]
    generalize progs a0 n m p = y at h1 h2 h3 h4 ih ⊢
    generalize instrs a0 n (parted p y.1, y.2 + 1) (manyP a0 y.2) = z at h2 ⊢
    have h5 := h1.1
    have h6 := h1.2.1
    clear h1
    generalize manyP a0 y.2 = M at h2 h5 h6
    simp only at h2
    omega
def clampN (n : Int) : Int := min (max n 1) 16
theorem clampN_range (n : Int) : 1 ≤ clampN n ∧ clampN n ≤ 16 := by unfold clampN; omega
end Go.Proofs.Ythonhbciileomaa.Dice
