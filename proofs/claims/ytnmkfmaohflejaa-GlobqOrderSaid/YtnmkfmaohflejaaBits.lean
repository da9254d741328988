/- One bit of a word: set, struck, asked for. -/
import Derived.Test.YtnmkfmaohflejaaBase6
set_option maxRecDepth 100000
set_option linter.unusedVariables false
set_option linter.unusedSimpArgs false
namespace Go.Proofs.Ytnmkfmaohflejaa.Bits
open Go.RowKit
theorem or_off {W p : Nat} (h : W / 2 ^ p % 2 = 0) : W ||| 2 ^ p = W + 2 ^ p := by
  have hp : 0 < 2 ^ p := Nat.two_pow_pos p
  obtain ⟨q, hq⟩ : ∃ q, W / 2 ^ p = 2 * q := ⟨W / 2 ^ p / 2, by omega⟩
  obtain ⟨r, hr⟩ : ∃ r, r = W % 2 ^ p := ⟨_, rfl⟩
  have hr2 : r < 2 ^ p := by rw [hr]; exact Nat.mod_lt _ hp
  have hW : W = 2 ^ p * (2 * q) + r := by
    have := Nat.div_add_mod W (2 ^ p)
    rw [hq, ← hr] at this
    omega
  have e1 : 2 ^ p * (2 * q) + r = 2 ^ p * (2 * q) ||| r := Nat.two_pow_add_eq_or_of_lt hr2 _
  have e2 : 2 ^ (p + 1) * q + 2 ^ p = 2 ^ (p + 1) * q ||| 2 ^ p := Nat.two_pow_add_eq_or_of_lt (Nat.pow_lt_pow_right (by omega) (by omega)) _
  have e3 : 2 ^ p * (2 * q + 1) + r = 2 ^ p * (2 * q + 1) ||| r := Nat.two_pow_add_eq_or_of_lt hr2 _
  have e4 : 2 ^ (p + 1) * q = 2 ^ p * (2 * q) := by rw [Nat.pow_succ, Nat.mul_assoc]
  have e5 : 2 ^ p * (2 * q + 1) = 2 ^ p * (2 * q) + 2 ^ p := by rw [Nat.mul_add, Nat.mul_one]
  rw [e4] at e2
  calc W ||| 2 ^ p = (2 ^ p * (2 * q) ||| r) ||| 2 ^ p := by rw [hW, e1]
    _ = (2 ^ p * (2 * q) ||| 2 ^ p) ||| r := by rw [Nat.or_assoc, Nat.or_comm r, ← Nat.or_assoc]
    _ = 2 ^ p * (2 * q + 1) ||| r := by rw [← e2, e5]
    _ = W + 2 ^ p := by rw [← e3, e5, hW]; omega
theorem bit_iff {W p : Nat} : W.testBit p = decide (W / 2 ^ p % 2 = 1) := by rw [Nat.testBit_eq_decide_div_mod_eq]
theorem or_on {W p : Nat} (h : W / 2 ^ p % 2 = 1) : W ||| 2 ^ p = W := by
  have hb : W.testBit p = true := by rw [bit_iff, decide_eq_true h]
  apply Nat.eq_of_testBit_eq
  intro j
  rw [Nat.testBit_or, Nat.testBit_two_pow]
  by_cases hj : p = j
  · subst hj; simp [hb]
  · simp [hj]
theorem and_on {W p : Nat} (h : W / 2 ^ p % 2 = 1) : W &&& 2 ^ p = 2 ^ p := by
  have hb : W.testBit p = true := by rw [bit_iff, decide_eq_true h]
  apply Nat.eq_of_testBit_eq
  intro j
  rw [Nat.testBit_and, Nat.testBit_two_pow]
  by_cases hj : p = j
  · subst hj; simp [hb]
  · simp [hj]
theorem and_off {W p : Nat} (h : W / 2 ^ p % 2 = 0) : W &&& 2 ^ p = 0 := by
  have hb : W.testBit p = false := by rw [bit_iff, decide_eq_false (by omega)]
  apply Nat.eq_of_testBit_eq
  intro j
  rw [Nat.testBit_and, Nat.testBit_two_pow, Nat.zero_testBit]
  by_cases hj : p = j
  · subst hj; simp [hb]
  · simp [hj]
theorem not_off {W p : Nat} (hW : W < 2 ^ 64) (hp : p < 64) (h : W / 2 ^ p % 2 = 0) : W &&& (2 ^ 64 - 1 - 2 ^ p) = W := by
  have hb : W.testBit p = false := by rw [bit_iff, decide_eq_false (by omega)]
  have hlt : 2 ^ p < 2 ^ 64 := Nat.pow_lt_pow_right (by omega) hp
  apply Nat.eq_of_testBit_eq
  intro j
  rw [Nat.testBit_and, show 2 ^ 64 - 1 - 2 ^ p = 2 ^ 64 - (2 ^ p + 1) by omega, Nat.testBit_two_pow_sub_succ hlt, Nat.testBit_two_pow]
  by_cases hj : p = j
  · subst hj; simp [hb]
  · by_cases h64 : j < 64
    · simp [hj, h64]
    · have : W.testBit j = false := Nat.testBit_lt_two_pow (Nat.lt_of_lt_of_le hW (Nat.pow_le_pow_right (by omega) (by omega)))
      simp [this]
theorem sub_off {W p : Nat} (h : W / 2 ^ p % 2 = 1) : 2 ^ p ≤ W ∧ (W - 2 ^ p) / 2 ^ p % 2 = 0 := by
  have hp : 0 < 2 ^ p := Nat.two_pow_pos p
  have h1 : 1 ≤ W / 2 ^ p := by generalize W / 2 ^ p = x at h ⊢; omega
  have hle : 2 ^ p ≤ W := by
    have := (Nat.le_div_iff_mul_le hp).1 h1
    omega
  refine ⟨hle, ?_⟩
  have : (W - 2 ^ p) / 2 ^ p = W / 2 ^ p - 1 := by
    have h2 : W = (W - 2 ^ p) + 2 ^ p := by omega
    conv => rhs; rw [h2, Nat.add_div_right _ hp]
    simp
  rw [this]
  generalize W / 2 ^ p = x at h ⊢
  omega
theorem not_on {W p : Nat} (hW : W < 2 ^ 64) (hp : p < 64) (h : W / 2 ^ p % 2 = 1) : W &&& (2 ^ 64 - 1 - 2 ^ p) = W - 2 ^ p := by
  obtain ⟨hle, hv⟩ := sub_off h
  have hlt : 2 ^ p < 2 ^ 64 := Nat.pow_lt_pow_right (by omega) hp
  have hWV : W = (W - 2 ^ p) ||| 2 ^ p := by rw [or_off hv]; omega
  have hVb : (W - 2 ^ p).testBit p = false := by rw [bit_iff, decide_eq_false (by omega)]
  apply Nat.eq_of_testBit_eq
  intro j
  rw [Nat.testBit_and, show 2 ^ 64 - 1 - 2 ^ p = 2 ^ 64 - (2 ^ p + 1) by omega, Nat.testBit_two_pow_sub_succ hlt, Nat.testBit_two_pow]
  have hWj : W.testBit j = ((W - 2 ^ p).testBit j || decide (p = j)) := by
    conv => lhs; rw [hWV]
    rw [Nat.testBit_or, Nat.testBit_two_pow]
  by_cases hj : p = j
  · subst hj; simp [hVb]
  · by_cases h64 : j < 64
    · rw [hWj]; simp [hj, h64]
    · have : (W - 2 ^ p).testBit j = false := Nat.testBit_lt_two_pow (Nat.lt_of_le_of_lt (Nat.sub_le _ _) (Nat.lt_of_lt_of_le hW (Nat.pow_le_pow_right (by omega) (by omega))))
      simp [this, hWj, hj]
/-- A processor's bit. -/
def bitOf (p : Int) : Int := if 0 ≤ p ∧ p < 64 then ((2 ^ p.toNat : Nat) : Int) else 0
/-- The word has it. -/
def hasB (w p : Int) : Bool := decide (bitOf p ≠ 0) && decide (w / bitOf p % 2 = 1)
def setB (w p : Int) : Int := if hasB w p then w else w + bitOf p
def delB (w p : Int) : Int := if hasB w p then w - bitOf p else w
theorem bitOf_range (p : Int) : 0 ≤ bitOf p ∧ bitOf p < 18446744073709551616 := by
  unfold bitOf
  split
  · have : 2 ^ p.toNat < 2 ^ 64 := Nat.pow_lt_pow_right (by omega) (by omega)
    generalize 2 ^ p.toNat = m at this ⊢
    omega
  · omega
theorem bits_nat (op : BinOp) (W b : Nat) (hW : W < 2 ^ 64) (hb : b < 2 ^ 64) :
    bits .or .u64 (W : Int) (b : Int) = ((W ||| b : Nat) : Int) ∧ bits .and .u64 (W : Int) (b : Int) = ((W &&& b : Nat) : Int) ∧ bits .andNot .u64 (W : Int) (b : Int) = ((W &&& (2 ^ 64 - 1 - b) : Nat) : Int) := by
  have e1 : (BitVec.ofInt 64 (W : Int)).toNat = W := by
    rw [BitVec.toNat_ofInt]
    omega
  have e2 : (BitVec.ofInt 64 (b : Int)).toNat = b := by
    rw [BitVec.toNat_ofInt]
    omega
  refine ⟨?_, ?_, ?_⟩
  · show IntKind.u64.wrap ((BitVec.ofInt 64 (W : Int) ||| BitVec.ofInt 64 (b : Int)).toNat : Int) = _
    rw [BitVec.toNat_or, e1, e2, IntKind.wrap_u64]
    have := Nat.or_lt_two_pow hW hb
    omega
  · show IntKind.u64.wrap ((BitVec.ofInt 64 (W : Int) &&& BitVec.ofInt 64 (b : Int)).toNat : Int) = _
    rw [BitVec.toNat_and, e1, e2, IntKind.wrap_u64]
    have := Nat.and_lt_two_pow W hb
    omega
  · show IntKind.u64.wrap ((BitVec.ofInt 64 (W : Int) &&& ~~~ BitVec.ofInt 64 (b : Int)).toNat : Int) = _
    rw [BitVec.toNat_and, BitVec.toNat_not, e1, e2, IntKind.wrap_u64]
    have : W &&& (2 ^ 64 - 1 - b) < 2 ^ 64 := Nat.and_lt_two_pow W (by omega)
    omega
/-- What the program's operations on a bit come to. -/
theorem bits_of (w p : Int) (hw : 0 ≤ w ∧ w < 18446744073709551616) :
    bits .or .u64 w (bitOf p) = setB w p ∧ bits .andNot .u64 w (bitOf p) = delB w p ∧ (bits .and .u64 w (bitOf p) != 0) = hasB w p := by
  obtain ⟨W, rfl⟩ : ∃ W : Nat, w = (W : Int) := ⟨w.toNat, by omega⟩
  have hW : W < 2 ^ 64 := by omega
  by_cases hp : 0 ≤ p ∧ p < 64
  · obtain ⟨k, rfl⟩ : ∃ k : Nat, p = (k : Int) := ⟨p.toNat, by omega⟩
    have hk : k < 64 := by omega
    have hb : bitOf (k : Int) = ((2 ^ k : Nat) : Int) := by unfold bitOf; rw [if_pos hp]; simp
    have hpos : 0 < 2 ^ k := Nat.two_pow_pos k
    have hlt : 2 ^ k < 2 ^ 64 := Nat.pow_lt_pow_right (by omega) hk
    obtain ⟨b1, b2, b3⟩ := bits_nat .or W (2 ^ k) hW hlt
    have hh : hasB (W : Int) (k : Int) = decide (W / 2 ^ k % 2 = 1) := by
      unfold hasB
      rw [hb]
      have e : ((W : Int) / ((2 ^ k : Nat) : Int) % 2 = 1) ↔ (W / 2 ^ k % 2 = 1) := by
        rw [← Int.natCast_ediv]
        omega
      rw [decide_eq_true (show ((2 ^ k : Nat) : Int) ≠ 0 by omega), Bool.true_and]
      exact decide_eq_decide.2 e
    unfold setB delB
    rw [hh, hb, b1, b2, b3]
    by_cases hbit : W / 2 ^ k % 2 = 1
    · rw [or_on hbit, and_on hbit, not_on hW hk hbit, decide_eq_true hbit, if_pos rfl, if_pos rfl]
      have := (sub_off hbit).1
      clear b1 b2 b3 hb hh hbit
      generalize 2 ^ k = m at this hpos ⊢
      refine ⟨rfl, by omega, ?_⟩
      have : ((m : Nat) : Int) ≠ 0 := by omega
      simpa using this
    · have h0 : W / 2 ^ k % 2 = 0 := by omega
      rw [or_off h0, and_off h0, not_off hW hk h0, decide_eq_false hbit]
      refine ⟨by simp, by simp, by simp⟩
  · have hb : bitOf p = 0 := by unfold bitOf; rw [if_neg hp]
    have hh : hasB (W : Int) p = false := by unfold hasB; rw [hb]; simp
    obtain ⟨b1, b2, b3⟩ := bits_nat .or W 0 hW (by omega)
    have b1 : bits .or .u64 (W : Int) 0 = ((W ||| 0 : Nat) : Int) := b1
    have b2 : bits .and .u64 (W : Int) 0 = ((W &&& 0 : Nat) : Int) := b2
    have b3 : bits .andNot .u64 (W : Int) 0 = ((W &&& (2 ^ 64 - 1 - 0) : Nat) : Int) := b3
    unfold setB delB
    rw [hh, hb, b1, b2, b3]
    refine ⟨by simp, ?_, by simp⟩
    have : W &&& (2 ^ 64 - 1 - 0) = W := by
      rw [Nat.sub_zero, Nat.and_two_pow_sub_one_eq_mod, Nat.mod_eq_of_lt hW]
    rw [this]
    simp
theorem setB_range (w p : Int) (hw : 0 ≤ w ∧ w < 18446744073709551616) : 0 ≤ setB w p ∧ setB w p < 18446744073709551616 := by
  rw [← (bits_of w p hw).1]
  show 0 ≤ IntKind.u64.wrap _ ∧ IntKind.u64.wrap _ < _
  rw [IntKind.wrap_u64]
  omega
theorem delB_range (w p : Int) (hw : 0 ≤ w ∧ w < 18446744073709551616) : 0 ≤ delB w p ∧ delB w p < 18446744073709551616 := by
  rw [← (bits_of w p hw).2.1]
  show 0 ≤ IntKind.u64.wrap _ ∧ IntKind.u64.wrap _ < _
  rw [IntKind.wrap_u64]
  omega
end Go.Proofs.Ytnmkfmaohflejaa.Bits
