/- Contracts of the dice: the next number, a number below, and the reference's. -/
import Derived.Test.YthonhbciileomaaProg
import Derived.Test.YthonhbciileomaaBase1
set_option maxRecDepth 100000
set_option linter.unusedVariables false
set_option linter.unusedSimpArgs false
namespace Go.Proofs.Ythonhbciileomaa.Dice
open Go.RowKit Go.Proofs.Ythonhbciileomaa.TK

/-- The next state. -/
def nx (s : Int) : Int := IntKind.u64.wrap (s + 11400714819323198485)
/-- The number of a state. -/
def mix (z : Int) : Int :=
  let z1 := IntKind.u64.wrap (bits BinOp.xor IntKind.u64 z (z / 1073741824) * 13787848793156543929)
  let z2 := IntKind.u64.wrap (bits BinOp.xor IntKind.u64 z1 (z1 / 134217728) * 10723151780598845931)
  bits BinOp.xor IntKind.u64 z2 (z2 / 2147483648)

theorem next_run (g : Nat) (s : Int) (w : World) (hb : Blk w g [.int .u64 s] 48) :
    Calls Try.prog 16 #[.pointer (some ⟨g, 0, none⟩)] w fun e w' => e = .returned (.int .u64 (mix (nx s))) ∧ w.setCell ⟨g, 0, none⟩ (.int .u64 (nx s)) = w' := by
  have hc := hb.cell 0
  have hf := hb.frozen 0
  simp only [List.getElem?_cons_zero] at hc
  clear hb
  go_enter Try.func16, Try.ntmps16
  go_wp2
  go_ret
  exact ⟨rfl, rfl⟩

theorem next_nil (w : World) : Calls Try.prog 16 #[.pointer none] w fun e w' => e = .returned (.int .u64 0) ∧ w = w' := by
  go_enter Try.func16, Try.ntmps16
  go_wp2
  go_ret
  exact ⟨rfl, rfl⟩

theorem u64_range (x : Int) : 0 ≤ IntKind.u64.wrap x ∧ IntKind.u64.wrap x < 18446744073709551616 := by
  have : IntKind.u64.wrap x = x % 18446744073709551616 := rfl
  rw [this]; omega
theorem u64_eq (x : Int) : IntKind.u64.wrap x = x % 18446744073709551616 := rfl
theorem quo_30 (x : Int) : IntKind.u64.wrap ((IntKind.u64.wrap x).tdiv 1073741824) = IntKind.u64.wrap x / 1073741824 := by
  have := u64_range x
  rw [Int.tdiv_eq_ediv_of_nonneg this.1, u64_eq (IntKind.u64.wrap x / _)]; omega
theorem quo_27 (x : Int) : IntKind.u64.wrap ((IntKind.u64.wrap x).tdiv 134217728) = IntKind.u64.wrap x / 134217728 := by
  have := u64_range x
  rw [Int.tdiv_eq_ediv_of_nonneg this.1, u64_eq (IntKind.u64.wrap x / _)]; omega
theorem quo_31 (x : Int) : IntKind.u64.wrap ((IntKind.u64.wrap x).tdiv 2147483648) = IntKind.u64.wrap x / 2147483648 := by
  have := u64_range x
  rw [Int.tdiv_eq_ediv_of_nonneg this.1, u64_eq (IntKind.u64.wrap x / _)]; omega

def num (s k : Int) : Int := mix (IntKind.u64.wrap (s + IntKind.u64.wrap (IntKind.u64.wrap k * 11400714819323198485)))
theorem number_run (s k : Int) (w : World) :
    Calls Try.prog 14 #[.int .u64 s, .int .i64 k] w fun e w' => e = .returned (.int .u64 (num s k)) ∧ w = w' := by
  go_enter Try.func14, Try.ntmps14
  go_wp2
  simp only [quo_30, quo_27, quo_31]
  go_ret
  exact ⟨rfl, rfl⟩

theorem mix_range (z : Int) : 0 ≤ mix z ∧ mix z < 18446744073709551616 := by
  have h : ∀ x y, 0 ≤ bits BinOp.xor IntKind.u64 x y ∧ bits BinOp.xor IntKind.u64 x y < 18446744073709551616 := by
    intro x y
    unfold bits
    exact u64_range _
  exact h _ _

/-- The state behind k numbers. -/
def stt (s : Int) : Nat → Int
  | 0 => s
  | k + 1 => nx (stt s k)
theorem stt_eq (s : Int) (h0 : 0 ≤ s) (h1 : s < 18446744073709551616) (k : Nat) : stt s k = (s + k * 11400714819323198485) % 18446744073709551616 := by
  induction k with
  | zero => simp [stt]; omega
  | succ k ih => simp only [stt, nx, u64_eq, ih]; omega
theorem stt_num (s : Int) (h0 : 0 ≤ s) (h1 : s < 18446744073709551616) (k : Nat) : num s k = mix (stt s k) := by
  unfold num; rw [stt_eq s h0 h1]; simp only [u64_eq]; congr 1; omega
theorem stt_range (s : Int) (h0 : 0 ≤ s) (h1 : s < 18446744073709551616) (k : Nat) : 0 ≤ stt s k ∧ stt s k < 18446744073709551616 := by
  rw [stt_eq s h0 h1]; omega

/-- What is below n, of a state's number. -/
def bel (z n : Int) : Int := mix z % n
theorem bel_range (z n : Int) (h : 1 ≤ n) : 0 ≤ bel z n ∧ bel z n < n := ⟨Int.emod_nonneg _ (by omega), Int.emod_lt_of_pos _ (by omega)⟩
theorem bel_walk (z n : Int) (h : 1 ≤ n) (h' : n ≤ 9223372036854775807) : wrap64 ((mix z).tmod (IntKind.u64.wrap n)) = bel z n := by
  have hm := mix_range z
  have hn : IntKind.u64.wrap n = n := by rw [u64_eq]; omega
  have hb := bel_range z n h
  rw [hn, Int.tmod_eq_emod_of_nonneg hm.1]
  show wrap64 (bel z n) = _
  unfold wrap64; omega
theorem u64_pos (n : Int) (h : 1 ≤ n) (h' : n ≤ 9223372036854775807) : ¬ IntKind.u64.wrap n = 0 := by
  have hn : IntKind.u64.wrap n = n := by rw [u64_eq]; omega
  rw [hn]; omega

theorem new_run (s : Int) (w : World) :
    Calls Try.prog 5 #[.int .u64 s] w fun e w' => e = .returned (.pointer (some ⟨w.heap.size, 0, none⟩)) ∧ w.alloc (.cells [.int .u64 s].toArray 48) = w' := by
  go_enter Try.func5, Try.ntmps5
  go_wp2
  go_ret
  exact ⟨rfl, rfl⟩

theorem below_no (g : Nat) (n : Int) (w : World) (h : n < 1) :
    Calls Try.prog 18 #[.pointer (some ⟨g, 0, none⟩), .int .i64 n] w fun e w' => e = .returned (.int .i64 0) ∧ w = w' := by
  have hd : decide (n < 1) = true := decide_eq_true h
  go_enter Try.func18, Try.ntmps18
  go_wp2
  go_ret
  exact ⟨rfl, rfl⟩
theorem below_run (g : Nat) (s n : Int) (w : World) (hb : Blk w g [.int .u64 s] 48) (h : 1 ≤ n) (h' : n ≤ 9223372036854775807) :
    Calls Try.prog 18 #[.pointer (some ⟨g, 0, none⟩), .int .i64 n] w fun e w' => e = .returned (.int .i64 (bel (nx s) n)) ∧ w.setCell ⟨g, 0, none⟩ (.int .u64 (nx s)) = w' := by
  have hd : decide (n < 1) = false := decide_eq_false (by omega)
  have hz := u64_pos n h h'
  have HW := Hid.out (p := wrap64 ((mix (nx s)).tmod (IntKind.u64.wrap n)) = bel (nx s) n) (bel_walk _ n h h')
  have HX : Hid (wrap64 ((mix (nx s)).tmod (IntKind.u64.wrap n)) = bel (nx s) n) := HW
  clear HW h h'
  go_enter Try.func18, Try.ntmps18
  go_wp2_with (first | (go_at_call 16; refine (next_run g s _ hb).mono ?_; rintro e w' ⟨rfl, rfl⟩))
  go_ret
  exact ⟨ret_int HX.out, rfl⟩

/-- The reference's dice at block g: a state, and how many numbers were taken. -/
theorem rbelow_no (g : Nat) (n : Int) (w : World) (h : n < 1) :
    Calls Try.prog 21 #[.pointer (some ⟨g, 0, none⟩), .int .i64 n] w fun e w' => e = .returned (.int .i64 0) ∧ w = w' := by
  have hd : decide (n < 1) = true := decide_eq_true h
  go_enter Try.func21, Try.ntmps21
  go_wp2
  go_ret
  exact ⟨rfl, rfl⟩
theorem rbelow_run (g : Nat) (s : Int) (k : Nat) (n : Int) (w : World) (h0 : 0 ≤ s) (h1 : s < 18446744073709551616) (hk : (k : Int) ≤ 1000000) (hb : Blk w g [.int .u64 s, .int .i64 k] 30) (h : 1 ≤ n) (h' : n ≤ 9223372036854775807) :
    Calls Try.prog 21 #[.pointer (some ⟨g, 0, none⟩), .int .i64 n] w fun e w' => e = .returned (.int .i64 (bel (nx (stt s k)) n)) ∧ ∃ m, (w.setCell ⟨g, 1, none⟩ (.int .i64 (k + 1 : Nat))).drewN m = w' := by
  have hd : decide (n < 1) = false := decide_eq_false (by omega)
  have hz := u64_pos n h h'
  have HX := hid (bel_walk (stt s (k + 1)) n h h')
  have HS := hid (stt_num s h0 h1 (k + 1))
  have HK : Hid (((k + 1 : Nat) : Int) = (k : Int) + 1) := by simp [Hid]
  have hc0 := hb.cell 0
  have hc1 := hb.cell 1
  have hf := hb.frozen 1
  simp only [List.getElem?_cons_zero, List.getElem?_cons_succ] at hc0 hc1
  clear hb h h' h0 h1
  go_enter Try.func21, Try.ntmps21
  go_wp2
  go_quiet ((go_at_call 14; exact quiet_same (number_run _ _ _)))
  go_wp2
  go_ret
  exact ⟨ret_int (by show wrap64 ((num s (k + 1)).tmod _) = _; rw [← HK.out, HS.out]; exact HX.out), nq, by rw [HK.out]⟩
end Go.Proofs.Ythonhbciileomaa.Dice
