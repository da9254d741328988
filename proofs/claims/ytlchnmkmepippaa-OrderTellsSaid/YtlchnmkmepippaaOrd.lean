/- The order of a draw: its numbers, and the program's small functions (common, Strides, Start, Step). -/
import Derived.Test.YtlchnmkmepippaaProg
import Derived.Test.YtlchnmkmepippaaGrow
import Derived.Outline
set_option maxRecDepth 100000
set_option maxHeartbeats 4000000
set_option linter.unusedVariables false
set_option linter.unusedSimpArgs false
namespace Go.Proofs.Ytlchnmkmepippaa.Ord
open Go.RowKit Go.Proofs.Ytlchnmkmepippaa.TK Go.Proofs.Ytlchnmkmepippaa.Flag Go.Proofs.Ytlchnmkmepippaa.Read Go.Proofs.Ytlchnmkmepippaa.Grow

/-- The strides up to m, of n things. -/
def strTo (n m : Nat) : List Nat := ((List.range m).map (· + 1)).filter (fun k => Nat.gcd k n == 1)
def strides (n : Nat) : List Nat := strTo n n
theorem strTo_yes {n m : Nat} (h : Nat.gcd (m + 1) n = 1) : strTo n (m + 1) = strTo n m ++ [m + 1] := by
  unfold strTo; rw [List.range_succ, List.map_append, List.filter_append]; simp [h]
theorem strTo_no {n m : Nat} (h : ¬ Nat.gcd (m + 1) n = 1) : strTo n (m + 1) = strTo n m := by
  unfold strTo; rw [List.range_succ, List.map_append, List.filter_append]; simp [h]
theorem strTo_le (n m : Nat) : (strTo n m).length ≤ m := by
  unfold strTo; exact Nat.le_trans (List.length_filter_le _ _) (by simp)
theorem strides_pos (n : Nat) (h : 1 ≤ n) : 1 ≤ (strides n).length := by
  have : 1 ∈ strides n := by unfold strides strTo; simp; omega
  exact List.length_pos_of_mem this
theorem strides_range (n : Nat) (k : Nat) (h : k ∈ strides n) : 1 ≤ k ∧ k ≤ n ∧ Nat.gcd k n = 1 := by
  unfold strides strTo at h; simp at h
  obtain ⟨⟨j, hj, rfl⟩, h2⟩ := h
  exact ⟨by omega, by omega, h2⟩
/-- An order's start and step. -/
def start (n w : Nat) : Nat := w % n
def stepIx (n w : Nat) : Nat := w / n % (strides n).length
def step (n w : Nat) : Nat := (strides n).getD (stepIx n w) 0
theorem stepIx_lt (n w : Nat) (h : 1 ≤ n) : stepIx n w < (strides n).length := Nat.mod_lt _ (strides_pos n h)
theorem step_eq (n w : Nat) (h : 1 ≤ n) : step n w = (strides n)[stepIx n w]'(stepIx_lt n w h) := by
  unfold step; rw [List.getD_eq_getElem?_getD, List.getElem?_eq_getElem (stepIx_lt n w h)]; rfl
theorem step_range (n w : Nat) (h : 1 ≤ n) : 1 ≤ step n w ∧ step n w ≤ n ∧ Nat.gcd (step n w) n = 1 := by
  rw [step_eq n w h]; exact strides_range n _ (List.getElem_mem _)
theorem start_lt (n w : Nat) (h : 1 ≤ n) : start n w < n := Nat.mod_lt _ h
/-- The number at place i. -/
def at_ (n w i : Nat) : Nat := (start n w + i * step n w) % n
theorem at_lt (n w i : Nat) (h : 1 ≤ n) : at_ n w i < n := Nat.mod_lt _ h
theorem at_zero (n w : Nat) (h : 1 ≤ n) : at_ n w 0 = start n w := by unfold at_; rw [Nat.zero_mul, Nat.add_zero]; exact Nat.mod_eq_of_lt (start_lt n w h)
theorem at_succ (n w i : Nat) : at_ n w (i + 1) = (at_ n w i + step n w) % n := by
  unfold at_; rw [Nat.mod_add_mod, Nat.succ_mul, Nat.add_assoc]
def upto (n w k : Nat) : List Nat := (List.range k).map (at_ n w)
theorem upto_succ (n w k : Nat) : upto n w (k + 1) = upto n w k ++ [at_ n w k] := by simp [upto, List.range_succ]
theorem upto_length (n w k : Nat) : (upto n w k).length = k := by simp [upto]
def orderL (n w : Nat) : List Nat := upto n w n
theorem orderL_length (n w : Nat) : (orderL n w).length = n := upto_length n w n

def encN (k : Nat) : List Value := [.int .i64 (k : Int)]
theorem infoI : Elem Try.prog 3 (.int .i64 0) 1 8 := by unfold Elem; kernel_rfl
theorem encN_len (x : Nat) : (encN x).length = 1 := rfl
theorem encN_one (x : Nat) : ∀ u ∈ encN x, u.oneCell' = true := by intro u hu; simp [encN] at hu; subst hu; rfl

theorem known_yes (n : Nat) (h : 1 ≤ n) (h' : n ≤ 64) (w : World) : Calls Try.prog 74 #[.int .i64 (n : Int)] w fun e w' => e = .returned (.bool true) ∧ w = w' := by
  have h0 : (1 : Int) ≤ (n : Int) := by omega
  have h1 : (n : Int) ≤ 64 := by omega
  go_enter Try.func74, Try.ntmps74
  go_wp2
  go_ret
  exact ⟨rfl, rfl⟩
theorem known_no (n : Int) (h : n < 1 ∨ 64 < n) (w : World) : Calls Try.prog 74 #[.int .i64 n] w fun e w' => e = .returned (.bool false) ∧ w = w' := by
  rcases h with h | h
  · go_enter Try.func74, Try.ntmps74
    go_wp2
    go_ret
    exact ⟨rfl, rfl⟩
  · have h1 : 1 ≤ n := by omega
    have hd : decide (n ≤ 64) = false := decide_eq_false (by omega)
    go_enter Try.func74, Try.ntmps74
    go_wp2
    go_ret
    exact ⟨rfl, rfl⟩
theorem lknown_yes (n : Nat) (h : 1 ≤ n) (h' : n ≤ 64) (w : World) : Calls Try.prog 30 #[.int .i64 (n : Int)] w fun e w' => e = .returned (.bool true) ∧ w = w' := by
  have h0 : (1 : Int) ≤ (n : Int) := by omega
  have h1 : (n : Int) ≤ 64 := by omega
  go_enter Try.func30, Try.ntmps30
  go_wp2
  go_ret
  exact ⟨rfl, rfl⟩
theorem lknown_no (n : Int) (h : n < 1 ∨ 64 < n) (w : World) : Calls Try.prog 30 #[.int .i64 n] w fun e w' => e = .returned (.bool false) ∧ w = w' := by
  rcases h with h | h
  · go_enter Try.func30, Try.ntmps30
    go_wp2
    go_ret
    exact ⟨rfl, rfl⟩
  · have h1 : 1 ≤ n := by omega
    have hd : decide (n ≤ 64) = false := decide_eq_false (by omega)
    go_enter Try.func30, Try.ntmps30
    go_wp2
    go_ret
    exact ⟨rfl, rfl⟩

theorem gcd_step (a b : Nat) : Nat.gcd b (a % b) = Nat.gcd a b := by
  rw [Nat.gcd_comm b, ← Nat.gcd_rec, Nat.gcd_comm]
theorem common_run (a0 b0 : Nat) (ha : a0 ≤ 1000) (hb : b0 ≤ 1000) (w : World) :
    Calls Try.prog 75 #[.int .i64 (a0 : Int), .int .i64 (b0 : Int)] w fun e w' => e = .returned (.int .i64 ((Nat.gcd a0 b0 : Nat) : Int)) ∧ Below w.heap.size w w' := by
  go_enter Try.func75, Try.ntmps75
  go_wp2
  go_loopw [0, 1] (fun x y wr => ∃ a b : Nat, a ≤ 1000 ∧ b ≤ 1000 ∧ x = .int .i64 (a : Int) ∧ y = .int .i64 (b : Int) ∧ Nat.gcd a b = Nat.gcd a0 b0 ∧ Below w.heap.size w wr) (fun _ y _ => (intOf y).toNat)
  case atStart => exact ⟨a0, b0, ha, hb, rfl, rfl, rfl, Below.refl _ _⟩
  case round =>
    obtain ⟨a, b, ha1, hb1, rfl, rfl, hg, hlow⟩ := hrel
    have HG := hid hg
    clear hg
    by_cases h0 : b = 0
    · subst h0
      go_wp2
      go_ret
      have := HG.out
      rw [Nat.gcd_zero_right] at this
      exact ⟨ret_int (by rw [this]), hlow⟩
    · have hbn : ((b : Int) == 0) = false := by simpa using h0
      have hbn' : ((b : Int) != 0) = true := by simpa using h0
      have hbz : ¬ (b : Int) = 0 := by omega
      have hlt := Nat.mod_lt a (Nat.pos_of_ne_zero h0)
      go_wp2
      go_quiet (fail)
      go_wp2
      go_roundw
      case rel => exact ⟨b, a % b, hb1, by omega, rfl, by rw [Int.natCast_emod], (gcd_step a b).trans HG.out, below_drewN hlow _⟩
      case measure => simp only [intOf]; omega

theorem strides_run (n : Nat) (h : 1 ≤ n) (h' : n ≤ 64) (w : World) :
    Calls Try.prog 32 #[.int .i64 (n : Int)] w fun e w' => ∃ v, e = .returned v ∧ Grow w' w.heap.size 3 1 encN v (strides n) ∧ Below w.heap.size w w' := by
  go_enter Try.func32, Try.ntmps32
  go_wp2_with (first | (go_at_call 74; refine (known_yes n h h' _).mono ?_; rintro e w' ⟨rfl, rfl⟩))
  go_loopw [3, 4] (fun v i wr => ∃ k : Nat, k ≤ n ∧ i = .int .i64 ((k : Int) + 1) ∧ Grow wr w.heap.size 3 1 encN v (strTo n k) ∧ Below w.heap.size w wr) (fun _ i _ => n + 1 - (intOf i).toNat)
  case atStart => exact ⟨0, Nat.zero_le _, rfl, Grow.nil _ _ _ _ _, Below.refl _ _⟩
  case round =>
    obtain ⟨k, hk, rfl, hG, hlow⟩ := hrel
    by_cases hkn : k < n
    · by_cases hg : Nat.gcd (k + 1) n = 1
      · have HY := hid (strTo_yes hg)
        have HG := hid hg
        clear hg
        have hle := strTo_le n k
        go_wp2_with fail
        refine (common_run (k + 1) n (by omega) (by omega) _).mono ?_
        rintro e w1 ⟨rfl, hb⟩
        rw [HG.out]
        have hG1 := hG.quiet hb
        have hlow1 := Below.then_ hlow hb
        clear hG hlow hb
        go_wp2_with (first | (at_builtin; refine app_one (T := 3) (k + 1) hG1 infoI Try.underlying23 rfl (by decide) (by omega) rfl _ _ rfl rfl rfl rfl (encN_len _) (encN_one _) (by omega) hlow1.size ?_; intro v' w2 hG2 hb2 hle2))
        rw [← HY.out] at hG2
        go_roundw
        case rel => exact ⟨k + 1, by omega, by go_num, hG2, hlow1.trans hb2⟩
        case measure => simp only [intOf]; omega
      · have HY := hid (strTo_no hg)
        have hd : (((Nat.gcd (k + 1) n : Nat) : Int) == 1) = false := by simpa using (by omega : ¬ ((Nat.gcd (k + 1) n : Nat) : Int) = 1)
        clear hg
        go_wp2_with fail
        refine (common_run (k + 1) n (by omega) (by omega) _).mono ?_
        rintro e w1 ⟨rfl, hb⟩
        have hG1 := hG.quiet hb
        have hlow1 := Below.then_ hlow hb
        clear hG hlow hb
        go_wp2
        rw [← HY.out] at hG1
        go_roundw
        case rel => exact ⟨k + 1, by omega, by go_num, hG1, hlow1⟩
        case measure => simp only [intOf]; omega
    · obtain rfl : k = n := by omega
      go_wp2
      go_ret
      exact ⟨_, rfl, hG, hlow⟩
theorem strides_no (n : Int) (h : n < 1 ∨ 64 < n) (w : World) :
    Calls Try.prog 32 #[.int .i64 n] w fun e w' => e = .returned (.slice none 0 0) ∧ w = w' := by
  go_enter Try.func32, Try.ntmps32
  go_wp2_with (first | (go_at_call 74; refine (known_no n h _).mono ?_; rintro e w' ⟨rfl, rfl⟩))
  go_ret
  exact ⟨rfl, rfl⟩
theorem u64_nat (n : Nat) (h' : n ≤ 1000) : IntKind.u64.wrap (n : Int) = n := by
  have : IntKind.u64.wrap (n : Int) = (n : Int) % 18446744073709551616 := rfl
  rw [this]; omega
theorem start_walk (n w : Nat) (h : 1 ≤ n) (h' : n ≤ 1000) : wrap64 ((w : Int) % (n : Int)) = (start n w : Int) := by
  rw [← Int.natCast_emod]
  have := start_lt n w h
  show wrap64 ((start n w : Nat) : Int) = _
  unfold wrap64; omega
theorem start_run (n w0 : Nat) (h : 1 ≤ n) (h' : n ≤ 64) (hw : (w0 : Int) < 18446744073709551616) (w : World) :
    Calls Try.prog 33 #[.int .i64 (n : Int), .int .u64 (w0 : Int)] w fun e w' => e = .returned (.int .i64 (start n w0 : Int)) ∧ w = w' := by
  have HS := hid (start_walk n w0 h (by omega))
  have hz : ¬ IntKind.u64.wrap (n : Int) = 0 := by rw [u64_nat n (by omega)]; omega
  go_enter Try.func33, Try.ntmps33
  go_wp2_with (first | (go_at_call 74; refine (known_yes n h h' _).mono ?_; rintro e w' ⟨rfl, rfl⟩))
  go_ret
  exact ⟨ret_int HS.out, rfl⟩
theorem start_no (n w0 : Int) (h : n < 1 ∨ 64 < n) (w : World) :
    Calls Try.prog 33 #[.int .i64 n, .int .u64 w0] w fun e w' => e = .returned (.int .i64 0) ∧ w = w' := by
  go_enter Try.func33, Try.ntmps33
  go_wp2_with (first | (go_at_call 74; refine (known_no n h _).mono ?_; rintro e w' ⟨rfl, rfl⟩))
  go_ret
  exact ⟨rfl, rfl⟩
theorem step_no (n w0 : Int) (h : n < 1 ∨ 64 < n) (w : World) :
    Calls Try.prog 34 #[.int .i64 n, .int .u64 w0] w fun e w' => e = .returned (.int .i64 0) ∧ w = w' := by
  go_enter Try.func34, Try.ntmps34
  go_wp2_with (first | (go_at_call 32; refine (strides_no n h _).mono ?_; rintro e w' ⟨rfl, rfl⟩))
  go_ret
  exact ⟨rfl, rfl⟩
theorem step_walk (n w0 : Nat) (hw : (w0 : Int) < 18446744073709551616) : (IntKind.u64.wrap ((w0 : Int) / (n : Int))).tmod ((strides n).length : Int) = (stepIx n w0 : Int) := by
  have hq : w0 / n ≤ w0 := Nat.div_le_self _ _
  have : IntKind.u64.wrap ((w0 : Int) / (n : Int)) = ((w0 / n : Nat) : Int) := by
    have h1 : IntKind.u64.wrap ((w0 : Int) / (n : Int)) = ((w0 : Int) / (n : Int)) % 18446744073709551616 := rfl
    rw [h1, ← Int.natCast_ediv]
    generalize w0 / n = q at *
    omega
  rw [this, Int.tmod_eq_emod_of_nonneg (Int.natCast_nonneg _), ← Int.natCast_emod]; rfl
theorem step_run (n w0 : Nat) (h : 1 ≤ n) (h' : n ≤ 64) (hw : (w0 : Int) < 18446744073709551616) (w : World) :
    Calls Try.prog 34 #[.int .i64 (n : Int), .int .u64 (w0 : Int)] w fun e w' => e = .returned (.int .i64 (step n w0 : Int)) ∧ Below w.heap.size w w' := by
  have hp := strides_pos n h
  have hle : (strides n).length ≤ n := strTo_le n n
  have hlt := stepIx_lt n w0 h
  go_enter Try.func34, Try.ntmps34
  go_wp2_with fail
  refine (strides_run n h h' _).mono ?_
  rintro e w1 ⟨v, rfl, hG, hb⟩
  obtain ⟨a, cap, rfl, hr, hnil, hblk⟩ := hG.row encN_len
  obtain ⟨x, rfl, hx⟩ := hr (stepIx n w0) hlt
  have hx0 := hx 0 (.int .i64 (step n w0 : Int)) (by rw [step_eq n w0 h]; rfl)
  rw [Nat.mul_one, Nat.add_zero] at hx0
  have e1 : (IntKind.u64.wrap ((w0 : Int) / (n : Int))).tmod ((strides n).length : Int) = (stepIx n w0 : Int) := step_walk n w0 hw
  obtain ⟨m, hm⟩ : ∃ m, m = (strides n).length := ⟨_, rfl⟩
  obtain ⟨j, hj⟩ : ∃ j, j = stepIx n w0 := ⟨_, rfl⟩
  rw [← hm, ← hj] at e1
  rw [← hj] at hx0 hlt
  rw [← hm] at hlt hp hle ⊢
  have hj0 : (0 : Int) ≤ (j : Int) := by omega
  have hj1 : (j : Int) < (m : Int) := by omega
  have hm1 : (1 : Int) ≤ (m : Int) := by omega
  clear hm hj hx hr hnil hG hw
  go_wp2
  go_ret
  exact ⟨rfl, hb⟩
end Go.Proofs.Ytlchnmkmepippaa.Ord
