/- What dice make up: words of programs, configs, draws: by the program and by the document. -/
import Derived.Test.YthonhbciileomaaDiceMkP
set_option maxRecDepth 100000
set_option maxHeartbeats 1000000
set_option linter.unusedVariables false
set_option linter.unusedSimpArgs false
namespace Go.Proofs.Ythonhbciileomaa.Dice
open Go.RowKit Go.Proofs.Ythonhbciileomaa.TK Go.Proofs.Ythonhbciileomaa.Flag Go.Proofs.Ythonhbciileomaa.Read Go.Proofs.Ythonhbciileomaa.Grow
theorem infoU : Elem Try.prog 22 (.int .u64 0) 1 8 := by unfold Elem; kernel_rfl
theorem encU_len (x : Int) : (encI .u64 x).length = 1 := rfl
theorem encU_one (x : Int) : ∀ u ∈ encI .u64 x, u.oneCell' = true := by intro u hu; simp [encI] at hu; subst hu; rfl
theorem orb0 : ∀ r : Fin 16, ∀ k : Fin 8, bits BinOp.or IntKind.u64 (((r.val : Nat) : Int) * 8) ((k.val : Nat) : Int) = ((k.val : Nat) : Int) + 8 * ((r.val : Nat) : Int) := by decide +kernel
theorem orb {r k : Int} (hr : 0 ≤ r ∧ r < 16) (hk : 0 ≤ k ∧ k < 8) : bits BinOp.or IntKind.u64 (r * 8) k = k + 8 * r := by
  have := orb0 ⟨r.toNat, by omega⟩ ⟨k.toNat, by omega⟩
  simp only at this
  rwa [Int.toNat_of_nonneg hr.1, Int.toNat_of_nonneg hk.1] at this
theorem dword_run (k r : Int) (hk : 0 ≤ k ∧ k < 8) (hr : 0 ≤ r ∧ r < 16) (w : World) :
    Calls Try.prog 24 #[.int .i64 k, .int .i64 r] w fun e w' => e = .returned (.int .u64 (k + 8 * r)) ∧ w = w' := by
  have n1 : IntKind.u64.wrap r = r := by rw [u64_eq]; omega
  have n2 : IntKind.u64.wrap k = k := by rw [u64_eq]; omega
  have n3 : IntKind.u64.wrap (r * 8) = r * 8 := by rw [u64_eq]; omega
  have HO := hid (orb hr hk)
  clear hk hr
  go_enter Try.func24, Try.ntmps24
  go_wp2
  go_ret
  exact ⟨ret_int HO.out, rfl⟩
theorem instr_run (g : Nat) (a0 : Int) (m : Nat) (n : Int) (w : World) (hb : DiceAt w g a0 m) (hn : 1 ≤ n ∧ n ≤ 16) :
    Calls Try.prog 22 #[.pointer (some ⟨g, 0, none⟩), .int .i64 n] w fun e w' => e = .returned (.int .u64 (instrL a0 n m).1) ∧ DiceAt w' g a0 (instrL a0 n m).2 ∧ Kept [g] w w' := by
  have hk := blAt_range a0 m 8 (by omega)
  obtain ⟨k, hkd⟩ : ∃ k, k = blAt a0 m 8 := ⟨_, rfl⟩
  have HN := hid hn
  clear hn
  go_enter Try.func22, Try.ntmps22
  go_wp2_with fail
  refine (dbelow_run g a0 m 8 _ hb (by omega) (by omega)).mono ?_
  rintro e w1 ⟨rfl, HD, K1⟩
  rw [← hkd] at hk ⊢
  have HKD := hid hkd
  clear hkd hb
  rcases (show k = 0 ∨ k = 1 ∨ k = 2 ∨ k = 3 ∨ k = 4 ∨ (k ≠ 0 ∧ k ≠ 1 ∧ k ≠ 2 ∧ k ≠ 3 ∧ k ≠ 4) by omega) with rfl | rfl | rfl | rfl | rfl | ⟨k0, k1, k2, k3, k4⟩
  · have HR : Hid (instrL a0 n m = (2 + 8 * blAt a0 (m + 1) n, m + 2)) := by (unfold Hid instrL; repeat (first | rw [if_pos HKD.out.symm] | rw [if_neg (by rw [← HKD.out]; omega)]))
    have hr := blAt_range a0 (m + 1) n HN.out.1
    go_wp2_with fail
    refine (dbelow_run g a0 (m + 1) n _ HD HN.out.1 (by have := HN.out; omega)).mono ?_
    rintro e w2 ⟨rfl, HD2, K2⟩
    go_wp2_with fail
    refine (dword_run 2 _ (by omega) ⟨hr.1, by have := HN.out; omega⟩ _).mono ?_
    rintro e w3 ⟨rfl, rfl⟩
    go_wp2
    go_ret
    rw [HR.out]
    exact ⟨rfl, HD2, K1.trans K2 (by simp)⟩
  · have HR : Hid (instrL a0 n m = (3, m + 1)) := by (unfold Hid instrL; repeat (first | rw [if_pos HKD.out.symm] | rw [if_neg (by rw [← HKD.out]; omega)]))
    go_wp2_with fail
    refine (dword_run 3 0 (by omega) (by omega) _).mono ?_
    rintro e w3 ⟨rfl, rfl⟩
    go_wp2
    go_ret
    rw [HR.out]
    exact ⟨rfl, HD, K1⟩
  · have HR : Hid (instrL a0 n m = (4, m + 1)) := by (unfold Hid instrL; repeat (first | rw [if_pos HKD.out.symm] | rw [if_neg (by rw [← HKD.out]; omega)]))
    go_wp2_with fail
    refine (dword_run 4 0 (by omega) (by omega) _).mono ?_
    rintro e w3 ⟨rfl, rfl⟩
    go_wp2
    go_ret
    rw [HR.out]
    exact ⟨rfl, HD, K1⟩
  · have HR : Hid (instrL a0 n m = (5 + 8 * blAt a0 (m + 1) 8, m + 2)) := by (unfold Hid instrL; repeat (first | rw [if_pos HKD.out.symm] | rw [if_neg (by rw [← HKD.out]; omega)]))
    have hr := blAt_range a0 (m + 1) 8 (by omega)
    go_wp2_with fail
    refine (dbelow_run g a0 (m + 1) 8 _ HD (by omega) (by omega)).mono ?_
    rintro e w2 ⟨rfl, HD2, K2⟩
    go_wp2_with fail
    refine (dword_run 5 _ (by omega) (by omega) _).mono ?_
    rintro e w3 ⟨rfl, rfl⟩
    go_wp2
    go_ret
    rw [HR.out]
    exact ⟨rfl, HD2, K1.trans K2 (by simp)⟩
  · have HR : Hid (instrL a0 n m = (6, m + 1)) := by (unfold Hid instrL; repeat (first | rw [if_pos HKD.out.symm] | rw [if_neg (by rw [← HKD.out]; omega)]))
    go_wp2_with fail
    refine (dword_run 6 0 (by omega) (by omega) _).mono ?_
    rintro e w3 ⟨rfl, rfl⟩
    go_wp2
    go_ret
    rw [HR.out]
    exact ⟨rfl, HD, K1⟩
  · have HR : Hid (instrL a0 n m = (1 + 8 * blAt a0 (m + 1) 16, m + 2)) := by (unfold Hid instrL; repeat (first | rw [if_pos HKD.out.symm] | rw [if_neg (by rw [← HKD.out]; omega)]))
    have hr := blAt_range a0 (m + 1) 16 (by omega)
    go_wp2_with fail
    refine (dbelow_run g a0 (m + 1) 16 _ HD (by omega) (by omega)).mono ?_
    rintro e w2 ⟨rfl, HD2, K2⟩
    go_wp2_with fail
    refine (dword_run 1 _ (by omega) (by omega) _).mono ?_
    rintro e w3 ⟨rfl, rfl⟩
    go_wp2
    go_ret
    rw [HR.out]
    exact ⟨rfl, HD2, K1.trans K2 (by simp)⟩
/-- The document's dice of the state a0, behind m numbers, at block g. -/
def RDiceAt (w : World) (g : Nat) (a0 : Int) (m : Nat) : Prop := Blk w g [.int .u64 a0, .int .i64 (m : Int)] 30
def U64 (a0 : Int) : Prop := 0 ≤ a0 ∧ a0 < 18446744073709551616
theorem rdbelow_run (g : Nat) (a0 : Int) (m : Nat) (n : Int) (w : World) (hb : RDiceAt w g a0 m) (ha : U64 a0) (hm : m ≤ 1000000) (h : 1 ≤ n) (h' : n ≤ 9223372036854775807) :
    Calls Try.prog 21 #[.pointer (some ⟨g, 0, none⟩), .int .i64 n] w fun e w' => e = .returned (.int .i64 (blAt a0 m n)) ∧ RDiceAt w' g a0 (m + 1) ∧ Kept [g] w w' := by
  refine (rbelow_run g a0 m n w ha.1 ha.2 (by omega) hb h h').mono ?_
  rintro e w' ⟨rfl, q, rfl⟩
  exact ⟨rfl, Blk.quiet (Blk.set hb 1 _) (below_drewN (Below.refl _ _) _), ((Kept.refl [g] w).set (.inl (by simp)) _).drewN q⟩
theorem rword_run (g : Nat) (a0 : Int) (m : Nat) (n : Int) (w : World) (hb : RDiceAt w g a0 m) (ha : U64 a0) (hm : m ≤ 900000) (hn : 1 ≤ n ∧ n ≤ 16) :
    Calls Try.prog 23 #[.pointer (some ⟨g, 0, none⟩), .int .i64 n] w fun e w' => e = .returned (.int .u64 (instrL a0 n m).1) ∧ RDiceAt w' g a0 (instrL a0 n m).2 ∧ Kept [g] w w' := by
  have hk := blAt_range a0 m 8 (by omega)
  obtain ⟨k, hkd⟩ : ∃ k, k = blAt a0 m 8 := ⟨_, rfl⟩
  have HN := hid hn
  clear hn
  go_enter Try.func23, Try.ntmps23
  go_wp2_with fail
  refine (rdbelow_run g a0 m 8 _ hb ha (by omega) (by omega) (by omega)).mono ?_
  rintro e w1 ⟨rfl, HD, K1⟩
  rw [← hkd] at hk ⊢
  have HKD := hid hkd
  clear hkd hb
  rcases (show k = 0 ∨ k = 1 ∨ k = 2 ∨ k = 3 ∨ k = 4 ∨ (k ≠ 0 ∧ k ≠ 1 ∧ k ≠ 2 ∧ k ≠ 3 ∧ k ≠ 4) by omega) with rfl | rfl | rfl | rfl | rfl | ⟨k0, k1, k2, k3, k4⟩
  · have HR : Hid (instrL a0 n m = (2 + 8 * blAt a0 (m + 1) n, m + 2)) := by (unfold Hid instrL; repeat (first | rw [if_pos HKD.out.symm] | rw [if_neg (by rw [← HKD.out]; omega)]))
    have hr := blAt_range a0 (m + 1) n HN.out.1
    go_wp2_with fail
    refine (rdbelow_run g a0 (m + 1) n _ HD ha (by omega) HN.out.1 (by have := HN.out; omega)).mono ?_
    rintro e w2 ⟨rfl, HD2, K2⟩
    obtain ⟨r, hrd⟩ : ∃ r, r = blAt a0 (m + 1) n := ⟨_, rfl⟩
    rw [← hrd] at hr HR ⊢
    have hr2 : r < 16 := by have := HN.out; omega
    have n1 : IntKind.u64.wrap (2 + 8 * r) = 2 + 8 * r := by rw [u64_eq]; omega
    clear hrd
    go_wp2
    go_ret
    rw [HR.out]
    exact ⟨rfl, HD2, K1.trans K2 (by simp)⟩
  · have HR : Hid (instrL a0 n m = (3, m + 1)) := by (unfold Hid instrL; repeat (first | rw [if_pos HKD.out.symm] | rw [if_neg (by rw [← HKD.out]; omega)]))
    go_wp2
    go_ret
    rw [HR.out]
    exact ⟨rfl, HD, K1⟩
  · have HR : Hid (instrL a0 n m = (4, m + 1)) := by (unfold Hid instrL; repeat (first | rw [if_pos HKD.out.symm] | rw [if_neg (by rw [← HKD.out]; omega)]))
    go_wp2
    go_ret
    rw [HR.out]
    exact ⟨rfl, HD, K1⟩
  · have HR : Hid (instrL a0 n m = (5 + 8 * blAt a0 (m + 1) 8, m + 2)) := by (unfold Hid instrL; repeat (first | rw [if_pos HKD.out.symm] | rw [if_neg (by rw [← HKD.out]; omega)]))
    have hr := blAt_range a0 (m + 1) 8 (by omega)
    go_wp2_with fail
    refine (rdbelow_run g a0 (m + 1) 8 _ HD ha (by omega) (by omega) (by omega)).mono ?_
    rintro e w2 ⟨rfl, HD2, K2⟩
    obtain ⟨r, hrd⟩ : ∃ r, r = blAt a0 (m + 1) 8 := ⟨_, rfl⟩
    rw [← hrd] at hr HR ⊢
    have n1 : IntKind.u64.wrap (5 + 8 * r) = 5 + 8 * r := by rw [u64_eq]; omega
    clear hrd
    go_wp2
    go_ret
    rw [HR.out]
    exact ⟨rfl, HD2, K1.trans K2 (by simp)⟩
  · have HR : Hid (instrL a0 n m = (6, m + 1)) := by (unfold Hid instrL; repeat (first | rw [if_pos HKD.out.symm] | rw [if_neg (by rw [← HKD.out]; omega)]))
    go_wp2
    go_ret
    rw [HR.out]
    exact ⟨rfl, HD, K1⟩
  · have HR : Hid (instrL a0 n m = (1 + 8 * blAt a0 (m + 1) 16, m + 2)) := by (unfold Hid instrL; repeat (first | rw [if_pos HKD.out.symm] | rw [if_neg (by rw [← HKD.out]; omega)]))
    have hr := blAt_range a0 (m + 1) 16 (by omega)
    go_wp2_with fail
    refine (rdbelow_run g a0 (m + 1) 16 _ HD ha (by omega) (by omega) (by omega)).mono ?_
    rintro e w2 ⟨rfl, HD2, K2⟩
    obtain ⟨r, hrd⟩ : ∃ r, r = blAt a0 (m + 1) 16 := ⟨_, rfl⟩
    rw [← hrd] at hr HR ⊢
    have n1 : IntKind.u64.wrap (1 + 8 * r) = 1 + 8 * r := by rw [u64_eq]; omega
    clear hrd
    go_wp2
    go_ret
    rw [HR.out]
    exact ⟨rfl, HD2, K1.trans K2 (by simp)⟩
end Go.Proofs.Ythonhbciileomaa.Dice
