/- The walks of OrderOnce and OrderMany, and the layer's example. -/
import Derived.Test.YtlchnmkmepippaaOrdC
import Derived.Test.YtlchnmkmepippaaOrdP
import Derived.Laws.NewBlocks
set_option maxRecDepth 100000
set_option maxHeartbeats 4000000
set_option linter.unusedVariables false
set_option linter.unusedSimpArgs false
namespace Go.Proofs.Ytlchnmkmepippaa.Ord
open Go.RowKit Go.Proofs.Ytlchnmkmepippaa.TK Go.Proofs.Ytlchnmkmepippaa.Flag Go.Proofs.Ytlchnmkmepippaa.Read Go.Proofs.Ytlchnmkmepippaa.Grow

theorem flat_encN (xs : List Nat) (i : Nat) (h : i < xs.length) : (xs.flatMap encN)[i]? = some (.int .i64 (xs[i] : Int)) := by
  have := flat_get (enc := encN) (size := 1) encN_len xs i 0 h (by omega)
  simpa [encN] using this
/-- A literal's row. -/
theorem row_lit (w : World) (cs : Array Value) (T : TypeId) (xs : List Nat) (h : cs.toList = xs.flatMap encN) : RowOf encN 1 (w.alloc (.cells cs T)) (some ⟨w.heap.size, 0, none⟩) xs := by
  obtain rfl : cs = (xs.flatMap encN).toArray := by rw [← h]
  have hb := Blk.new w (xs.flatMap encN) T
  intro i hi
  refine ⟨_, rfl, fun j v hj => ?_⟩
  have hj0 : j < 1 := by have := (List.getElem?_eq_some_iff.1 hj).1; simpa [encN] using this
  obtain rfl : j = 0 := by omega
  have e1 : (⟨w.heap.size, 0, none⟩ : Addr).add (i * 1 + 0) = ⟨w.heap.size, i, none⟩ := by unfold Addr.add; split <;> simp_all
  rw [e1]
  have h2 := hb.cell i
  rw [flat_encN xs i hi] at h2
  simp [encN] at hj
  subst hj
  exact h2

theorem awake_run (w : World) : Calls Try.prog 31 #[] w fun e w' => e = .returned (.bool true) ∧ Below w.heap.size w w' := by
  have h1 : strides 4 = [1, 3] := by decide +kernel
  have h2 : seqL 4 6 = [2, 1, 0, 3] := by decide +kernel
  go_enter Try.func31, Try.ntmps31
  go_wp2_with fail
  refine (strides_run 4 (by omega) (by omega) _).mono ?_
  rintro e w1 ⟨v, rfl, hG, hb⟩
  rw [h1] at hG
  obtain ⟨a, cap, rfl, hr, _, _⟩ := hG.row encN_len
  have hb1 : Below w.heap.size w w1 := hb
  clear hG hb
  go_wp2_with fail
  refine (same_run a (some ⟨w1.heap.size, 0, none⟩) cap 2 [1, 3] [1, 3] _ (hr.quiet (below_one _ _)) (row_lit _ _ _ _ rfl) (by decide) (by decide)).mono ?_
  rintro e w2 ⟨rfl, hb⟩
  have hb2 : Below w.heap.size w w2 := (hb1.alloc hb1.size _).trans (hb.mono (by have := hb1.size; simp; omega))
  clear hb hr hb1
  go_wp2_with fail
  refine (order_run 4 6 (by omega) _).mono ?_
  rintro e w3 ⟨v, rfl, hG, hb⟩
  rw [h2] at hG
  obtain ⟨a', cap', rfl, hr, _, _⟩ := hG.row encN_len
  have hb3 : Below w.heap.size w w3 := Below.then_ hb2 hb
  clear hG hb hb2
  go_wp2_with fail
  refine (same_run a' (some ⟨w3.heap.size, 0, none⟩) cap' 4 [2, 1, 0, 3] [2, 1, 0, 3] _ (hr.quiet (below_one _ _)) (row_lit _ _ _ _ rfl) (by decide) (by decide)).mono ?_
  rintro e w4 ⟨rfl, hb⟩
  have hb4 : Below w.heap.size w w4 := (hb3.alloc hb3.size _).trans (hb.mono (by have := hb3.size; simp; omega))
  go_wp2
  go_ret
  exact ⟨rfl, hb4⟩

theorem many_walk (w : World) (n : Int) (hn : (Lit.int .i64 n).wf = true) (v0 : Int) (hv : (Lit.int .u64 v0).wf = true) (w0 : Int) (hw : (Lit.int .u64 w0).wf = true) :
    Calls Try.prog 7 #[.int .i64 n, .int .u64 v0, .int .u64 w0] w fun e w' => e = .returned (.bool true) ∧ Below w.heap.size w w' := by
  obtain ⟨hv0, hv1⟩ := wf_u64 hv
  obtain ⟨hw0, hw1⟩ := wf_u64 hw
  clear hn hv hw
  by_cases hk : 1 ≤ n ∧ n ≤ 64
  · obtain ⟨n, rfl⟩ := Int.eq_ofNat_of_zero_le (by omega : 0 ≤ n)
    obtain ⟨v0, rfl⟩ := Int.eq_ofNat_of_zero_le hv0
    obtain ⟨w0, rfl⟩ := Int.eq_ofNat_of_zero_le hw0
    have h1 : 1 ≤ n := by omega
    have h2 : n ≤ 64 := by omega
    have ev : seqL (n : Int) v0 = orderL n v0 := by unfold seqL; rw [if_pos hk]; rfl
    have ew : seqL (n : Int) w0 = orderL n w0 := by unfold seqL; rw [if_pos hk]; rfl
    have HV := hid hv1
    have HW := hid hw1
    have E1 := hid ev
    have E2 := hid ew
    clear hk hv0 hw0 hv1 hw1 ev ew
    by_cases h3 : n < 3
    · have h3' : ((n : Int) < 3) := by omega
      go_enter Try.func7, Try.ntmps7
      go_wp2_with (first | (go_at_call 30; refine (lknown_yes n h1 h2 _).mono ?_; rintro e w' ⟨rfl, rfl⟩) | (go_at_call 31; refine (awake_run _).mono ?_; rintro e w' ⟨rfl, hb⟩))
      go_ret
      exact ⟨rfl, hb⟩
    · have hd : decide ((n : Int) < 3) = false := decide_eq_false (by omega)
      have HM := hid (many n v0 w0 (by omega))
      clear h3
      go_enter Try.func7, Try.ntmps7
      go_wp2_with (first | (go_at_call 30; refine (lknown_yes n h1 h2 _).mono ?_; rintro e w' ⟨rfl, rfl⟩))
      obtain ⟨sv, hsv⟩ : ∃ x, x = start n v0 := ⟨_, rfl⟩
      obtain ⟨sw, hsw⟩ : ∃ x, x = start n w0 := ⟨_, rfl⟩
      obtain ⟨tv, htv⟩ : ∃ x, x = step n v0 := ⟨_, rfl⟩
      obtain ⟨tw, htw⟩ : ∃ x, x = step n w0 := ⟨_, rfl⟩
      rw [← hsv, ← hsw, ← htv, ← htw] at HM
      have Hsv := hid hsv
      have Hsw := hid hsw
      have Htv := hid htv
      have Htw := hid htw
      clear hsv hsw htv htw
      refine (start_run n v0 h1 h2 HV.out _).mono ?_
      rintro e w' ⟨rfl, rfl⟩
      rw [← Hsv.out]
      go_wp2_with fail
      refine (start_run n w0 h1 h2 HW.out _).mono ?_
      rintro e w' ⟨rfl, rfl⟩
      rw [← Hsw.out]
      by_cases hs : sv = sw
      · subst hs
        go_wp2_with fail
        refine (step_run n v0 h1 h2 HV.out _).mono ?_
        rintro e w1 ⟨rfl, hb1⟩
        rw [← Htv.out]
        go_wp2_with fail
        refine (step_run n w0 h1 h2 HW.out _).mono ?_
        rintro e w2 ⟨rfl, hb⟩
        rw [← Htw.out]
        have hb0 := Below.then_ hb1 hb
        clear hb1 hb
        by_cases ht : tv = tw
        · subst ht
          have HD : Hid (decide (orderL n v0 = orderL n w0) = true) := decide_eq_true (HM.out.2 (by simp))
          (go_wp2_with fail); (refine (awake_run _).mono ?_); (rintro e w1 ⟨rfl, hb⟩); (have hb1 := Below.then_ hb0 hb); (clear hb hb0); (go_wp2_with fail); (refine (order_run n v0 HV.out _).mono ?_); (rintro e w2 ⟨v, rfl, hG, hb⟩); (rw [E1.out] at hG); (obtain ⟨a, cap, rfl, hr, _, _⟩ := hG.row encN_len); (have hb2 := Below.then_ hb1 hb); (clear hG hb); (go_wp2_with fail); (refine (order_run n w0 HW.out _).mono ?_); (rintro e w3 ⟨v, rfl, hG, hb⟩); (rw [E2.out] at hG); (obtain ⟨a', cap', rfl, hr', _, _⟩ := hG.row encN_len); (have hb3 := Below.then_ hb2 hb); (have hr2 := hr.quiet hb); (clear hG hb hr); (go_wp2_with fail); (refine (same_run a a' cap cap' (orderL n v0) (orderL n w0) _ hr2 hr' (by rw [orderL_length]; omega) (by rw [orderL_length]; omega)).mono ?_); (rintro e w4 ⟨rfl, hb⟩); (have hb4 := Below.then_ hb3 hb); (clear hr2 hr' hb); (rw [HD.out]); (go_wp2); (go_ret); (exact ⟨rfl, hb4⟩)
        · have hb : ((tv : Int) == (tw : Int)) = false := by simp; omega
          have HD : Hid (decide (orderL n v0 = orderL n w0) = false) := decide_eq_false (fun e => ht (HM.out.1 e).2)
          clear ht
          (go_wp2_with fail); (refine (awake_run _).mono ?_); (rintro e w1 ⟨rfl, hb⟩); (have hb1 := Below.then_ hb0 hb); (clear hb hb0); (go_wp2_with fail); (refine (order_run n v0 HV.out _).mono ?_); (rintro e w2 ⟨v, rfl, hG, hb⟩); (rw [E1.out] at hG); (obtain ⟨a, cap, rfl, hr, _, _⟩ := hG.row encN_len); (have hb2 := Below.then_ hb1 hb); (clear hG hb); (go_wp2_with fail); (refine (order_run n w0 HW.out _).mono ?_); (rintro e w3 ⟨v, rfl, hG, hb⟩); (rw [E2.out] at hG); (obtain ⟨a', cap', rfl, hr', _, _⟩ := hG.row encN_len); (have hb3 := Below.then_ hb2 hb); (have hr2 := hr.quiet hb); (clear hG hb hr); (go_wp2_with fail); (refine (same_run a a' cap cap' (orderL n v0) (orderL n w0) _ hr2 hr' (by rw [orderL_length]; omega) (by rw [orderL_length]; omega)).mono ?_); (rintro e w4 ⟨rfl, hb⟩); (have hb4 := Below.then_ hb3 hb); (clear hr2 hr' hb); (rw [HD.out]); (go_wp2); (go_ret); (exact ⟨rfl, hb4⟩)
      · have hb : ((sv : Int) == (sw : Int)) = false := by simp; omega
        have HD : Hid (decide (orderL n v0 = orderL n w0) = false) := decide_eq_false (fun e => hs (HM.out.1 e).1)
        have hb0 : Below w.heap.size w w := Below.refl _ _
        clear hs
        (go_wp2_with fail); (refine (awake_run _).mono ?_); (rintro e w1 ⟨rfl, hb⟩); (have hb1 := Below.then_ hb0 hb); (clear hb hb0); (go_wp2_with fail); (refine (order_run n v0 HV.out _).mono ?_); (rintro e w2 ⟨v, rfl, hG, hb⟩); (rw [E1.out] at hG); (obtain ⟨a, cap, rfl, hr, _, _⟩ := hG.row encN_len); (have hb2 := Below.then_ hb1 hb); (clear hG hb); (go_wp2_with fail); (refine (order_run n w0 HW.out _).mono ?_); (rintro e w3 ⟨v, rfl, hG, hb⟩); (rw [E2.out] at hG); (obtain ⟨a', cap', rfl, hr', _, _⟩ := hG.row encN_len); (have hb3 := Below.then_ hb2 hb); (have hr2 := hr.quiet hb); (clear hG hb hr); (go_wp2_with fail); (refine (same_run a a' cap cap' (orderL n v0) (orderL n w0) _ hr2 hr' (by rw [orderL_length]; omega) (by rw [orderL_length]; omega)).mono ?_); (rintro e w4 ⟨rfl, hb⟩); (have hb4 := Below.then_ hb3 hb); (clear hr2 hr' hb); (rw [HD.out]); (go_wp2); (go_ret); (exact ⟨rfl, hb4⟩)
  · have hk' : n < 1 ∨ 64 < n := by omega
    clear hk
    go_enter Try.func7, Try.ntmps7
    go_wp2_with (first | (go_at_call 30; refine (lknown_no n hk' _).mono ?_; rintro e w' ⟨rfl, rfl⟩) | (go_at_call 31; refine (awake_run _).mono ?_; rintro e w' ⟨rfl, hb⟩))
    go_ret
    exact ⟨rfl, hb⟩
end Go.Proofs.Ytlchnmkmepippaa.Ord
