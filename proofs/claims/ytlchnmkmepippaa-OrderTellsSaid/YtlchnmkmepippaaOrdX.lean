/- The walk of OrderOnce. -/
import Derived.Test.YtlchnmkmepippaaOrdW
set_option maxRecDepth 100000
set_option maxHeartbeats 4000000
set_option linter.unusedVariables false
set_option linter.unusedSimpArgs false
namespace Go.Proofs.Ytlchnmkmepippaa.Ord
open Go.RowKit Go.Proofs.Ytlchnmkmepippaa.TK Go.Proofs.Ytlchnmkmepippaa.Flag Go.Proofs.Ytlchnmkmepippaa.Read Go.Proofs.Ytlchnmkmepippaa.Grow

/-- How often each number below n is in the list. -/
def cntL (n : Nat) (l : List Nat) : List Nat := (List.range n).map (fun j => l.count j)
theorem cntL_length (n : Nat) (l : List Nat) : (cntL n l).length = n := by simp [cntL]
theorem cntL_nil (n : Nat) : cntL n [] = List.replicate n 0 := by
  apply List.ext_getElem
  · simp [cntL]
  · intro i h1 h2; simp [cntL]
theorem cntL_get (n : Nat) (l : List Nat) (j : Nat) (h : j < (cntL n l).length) : (cntL n l)[j] = l.count j := by simp [cntL]
theorem cntL_snoc (n : Nat) (l : List Nat) (c : Nat) : cntL n (l ++ [c]) = (cntL n l).set c (l.count c + 1) := by
  apply List.ext_getElem
  · simp [cntL]
  · intro i h1 h2
    rw [cntL_get, List.getElem_set]
    by_cases h : c = i
    · subst h; simp
    · rw [if_neg h, cntL_get]; simp [List.count_append, List.count_singleton, h]
theorem flat_len (xs : List Nat) : (xs.flatMap encN).length = xs.length := by
  induction xs with
  | nil => rfl
  | cons y ys ih => rw [List.flatMap_cons, List.length_append, ih]; simp [encN]; omega
theorem flat_set (xs : List Nat) (spare : List Value) (k x : Nat) (h : k < xs.length) : (xs.flatMap encN ++ spare).set k (.int .i64 (x : Int)) = (xs.set k x).flatMap encN ++ spare := by
  have e : ∀ ys : List Nat, ys.flatMap encN = ys.map (fun (n : Nat) => Value.int .i64 (n : Int)) := by
    intro ys; induction ys with
    | nil => rfl
    | cons y ys ih => rw [List.flatMap_cons, ih]; rfl
  rw [e, e, List.set_append_left _ _ (by simpa using h)]
  simp
theorem made_zeroN (n : Nat) : (madeCells #[Value.int .i64 0] n).toList = (List.replicate n 0).flatMap encN := by
  have h : (madeCells #[Value.int .i64 0] n) = Array.replicate n (Value.int .i64 0) := by
    unfold madeCells
    apply Array.ext
    · simp
    · intro i h1 h2
      simp [Nat.mod_one]
  have e : ∀ ys : List Nat, ys.flatMap encN = ys.map (fun (n : Nat) => Value.int .i64 (n : Int)) := by
    intro ys; induction ys with
    | nil => rfl
    | cons y ys ih => rw [List.flatMap_cons, ih]; rfl
  rw [h, e]; simp
theorem block_of_own {w : World} {base : Nat} {T : TypeId} {n g len cap : Nat} {ys : List Value} (h : w.ownsRow base T 1 (.slice (some ⟨g, 0, none⟩) len cap) n ys) : ∃ spare, Blk w g (ys ++ spare) T := by
  rcases h.2 with ⟨h0, _⟩ | ⟨g', cap', cur, he, hg, hh, hcap, hmax, hsz, htake⟩
  · cases h0
  · cases he
    refine ⟨cur.toList.drop n, ?_⟩
    have e : ys ++ cur.toList.drop n = cur.toList := by rw [← htake, Nat.mul_one, List.take_append_drop]
    unfold Blk
    rw [e]
    simpa using hh
theorem once_walk (w : World) (n : Int) (hn : (Lit.int .i64 n).wf = true) (w0 : Int) (hw : (Lit.int .u64 w0).wf = true) :
    Calls Try.prog 6 #[.int .i64 n, .int .u64 w0] w fun e w' => e = .returned (.bool true) ∧ Below w.heap.size w w' := by
  obtain ⟨hw0, hw1⟩ := wf_u64 hw
  clear hn hw
  by_cases hk : 1 ≤ n ∧ n ≤ 64
  · obtain ⟨n, rfl⟩ := Int.eq_ofNat_of_zero_le (by omega : 0 ≤ n)
    obtain ⟨w0, rfl⟩ := Int.eq_ofNat_of_zero_le hw0
    have h1 : 1 ≤ n := by omega
    have h2 : n ≤ 64 := by omega
    have E2 := hid (show seqL (n : Int) w0 = orderL n w0 by unfold seqL; rw [if_pos hk]; rfl)
    have HW := hid hw1
    have HO := hid (fun j => once n w0 j h1 h2)
    have HL := hid (orderL_length n w0)
    have HX := hid (show ∀ x ∈ orderL n w0, x < n by
      intro x hx; unfold orderL upto at hx; simp at hx; obtain ⟨i, _, rfl⟩ := hx; exact at_lt n w0 i h1)
    clear hk hw0 hw1
    obtain ⟨i0, hi, hz0, hz1, hz2⟩ := info_parts infoI
    go_enter Try.func6, Try.ntmps6
    go_wp2_with (first | (go_at_call 30; refine (lknown_yes n h1 h2 _).mono ?_; rintro e w' ⟨rfl, rfl⟩))
    refine (order_run n w0 HW.out _).mono ?_
    rintro e w2 ⟨v, rfl, hG, hb2⟩
    rw [E2.out] at hG
    obtain ⟨a, cap, rfl, hr, _, _⟩ := hG.row encN_len
    rw [HL.out]
    obtain ⟨L, hL⟩ : ∃ L, L = orderL n w0 := ⟨_, rfl⟩
    rw [← hL] at HO HL HX hr
    clear hG E2 HW hL
    have HR := hid hr
    clear hr
    have hn0 : (0 : Int) ≤ (n : Int) := by omega
    go_wp2_with (first | (at_make; refine wpList_make_full _ rfl _ _ 23 rfl w2.heap.size 3 i0 (.int .i64 0) 1 Try.underlying23 hi hz0 hz1 .i64 .i64 n n n rfl rfl rfl rfl (by rw [hz2]; omega) (by unfold maxLen; omega) (by first | exact Nat.le_refl _ | simp) ?_))
    intro w3 hown hgrow
    rw [made_zeroN] at hown
    obtain ⟨spare, hB3⟩ := block_of_own hown
    have HB3 : Below w2.heap.size w2 w3 := (Below.refl _ w2).grown hgrow (Nat.le_refl _) (by simp)
    clear hown hgrow
    go_wp2_with fail
    go_loopw [7] (fun i wr => ∃ k : Nat, k ≤ n ∧ i = .int .i64 (k : Int) ∧ Blk wr w2.heap.size ((cntL n (L.take k)).flatMap encN ++ spare) 3 ∧ Below w2.heap.size w2 wr) (fun i _ => n - (intOf i).toNat)
    case atStart => exact ⟨0, Nat.zero_le _, rfl, by rw [List.take_zero, cntL_nil]; exact hB3, HB3⟩
    case round =>
      clear hB3 HB3
      obtain ⟨k, hk, rfl, hG, HB⟩ := hrel
      by_cases hkn : k < n
      · have hkL : k < L.length := by rw [HL.out]; exact hkn
        obtain ⟨x, rfl, hx⟩ := (HR.out.quiet HB) k hkL
        have hx0 := hx 0 (.int .i64 (L[k] : Int)) rfl
        rw [Nat.mul_one, Nat.add_zero] at hx0
        have hc := HX.out _ (List.getElem_mem hkL)
        have HT := hid (List.take_succ_eq_append_getElem hkL)
        obtain ⟨c, hcd⟩ : ∃ c, c = L[k] := ⟨_, rfl⟩
        rw [← hcd] at hx0 hc HT
        clear hcd hx
        have hg' := (hG.cell c).trans (List.getElem?_append_left (by rw [flat_len, cntL_length]; omega))
        rw [flat_encN _ c (by rw [cntL_length]; exact hc), cntL_get] at hg'
        have hcn : (L.take k).count c ≤ k := Nat.le_trans List.count_le_length (by simp; omega)
        have hset := hid (hG.set c (.int .i64 (((L.take k).count c + 1 : Nat) : Int)))
        have HS := hid (cntL_snoc n (L.take k) c)
        obtain ⟨q, hq⟩ : ∃ q, q = (L.take k).count c := ⟨_, rfl⟩
        rw [← hq] at hg' hset hcn HS
        have hf := hG.frozen c
        clear hq hG
        have hc0 : (0 : Int) ≤ (c : Int) := by omega
        have hc1 : (c : Int) < (n : Int) := by omega
        have hk0 : (0 : Int) ≤ (k : Int) := by omega
        have hk1 : (k : Int) < (n : Int) := by omega
        have hd1 : decide ((c : Int) < 0) = false := decide_eq_false (by omega)
        have hd2 : decide ((n : Int) ≤ (c : Int)) = false := decide_eq_false (by omega)
        go_wp2
        go_roundw
        case rel =>
          have hset' := hset.out
          rw [flat_set _ _ _ _ (by rw [cntL_length]; exact hc), ← HS.out, ← HT.out] at hset'
          first | exact ⟨k + 1, by omega, by go_num, hset', HB.setCell (Nat.le_refl _) _⟩ | ((repeat apply Exists.intro); exact ⟨⟨k + 1, by omega, by go_num, hset', HB.setCell (Nat.le_refl _) _⟩, rfl⟩)
        case measure => simp only [intOf]; omega
      · obtain rfl : k = n := by omega
        have hk0 : (0 : Int) ≤ (k : Int) := by omega
        rw [List.take_of_length_le (by rw [HL.out]; exact Nat.le_refl _)] at hG
        obtain ⟨wo, rfl⟩ : ∃ wo : World, wo = wr := ⟨_, rfl⟩
        clear hkn
        go_wp2_with fail
        go_loopw [8] (fun i wr => ∃ j : Nat, j ≤ k ∧ i = .int .i64 (j : Int) ∧ wo = wr) (fun i _ => k - (intOf i).toNat)
        case atStart => exact ⟨0, Nat.zero_le _, rfl, rfl⟩
        case round =>
          obtain ⟨j, hj, rfl, rfl⟩ := hrel
          by_cases hjk : j < k
          · have hg' := (hG.cell j).trans (List.getElem?_append_left (by rw [flat_len, cntL_length]; omega))
            rw [flat_encN _ j (by rw [cntL_length]; exact hjk), cntL_get, HO.out j hjk] at hg'
            have hj0 : (0 : Int) ≤ (j : Int) := by omega
            have hj1 : (j : Int) < (k : Int) := by omega
            go_wp2
            go_roundw
            case rel => exact ⟨j + 1, by omega, by go_num, by first | rfl | trivial⟩
            case measure => simp only [intOf]; omega
          · obtain rfl : j = k := by omega
            have hlow : Below w.heap.size w wo := Below.then_ hb2 HB
            go_wp2_with (first | (go_at_call 31; refine (awake_run _).mono ?_; rintro e w' ⟨rfl, hb⟩))
            go_ret
            exact ⟨rfl, Below.then_ hlow hb⟩
  · have hk' : n < 1 ∨ 64 < n := by omega
    clear hk
    go_enter Try.func6, Try.ntmps6
    go_wp2_with (first | (go_at_call 30; refine (lknown_no n hk' _).mono ?_; rintro e w' ⟨rfl, rfl⟩) | (go_at_call 31; refine (awake_run _).mono ?_; rintro e w' ⟨rfl, hb⟩))
    go_ret
    exact ⟨rfl, hb⟩
end Go.Proofs.Ytlchnmkmepippaa.Ord
