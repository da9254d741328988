/- The document's strides and order; two lists held against each other. -/
import Derived.Test.YtlchnmkmepippaaOrd
set_option maxRecDepth 100000
set_option maxHeartbeats 4000000
set_option linter.unusedVariables false
set_option linter.unusedSimpArgs false
namespace Go.Proofs.Ytlchnmkmepippaa.Ord
open Go.RowKit Go.Proofs.Ytlchnmkmepippaa.TK Go.Proofs.Ytlchnmkmepippaa.Flag Go.Proofs.Ytlchnmkmepippaa.Read Go.Proofs.Ytlchnmkmepippaa.Grow

/-- No divisor from 2 to m + 1 is had by both. -/
def prm (n k m : Nat) : Bool := (List.range m).all (fun d => !(k % (d + 2) == 0 && n % (d + 2) == 0))
theorem prm_succ (n k m : Nat) : prm n k (m + 1) = (prm n k m && !(k % (m + 2) == 0 && n % (m + 2) == 0)) := by
  unfold prm; rw [List.range_succ, List.all_append]; simp
theorem prm_gcd (n k : Nat) (h : 1 ≤ k) : prm n k (k - 1) = (Nat.gcd k n == 1) := by
  rw [Bool.eq_iff_iff]
  unfold prm
  simp only [List.all_eq_true, List.mem_range, beq_iff_eq, Bool.not_eq_true', Bool.and_eq_false_imp]
  constructor
  · intro hd
    have hg : Nat.gcd k n ≠ 0 := fun e => by have := (Nat.gcd_eq_zero_iff.1 e).1; omega
    have hk : Nat.gcd k n ∣ k := Nat.gcd_dvd_left k n
    have hn : Nat.gcd k n ∣ n := Nat.gcd_dvd_right k n
    have hle := Nat.le_of_dvd (by omega) hk
    rcases Nat.lt_or_ge 1 (Nat.gcd k n) with h2 | h2
    · have := hd (Nat.gcd k n - 2) (by omega) (by rw [show Nat.gcd k n - 2 + 2 = Nat.gcd k n by omega]; exact Nat.mod_eq_zero_of_dvd hk)
      rw [show Nat.gcd k n - 2 + 2 = Nat.gcd k n by omega, Nat.mod_eq_zero_of_dvd hn] at this
      simp at this
    · omega
  · intro hg d hd h0
    have h1 : d + 2 ∣ k := Nat.dvd_of_mod_eq_zero h0
    cases h2 : (n % (d + 2) == 0) with
    | false => rfl
    | true =>
      have h3 : d + 2 ∣ n := Nat.dvd_of_mod_eq_zero (by simpa using h2)
      have := Nat.dvd_gcd h1 h3
      rw [hg] at this
      have := Nat.le_of_dvd (by omega) this
      omega

theorem mod_eq (a b : Nat) : ((a : Int) % (b : Int) == 0) = (a % b == 0) := by
  rw [← Int.natCast_emod, Bool.eq_iff_iff]; simp only [beq_iff_eq]; omega
theorem rstrides_run (n : Nat) (h : 1 ≤ n) (h' : n ≤ 64) (w : World) :
    Calls Try.prog 36 #[.int .i64 (n : Int)] w fun e w' => ∃ v, e = .returned v ∧ Grow w' w.heap.size 3 1 encN v (strides n) ∧ Below w.heap.size w w' := by
  go_enter Try.func36, Try.ntmps36
  go_wp2
  go_loopw [3, 4, 5, 6] (fun v i p d wr => ∃ k : Nat, k ≤ n ∧ i = .int .i64 ((k : Int) + 1) ∧ Grow wr w.heap.size 3 1 encN v (strTo n k) ∧ Below w.heap.size w wr) (fun _ i _ _ _ => n + 1 - (intOf i).toNat)
  case atStart => exact ⟨0, Nat.zero_le _, rfl, Grow.nil _ _ _ _ _, Below.refl _ _⟩
  case round =>
    obtain ⟨k, hk, rfl, hG, hlow⟩ := hrel
    by_cases hkn : k < n
    · obtain ⟨wo, rfl⟩ : ∃ wo : World, wo = wr := ⟨_, rfl⟩
      go_wp2
      go_loopw [5, 6] (fun p d wr => ∃ m : Nat, m ≤ k ∧ d = .int .i64 ((m : Int) + 2) ∧ p = .bool (prm n (k + 1) m) ∧ Grow wr w.heap.size 3 1 encN u3 (strTo n k) ∧ Below w.heap.size w wr) (fun _ d _ => k + 2 - (intOf d).toNat)
      case atStart => exact ⟨0, Nat.zero_le _, rfl, rfl, hG, hlow⟩
      case round =>
        clear hG hlow
        obtain ⟨m, hm, rfl, rfl, hG, hlow⟩ := hrel
        by_cases hmk : m < k
        · have HP := hid (prm_succ n (k + 1) m)
          obtain ⟨b0, hb0⟩ : ∃ b0, b0 = prm n (k + 1) m := ⟨_, rfl⟩
          rw [← hb0] at HP ⊢
          clear hb0
          by_cases h1 : (k + 1) % (m + 2) = 0
          · have e1 : (((k : Int) + 1) % ((m : Int) + 2) == 0) = true := (mod_eq (k + 1) (m + 2)).trans (by simp [h1])
            by_cases h2 : n % (m + 2) = 0
            · have e2 : ((n : Int) % ((m : Int) + 2) == 0) = true := (mod_eq n (m + 2)).trans (by simp [h2])
              clear h
              go_wp2
              go_roundw
              case rel => exact ⟨m + 1, by omega, by go_num, by rw [HP.out, h1, h2]; simp, hG, hlow⟩
              case measure => simp only [intOf]; omega
            · have e2 : ((n : Int) % ((m : Int) + 2) == 0) = false := (mod_eq n (m + 2)).trans (by simp [h2])
              go_wp2
              go_roundw
              case rel => exact ⟨m + 1, by omega, by go_num, by rw [HP.out, h1]; simp [h2], hG, hlow⟩
              case measure => simp only [intOf]; omega
          · have e1 : (((k : Int) + 1) % ((m : Int) + 2) == 0) = false := (mod_eq (k + 1) (m + 2)).trans (by simp [h1])
            go_wp2
            go_roundw
            case rel => exact ⟨m + 1, by omega, by go_num, by rw [HP.out]; simp [h1], hG, hlow⟩
            case measure => simp only [intOf]; omega
        · obtain rfl : m = k := by omega
          have HP := hid (prm_gcd n (m + 1) (by omega))
          have hle := strTo_le n m
          rw [Nat.add_sub_cancel] at HP
          by_cases hg : Nat.gcd (m + 1) n = 1
          · have HY := hid (strTo_yes hg)
            have HQ : prm n (m + 1) m = true := by rw [HP.out, hg]; rfl
            rw [HQ]
            clear hg HQ
            go_wp2_with (first | (at_builtin; refine app_one (T := 3) (m + 1) hG infoI Try.underlying23 rfl (by decide) (by omega) rfl _ _ rfl rfl rfl rfl (encN_len _) (encN_one _) (by omega) hlow.size ?_; intro v' w2 hG2 hb2 hle2))
            rw [← HY.out] at hG2
            go_roundw
            case rel => exact ⟨m + 1, by omega, by go_num, hG2, hlow.trans hb2⟩
            case measure => simp only [intOf]; omega
          · have HY := hid (strTo_no hg)
            have HQ : prm n (m + 1) m = false := by rw [HP.out]; simpa using hg
            rw [HQ]
            clear hg HQ
            go_wp2
            rw [← HY.out] at hG
            go_roundw
            case rel => exact ⟨m + 1, by omega, by go_num, hG, hlow⟩
            case measure => simp only [intOf]; omega
    · obtain rfl : k = n := by omega
      go_wp2
      go_ret
      exact ⟨_, rfl, hG, hlow⟩

theorem rstart_walk (n w : Nat) (h : 1 ≤ n) (h' : n ≤ 1000) : wrap64 ((w : Int) % (n : Int)) = (start n w : Int) := start_walk n w h h'
theorem at_next (n w i : Nat) (h : 1 ≤ n) : at_ n w (i + 1) = if at_ n w i + step n w ≥ n then at_ n w i + step n w - n else at_ n w i + step n w := by
  have h1 := at_lt n w i h
  have h2 := step_range n w h
  rw [at_succ]
  split
  · rw [Nat.mod_eq_sub_mod (by omega), Nat.mod_eq_of_lt (by omega)]
  · exact Nat.mod_eq_of_lt (by omega)
theorem rorder_run (n w0 : Nat) (h : 1 ≤ n) (h' : n ≤ 64) (hw : (w0 : Int) < 18446744073709551616) (w : World) :
    Calls Try.prog 35 #[.int .i64 (n : Int), .int .u64 (w0 : Int)] w fun e w' => ∃ v, e = .returned v ∧ Grow w' w.heap.size 3 1 encN v (orderL n w0) ∧ Below w.heap.size w w' := by
  have hp := strides_pos n h
  have hle : (strides n).length ≤ n := strTo_le n n
  have hlt := stepIx_lt n w0 h
  have hs := start_lt n w0 h
  have e1 : (IntKind.u64.wrap ((w0 : Int) / (n : Int))).tmod ((strides n).length : Int) = (stepIx n w0 : Int) := step_walk n w0 hw
  have e2 : wrap64 ((w0 : Int) % (n : Int)) = (start n w0 : Int) := start_walk n w0 h (by omega)
  have HST := hid (step_range n w0 h)
  have H0 := hid (at_zero n w0 h)
  have HN := hid (fun i => at_next n w0 i h)
  have HL := hid (fun i => at_lt n w0 i h)
  go_enter Try.func35, Try.ntmps35
  go_wp2_with fail
  refine (rstrides_run n h h' _).mono ?_
  rintro e w1 ⟨v, rfl, hG, hb⟩
  obtain ⟨a, cap, rfl, hr, hnil, hblk⟩ := hG.row encN_len
  obtain ⟨x, rfl, hx⟩ := hr (stepIx n w0) hlt
  have hx0 := hx 0 (.int .i64 (step n w0 : Int)) (by rw [step_eq n w0 h]; rfl)
  rw [Nat.mul_one, Nat.add_zero] at hx0
  obtain ⟨m, hm⟩ : ∃ m, m = (strides n).length := ⟨_, rfl⟩
  obtain ⟨j, hj⟩ : ∃ j, j = stepIx n w0 := ⟨_, rfl⟩
  obtain ⟨st, hst⟩ : ∃ st, st = step n w0 := ⟨_, rfl⟩
  obtain ⟨sa, hsa⟩ : ∃ sa, sa = start n w0 := ⟨_, rfl⟩
  rw [← hm, ← hj] at e1
  rw [← hsa] at e2 hs H0
  rw [← hj, ← hst] at hx0
  rw [← hj] at hlt
  rw [← hst] at HN HST
  rw [← hm] at hlt hp hle ⊢
  have hj0 : (0 : Int) ≤ (j : Int) := by omega
  have hj1 : (j : Int) < (m : Int) := by omega
  have hm1 : (1 : Int) ≤ (m : Int) := by omega
  have hjw : wrap64 (j : Int) = (j : Int) := by unfold wrap64; omega
  have hlow : Below w.heap.size w w1 := hb
  clear hm hj hst hsa hx hr hnil hG hw hb hblk
  go_wp2
  rw [e2]
  clear e1 e2 hjw hx0 hj0 hj1 hm1
  have hn1 : (n : Int) ≤ 64 := by omega
  go_loopw [8, 9, 10] (fun v c i wr => ∃ k : Nat, k ≤ n ∧ i = .int .i64 (k : Int) ∧ c = .int .i64 (at_ n w0 k : Int) ∧ Grow wr w.heap.size 3 1 encN v (upto n w0 k) ∧ Below w.heap.size w wr) (fun _ _ i _ => n - (intOf i).toNat)
  case atStart => exact ⟨0, Nat.zero_le _, rfl, by rw [H0.out], Grow.nil _ _ _ _ _, hlow⟩
  case round =>
    clear hlow
    obtain ⟨k, hk, rfl, rfl, hG, hlow⟩ := hrel
    by_cases hkn : k < n
    · have hc := HL.out k
      have HU := hid (upto_succ n w0 k)
      have hN := HN.out k
      have hul := upto_length n w0 k
      have hst1 := HST.out.2.1
      obtain ⟨c, hcd⟩ : ∃ c, c = at_ n w0 k := ⟨_, rfl⟩
      rw [← hcd] at hc HU hN ⊢
      clear hcd
      by_cases hge : n ≤ c + st
      · have HA : Hid (((c : Int) + (st : Int) - (n : Int)) = ((at_ n w0 (k + 1) : Nat) : Int)) := by unfold Hid; rw [hN, if_pos hge]; omega
        clear hN
        have hge' : (n : Int) ≤ (c : Int) + (st : Int) := by omega
        go_wp2_with (first | (at_builtin; refine app_one (T := 3) c hG infoI Try.underlying23 rfl (by decide) (by omega) rfl _ _ rfl rfl rfl rfl (encN_len _) (encN_one _) (by omega) hlow.size ?_; intro v' w2 hG2 hb2 hle2))
        rw [← HU.out] at hG2
        go_roundw
        case rel => exact ⟨k + 1, by omega, by go_num, by rw [HA.out], hG2, hlow.trans hb2⟩
        case measure => simp only [intOf]; omega
      · have HA : Hid (((c : Int) + (st : Int)) = ((at_ n w0 (k + 1) : Nat) : Int)) := by unfold Hid; rw [hN, if_neg hge]; omega
        clear hN
        have hge' : (c : Int) + (st : Int) < (n : Int) := by omega
        go_wp2_with (first | (at_builtin; refine app_one (T := 3) c hG infoI Try.underlying23 rfl (by decide) (by omega) rfl _ _ rfl rfl rfl rfl (encN_len _) (encN_one _) (by omega) hlow.size ?_; intro v' w2 hG2 hb2 hle2))
        rw [← HU.out] at hG2
        go_roundw
        case rel => exact ⟨k + 1, by omega, by go_num, by rw [HA.out], hG2, hlow.trans hb2⟩
        case measure => simp only [intOf]; omega
    · obtain rfl : k = n := by omega
      go_wp2
      go_ret
      exact ⟨_, rfl, hG, hlow⟩

theorem same_run (a b : Option Addr) (ca cb : Nat) (xs ys : List Nat) (w : World) (hx : RowOf encN 1 w a xs) (hy : RowOf encN 1 w b ys) (hxl : xs.length ≤ 1000) (hyl : ys.length ≤ 1000) :
    Calls Try.prog 37 #[.slice a xs.length ca, .slice b ys.length cb] w fun e w' => e = .returned (.bool (decide (xs = ys))) ∧ Below w.heap.size w w' := by
  by_cases hlen : xs.length = ys.length
  · obtain ⟨n, hn⟩ : ∃ n, n = xs.length := ⟨_, rfl⟩
    rw [← hlen, ← hn]
    rw [← hn] at hxl
    have HN := hid hn
    have HL := hid (hlen.symm.trans hn.symm)
    clear hn hlen
    go_enter Try.func37, Try.ntmps37
    go_wp2
    go_loopw [5] (fun i wr => ∃ k : Nat, k ≤ n ∧ i = .int .i64 (k : Int) ∧ xs.take k = ys.take k ∧ Below w.heap.size w wr) (fun i _ => n - (intOf i).toNat)
    case atStart => exact ⟨0, Nat.zero_le _, rfl, by simp, Below.refl _ _⟩
    case round =>
      obtain ⟨k, hk, rfl, ht, hlow⟩ := hrel
      have HT := hid ht
      clear ht
      by_cases hkn : k < n
      · have hkx : k < xs.length := by rw [← HN.out]; exact hkn
        have hky : k < ys.length := by rw [HL.out]; exact hkn
        obtain ⟨x, rfl, cx⟩ := hx.quiet hlow k hkx
        obtain ⟨y, rfl, cy⟩ := hy.quiet hlow k hky
        have c0 := cx 0 (.int .i64 (xs[k] : Int)) rfl
        have c1 := cy 0 (.int .i64 (ys[k] : Int)) rfl
        rw [Nat.mul_one, Nat.add_zero] at c0 c1
        obtain ⟨p, hp⟩ : ∃ p, p = xs[k] := ⟨_, rfl⟩
        obtain ⟨q, hq⟩ : ∃ q, q = ys[k] := ⟨_, rfl⟩
        rw [← hp] at c0
        rw [← hq] at c1
        have HP := hid hp
        have HQ := hid hq
        clear hp hq cx cy hx hy
        have hk0 : (0 : Int) ≤ (k : Int) := by omega
        have hk1 : (k : Int) < (n : Int) := by omega
        by_cases hpq : p = q
        · subst hpq
          go_wp2
          go_quiet (fail)
          go_wp2
          go_roundw
          case rel => exact ⟨k + 1, by omega, by go_num, by rw [List.take_succ_eq_append_getElem hkx, List.take_succ_eq_append_getElem hky, HT.out, ← HP.out, ← HQ.out], below_drewN hlow _⟩
          case measure => simp only [intOf]; omega
        · have hb : ((p : Int) != (q : Int)) = true := by simp; omega
          go_wp2
          go_quiet (fail)
          go_wp2
          go_ret
          refine ⟨ret_no (fun e => hpq ?_), below_drewN hlow _⟩
          rw [HP.out, HQ.out]; simp only [e]
      · obtain rfl : k = n := by omega
        go_wp2
        go_ret
        refine ⟨ret_yes ?_, hlow⟩
        have := HT.out
        rwa [List.take_of_length_le (by rw [← HN.out]; omega), List.take_of_length_le (by rw [HL.out]; omega)] at this
  · have hb : ((xs.length : Int) != (ys.length : Int)) = true := by simp; omega
    have HN := hid hlen
    clear hlen
    go_enter Try.func37, Try.ntmps37
    go_wp2
    go_ret
    exact ⟨ret_no (fun e => HN.out (by rw [e])), Below.refl _ _⟩
end Go.Proofs.Ytlchnmkmepippaa.Ord
