/- The example of the cursor; the walk of DrawSkips. -/
import Derived.Test.YtlchnmkmepippaaDraw
set_option maxRecDepth 100000
set_option maxHeartbeats 4000000
set_option linter.unusedVariables false
set_option linter.unusedSimpArgs false
namespace Go.Proofs.Ytlchnmkmepippaa.Draw
open Go.RowKit Go.Proofs.Ytlchnmkmepippaa.TK Go.Proofs.Ytlchnmkmepippaa.Flag Go.Proofs.Ytlchnmkmepippaa.Read Go.Proofs.Ytlchnmkmepippaa.Words

theorem cawake_run (w : World) : Calls Try.prog 38 #[] w fun e w' => e = .returned (.bool true) ∧ Below w.heap.size w w' := by
  have v1 : wordAt [7, 9] 0 = 7 := by decide
  have v2 : remOf (wordAt [7, 9] 1) 4 = 1 := by decide +kernel
  have v3 : wordAt [7, 9] 2 = 0 := by decide
  go_enter Try.func38, Try.ntmps38
  go_wp2_with fail
  have hr : RowOf (encI .u64) 1 (w.alloc (.cells #[.int .u64 7, .int .u64 9] 22)) (some ⟨w.heap.size, 0, none⟩) [7, 9] := by
    have hb := Blk.new w [.int .u64 7, .int .u64 9] 22
    intro i hi
    refine ⟨_, rfl, fun j v hj => ?_⟩
    match i, hi, j, hj with
    | 0, _, 0, hj => exact (hb.cell 0).trans hj
    | 1, _, 0, hj => exact (hb.cell 1).trans hj
  refine (cnew_run _ 2 [7, 9] _ (by simp) (by decide) hr).mono ?_
  rintro e w1 ⟨b, a', cap, rfl, hb0, HC, hb, _⟩
  have HB : Below w.heap.size w w1 := Below.then_ (below_one w _) hb
  have hbw : w.heap.size ≤ b := by simp at hb0; omega
  clear hb hb0 hr
  go_wp2_with fail
  refine (cnext_run b a' cap [7, 9] 0 0 _ HC (by decide) (by decide) (by decide) (by decide) (by decide)).mono ?_
  rintro e w2 ⟨rfl, HC2, hK⟩
  replace HC2 : Cur w2 b a' cap [7, 9] 1 1 := HC2
  have HB2 := below_kept HB hK (by simpa using hbw) HB.size
  clear hK HB HC
  go_wp2_with fail
  refine (cbelow_run b a' cap [7, 9] 1 1 4 _ HC2 (by decide) (by decide) (by decide) (by decide) (by decide) (by decide) (by decide)).mono ?_
  rintro e w3 ⟨rfl, HC3, hK⟩
  replace HC3 : Cur w3 b a' cap [7, 9] 2 2 := HC3
  have HB3 := below_kept HB2 hK (by simpa using hbw) HB2.size
  clear hK HB2 HC2
  go_wp2_with fail
  refine (cnext_run b a' cap [7, 9] 2 2 _ HC3 (by decide) (by decide) (by decide) (by decide) (by decide)).mono ?_
  rintro e w4 ⟨rfl, HC4, hK⟩
  replace HC4 : Cur w4 b a' cap [7, 9] 2 3 := HC4
  have HB4 := below_kept HB3 hK (by simpa using hbw) HB3.size
  clear hK HB3 HC3
  go_wp2_with fail
  refine (cnext_run b a' cap [7, 9] 2 3 _ HC4 (by decide) (by decide) (by decide) (by decide) (by decide)).mono ?_
  rintro e w5 ⟨rfl, HC5, hK⟩
  replace HC5 : Cur w5 b a' cap [7, 9] 2 4 := HC5
  have HB5 := below_kept HB4 hK (by simpa using hbw) HB4.size
  clear hK HB4 HC4
  go_wp2_with fail
  refine (ctold_run b a' cap [7, 9] 2 4 _ HC5).mono ?_
  rintro e w6 ⟨rfl, rfl⟩
  go_wp2
  go_ret
  exact ⟨rfl, HB5⟩

theorem skips_walk (w : World) (v0 : Value) (h0 : (Leaf.row [.int .u64]).holds w v0) (n : Int) (hn : (Lit.int .i64 n).wf = true) :
    Calls Try.prog 8 #[v0, .int .i64 n] w fun e w' => e = .returned (.bool true) ∧ Below w.heap.size w w' := by
  obtain ⟨a, cap, xs, rfl, hr, _, hlc, hm, hnil⟩ := ints_of h0
  have hn' := wf_i64 hn
  clear h0 hn
  by_cases hlen : 100 < xs.length
  · go_enter Try.func8, Try.ntmps8
    go_wp2_with (first | (go_at_call 38; refine (cawake_run _).mono ?_; rintro e w' ⟨rfl, hb⟩))
    go_ret
    exact ⟨rfl, hb⟩
  · have hl : xs.length ≤ 100 := by omega
    clear hlen
    go_enter Try.func8, Try.ntmps8
    go_wp2_with fail
    refine (cnew_run a cap xs _ hnil (by omega) hr).mono ?_
    rintro e w1 ⟨ba, aa, ca, rfl, hb0, HA, hb, hfa⟩
    have HB : Below w.heap.size w w1 := hb
    have hr1 := hr.quiet hb
    go_wp2_with fail
    refine (cnew_run a cap xs _ hnil (by omega) hr1).mono ?_
    rintro e w2 ⟨bb, ab, cb, rfl, hb1, HC, hb', hfb⟩
    have HB2 : Below w.heap.size w w2 := Below.then_ HB hb'
    have HA2 := HA.quiet hb'
    have sep1 : ba ≠ bb := by have := HA.blk.lt; omega
    have sep2 : ∀ x, aa = some x → x.block ≠ bb := fun x hx => by have := hfa x hx; omega
    have sep3 : ∀ x, ab = some x → x.block ≠ ba := fun x hx => by have := hfb x hx; have := HA.blk.lt; omega
    have hba : w.heap.size ≤ ba := hb0
    have hbb : w.heap.size ≤ bb := by have := hb.size; omega
    clear hb hb' HB HA hr hr1 hfa hfb hb0 hb1 hm hlc
    by_cases hbad : n < 0 ∨ (xs.length : Int) < n
    · go_wp2_with fail
      refine (cskip_no ba aa ca xs 0 0 n _ HA2 (by omega) (by omega) (by omega) (by omega)).mono ?_
      rintro e w3 ⟨rfl, hb3⟩
      have HA3 := HA2.quiet hb3
      have HB3 := Below.then_ HB2 hb3
      clear hb3 HA2 HB2 HC
      rcases hbad with hbad | hbad
      · go_wp2_with fail
        refine (cawake_run _).mono ?_
        rintro e w4 ⟨rfl, hb4⟩
        have HA4 := HA3.quiet hb4
        have HB4 := Below.then_ HB3 hb4
        go_wp2_with (first | (go_at_call 41; refine (ctold_run ba aa ca xs 0 0 _ HA4).mono ?_; rintro e w5 ⟨rfl, rfl⟩) | (go_at_call 42; refine (cleft_run ba aa ca xs 0 0 _ HA4 (by omega) (by omega) (by omega)).mono ?_; rintro e w5 ⟨rfl, hb5⟩))
        go_ret
        exact ⟨rfl, Below.then_ HB4 hb5⟩
      · have hn0 : 0 ≤ n := by omega
        go_wp2_with fail
        refine (cawake_run _).mono ?_
        rintro e w4 ⟨rfl, hb4⟩
        have HA4 := HA3.quiet hb4
        have HB4 := Below.then_ HB3 hb4
        go_wp2_with (first | (go_at_call 41; refine (ctold_run ba aa ca xs 0 0 _ HA4).mono ?_; rintro e w5 ⟨rfl, rfl⟩) | (go_at_call 42; refine (cleft_run ba aa ca xs 0 0 _ HA4 (by omega) (by omega) (by omega)).mono ?_; rintro e w5 ⟨rfl, hb5⟩))
        go_ret
        exact ⟨rfl, Below.then_ HB4 hb5⟩
    · have hn0 : 0 ≤ n := by omega
      have hn1 : n ≤ xs.length := by omega
      clear hbad
      obtain ⟨m, rfl⟩ : ∃ m : Nat, n = m := ⟨n.toNat, by omega⟩
      have hm : m ≤ xs.length := by omega
      have d1 : decide (xs.length < m) = false := decide_eq_false (by omega)
      have d2 : decide ((m : Int) < 0) = false := decide_eq_false (by omega)
      have d3 : decide ((xs.length : Int) < m) = false := decide_eq_false (by omega)
      go_wp2_with fail
      refine (cskip_yes ba aa ca xs 0 0 m _ HA2 (by omega) (by omega) (by omega) (by omega) (by omega) (by omega) (by omega)).mono ?_
      rintro e w3 ⟨rfl, HA3, hK3⟩
      have HC3 := HC.kept hK3 (by simpa using fun h => sep1 h.symm) (fun x hx => by simpa using sep3 x hx)
      have HB3 := below_kept HB2 hK3 (by simpa using hba) HB2.size
      simp only [Int.zero_add] at HA3
      clear hK3 HA2 HB2 HC
      go_wp2_with fail
      go_loopw [8] (fun i wr => ∃ k : Nat, k ≤ m ∧ i = .int .i64 k ∧ Cur wr bb ab cb xs k k ∧ Cur wr ba aa ca xs m m ∧ Below w.heap.size w wr) (fun i _ => m - (intOf i).toNat)
      case atStart => exact ⟨0, Nat.zero_le _, rfl, HC3, HA3, HB3⟩
      case round =>
        clear HC3 HA3 HB3
        obtain ⟨k, hk, rfl, HC, HA, HB⟩ := hrel
        by_cases hkm : k < m
        · go_wp2_with fail
          refine (cnext_run bb ab cb xs k k _ HC (by omega) (by omega) (by omega) (by omega) (by omega)).mono ?_
          rintro e w4 ⟨rfl, HC4, hK4⟩
          have HA4 := HA.kept hK4 (by simpa using sep1) (fun x hx => by simpa using sep2 x hx)
          have HB4 := below_kept HB hK4 (by simpa using hbb) HB.size
          have e1 : min ((k : Int) + 1) xs.length = ((k + 1 : Nat) : Int) := by omega
          have e2 : (k : Int) + 1 = ((k + 1 : Nat) : Int) := by omega
          rw [e1, e2] at HC4
          clear hK4 HA HB HC e1 e2
          go_wp2_with fail
          go_roundw
          case rel => first | exact ⟨k + 1, by omega, by go_num, HC4, HA4, HB4⟩ | ((repeat apply Exists.intro); exact ⟨⟨k + 1, by omega, by go_num, HC4, HA4, HB4⟩, rfl⟩)
          case measure => simp [intOf]; omega
        · obtain rfl : k = m := by omega
          go_wp2_with fail
          go_loopw [9] (fun i wr => ∃ j : Nat, j ≤ xs.length + 1 ∧ i = .int .i64 j ∧ Cur wr bb ab cb xs (min (k + j) xs.length) (k + j) ∧ Cur wr ba aa ca xs (min (k + j) xs.length) (k + j) ∧ Below w.heap.size w wr) (fun i _ => xs.length + 1 - (intOf i).toNat)
          case atStart => exact ⟨0, Nat.zero_le _, rfl, by simpa [Int.min_eq_left (show (k : Int) ≤ xs.length by omega)] using HC, by simpa [Int.min_eq_left (show (k : Int) ≤ xs.length by omega)] using HA, HB⟩
          case round =>
            clear HC HA HB
            obtain ⟨j, hj, rfl, HC, HA, HB⟩ := hrel
            obtain ⟨q, hq⟩ : ∃ q, q = min ((k : Int) + j) xs.length := ⟨_, rfl⟩
            rw [← hq] at HC HA
            by_cases hjm : j < xs.length + 1
            · go_wp2_with fail
              refine (cleft_run ba aa ca xs q (k + j) _ HA (by omega) (by omega) (by omega)).mono ?_
              rintro e w4 ⟨rfl, hb⟩
              replace HA := HA.quiet hb
              replace HC := HC.quiet hb
              replace HB := Below.then_ HB hb
              clear hb
              go_wp2_with fail
              refine (cleft_run bb ab cb xs q (k + j) _ HC (by omega) (by omega) (by omega)).mono ?_
              rintro e w5 ⟨rfl, hb⟩
              replace HA := HA.quiet hb
              replace HC := HC.quiet hb
              replace HB := Below.then_ HB hb
              clear hb
              go_wp2_with fail
              refine (ctold_run ba aa ca xs q (k + j) _ HA).mono ?_
              rintro e w6 ⟨rfl, rfl⟩
              go_wp2_with fail
              refine (ctold_run bb ab cb xs q (k + j) _ HC).mono ?_
              rintro e w6 ⟨rfl, rfl⟩
              go_wp2_with fail
              refine (cnext_run ba aa ca xs q (k + j) _ HA (by omega) (by omega) (by omega) (by omega) (by omega)).mono ?_
              rintro e w6 ⟨rfl, HA6, hK⟩
              have HC6 := HC.kept hK (by simpa using fun h => sep1 h.symm) (fun x hx => by simpa using sep3 x hx)
              have HB6 := below_kept HB hK (by simpa using hba) HB.size
              clear hK HA HB HC
              go_wp2_with fail
              refine (cnext_run bb ab cb xs q (k + j) _ HC6 (by omega) (by omega) (by omega) (by omega) (by omega)).mono ?_
              rintro e w7 ⟨rfl, HC7, hK⟩
              have HA7 := HA6.kept hK (by simpa using sep1) (fun x hx => by simpa using sep2 x hx)
              have HB7 := below_kept HB6 hK (by simpa using hbb) HB6.size
              have e1 : min (q + 1) xs.length = min ((k : Int) + (j + 1 : Nat)) xs.length := by omega
              have e2 : (k : Int) + j + 1 = (k : Int) + (j + 1 : Nat) := by omega
              rw [e1, e2] at HC7 HA7
              clear hK HA6 HB6 HC6 e1 e2
              go_wp2_with fail
              go_roundw
              case rel => first | exact ⟨j + 1, by omega, by go_num, HC7, HA7, HB7⟩ | ((repeat apply Exists.intro); exact ⟨⟨j + 1, by omega, by go_num, HC7, HA7, HB7⟩, rfl⟩)
              case measure => simp [intOf]; omega
            · have hjx : (xs.length : Int) < j := by omega
              go_wp2_with fail
              refine (cawake_run _).mono ?_
              rintro e w4 ⟨rfl, hb⟩
              replace HB := Below.then_ HB hb
              go_wp2_with fail
              go_ret
              exact ⟨rfl, HB⟩
end Go.Proofs.Ytlchnmkmepippaa.Draw
