/- Getting a goroutine: the example. -/
import Derived.Test.YtokpgbocomhpiaaRgetB
import Derived.Test.YtokpgbocomhpiaaIdlemC
set_option maxRecDepth 100000
set_option maxHeartbeats 4000000
set_option linter.unusedVariables false
set_option linter.unusedSimpArgs false
namespace Go.Proofs.Ytokpgbocomhpiaa.Rget
open Go.RowKit Go.Shelf Go.Proofs.Ytokpgbocomhpiaa.TK Go.Proofs.Ytokpgbocomhpiaa.Flag Go.Proofs.Ytokpgbocomhpiaa.Read Go.Proofs.Ytokpgbocomhpiaa.Grow Go.Proofs.Ytokpgbocomhpiaa.Words Go.Proofs.Ytokpgbocomhpiaa.Mem Go.Proofs.Ytokpgbocomhpiaa.Flow Go.Proofs.Ytokpgbocomhpiaa.Layout Go.Proofs.Ytokpgbocomhpiaa.Lock Go.Proofs.Ytokpgbocomhpiaa.Run Go.Proofs.Ytokpgbocomhpiaa.Sys Go.Proofs.Ytokpgbocomhpiaa.Mach Go.Proofs.Ytokpgbocomhpiaa.Doc Go.Proofs.Ytokpgbocomhpiaa.Ref05
def dPuts : List PutT := [(22, 2), (23, 4), (28, 2), (29, 3)]
def s114 : St := fresh (layW (lenOf 1 1 4) dPuts)
def dw (fr : Bool) : Nat → St × List Int
  | 0 => (s114, [])
  | n + 1 => ((Ring.after (rtM 0 1 0 fr).sys 0 (rt0 fr) (dw fr n).1 9).2, (dw fr n).2 ++ [(Ring.after (rtM 0 1 0 fr).sys 0 (rt0 fr) (dw fr n).1 9).1.g])
theorem few114 : FewP 1 1 4 := by unfold FewP Right; omega
theorem dw_all : (dw false 4).2 = [3, 1, 2, -1] ∧ (dw true 4).2 = [1, 2, 3, -1] := by refine ⟨?_, ?_⟩ <;> decide +kernel
theorem dw_clock : ∀ fr, ∀ n, n < 5 → (dw fr n).1.clock ≤ 100 ∧ (dw fr n).1.bad ≤ 100 ∧ (dw fr n).2.length = n := by decide +kernel
theorem ok0 (fr : Bool) : rtOk (rt0 fr) := by cases fr <;> exact ⟨⟨by omega, by omega⟩, ⟨by omega, by omega⟩⟩
theorem drained_run (fr : Bool) (w : World) : Calls Try.prog 174 #[.bool fr] w fun e w' => ∃ a c, e = .returned (.slice a (dw fr 4).2.length c) ∧ RowOf (encI .i64) 1 w' a (dw fr 4).2 ∧ Below w.heap.size w w' := by
  have HCL := hid (dw_clock fr)
  have hb0 := below_one w (.cells #[.int .i64 22, .int .u64 2, .int .i64 23, .int .u64 4, .int .i64 28, .int .u64 2, .int .i64 29, .int .u64 3] 51)
  have hnew := Blk.new w [.int .i64 22, .int .u64 2, .int .i64 23, .int .u64 4, .int .i64 28, .int .u64 2, .int .i64 29, .int .u64 3] 51
  have hrow : RowOf encP 2 (w.alloc (.cells #[.int .i64 22, .int .u64 2, .int .i64 23, .int .u64 4, .int .i64 28, .int .u64 2, .int .i64 29, .int .u64 3] 51)) (some ⟨w.heap.size, 0, none⟩) dPuts := by
    intro i hi
    refine ⟨_, rfl, ?_⟩
    intro j v hv
    have hi4 : i < 4 := hi
    have hj : j < 2 := by
      have := (List.getElem?_eq_some_iff.1 hv).1
      simpa [encP] using this
    rw [show (⟨w.heap.size, 0, none⟩ : Addr).add (i * 2 + j) = ⟨w.heap.size, i * 2 + j, none⟩ by unfold Addr.add; split <;> simp_all]
    have h1 : i = 0 ∨ i = 1 ∨ i = 2 ∨ i = 3 := by omega
    have h2 : j = 0 ∨ j = 1 := by omega
    rcases h1 with rfl | rfl | rfl | rfl <;> rcases h2 with rfl | rfl <;> exact (hnew.cell _).trans hv
  have HROW := hid hrow
  have HB00 := hid hb0
  clear hnew hrow hb0
  go_enter Try.func174, Try.ntmps174
  go_wp2_with fail
  refine (lay_yes 1 1 4 (some ⟨w.heap.size, 0, none⟩) 4 dPuts _ few114 (by decide) HROW.out (by decide)).mono ?_
  rintro e w1 ⟨l, m, g, rm, rg', rfl, hL⟩
  obtain ⟨B, hB⟩ : ∃ B, B = w1.heap.size := ⟨_, rfl⟩
  have hz : w.heap.size ≤ (w.alloc (.cells #[.int .i64 22, .int .u64 2, .int .i64 23, .int .u64 4, .int .i64 28, .int .u64 2, .int .i64 29, .int .u64 3] 51)).heap.size := HB00.out.size
  have HQ := hid (show w.heap.size ≤ m ∧ w.heap.size ≤ g ∧ m < B ∧ g < B from ⟨Nat.le_trans hz hL.low5.2.1, Nat.le_trans hz hL.low5.2.2.1, by rw [hB]; exact hL.mem.ltm, by rw [hB]; exact hL.mem.ltg⟩)
  have hlow1 : Below w.heap.size w w1 := HB00.out.trans (hL.low.mono hz)
  have HI := hid (show Lay w1 l 1 1 4 ∧ MemAt w1 m g (dw fr 0).1 ∧ Grow w1 B 3 1 (encI .i64) (.slice none 0 0) (dw fr 0).2 ∧ Below w.heap.size w w1 ∧ B ≤ w1.heap.size from ⟨hL.lay, hL.mem, Grow.nil _ _ _ _ _, hlow1, by omega⟩)
  have HB0 := hid (show w.heap.size ≤ B by rw [hB]; exact hlow1.size)
  clear hL hB hz hlow1 HROW HB00
  go_wp2_with fail
  go_loopw [8, 7] (fun i v wr => ∃ n : Nat, n ≤ 4 ∧ i = .int .i64 (n : Int) ∧ Lay wr l 1 1 4 ∧ MemAt wr m g (dw fr n).1 ∧ Grow wr B 3 1 (encI .i64) v (dw fr n).2 ∧ Below w.heap.size w wr ∧ B ≤ wr.heap.size) (fun i _ _ => 4 - (intOf i).toNat)
  case atStart => exact ⟨0, by omega, rfl, HI.out⟩
  case round =>
    clear HI
    obtain ⟨n, hn, rfl, hI⟩ := hrel
    obtain ⟨a0, c0, hv, _, _, _⟩ := hI.2.2.1.row encN_len
    subst hv
    have HI := hid hI
    clear hI
    by_cases hlt : n < 4
    · have hlt' : decide ((n : Int) < 4) = true := decide_eq_true (by omega)
      have HLEN := hid (show (dw fr n).2.length ≤ 1000 by have := (HCL.out n (by omega)).2.2; omega)
      obtain ⟨sX, hsX⟩ : ∃ sX, sX = (dw fr n).1 := ⟨_, rfl⟩
      rw [← hsX] at HI
      have HAW := hid (show dw fr (n + 1) = ((Ring.after (rtM 0 1 0 fr).sys 0 (rt0 fr) sX 9).2, (dw fr n).2 ++ [(Ring.after (rtM 0 1 0 fr).sys 0 (rt0 fr) sX 9).1.g]) by rw [hsX]; rfl)
      have HC := hid (show sX.clock ≤ 200 ∧ sX.bad ≤ 200 by rw [hsX]; have := HCL.out n (by omega); omega)
      clear hsX
      go_wp2_with fail
      refine (rtnew_run l 1 1 4 0 0 fr _ HI.out.1).mono ?_
      rintro e w5 ⟨rfl, hA, hb⟩
      have HI := hid (show (rtM l 1 0 fr).at_ w.heap.size l _ 1 1 4 0 w5 (Ring.after (rtM 0 1 0 fr).sys 0 (rt0 fr) sX 0).1 ∧ MemAt w5 m g (Ring.after (rtM 0 1 0 fr).sys 0 (rt0 fr) sX 0).2 ∧ Grow w5 B 3 1 (encI .i64) (.slice a0 (dw fr n).2.length c0) (dw fr n).2 ∧ Below w.heap.size w w5 ∧ B ≤ w5.heap.size from ⟨⟨hA, HI.out.2.2.2.1.size, HI.out.1.quiet hb, ok0 fr⟩, HI.out.2.1.quiet hb, HI.out.2.2.1.quiet hb, HI.out.2.2.2.1.trans (hb.mono HI.out.2.2.2.1.size), Nat.le_trans HI.out.2.2.2.2 hb.size⟩)
      obtain ⟨y, hy⟩ : ∃ y, y = wr.heap.size := ⟨_, rfl⟩
      rw [← hy] at HI ⊢
      clear hA hb hy
      go_wp2_with fail
      go_loopw [10] (fun i wr => ∃ j : Nat, j ≤ 9 ∧ i = .int .i64 (j : Int) ∧ (rtM l 1 0 fr).at_ w.heap.size l y 1 1 4 0 wr (Ring.after (rtM 0 1 0 fr).sys 0 (rt0 fr) sX j).1 ∧ MemAt wr m g (Ring.after (rtM 0 1 0 fr).sys 0 (rt0 fr) sX j).2 ∧ Grow wr B 3 1 (encI .i64) (.slice a0 (dw fr n).2.length c0) (dw fr n).2 ∧ Below w.heap.size w wr ∧ B ≤ wr.heap.size) (fun i _ => 9 - (intOf i).toNat)
      case atStart => exact ⟨0, by omega, rfl, HI.out⟩
      case round =>
        clear HI
        obtain ⟨j, hj, rfl, hI⟩ := hrel
        have HI := hid hI
        clear hI
        by_cases hlt2 : j < 9
        · have hltj : decide ((j : Int) < 9) = true := decide_eq_true (by omega)
          have hcl := Ring.after_clock (rtM 0 1 0 fr).sys 0 (rt0 fr) sX j
          have hc0 := HC.out
          go_wp2_with fail
          refine (rtstep_run w.heap.size l y m g 1 1 4 0 0 fr (rt_goes l y 1 0 1 4 0 fr) HI.out.1 HI.out.2.1 (by omega) (by omega)).mono ?_
          rintro e w6 ⟨⟨bb, rfl⟩, hA6, hM6, hK6⟩
          have HI6 := hid (And.intro hA6 (And.intro hM6 (And.intro (keptOwn_grow hK6 HI.out.2.2.1 HQ.out.2.2.1 HQ.out.2.2.2 (by decide)) (And.intro (keptOwn_low hK6 HI.out.2.2.2.1 HQ.out.1 HQ.out.2.1 HI.out.2.2.2.1.size) (Nat.le_trans HI.out.2.2.2.2 (keptOwn_size hK6))))))
          clear hA6 hM6 hK6 HI hcl hc0
          go_wp2_with fail
          go_roundw
          case rel => exact ⟨j + 1, by omega, by go_num, HI6.out⟩
          case measure => simp [intOf]; omega
        · obtain rfl : j = 9 := by omega
          have hltj : decide ((9 : Int) < 9) = false := by decide
          have hAW := HAW.out
          obtain ⟨q, hq⟩ : ∃ q, q = Ring.after (rtM 0 1 0 fr).sys 0 (rt0 fr) sX 9 := ⟨_, rfl⟩
          rw [← hq] at HI hAW
          have HAW := hid hAW
          have hlen := HLEN.out
          clear hq hAW
          go_wp2_with fail
          refine (rtg_run HI.out.1).mono ?_
          rintro e w6 ⟨rfl, rfl⟩
          have hG6 := HI.out.2.2.1
          have hs6 := HI.out.2.2.2.2
          have hL6 := HI.out.1.2.2.1
          have hM6 := HI.out.2.1
          have hlow6 := HI.out.2.2.2.1
          have hml := HQ.out.2.2
          obtain ⟨t, ht⟩ : ∃ t, t = q.1.g := ⟨_, rfl⟩
          rw [← ht]
          have HT := hid ht
          clear HI ht
          go_wp2_with (first | (at_builtin; refine app_oneK (T := 3) t hG6 infoI Try.underlying89 rfl (by decide) (by omega) rfl _ _ rfl rfl rfl rfl (encN_len _) (encN_one _) (by omega) hs6 ?_; intro v' w7 hG7 hK7))
          have own1 : ∀ i ∈ (Value.slice a0 (dw fr n).2.length c0).ownBlock.toList, B ≤ i ∧ ∀ cs T', T' ≠ 3 → ¬ Blk wr i cs T' := by
            intro i hi
            refine ⟨own_le hG6 i (by simpa using hi), ?_⟩
            intro cs T' hT hb
            have := own_type hG6 hb (Ne.symm hT)
            simp at hi
            exact this hi
          have HI7 := hid (show Lay w7 l 1 1 4 ∧ MemAt w7 m g q.2 ∧ Grow w7 B 3 1 (encI .i64) v' ((dw fr n).2 ++ [t]) ∧ Below w.heap.size w w7 ∧ B ≤ w7.heap.size by
            refine ⟨hL6.kept hK7 (fun hi => (own1 _ hi).2 _ _ (by decide) hL6.1), hM6.kept hK7 (fun hi => by have := (own1 _ hi).1; omega) (fun hi => by have := (own1 _ hi).1; omega), hG7, below_kept hlow6 hK7 (fun i hi => by have := (own1 _ hi).1; have := HB0.out; omega) hlow6.size, Nat.le_trans hs6 hK7.size⟩)
          clear hG6 hs6 hL6 hM6 hlow6 own1 hG7 hK7 hml
          go_wp2_with fail
          go_roundw
          case rel =>
            refine ⟨n + 1, by omega, by go_num, ?_⟩
            rw [HAW.out, ← HT.out]
            exact HI7.out
          case measure => simp [intOf]; omega
    · obtain rfl : n = 4 := by omega
      have hlt' : decide ((4 : Int) < 4) = false := by decide
      obtain ⟨a2, c2, hv2, hrow, _, _⟩ := HI.out.2.2.1.row encN_len
      injection hv2 with q1 q2 q3
      subst q1 q3
      have HR := hid (And.intro hrow HI.out.2.2.2.1)
      obtain ⟨xs, hxs⟩ : ∃ xs, xs = (dw fr 4).2 := ⟨_, rfl⟩
      rw [← hxs] at HR ⊢
      have HX := hid hxs
      clear hrow HI HCL q2 hxs
      go_wp2
      go_ret
      refine ⟨a0, c0, ?_⟩
      rw [← HX.out]
      exact ⟨rfl, HR.out⟩
theorem lit4 (w : World) (a b c d : Int) : RowOf (encI .i64) 1 (w.alloc (.cells #[.int .i64 a, .int .i64 b, .int .i64 c, .int .i64 d] 3)) (some ⟨w.heap.size, 0, none⟩) [a, b, c, d] := by
  have hnew := Blk.new w [.int .i64 a, .int .i64 b, .int .i64 c, .int .i64 d] 3
  intro i hi
  refine ⟨_, rfl, ?_⟩
  intro j v hv
  have hj : j = 0 := by
    have := (List.getElem?_eq_some_iff.1 hv).1
    simp [encI] at this
    exact this
  subst hj
  rw [show (⟨w.heap.size, 0, none⟩ : Addr).add (i * 1 + 0) = ⟨w.heap.size, i, none⟩ by unfold Addr.add; split <;> simp_all]
  have hi4 : i < 4 := hi
  have : i = 0 ∨ i = 1 ∨ i = 2 ∨ i = 3 := by omega
  rcases this with rfl | rfl | rfl | rfl <;> exact (hnew.cell _).trans hv
theorem awake_run (w : World) : Calls Try.prog 85 #[] w fun e w' => e = .returned (.bool true) ∧ Below w.heap.size w w' := by
  have HF := hid (fun w => drained_run false w)
  have HT := hid (fun w => drained_run true w)
  rw [dw_all.1] at HF
  rw [dw_all.2] at HT
  go_enter Try.func85, Try.ntmps85
  go_wp2_with fail
  refine (HF.out _).mono ?_
  rintro e w1 ⟨a1, c1, rfl, hr1, hb1⟩
  have H1 := hid (And.intro (hr1.quiet (below_one w1 (.cells #[.int .i64 3, .int .i64 1, .int .i64 2, .int .i64 (-1)] 3))) (And.intro (lit4 w1 3 1 2 (-1)) (Below.then_ hb1 (below_one w1 (.cells #[.int .i64 3, .int .i64 1, .int .i64 2, .int .i64 (-1)] 3)))))
  clear hr1 hb1
  go_wp2_with fail
  refine (Idlem.same12_run a1 _ c1 4 [3, 1, 2, -1] _ H1.out.1 H1.out.2.1 (by simp)).mono ?_
  rintro e w2 ⟨rfl, hb2⟩
  have H2 := hid (Below.then_ H1.out.2.2 hb2)
  clear hb2
  go_wp2_with fail
  refine (HT.out _).mono ?_
  rintro e w3 ⟨a3, c3, rfl, hr3, hb3⟩
  have H3 := hid (And.intro (hr3.quiet (below_one w3 (.cells #[.int .i64 1, .int .i64 2, .int .i64 3, .int .i64 (-1)] 3))) (And.intro (lit4 w3 1 2 3 (-1)) (Below.then_ (Below.then_ H2.out hb3) (below_one w3 (.cells #[.int .i64 1, .int .i64 2, .int .i64 3, .int .i64 (-1)] 3)))))
  clear hr3 hb3
  go_wp2_with fail
  refine (Idlem.same12_run a3 _ c3 4 [1, 2, 3, -1] _ H3.out.1 H3.out.2.1 (by simp)).mono ?_
  rintro e w4 ⟨rfl, hb4⟩
  go_wp2
  go_ret
  exact ⟨rfl, Below.then_ H3.out.2.2 hb4⟩
end Go.Proofs.Ytokpgbocomhpiaa.Rget
