/- The walk of OrderTells. -/
import Derived.Test.YtlchnmkmepippaaOrdX
import Derived.Deep.RegionHeld3
set_option maxRecDepth 100000
set_option maxHeartbeats 4000000
set_option linter.unusedVariables false
set_option linter.unusedSimpArgs false
namespace Go.Proofs.Ytlchnmkmepippaa.Ord
open Go.RowKit Go.Shelf Go.Proofs.Ytlchnmkmepippaa.TK Go.Proofs.Ytlchnmkmepippaa.Flag Go.Proofs.Ytlchnmkmepippaa.Read Go.Proofs.Ytlchnmkmepippaa.Grow
attribute [local go_sem] Oper.semAt_some

theorem w64_nat (j : Nat) (h : j ≤ 1000) : wrap64 (j : Int) = (j : Int) := by unfold wrap64; omega
theorem i64_nat (j : Nat) (h : j ≤ 1000) : IntKind.i64.wrap (j : Int) = (j : Int) := by rw [IntKind.wrap_i64]; omega
/-- What the law knows behind its own loop over the order. -/
structure Behind (w : World) (D : Nat) (xs : List Nat) (a : Option Addr) (cap : Nat) (B : Nat) (W : World) : Prop where
  low : Below w.heap.size w W
  dfr : W.heap[D]? = some (.deferred (some []))
  hD : w.heap.size ≤ D
  l : RowOf encN 1 W a xs
  all : ∃ b cb, Boxed W B 23 (.slice b xs.length cb) ∧ RowOf encN 1 W b xs
theorem Behind.quiet {w W W' : World} {D B cap : Nat} {xs : List Nat} {a : Option Addr} (h : Behind w D xs a cap B W) (hb : Below W.heap.size W W') : Behind w D xs a cap B W' :=
  ⟨Below.then_ h.low hb, (hb.block D (Array.getElem?_eq_some_iff.1 h.dfr).1).trans h.dfr, h.hD, h.l.quiet hb, by
    obtain ⟨b, cb, h1, h2⟩ := h.all
    exact ⟨b, cb, (hb.block B h1.lt).trans h1, h2.quiet hb⟩⟩

theorem tells_walk (w : World) (n : Int) (hn : (Lit.int .i64 n).wf = true) (w0 : Int) (hw : (Lit.int .u64 w0).wf = true) :
    Calls Try.prog 5 #[.int .i64 n, .int .u64 w0] w fun e w' => e = .returned (.bool true) ∧ Below w.heap.size w w' := by
  obtain ⟨hw0, hw1⟩ := wf_u64 hw
  clear hn hw
  obtain ⟨w0, rfl⟩ := Int.eq_ofNat_of_zero_le hw0
  have HW := hid hw1
  clear hw0 hw1
  have hl := seqL_len n w0
  obtain ⟨i0, hi, hz0, hz1, hz2⟩ := info_parts infoI
  refine (callsIn_wide (n := 10)).1 ?_
  refine callsIn_of_wp_marks Try.func5 rfl trivial ?_ rfl
  simp only [Try.ntmps5, List.size_toArray, List.length_cons, List.length_nil, Nat.reduceAdd, Nat.reduceSub, Array.replicate_succ, Array.replicate_zero, List.push_toArray, List.append_toArray, List.nil_append, List.cons_append]
  refine wpIn_wide.2 ?_
  go_wp2_with fail
  refine (order_run n w0 HW.out _).mono ?_
  rintro e w1 ⟨v, rfl, hG, hb1⟩
  obtain ⟨a, cap, rfl, hr, _, _⟩ := hG.row encN_len
  clear hG
  obtain ⟨xs, hxs⟩ : ∃ xs, xs = seqL n w0 := ⟨_, rfl⟩
  rw [← hxs] at hr hl ⊢
  have HX := hid hxs
  clear hxs
  go_wp2_with fail
  refine (through_run _ _ _).mono ?_
  rintro e w' ⟨rfl, rfl⟩
  have hnf : ∀ (w : World) (lb : Array Value), (binOp BinOp.eql 45 (.func (.func 73) #[] lb) .nilFunc).run Try.prog w = .ok (.bool false) w := fun _ _ => by kernel_rfl
  go_wp2_with fail
  clear hnf
  have N0 : w.heap.size ≤ w1.heap.size := hb1.size
  have bO : Boxed (((w1.alloc (.cells #[.int .i64 n] 3)).alloc (.cells #[.int .u64 (w0 : Int)] 22)).alloc (.cells #[.slice none 0 0] 23)) (w1.heap.size + 1 + 1) 23 (.slice none 0 0) := by
    have := Boxed.new ((w1.alloc (.cells #[.int .i64 n] 3)).alloc (.cells #[.int .u64 (w0 : Int)] 22)) 23 (.slice none 0 0)
    simpa using this
  have b1 : Blk (((w1.alloc (.cells #[.int .i64 n] 3)).alloc (.cells #[.int .u64 (w0 : Int)] 22)).alloc (.cells #[.slice none 0 0] 23)) w1.heap.size [.int .i64 n] 3 := ((Blk.new w1 [.int .i64 n] 3).alloc _).alloc _
  have b2 : Blk (((w1.alloc (.cells #[.int .i64 n] 3)).alloc (.cells #[.int .u64 (w0 : Int)] 22)).alloc (.cells #[.slice none 0 0] 23)) (w1.heap.size + 1) [.int .u64 (w0 : Int)] 22 := (Blk.new_at (w := w1.alloc (.cells #[.int .i64 n] 3)) (g := w1.heap.size + 1) [.int .u64 (w0 : Int)] 22 (by simp)).alloc _
  have hB0 : Below w1.heap.size w1 (((w1.alloc (.cells #[.int .i64 n] 3)).alloc (.cells #[.int .u64 (w0 : Int)] 22)).alloc (.cells #[.slice none 0 0] 23)) := (((Below.refl _ w1).alloc (Nat.le_refl _) _).alloc (by simp) _).alloc (by simp; omega) _
  have hstop := through_stops 9 w1.heap.size (w1.heap.size + 1) n w0 HW.out _ b1 b2
  rw [← HX.out] at hstop
  refine wpIn_wide (n := 10).1 ?_
  refine wpIn_rangeFunc_ownG rfl (by omega) (gf := 73) (lb := #[.pointer (some ⟨w1.heap.size, 0, none⟩), .pointer (some ⟨w1.heap.size + 1, 0, none⟩)]) rfl trivial (enters_of Try.func73 (by kernel_rfl) rfl)
    hstop kpo_t (kpo_b (by simp; omega) (by simp)) (Below.refl _ _) (fun _ => rfl)
    (fun pre W => (∃ v, Boxed W (w1.heap.size + 1 + 1) 23 v ∧ W.ownsRow (w1.heap.size + 3) 3 1 v pre.length (pre.flatMap encN) ∧ True) ∧ Below w1.heap.size w1 W ∧ w1.heap.size + 3 ≤ W.heap.size)
    (fun _ _ _ => False)
    (OwnFrom.and (Own.from (holdsRow_own (w1.heap.size + 3) (w1.heap.size + 1 + 1) 23 3 1 (fun (pre : List Nat) => pre.length) (fun (pre : List Nat) => pre.flatMap encN) (fun (pre : List Nat) v => True)) _) (OwnFrom.and (ownFrom_below (Nat.le_refl _) (by simp; omega)) (fun _ _ _ _ hs hg _ => Nat.le_trans hs hg.size)))
    (fun _ _ _ _ _ hs _ _ => hs)
    ⟨⟨_, bO, World.ownsRow_nil _ _ _ _, trivial⟩, hB0, by simp⟩
    (fun x => { tmps := #[.int .i64 n, .int .u64 (w0 : Int), undef, undef, .bool false, .slice a xs.length cap, .func (.func 73) #[] #[.pointer (some ⟨w1.heap.size, 0, none⟩), .pointer (some ⟨w1.heap.size + 1, 0, none⟩)], .pointer (some ⟨w1.heap.size + 1 + 1, 0, none⟩), .int .i64 (x : Int), undef, undef, .int .i64 n, .int .u64 (w0 : Int), .slice a xs.length cap, .int .i64 n, .int .u64 (w0 : Int), .func (.func 73) #[] #[.pointer (some ⟨w1.heap.size, 0, none⟩), .pointer (some ⟨w1.heap.size + 1, 0, none⟩)], .func (.func 73) #[] #[.pointer (some ⟨w1.heap.size, 0, none⟩), .pointer (some ⟨w1.heap.size + 1, 0, none⟩)], .bool false, .func (.func 73) #[] #[.pointer (some ⟨w1.heap.size, 0, none⟩), .pointer (some ⟨w1.heap.size + 1, 0, none⟩)], .int .i64 (x : Int), undef, undef, undef, undef, undef, undef, undef, undef, undef, undef, undef, undef, undef, undef, undef, undef, undef, undef, undef, undef, undef, undef, undef, undef, undef, undef, undef, undef, undef, undef, undef, undef, undef, undef, undef, undef, undef, undef, undef, undef, undef, undef, undef, undef, undef, undef, undef, undef, undef, undef, undef, undef, undef, undef, undef, undef, undef, undef, undef, undef, undef, undef, undef, undef, undef, undef, undef, undef, undef, undef, undef, undef, undef, undef, undef, undef, undef, undef, undef, undef, undef, undef, undef, undef, undef], defers := [] }) ?assign ?body ?done ?stop
  case assign =>
    intro l x W K hK
    gi_wp2
    exact hK
  case body =>
    rintro l pre x W ⟨⟨v, hv, hrow, _⟩, hB, hsz⟩ hlt
    have hc := hv.cell
    gi_wp2_with (gi_at_builtin; refine wpListIn_append_own _ rfl _ _ 23 rfl (w1.heap.size + 3) 3 i0 (.int .i64 0) 1 8 Try.underlying23 hi hz0 hz1 hz2 rfl (by decide) _ _ _ rfl (hrow.alloc _) ⟨W.heap.size, 0, none⟩ 1 1 [.int .i64 (x : Int)] rfl rfl (cell_one_new _ _ _) (by simp [Value.oneCell']) (by unfold maxLen; omega) (by omega) (by simp; omega) ?_; intro v' w1' hown' hgrow _; obtain ⟨g', cap', rfl⟩ := ownsRow_succ hown'; obtain ⟨hv1, hv2, hr2, hk2, hb2, hkp, hsz2⟩ := collected (H := w1.heap.size) (b1 := w1.heap.size) (b2 := w1.heap.size + 1) hv hrow hsz (by omega) (by omega) (by omega) (by omega) (by omega) (by omega) hown' hgrow; have hc1 := hv1.cell; have hf1 := hv1.frozen)
    exact ⟨hk2.from _, hkp, ⟨_, hv2, hr2, trivial⟩, hB.trans hb2, hsz2⟩
  case done =>
    rintro D ys W hD rfl ⟨⟨v, hv, hrow, _⟩, hB, _⟩ hK
    have hG : Grow W (w1.heap.size + 3) 3 1 encN v ys := hrow
    obtain ⟨b, cb, rfl, hrb, _, _⟩ := hG.row encN_len
    have HBe : Behind w D ys a cap (w1.heap.size + 1 + 1) W := ⟨hb1.trans (hB.mono N0), hK, by simp at hD; omega, hr.quiet hB, b, cb, hv, hrb⟩
    clear hstop bO b1 b2 hB0 hv hrow hG hrb hB hK hr hD hi hz0 hz1 hz2 i0 hb1
    obtain ⟨H, hH⟩ : ∃ H, H = w1.heap.size := ⟨_, rfl⟩
    rw [← hH] at HBe N0 ⊢
    clear hH
    by_cases hk : 1 ≤ n ∧ n ≤ 64
    · obtain ⟨n, rfl⟩ := Int.eq_ofNat_of_zero_le (by omega : 0 ≤ n)
      have h1 : 1 ≤ n := by omega
      have h2 : n ≤ 64 := by omega
      obtain rfl : ys = orderL n w0 := by rw [HX.out]; unfold seqL; rw [if_pos hk]; rfl
      clear hk HX hl
      have HL := hid (orderL_length n w0)
      go_wp2_with fail
      refine (lknown_yes n h1 h2 _).mono ?_
      rintro e w' ⟨rfl, rfl⟩
      go_wp2_with fail
      refine (rorder_run n w0 h1 h2 HW.out _).mono ?_
      rintro e W2 ⟨v, rfl, hG, hb⟩
      obtain ⟨a2, c2, rfl, hr2, _, _⟩ := hG.row encN_len
      replace HBe := HBe.quiet hb
      clear hb hG
      go_wp2_with fail
      refine (rstrides_run n h1 h2 _).mono ?_
      rintro e W3 ⟨v, rfl, hG, hb⟩
      obtain ⟨a3, c3, rfl, hr3, _, _⟩ := hG.row encN_len
      replace HBe := HBe.quiet hb
      replace hr2 := hr2.quiet hb
      clear hb hG
      go_wp2_with fail
      obtain ⟨b, cb, hv, hrb⟩ := HBe.all
      have cA := hv.cell
      have hnpos : 0 < (orderL n w0).length := by rw [HL.out]; omega
      have hix := stepIx_lt n w0 h1
      obtain ⟨x2, rfl, hx2⟩ := hr2 0 hnpos
      obtain ⟨x3, rfl, hx3⟩ := hr3 (stepIx n w0) hix
      have cB := hx2 0 (.int .i64 (start n w0 : Int)) (by rw [← at_zero n w0 h1]; simp [encN, orderL, upto])
      have cC := hx3 0 (.int .i64 (step n w0 : Int)) (by rw [step_eq n w0 h1]; rfl)
      rw [Nat.zero_mul, Nat.zero_add, show x2.add 0 = x2 from by unfold Addr.add; simp] at cB
      rw [Nat.mul_one, Nat.add_zero] at cC
      have e1 : (IntKind.u64.wrap ((w0 : Int) / (n : Int))).tmod ((strides n).length : Int) = (stepIx n w0 : Int) := step_walk n w0 HW.out
      have hsl : (strides n).length ≤ n := strTo_le n n
      obtain ⟨S3, hS3⟩ : ∃ S3, S3 = strides n := ⟨_, rfl⟩
      obtain ⟨j, hj⟩ : ∃ j, j = stepIx n w0 := ⟨_, rfl⟩
      obtain ⟨st, hst⟩ : ∃ st, st = step n w0 := ⟨_, rfl⟩
      obtain ⟨sa, hsa⟩ : ∃ sa, sa = start n w0 := ⟨_, rfl⟩
      clear hx2 hx3
      rw [← hS3, ← hj] at e1 hix
      rw [← hsa] at cB
      rw [← hj, ← hst] at cC
      rw [← hS3] at hr3 hsl ⊢
      have HS3 := hid hS3
      have HST := hid hst
      have HSA := hid hsa
      clear hS3 hj hst hsa
      have HE := hid e1
      clear e1
      have lB := cell_lt cB
      have lC := cell_lt cC
      have lA := cell_lt cA
      have u1 : IntKind.u64.wrap (n : Int) = (n : Int) := u64_nat n (by omega)
      have u0 : IntKind.u64.wrap (S3.length : Int) = (S3.length : Int) := u64_nat _ (by omega)
      have u2 : ¬ n = 0 := by omega
      have u3 : (0 : Int) ≤ (w0 : Int) := by omega
      have u4 : (0 : Int) < (n : Int) := by omega
      have u5 : ¬ S3 = [] := by intro e; rw [e] at hix; simp at hix
      have u9 : IntKind.i64.wrap (j : Int) = (j : Int) := i64_nat _ (by omega)
      have u7 : (0 : Int) ≤ (j : Int) := by omega
      have u8 : (j : Int) < (S3.length : Int) := by omega
      have e1 := HE.out
      have e2 : (IntKind.u64.wrap ((w0 : Int).tdiv (n : Int))).tmod (S3.length : Int) = (j : Int) := by rw [Int.tdiv_eq_ediv_of_nonneg u3]; exact e1
      have HB : Below W3.heap.size W3 W3.drew := (Below.refl _ _).drew
      go_region_held3 (fun w' => w'.cell? ⟨H + 1 + 1, 0, none⟩ = some (.slice b (orderL n w0).length cb) ∧ w'.cell? x2 = some (.int .i64 (sa : Int)) ∧ w'.cell? (x3.add j) = some (.int .i64 (st : Int))) (exact ⟨(HB.cell lA).trans cA, (HB.cell lB).trans cB, (HB.cell lC).trans cC⟩) (first | (go_at_call 31; refine (awake_run _).mono ?_; rintro e w' ⟨rfl, hb⟩; replace HB := Below.then_ HB hb; clear hb) | (go_at_call 32; refine (strides_run n h1 h2 _).mono ?_; rintro e w' ⟨v, rfl, hG, hb⟩; rw [← HS3.out] at hG; obtain ⟨a4, c4, rfl, hr4, _, _⟩ := hG.row encN_len; replace HB := Below.then_ HB hb; clear hb hG) | (go_at_call 33; refine (start_run n w0 h1 h2 HW.out _).mono ?_; rintro e w' ⟨rfl, rfl⟩; rw [← HSA.out]) | (go_at_call 34; refine (step_run n w0 h1 h2 HW.out _).mono ?_; rintro e w' ⟨rfl, hb⟩; rw [← HST.out]; replace HB := Below.then_ HB hb; clear hb) | (go_at_call 37; ((with_reducible refine (same_run a (some x2) cap c2 (orderL n w0) (orderL n w0) _ (HBe.l.quiet HB) (hr2.quiet HB) (by rw [HL.out]; omega) (by rw [HL.out]; omega)).mono ?_); rintro e w' ⟨rfl, hb⟩); replace HB := Below.then_ HB hb; clear hb) | (go_at_call 37; ((with_reducible refine (same_run b (some x2) cb c2 (orderL n w0) (orderL n w0) _ (hrb.quiet HB) (hr2.quiet HB) (by rw [HL.out]; omega) (by rw [HL.out]; omega)).mono ?_); rintro e w' ⟨rfl, hb⟩); replace HB := Below.then_ HB hb; clear hb) | (go_at_call 37; ((with_reducible refine (same_run a4 (some x3) c4 c3 S3 S3 _ hr4 (hr3.quiet HB) (by omega) (by omega)).mono ?_); rintro e w' ⟨rfl, hb⟩); replace HB := Below.then_ HB hb; clear hb))
      all_goals
        have HBf := HBe.quiet HB
        have hK := HBf.dfr
        go_wp2
        refine ⟨by simp, .inl ⟨_, _, rfl, run_takeDeferred hK, ?_⟩⟩
        exact ⟨_, results_tmp rfl _ _ _, rfl, HBf.low.trans (belowK_b (w := w) (Nat.le_refl _) _ D _ _ HBf.hD hK rfl rfl)⟩
    · have hk' : n < 1 ∨ 64 < n := by omega
      obtain rfl : ys = [] := by rw [HX.out]; unfold seqL; rw [if_neg hk]
      clear hk HX
      go_wp2_with fail
      refine (lknown_no n hk' _).mono ?_
      rintro e w' ⟨rfl, rfl⟩
      go_wp2_with fail
      refine (awake_run _).mono ?_
      rintro e W2 ⟨rfl, hb⟩
      replace HBe := HBe.quiet hb
      clear hb
      obtain ⟨b, cb, hv, hrb⟩ := HBe.all
      have hc := hv.cell
      simp only [List.length_nil] at hc
      go_wp2_with fail
      refine (strides_no n hk' _).mono ?_
      rintro e w' ⟨rfl, rfl⟩
      go_wp2_with fail
      refine (start_no n _ hk' _).mono ?_
      rintro e w' ⟨rfl, rfl⟩
      go_wp2_with fail
      refine (step_no n _ hk' _).mono ?_
      rintro e w' ⟨rfl, rfl⟩
      have hK := HBe.dfr
      go_wp2
      refine ⟨by simp, .inl ⟨_, _, rfl, run_takeDeferred hK, ?_⟩⟩
      exact ⟨_, results_tmp rfl _ _ _, rfl, HBe.low.trans (belowK_b (w := w) (Nat.le_refl _) _ D _ _ HBe.hD hK rfl rfl)⟩
  case stop =>
    rintro D c pre W _ _ h _
    exact h.elim
end Go.Proofs.Ytlchnmkmepippaa.Ord
