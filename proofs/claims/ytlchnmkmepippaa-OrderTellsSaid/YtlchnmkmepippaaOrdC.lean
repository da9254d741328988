/- The order one by one: the iterator's contract; the order as a list. -/
import Derived.RangeFuncNested
import Derived.RangeFuncBound
import Derived.RangeFuncCalls
import Derived.RangeFuncLeaves
import Derived.RangeFuncBox
import Derived.Maps.AppendAt
import Derived.Shelf.Abstract
import Derived.Shelf.RegionOpen
import Derived.OwnWalkIn
import Derived.TacticsInMore
import Derived.LoopNIn
import Derived.LoopIn
import Derived.Test.YtlchnmkmepippaaOrdB
set_option maxRecDepth 100000
set_option maxHeartbeats 4000000
set_option linter.unusedVariables false
set_option linter.unusedSimpArgs false
namespace Go.Proofs.Ytlchnmkmepippaa.Ord
open Go.RowKit Go.Shelf Go.Proofs.Ytlchnmkmepippaa.TK Go.Proofs.Ytlchnmkmepippaa.Flag Go.Proofs.Ytlchnmkmepippaa.Read Go.Proofs.Ytlchnmkmepippaa.Grow
attribute [local go_sem] Oper.semAt_some

theorem through_run (n w0 : Int) (w : World) :
    Calls Try.prog 29 #[.int .i64 n, .int .u64 w0] w fun e w' => e = .returned (.func (.func 73) #[] #[.pointer (some ⟨w.heap.size, 0, none⟩), .pointer (some ⟨w.heap.size + 1, 0, none⟩)]) ∧
      (w.alloc (.cells #[.int .i64 n] 3)).alloc (.cells #[.int .u64 w0] 22) = w' := by
  go_enter Try.func29, Try.ntmps29
  go_wp2
  go_ret
  exact ⟨rfl, rfl⟩

/-- What the loop's body keeps: the two boxes. -/
def KpO (b1 b2 : Nat) (W W' : World) : Prop := W'.heap[b1]? = W.heap[b1]? ∧ W'.heap[b2]? = W.heap[b2]?
theorem kpo_t {b1 b2 : Nat} {A B C : World} (h : KpO b1 b2 A B) (k : KpO b1 b2 B C) : KpO b1 b2 A C := ⟨k.1.trans h.1, k.2.trans h.2⟩
theorem kpo_b {b1 b2 B : Nat} (h1 : b1 < B) (h2 : b2 < B) (W : World) (l : Nat) (o o' : Obj) (hl : B ≤ l) (h : W.heap[l]? = some o) (_ : o.isCells = false) (_ : o.isWalk = false) : KpO b1 b2 W (W.putObj l o') :=
  ⟨World.putObj_heap_other (by omega), World.putObj_heap_other (by omega)⟩
theorem grown_of_below {w w' : World} (h : Below w.heap.size w w') : w.grownBy w' none := ⟨h.os, h.tape, h.output, h.size, fun k hk _ => h.block k hk⟩

theorem one_in (m l b1 b2 n w0 : Nat) (hn1 : 1 ≤ n) (hn2 : n ≤ 64) (hw : (w0 : Int) < 18446744073709551616) (J Jx : List Nat → World → Prop) (W : World) (hJ : AbidesFrom W.heap.size J)
    (hY : ∀ pre (x : Nat) W1, J pre W1 → pre.length < n → YieldAt Fence.wide (m - 1) Try.prog l #[.int .i64 (x : Int)] W1 fun e W' =>
      (e = .returned (.bool true) ∧ J (pre ++ [x]) W' ∧ KpO b1 b2 W1 W') ∨ (e = .returned (.bool false) ∧ Jx (pre ++ [x]) W'))
    (c1 : Blk W b1 [.int .i64 (n : Int)] 3) (c2 : Blk W b2 [.int .u64 (w0 : Int)] 22) (h0 : J [] W) :
    CallsIn Fence.wide m Try.prog 73 #[.func (.yield l) #[] #[], .pointer (some ⟨b1, 0, none⟩), .pointer (some ⟨b2, 0, none⟩)] W fun e W' => (∃ v, e = .returned v) ∧
      ((∃ ys, ys = orderL n w0 ∧ J ys W') ∨ (∃ pre, (∃ k, k ≤ n ∧ pre = upto n w0 k) ∧ Jx pre W')) := by
  have d1 := c1.cell 0
  have d2 := c2.cell 0
  simp only [List.getElem?_cons_zero] at d1 d2
  have hn0 : (1 : Int) ≤ (n : Int) := by omega
  refine callsIn_of_wp Try.func73 rfl trivial ?_ rfl
  simp only [Try.ntmps73, List.size_toArray, List.length_cons, List.length_nil, Nat.reduceAdd, Nat.reduceSub, Array.replicate_succ, Array.replicate_zero, List.push_toArray, List.append_toArray, List.nil_append, List.cons_append]
  refine wpIn_wide.2 ?_
  go_wp2_with (first | (go_at_call 74; refine (known_yes n hn1 hn2 _).mono ?_; rintro e w' ⟨rfl, rfl⟩))
  have HI : Inv W [(b1, [.int .i64 (n : Int)], 3), (b2, [.int .u64 (w0 : Int)], 22)] W := ((Inv.nil W).add c1).add c2
  refine wp_region_I HI (by kernel_rfl) (by kernel_rfl) (by kernel_rfl) ?_
  repeat (first | (apply walkD_pure; rfl; rfl; (intro _; go_simp; first | done | rfl); (intro K hK; go_simp; refine hK _ ?_; clear hK K)) | (apply walkD_skip; rfl; rfl; (intro K hK; go_simp; refine hK _ ?_; clear hK K)) | (apply walkD_read; rfl; rfl; (intro bs hbs w' hD; have x1 := hD.cell 0 0 rfl rfl; have x2 := hD.cell 1 0 rfl rfl; go_simp; rfl); (intro K hK; go_simp; refine hK _ ?_; clear hK K)) | (apply walkD_call; rfl; (intro _; go_simp; first | rfl | exact ⟨rfl, rfl⟩); (intro bs hbs w' hD; refine (start_run n w0 hn1 hn2 hw _).mono ?_; rintro e w2 ⟨rfl, rfl⟩; exact ⟨rfl, hD⟩); (intro K hK; go_simp; refine hK _ ?_; clear hK K)) | (apply walkD_call; rfl; (intro _; go_simp; first | rfl | exact ⟨rfl, rfl⟩); (intro bs hbs w' hD; refine (step_run n w0 hn1 hn2 hw _).mono ?_; rintro e w2 ⟨rfl, hb⟩; exact ⟨rfl, hD.quiet hb⟩); (intro K hK; go_simp; refine hK _ ?_; clear hK K)))
  intro w1 HI1
  have hJ1 : J [] w1 := hJ _ _ _ none h0 (grown_of_below HI1.low) (fun r e => by cases e)
  have e1 := HI1.at_ 0 rfl
  have e2 := HI1.at_ 1 rfl
  have H0 := hid (at_zero n w0 hn1)
  have HL := hid (fun i => at_lt n w0 i hn1)
  have HS := hid (fun i => at_succ n w0 i)
  have hst := (step_range n w0 hn1).2.1
  obtain ⟨st, hsd⟩ : ∃ st, st = step n w0 := ⟨_, rfl⟩
  obtain ⟨sa, had⟩ : ∃ sa, sa = start n w0 := ⟨_, rfl⟩
  rw [← hsd] at hst HS ⊢
  rw [← had] at H0 ⊢
  clear hsd had HI HI1 d1 d2 c1 c2 h0 hw
  have d1 := e1.cell 0
  simp only [List.getElem?_cons_zero] at d1
  go_wp2_with fail
  refine wpIn_wide (n := m).1 ?_
  gi_loopw [4, 16] (fun c i wr => ∃ k : Nat, k ≤ n ∧ i = .int .i64 (k : Int) ∧ c = .int .i64 (at_ n w0 k : Int) ∧ J (upto n w0 k) wr ∧ Blk wr b1 [.int .i64 (n : Int)] 3 ∧ Blk wr b2 [.int .u64 (w0 : Int)] 22) (fun _ i _ => n - (intOf i).toNat)
  case atStart => exact ⟨0, Nat.zero_le _, rfl, by rw [H0.out], hJ1, e1, e2⟩
  case round =>
    clear hJ1 e1 e2 d1
    obtain ⟨k, hk, rfl, rfl, hJk, e1, e2⟩ := hrel
    have d1 := e1.cell 0
    simp only [List.getElem?_cons_zero] at d1
    by_cases hkn : k < n
    · have hc := HL.out k
      have HU := hid (upto_succ n w0 k)
      have hN := HS.out k
      obtain ⟨fn, tmps, assign, body, hy, hR⟩ := hY _ (at_ n w0 k) wr hJk (by rw [upto_length]; exact hkn)
      obtain ⟨c, hcd⟩ : ∃ c, c = at_ n w0 k := ⟨_, rfl⟩
      rw [← hcd] at hc HU hN hy hR ⊢
      have HA : Hid ((((c : Int) + (st : Int)) % (n : Int)) = ((at_ n w0 (k + 1) : Nat) : Int)) := by unfold Hid; rw [hN]; simp
      clear hcd hN
      gi_wp2
      refine ⟨fun h => (by cases h), hR.mono ?_⟩
      rintro e W3 (⟨rfl, hJ3, hk3⟩ | ⟨rfl, hJx3⟩)
      · have f1 : Blk W3 b1 [.int .i64 (n : Int)] 3 := hk3.1.trans e1
        have f2 : Blk W3 b2 [.int .u64 (w0 : Int)] 22 := hk3.2.trans e2
        have g1 := f1.cell 0
        simp only [List.getElem?_cons_zero] at g1
        rw [← HU.out] at hJ3
        gi_wp2
        go_roundw
        case rel => exact ⟨k + 1, by omega, by go_num, by rw [HA.out], hJ3, f1, f2⟩
        case measure => simp only [intOf]; omega
      · rw [← HU.out] at hJx3
        gi_wp2
        refine bodyPost_ret (results_none rfl _ _ _) rfl ?_
        exact ⟨⟨_, rfl⟩, .inr ⟨_, ⟨k + 1, by omega, rfl⟩, hJx3⟩⟩
    · obtain rfl : k = n := by omega
      gi_wp2
      go_end0
      exact ⟨⟨_, rfl⟩, .inl ⟨_, rfl, hJk⟩⟩

theorem one_no (m l b1 b2 : Nat) (n w0 : Int) (hn : n < 1 ∨ 64 < n) (J : List Nat → World → Prop) (W : World)
    (c1 : Blk W b1 [.int .i64 n] 3) (h0 : J [] W) :
    CallsIn Fence.wide m Try.prog 73 #[.func (.yield l) #[] #[], .pointer (some ⟨b1, 0, none⟩), .pointer (some ⟨b2, 0, none⟩)] W fun e W' => (∃ v, e = .returned v) ∧ J [] W' := by
  have d1 := c1.cell 0
  simp only [List.getElem?_cons_zero] at d1
  refine callsIn_of_wp Try.func73 rfl trivial ?_ rfl
  simp only [Try.ntmps73, List.size_toArray, List.length_cons, List.length_nil, Nat.reduceAdd, Nat.reduceSub, Array.replicate_succ, Array.replicate_zero, List.push_toArray, List.append_toArray, List.nil_append, List.cons_append]
  refine wpIn_wide.2 ?_
  go_wp2_with (first | (go_at_call 74; refine (known_no n hn _).mono ?_; rintro e w' ⟨rfl, rfl⟩))
  refine bodyPost_ret (results_none rfl _ _ _) rfl ?_
  exact ⟨⟨_, rfl⟩, h0⟩

/-- What comes, one by one. -/
def seqL (n : Int) (w0 : Nat) : List Nat := if 1 ≤ n ∧ n ≤ 64 then orderL n.toNat w0 else []
theorem seqL_len (n : Int) (w0 : Nat) : (seqL n w0).length ≤ 64 := by
  unfold seqL
  split
  · rw [orderL_length]; omega
  · simp
theorem through_stops (m b1 b2 : Nat) (n : Int) (w0 : Nat) (hw : (w0 : Int) < 18446744073709551616) (w : World) (c1 : Blk w b1 [.int .i64 n] 3) (c2 : Blk w b2 [.int .u64 (w0 : Int)] 22) :
    SeqStopsK Fence.wide m Try.prog 73 #[.pointer (some ⟨b1, 0, none⟩), .pointer (some ⟨b2, 0, none⟩)] (fun x : Nat => #[Value.int .i64 (x : Int)]) (KpO b1 b2) (fun ys => ys = seqL n w0) (fun pre => True) (seqL n w0).length w := by
  intro l J Jx W hW hJ _ hY h0
  by_cases hn : 1 ≤ n ∧ n ≤ 64
  · obtain ⟨k, rfl⟩ := Int.eq_ofNat_of_zero_le (by omega : 0 ≤ n)
    have e : seqL (k : Int) w0 = orderL k w0 := by unfold seqL; rw [if_pos hn]; rfl
    rw [e] at hY ⊢
    rw [orderL_length] at hY
    refine (one_in m l b1 b2 k w0 (by omega) (by omega) hw J Jx W hJ hY (c1.quiet hW) (c2.quiet hW) h0).mono ?_
    rintro e W' ⟨he, ⟨ys, rfl, hj⟩ | ⟨pre, _, hj⟩⟩
    · exact ⟨he, .inl ⟨_, rfl, hj⟩⟩
    · exact ⟨he, .inr ⟨_, trivial, hj⟩⟩
  · have e : seqL n w0 = [] := by unfold seqL; rw [if_neg hn]
    rw [e]
    refine (one_no m l b1 b2 n w0 (by omega) J W (c1.quiet hW) h0).mono ?_
    rintro e W' ⟨he, hj⟩
    exact ⟨he, .inl ⟨_, rfl, hj⟩⟩

theorem own_mono {w : World} {B B' : Nat} {T : TypeId} {size n : Nat} {v : Value} {xs : List Value} (h : w.ownsRow B' T size v n xs) (hB : B ≤ B') : w.ownsRow B T size v n xs := by
  refine ⟨h.1, ?_⟩
  rcases h.2 with h2 | ⟨g, cap, cur, hv, hg, h3⟩
  · exact .inl h2
  · exact .inr ⟨g, cap, cur, hv, by omega, h3⟩
/-- A body that collects into the box B, beside two boxes: what it owes behind the append. -/
theorem collected {W w1 : World} {H N B b1 b2 : Nat} {v v' : Value} {pre : List Nat} {x : Nat} {tmp : Obj}
    (hv : Boxed W B 23 v) (hrow : W.ownsRow N 3 1 v pre.length (pre.flatMap encN)) (hsz : N ≤ W.heap.size) (hHB : H ≤ B) (hBN : B < N) (h1N : b1 < N) (h2N : b2 < N) (hn1 : b1 ≠ B) (hn2 : b2 ≠ B)
    (hown' : w1.ownsRow N 3 1 v' (pre.length + 1) (pre.flatMap encN ++ [.int .i64 (x : Int)])) (hgrow : (W.alloc tmp).grownBy w1 v.ownBlock) :
    Boxed w1 B 23 v ∧ Boxed (w1.setCell ⟨B, 0, none⟩ v') B 23 v' ∧ (w1.setCell ⟨B, 0, none⟩ v').ownsRow N 3 1 v' (pre ++ [x]).length ((pre ++ [x]).flatMap encN) ∧ KeepsOthers W (w1.setCell ⟨B, 0, none⟩ v') ∧ Below H W (w1.setCell ⟨B, 0, none⟩ v') ∧
      KpO b1 b2 W (w1.setCell ⟨B, 0, none⟩ v') ∧ N ≤ (w1.setCell ⟨B, 0, none⟩ v').heap.size := by
  obtain ⟨h1, h2, h3, h4, h5⟩ := hv.appended (n₀ := H) (by decide) (own_mono hrow (by omega)) (by omega) hHB (own_mono hown' (by omega)) hgrow
  have hne : ∀ j, v.ownBlock = some j → N ≤ j := own_le hrow
  have key : ∀ j, j < N → j ≠ B → (w1.setCell ⟨B, 0, none⟩ v').heap[j]? = W.heap[j]? := by
    intro j hj hj'
    rw [Below.heap_setCell _ _ _ _ (by simp; omega), hgrow.block j (by simp; omega) (fun e => by have := hne j e.symm; omega)]
    exact Below.heap_alloc _ _ _ (by omega)
  refine ⟨h1, h2, ?_, h4, h5, ⟨key _ h1N hn1, key _ h2N hn2⟩, Nat.le_trans hsz h5.size⟩
  have h6 := hown'.kept (grownBy_setCell' w1 B v') (.inr (fun e => by have := own_le hown' B (by simpa using e); omega))
  simpa [List.flatMap_append, encN] using h6
theorem order_run (n : Int) (w0 : Nat) (hw : (w0 : Int) < 18446744073709551616) (w : World) :
    Calls Try.prog 28 #[.int .i64 n, .int .u64 (w0 : Int)] w fun e w' => ∃ v, e = .returned v ∧ Grow w' w.heap.size 3 1 encN v (seqL n w0) ∧ Below w.heap.size w w' := by
  have hl := seqL_len n w0
  obtain ⟨i0, hi, hz0, hz1, hz2⟩ := info_parts infoI
  refine (callsIn_wide (n := 10)).1 ?_
  refine callsIn_of_wp_marks Try.func28 rfl trivial ?_ rfl
  simp only [Try.ntmps28, List.size_toArray, List.length_cons, List.length_nil, Nat.reduceAdd, Nat.reduceSub, Array.replicate_succ, Array.replicate_zero, List.push_toArray, List.append_toArray, List.nil_append, List.cons_append]
  refine wpIn_wide.2 ?_
  go_wp2_with fail
  refine (through_run _ _ _).mono ?_
  rintro e w' ⟨rfl, rfl⟩
  go_wp2_with fail
  refine wpIn_wide (n := 10).1 ?_
  have bO := Boxed.new w 23 (.slice none 0 0)
  have b1 : Blk (((w.alloc (.cells #[.slice none 0 0] 23)).alloc (.cells #[.int .i64 n] 3)).alloc (.cells #[.int .u64 (w0 : Int)] 22)) (w.heap.size + 1) [.int .i64 n] 3 := (Blk.new_at (w := w.alloc (.cells #[.slice none 0 0] 23)) (g := w.heap.size + 1) [.int .i64 n] 3 (by simp)).alloc _
  have b2 : Blk (((w.alloc (.cells #[.slice none 0 0] 23)).alloc (.cells #[.int .i64 n] 3)).alloc (.cells #[.int .u64 (w0 : Int)] 22)) (w.heap.size + 1 + 1) [.int .u64 (w0 : Int)] 22 := Blk.new_at (g := w.heap.size + 1 + 1) [.int .u64 (w0 : Int)] 22 (by simp)
  have hB0 : Below w.heap.size w (((w.alloc (.cells #[.slice none 0 0] 23)).alloc (.cells #[.int .i64 n] 3)).alloc (.cells #[.int .u64 (w0 : Int)] 22)) := (((Below.refl _ w).alloc (Nat.le_refl _) _).alloc (by simp) _).alloc (by simp; omega) _
  refine wpIn_rangeFunc_ownG rfl (by omega) (gf := 73) (lb := #[.pointer (some ⟨w.heap.size + 1, 0, none⟩), .pointer (some ⟨w.heap.size + 1 + 1, 0, none⟩)]) rfl trivial (enters_of Try.func73 (by kernel_rfl) rfl)
    (through_stops _ (w.heap.size + 1) (w.heap.size + 1 + 1) n w0 hw _ b1 b2) kpo_t (kpo_b (by simp) (by simp)) (Below.refl _ _) (fun _ => rfl)
    (fun pre W => (∃ v, Boxed W w.heap.size 23 v ∧ W.ownsRow (w.heap.size + 3) 3 1 v pre.length (pre.flatMap encN) ∧ True) ∧ Below w.heap.size w W ∧ w.heap.size + 3 ≤ W.heap.size)
    (fun _ _ _ => False)
    (OwnFrom.and (Own.from (holdsRow_own (w.heap.size + 3) w.heap.size 23 3 1 (fun (pre : List Nat) => pre.length) (fun (pre : List Nat) => pre.flatMap encN) (fun (pre : List Nat) v => True)) _) (OwnFrom.and (ownFrom_below (Nat.le_refl _) (by simp; omega)) (fun _ _ _ _ hs hg _ => Nat.le_trans hs hg.size)))
    (fun _ _ _ _ _ hs _ _ => hs)
    ⟨⟨_, (bO.alloc _).alloc _, World.ownsRow_nil _ _ _ _, trivial⟩, hB0, by simp⟩
    (fun x => { tmps := #[.int .i64 n, .int .u64 (w0 : Int), undef, undef, .slice none 0 0, .pointer (some ⟨w.heap.size, 0, none⟩), .int .i64 (x : Int), .int .i64 n, .int .u64 (w0 : Int), .func (.func 73) #[] #[.pointer (some ⟨w.heap.size + 1, 0, none⟩), .pointer (some ⟨w.heap.size + 1 + 1, 0, none⟩)], .int .i64 (x : Int), undef, undef, undef, undef, undef], defers := [] }) ?assign ?body ?done ?stop
  case assign =>
    intro l x W K hK
    gi_wp2
    exact hK
  case body =>
    rintro l pre x W ⟨⟨v, hv, hrow, _⟩, hB, hsz⟩ hlt
    have hc := hv.cell
    gi_wp2_with (gi_at_builtin; refine wpListIn_append_own _ rfl _ _ 23 rfl (w.heap.size + 3) 3 i0 (.int .i64 0) 1 8 Try.underlying23 hi hz0 hz1 hz2 rfl (by decide) _ _ _ rfl (hrow.alloc _) ⟨W.heap.size, 0, none⟩ 1 1 [.int .i64 (x : Int)] rfl rfl (cell_one_new _ _ _) (by simp [Value.oneCell']) (by unfold maxLen; omega) (by omega) (by simp; omega) ?_; intro v' w1 hown' hgrow _; obtain ⟨g', cap', rfl⟩ := ownsRow_succ hown'; obtain ⟨hv1, hv2, hr2, hk2, hb2, hkp, hsz2⟩ := collected (H := w.heap.size) (b1 := w.heap.size + 1) (b2 := w.heap.size + 1 + 1) hv hrow hsz (Nat.le_refl _) (by omega) (by omega) (by omega) (by omega) (by omega) hown' hgrow; have hc1 := hv1.cell; have hf1 := hv1.frozen)
    exact ⟨hk2.from _, hkp, ⟨_, hv2, hr2, trivial⟩, hB.trans hb2, hsz2⟩
  case done =>
    rintro D ys W hD rfl ⟨⟨v, hv, hrow, _⟩, hB, _⟩ hK
    have hc := hv.cell
    go_wp2
    refine ⟨by simp, .inl ⟨_, _, rfl, run_takeDeferred hK, ?_⟩⟩
    exact ⟨_, results_tmp rfl _ _ _, v, rfl, ownsRow_putObj (own_mono hrow (by omega)) _ hK rfl, hB.trans (belowK_b (w := w) (Nat.le_refl _) W D _ _ (by simp at hD; omega) hK rfl rfl)⟩
  case stop =>
    rintro D c pre W _ _ h _
    exact h.elim
end Go.Proofs.Ytlchnmkmepippaa.Ord
