/- The walk of RestNeeded. -/
import Derived.Test.YtlhnnggceebpjaaGreatNeeded
import Derived.Test.YtlhnnggceebpjaaGreatBase4
import Derived.Deep.DeepCutAuto
set_option maxRecDepth 100000
set_option maxHeartbeats 4000000
set_option linter.unusedVariables false
set_option linter.unusedSimpArgs false
namespace Go.Proofs.YtlhnnggceebpjaaGreat.Rest
open Go.RowKit Go.Shelf Go.Proofs.YtlhnnggceebpjaaGreat.TK Go.Proofs.YtlhnnggceebpjaaGreat.Flag Go.Proofs.YtlhnnggceebpjaaGreat.Read Go.Proofs.YtlhnnggceebpjaaGreat.Grow Go.Proofs.YtlhnnggceebpjaaGreat.Words Go.Proofs.YtlhnnggceebpjaaGreat.Mem Go.Proofs.YtlhnnggceebpjaaGreat.Flow Go.Proofs.YtlhnnggceebpjaaGreat.Layout Go.Proofs.YtlhnnggceebpjaaGreat.Lock Go.Proofs.YtlhnnggceebpjaaGreat.Run Go.Proofs.YtlhnnggceebpjaaGreat.Sys Go.Proofs.YtlhnnggceebpjaaGreat.Mach Go.Proofs.YtlhnnggceebpjaaGreat.Ref05 Go.Proofs.YtlhnnggceebpjaaGreat.Subs Go.Proofs.YtlhnnggceebpjaaGreat.Note
open Go.Proofs.YtlhnnggceebpjaaGreat.Ring (after after_clock)
theorem row4N {w' : World} {b : Nat} {T : TypeId} {p x : Int} (h : Blk w' b [.int .i64 9, .int .u64 (p + 1), .int .i64 10, .int .u64 1, .int .i64 14, .int .u64 1, .int .i64 19, .int .u64 x] T) : RowOf encP 2 w' (some ⟨b, 0, none⟩) (putsN p x) := by
  intro i hi
  refine ⟨_, rfl, ?_⟩
  intro j v hv
  have hj : j < 2 := by have := (List.getElem?_eq_some_iff.1 hv).1; simpa [encP] using this
  rw [show (⟨b, 0, none⟩ : Addr).add (i * 2 + j) = ⟨b, i * 2 + j, none⟩ by unfold Addr.add; split <;> simp_all]
  rw [h.cell]
  have hi4 : i < 4 := hi
  have h4 : i = 0 ∨ i = 1 ∨ i = 2 ∨ i = 3 := by omega
  have hj2 : j = 0 ∨ j = 1 := by omega
  rcases h4 with rfl | rfl | rfl | rfl <;> rcases hj2 with rfl | rfl <;> exact hv
theorem needed_walk0 (w : World) (P T G p t : Int) :
    Calls Tryz.prog 3 #[.agg #[.int .i64 P, .int .i64 T, .int .i64 G], .int .i64 p, .int .i64 t] w fun e w' => e = .returned (.bool true) ∧ Below w.heap.size w w' := by
  by_cases g1 : P < 1
  · have d1 : decide (P < 1) = true := decide_eq_true g1
    go_enter Tryz.func3, Tryz.ntmps3
    (go_wp2_with (first | (go_at_call 19; refine (awake_run _).mono ?_; rintro e w9 ⟨rfl, hb9⟩)); go_ret; exact ⟨rfl, (below_one w _).trans (hb9.mono (by simp))⟩)
  have d1 : decide (P < 1) = false := decide_eq_false g1
  by_cases g2 : 4 < P
  · have d2 : decide (4 < P) = true := decide_eq_true g2
    go_enter Tryz.func3, Tryz.ntmps3
    (go_wp2_with (first | (go_at_call 19; refine (awake_run _).mono ?_; rintro e w9 ⟨rfl, hb9⟩)); go_ret; exact ⟨rfl, (below_one w _).trans (hb9.mono (by simp))⟩)
  have d2 : decide (4 < P) = false := decide_eq_false g2
  by_cases g3 : T < P
  · have d3 : decide (T < P) = true := decide_eq_true g3
    go_enter Tryz.func3, Tryz.ntmps3
    (go_wp2_with (first | (go_at_call 19; refine (awake_run _).mono ?_; rintro e w9 ⟨rfl, hb9⟩)); go_ret; exact ⟨rfl, (below_one w _).trans (hb9.mono (by simp))⟩)
  have d3 : decide (T < P) = false := decide_eq_false g3
  by_cases g4 : 8 < T
  · have d4 : decide (8 < T) = true := decide_eq_true g4
    go_enter Tryz.func3, Tryz.ntmps3
    (go_wp2_with (first | (go_at_call 19; refine (awake_run _).mono ?_; rintro e w9 ⟨rfl, hb9⟩)); go_ret; exact ⟨rfl, (below_one w _).trans (hb9.mono (by simp))⟩)
  have d4 : decide (8 < T) = false := decide_eq_false g4
  by_cases g5 : p < 0
  · have d5 : decide (p < 0) = true := decide_eq_true g5
    go_enter Tryz.func3, Tryz.ntmps3
    (go_wp2_with (first | (go_at_call 19; refine (awake_run _).mono ?_; rintro e w9 ⟨rfl, hb9⟩)); go_ret; exact ⟨rfl, (below_one w _).trans (hb9.mono (by simp))⟩)
  have d5 : decide (p < 0) = false := decide_eq_false g5
  by_cases g6 : P ≤ p
  · have d6 : decide (P ≤ p) = true := decide_eq_true g6
    go_enter Tryz.func3, Tryz.ntmps3
    (go_wp2_with (first | (go_at_call 19; refine (awake_run _).mono ?_; rintro e w9 ⟨rfl, hb9⟩)); go_ret; exact ⟨rfl, (below_one w _).trans (hb9.mono (by simp))⟩)
  have d6 : decide (P ≤ p) = false := decide_eq_false g6
  by_cases g7 : t < 0
  · have d7 : decide (t < 0) = true := decide_eq_true g7
    go_enter Tryz.func3, Tryz.ntmps3
    (go_wp2_with (first | (go_at_call 19; refine (awake_run _).mono ?_; rintro e w9 ⟨rfl, hb9⟩)); go_ret; exact ⟨rfl, (below_one w _).trans (hb9.mono (by simp))⟩)
  have d7 : decide (t < 0) = false := decide_eq_false g7
  by_cases g8 : T ≤ t
  · have d8 : decide (T ≤ t) = true := decide_eq_true g8
    go_enter Tryz.func3, Tryz.ntmps3
    (go_wp2_with (first | (go_at_call 19; refine (awake_run _).mono ?_; rintro e w9 ⟨rfl, hb9⟩)); go_ret; exact ⟨rfl, (below_one w _).trans (hb9.mono (by simp))⟩)
  have d8 : decide (T ≤ t) = false := decide_eq_false g8
  have HC := hid (show FewP P T 1 ∧ (0 ≤ p ∧ p < P) ∧ (0 ≤ t ∧ t < T) ∧ (0 ≤ t ∧ t ≤ 1000) by unfold FewP Right; omega)
  have n1 : IntKind.u64.wrap p = p := by rw [IntKind.wrap_u64]; omega
  have n2 : IntKind.u64.wrap (p + 1) = p + 1 := by rw [IntKind.wrap_u64]; omega
  have hp0 : 0 ≤ p := by omega
  have hp4 : p < 64 := by omega
  clear g1 g2 g3 g4 g5 g6 g7 g8
  go_enter Tryz.func3, Tryz.ntmps3
  go_upto_region 3 with fail
  have hb1 := below_one w (.cells #[.int .i64 P, .int .i64 T, .int .i64 G] 23)
  have hx1 := Blk.new w [.int .i64 P, .int .i64 T, .int .i64 G] 23
  obtain ⟨w1, hw1⟩ : ∃ w1, w1 = w.alloc (.cells #[.int .i64 P, .int .i64 T, .int .i64 G] 23) := ⟨_, rfl⟩
  have hx1 : Blk w1 w.heap.size [.int .i64 P, .int .i64 T, .int .i64 G] 23 := by rw [hw1]; exact hx1
  rw [← hw1] at hb1 ⊢
  have c0 := hx1.cell 0
  have c1 := hx1.cell 1
  simp only [List.getElem?_cons_zero, List.getElem?_cons_succ] at c0 c1
  have ea := World.new_ne w1 _ c0
  have eb := World.new_ne w1 _ c1
  have HB1 := hid hb1
  clear hw1 hb1 hx1
  go_cut [7] (fun s7 wx => ∃ bG bS : Nat, s7 = .pointer (some ⟨bG, 0, none⟩) ∧ Blk wx bG [.int .i64 P, .int .i64 T, .int .i64 1, .slice (some ⟨bS, 0, none⟩) 4 4] 30 ∧ RowOf encP 2 wx (some ⟨bS, 0, none⟩) (putsN p (IntKind.u64.wrap (2 ^ p.toNat))) ∧ Below w1.heap.size w1 wx)
  case first =>
    go_region_held3 (fun w' => w'.cell? ⟨w.heap.size, 0, none⟩ = some (.int .i64 P) ∧ w'.cell? ⟨w.heap.size, 1, none⟩ = some (.int .i64 T)) (go_keep) (fail)
    all_goals (go_wp2_with fail; go_meet)
    · exact ⟨w1.heap.size + 1, w1.heap.size, rfl, Blk.new_at (w := w1.alloc (.cells #[.int .i64 9, .int .u64 (p + 1), .int .i64 10, .int .u64 1, .int .i64 14, .int .u64 1, .int .i64 19, .int .u64 (IntKind.u64.wrap (2 ^ p.toNat))] 27)) (g := w1.heap.size + 1) [.int .i64 P, .int .i64 T, .int .i64 1, .slice (some ⟨w1.heap.size, 0, none⟩) 4 4] 30 (by simp), row4N ((Blk.new w1 [.int .i64 9, .int .u64 (p + 1), .int .i64 10, .int .u64 1, .int .i64 14, .int .u64 1, .int .i64 19, .int .u64 (IntKind.u64.wrap (2 ^ p.toNat))] 27).alloc _), ((below_one w1 _).alloc (by simp) _).drew⟩
    · exact ⟨w1.heap.size, w1.heap.size + 1, rfl, (Blk.new w1 [.int .i64 P, .int .i64 T, .int .i64 1, .slice (some ⟨w1.heap.size + 1, 0, none⟩) 4 4] 30).alloc _, row4N (Blk.new_at (w := w1.alloc (.cells #[.int .i64 P, .int .i64 T, .int .i64 1, .slice (some ⟨w1.heap.size + 1, 0, none⟩) 4 4] 30)) (g := w1.heap.size + 1) [.int .i64 9, .int .u64 (p + 1), .int .i64 10, .int .u64 1, .int .i64 14, .int .u64 1, .int .i64 19, .int .u64 (IntKind.u64.wrap (2 ^ p.toNat))] 27 (by simp)), ((below_one w1 _).alloc (by simp) _).drew⟩
  case rest =>
    clear c0 c1 ea eb n1 n2 hp0 hp4 d1 d2 d3 d4 d5 d6 d7 d8
    obtain ⟨bG, bS, rfl, hG, hS, hB⟩ := hcut
    obtain ⟨b, hb⟩ : ∃ b, b = IntKind.u64.wrap (2 ^ p.toNat) := ⟨_, rfl⟩
    rw [← hb] at hS
    have hbw : 0 ≤ b ∧ b < 18446744073709551616 := by rw [hb, IntKind.wrap_u64]; omega
    have c0 := hG.cell 0
    have c1 := hG.cell 1
    have c2 := hG.cell 2
    have c3 := hG.cell 3
    simp only [List.getElem?_cons_zero, List.getElem?_cons_succ] at c0 c1 c2 c3
    have hlow := HB1.out.trans (hB.mono HB1.out.size)
    have HS := hid (And.intro hS (And.intro hbw hlow))
    clear hb hbw hS hG hB hlow
    go_wp2_with fail
    refine (lay_yes P T 1 (some ⟨bS, 0, none⟩) 4 (putsN p b) _ HC.out.1 (by simp [putsN]) HS.out.1 (by
      have h1 := HS.out.2.1
      have h2 := HC.out.1
      have h3 := HC.out.2.1
      unfold FewP Right at h2
      intro q hq
      simp only [putsN, List.mem_cons, List.not_mem_nil, or_false] at hq
      rcases hq with rfl | rfl | rfl | rfl <;> simp only <;> omega)).mono ?_
    rintro e w3 ⟨l, m, g, rm, rg, rfl, hL⟩
    have hlow := HS.out.2.2
    have HQ := hid (show w.heap.size ≤ m ∧ w.heap.size ≤ g from ⟨Nat.le_trans hlow.size hL.low5.2.1, Nat.le_trans hlow.size hL.low5.2.2.1⟩)
    obtain ⟨sX, hsX⟩ : ∃ sX, sX = fresh (layW (lenOf P T 1) (putsN p b)) := ⟨_, rfl⟩
    have HN := hid (needed_run P T t p b HC.out.1 HC.out.2.1 sX hsX)
    have HK := hid (show sX.clock = 0 ∧ sX.bad = 0 by rw [hsX]; exact ⟨rfl, rfl⟩)
    have hM : MemAt w3 m g sX := by rw [hsX]; exact hL.mem
    have HI := hid (show Lay w3 l P T 1 ∧ MemAt w3 m g sX ∧ Below w.heap.size w w3 from ⟨hL.lay, hM, hlow.trans (hL.low.mono hlow.size)⟩)
    clear hL hM hlow hsX HS c0 c1 c2 c3
    go_wp2_with fail
    refine (rs_made w.heap.size l P T 1 t w3 HC.out.2.2.2 HI.out.1 HI.out.2.2.size).mono ?_
    rintro e w4 ⟨rfl, hA, hb⟩
    have HI := hid (show (rsM w.heap.size l P T 1 t).at_ w.heap.size l w3.heap.size P T 1 t w4 (after (rsY P T t) t (.aq .ask) sX 0).1 ∧ MemAt w4 m g (after (rsY P T t) t (.aq .ask) sX 0).2 ∧ Below w.heap.size w w4 ∧ Lay w4 l P T 1 from ⟨hA, HI.out.2.1.quiet hb, HI.out.2.2.trans (hb.mono HI.out.2.2.size), HI.out.1.quiet hb⟩)
    obtain ⟨y, hy⟩ : ∃ y, y = w3.heap.size := ⟨_, rfl⟩
    rw [← hy] at HI ⊢
    clear hA hb hy
    go_wp2_with fail
    go_loopw [13] (fun i wr => ∃ j : Nat, j ≤ 20 ∧ i = .int .i64 (j : Int) ∧ (rsM w.heap.size l P T 1 t).at_ w.heap.size l y P T 1 t wr (after (rsY P T t) t (.aq .ask) sX j).1 ∧ MemAt wr m g (after (rsY P T t) t (.aq .ask) sX j).2 ∧ Below w.heap.size w wr ∧ Lay wr l P T 1) (fun i _ => 20 - (intOf i).toNat)
    case atStart => exact ⟨0, by omega, rfl, HI.out⟩
    case round =>
      clear HI
      obtain ⟨j, hj, rfl, hI⟩ := hrel
      have HI := hid hI
      clear hI
      by_cases hlt2 : j < 20
      · have hltj : decide ((j : Int) < 20) = true := decide_eq_true (by omega)
        have hcl := after_clock (rsY P T t) t (.aq .ask) sX j
        have hc0 := HK.out
        go_wp2_with fail
        refine (mz_stepL rs_thru (rs_goes w.heap.size l y P T 1 t HC.out.2.2.2) HI.out.1 HI.out.2.1 (by omega) (by omega)).mono ?_
        rintro e w6 ⟨⟨bb, rfl⟩, hA6, hM6, hK6⟩
        have hnl := HN.out.2.2.2.2 (j + 1) (by omega)
        have HI6 := hid (show (rsM w.heap.size l P T 1 t).at_ w.heap.size l y P T 1 t w6 (after (rsY P T t) t (.aq .ask) sX (j + 1)).1 ∧ MemAt w6 m g (after (rsY P T t) t (.aq .ask) sX (j + 1)).2 ∧ Below w.heap.size w w6 ∧ Lay w6 l P T 1 from ⟨hA6, hM6, keptOwn_low hK6 HI.out.2.2.1 HQ.out.1 HQ.out.2 HI.out.2.2.1.size, hA6.2.2.1⟩)
        have HNL := hid hnl
        clear hA6 hM6 hK6 HI hcl hc0 hnl
        go_wp2_with fail
        refine ((show Calls _ _ _ _ fun e w' => e = .returned (.bool false) ∧ _ = w' by have q := rs_asl_run HI6.out.1 HI6.out.2.1 (fin_of HNL.out); rw [awake_of _ HNL.out] at q; exact q)).mono ?_
        rintro e w7 ⟨rfl, rfl⟩
        go_wp2_with fail
        go_roundw
        case rel => exact ⟨j + 1, by omega, by go_num, HI6.out⟩
        case measure => simp [intOf]; omega
      · obtain rfl : j = 20 := by omega
        have hltj : decide ((20 : Int) < 20) = false := by decide
        have hA : (rsM w.heap.size l P T 1 t).at_ w.heap.size l y P T 1 t wr (.f1 (.got (p + 1) 0)) := by have := HI.out.1; rw [HN.out.1] at this; exact this
        have hM := HI.out.2.1
        have hq := HN.out.2
        obtain ⟨sE, hsE⟩ : ∃ z, z = (after (rsY P T t) t (.aq .ask) sX 20).2 := ⟨_, rfl⟩
        rw [← hsE] at hM hq
        have HPK := hid (show (sE.peek 13).1 = 1 ∧ (sE.peek 14).1 = 0 ∧ (sE.peek (pr P p 0)).1 = 1 from ⟨hq.1, hq.2.1, hq.2.2.1⟩)
        have HI := hid (show (rsM w.heap.size l P T 1 t).at_ w.heap.size l y P T 1 t wr (.f1 (.got (p + 1) 0)) ∧ MemAt wr m g sE ∧ Below w.heap.size w wr ∧ Lay wr l P T 1 from ⟨hA, hM, HI.out.2.2.1, HI.out.2.2.2⟩)
        clear hA hM hsE hq HN HK
        go_wp2_with fail
        refine (mpeek_run m g sE _ _ HI.out.2.1).mono ?_
        rintro e w8 ⟨rfl, rfl⟩
        rw [HPK.out.1]
        go_wp2_with fail
        refine (mpeek_run m g sE _ _ HI.out.2.1).mono ?_
        rintro e w8 ⟨rfl, rfl⟩
        rw [HPK.out.2.1]
        go_wp2_with fail
        refine (proc_run l P T 1 p 0 _ HI.out.2.2.2).mono ?_
        rintro e w9 ⟨rfl, hb9⟩
        have HI := hid (show (rsM w.heap.size l P T 1 t).at_ w.heap.size l y P T 1 t w9 (.f1 (.got (p + 1) 0)) ∧ MemAt w9 m g sE ∧ Below w.heap.size w w9 from ⟨(mz_of (K := rsM w.heap.size l P T 1 t) (lo := w.heap.size) (l := l) (p := P) (t := T) (g := 1) (who := t) (x := y) (fun y _ => rs_goes w.heap.size l y P T 1 t HC.out.2.2.2) (rs_own w.heap.size l P T 1 t)).quiet HI.out.1 hb9, HI.out.2.1.quiet hb9, Below.then_ HI.out.2.2.1 hb9⟩)
        clear hb9
        go_wp2_with fail
        refine (mpeek_run m g sE _ _ HI.out.2.1).mono ?_
        rintro e w8 ⟨rfl, rfl⟩
        rw [show (sE.peek (placeN true 20 p P 264 0 8)).1 = 1 from HPK.out.2.2]
        have HP := hid (show rsP (.f1 (.got (p + 1) 0)) = p from nOf_one (by have := HC.out; unfold FewP Right at this; omega))
        go_wp2_with (first | (go_at_call 19; refine (awake_run _).mono ?_; rintro e w10 ⟨rfl, hb10⟩; have HI := hid (show (rsM w.heap.size l P T 1 t).at_ w.heap.size l y P T 1 t w10 (.f1 (.got (p + 1) 0)) ∧ MemAt w10 m g sE ∧ Below w.heap.size w w10 from ⟨(mz_of (K := rsM w.heap.size l P T 1 t) (lo := w.heap.size) (l := l) (p := P) (t := T) (g := 1) (who := t) (x := y) (fun y _ => rs_goes w.heap.size l y P T 1 t HC.out.2.2.2) (rs_own w.heap.size l P T 1 t)).quiet HI.out.1 hb10, HI.out.2.1.quiet hb10, Below.then_ HI.out.2.2 hb10⟩); clear hb10) | (go_at_call 26; have q2 := mz_doneL rs_thruD (rs_goes w.heap.size l y P T 1 t HC.out.2.2.2) HI.out.1; rw [show ((rsM w.heap.size l P T 1 t).sys.want (.f1 (.got (p + 1) 0))).isNone = true from rfl] at q2; refine q2.mono ?_; rintro e w11 ⟨rfl, rfl⟩; clear q2) | (go_at_call 27; have q := rs_p_run HI.out.1; rw [HP.out] at q; refine q.mono ?_; rintro e w8 ⟨rfl, rfl⟩; clear q) | (go_at_call 28; have q := rs_s_run HI.out.1; rw [show rsS (.f1 (.got (p + 1) 0)) = true from rfl] at q; refine q.mono ?_; rintro e w8 ⟨rfl, rfl⟩; clear q))
        go_ret
        exact ⟨rfl, HI.out.2.2⟩
theorem needed_walk (w : World) (cs : List Value) (hcs : AllL w [.base (.int .i64), .base (.int .i64), .base (.int .i64)] cs) (p : Int) (wp : (Lit.int .i64 p).wf = true) (t : Int) (wt : (Lit.int .i64 t).wf = true) :
    Calls Tryz.prog 3 #[.agg cs.toArray, .int .i64 p, .int .i64 t] w fun e w' => e = .returned (.bool true) ∧ Below w.heap.size w w' := by
  obtain ⟨P, T, G, rfl, _, _, _⟩ := Read.three_ints hcs
  exact needed_walk0 w P T G p t
end Go.Proofs.YtlhnnggceebpjaaGreat.Rest
