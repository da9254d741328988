/- The walk of RestSpins. -/
import Derived.Test.YtlhnnggceebpjaaGreatRestE
import Derived.Test.YtlhnnggceebpjaaGreatBase4
import Derived.Deep.DeepCutAuto

set_option maxRecDepth 100000
set_option maxHeartbeats 4000000
set_option linter.unusedVariables false
set_option linter.unusedSimpArgs false
namespace Go.Proofs.YtlhnnggceebpjaaGreat.Rest
open Go.RowKit Go.Shelf Go.Proofs.YtlhnnggceebpjaaGreat.TK Go.Proofs.YtlhnnggceebpjaaGreat.Flag Go.Proofs.YtlhnnggceebpjaaGreat.Words Go.Proofs.YtlhnnggceebpjaaGreat.Mem Go.Proofs.YtlhnnggceebpjaaGreat.Flow Go.Proofs.YtlhnnggceebpjaaGreat.Layout Go.Proofs.YtlhnnggceebpjaaGreat.Run Go.Proofs.YtlhnnggceebpjaaGreat.Lock Go.Proofs.YtlhnnggceebpjaaGreat.Read Go.Proofs.YtlhnnggceebpjaaGreat.Grow Go.Proofs.YtlhnnggceebpjaaGreat.Sys Go.Proofs.YtlhnnggceebpjaaGreat.Mach Go.Proofs.YtlhnnggceebpjaaGreat.Ref05
theorem w13r : wordN 13 = 13 := by decide
theorem w14r : wordN 14 = 14 := by decide
/-- The document's counting in. -/
theorem rspin20_run (B r : Nat) (v : Value) (a : RunSt) (got : List Int) (s0 : SnSt) (w : World) (h : RunAt w B r v a) (hg : Fits got a) (hs : a.stop = false → s0 = .a) (ha : a.stop = false) :
    Calls Tryz.prog 31 #[.pointer (some ⟨r, 0, none⟩)] w fun e w' => ∃ c b s1, e = .returned (.bool c) ∧ RunAt w' B r v b ∧ Kept [r] w w' ∧ Ran snY got s0 a s1 b ∧ Fits got b ∧ (b.stop = false → snY.want s1 = none) ∧ snC s1 = c := by
  have H0 := hid (And.intro h (And.intro hg (hs ha)))
  clear h hg hs ha
  go_enter Tryz.func31, Tryz.ntmps31
  go_wp2_with fail
  refine (dadd_run snY s0 B r v a 13 1 w H0.out.1 H0.out.2.1 (fun _ => by rw [H0.out.2.2, ← w13r]; rfl)).mono ?_
  rintro e w1 ⟨b1, s1, x1, rfl, hd⟩
  have z3 := hd.run.blk.cell 2
  simp only [runCells, List.getElem?_cons_zero, List.getElem?_cons_succ] at z3
  have E1 := hid (show (b1.stop = false → s1 = .b) ∧ snC s1 = !b1.stop from ⟨fun h => by rw [(hd.on h).2, H0.out.2.2]; rfl, by
    cases hb : b1.stop with
    | false => rw [(hd.on hb).2, H0.out.2.2]; rfl
    | true => rw [(hd.off hb).1, H0.out.2.2]; rfl⟩)
  have HD := hid hd
  clear hd
  obtain ⟨q, hq⟩ : ∃ q, q = b1.stop := ⟨_, rfl⟩
  rw [← hq] at z3
  have HQ := hid hq
  clear hq
  go_wp2_with fail
  refine (dstore_run snY s1 B r v b1 14 0 w1 HD.out.run HD.out.good (fun h => by rw [E1.out.1 h, ← w14r]; rfl)).mono ?_
  rintro e w2 ⟨rfl, b2, s2, x2, hd2⟩
  have E2 := hid (show (b2.stop = false → snY.want s2 = none) ∧ snC s2 = snC s1 from ⟨fun h => by rw [(hd2.on h).2, E1.out.1 (hd2.on h).1]; rfl, by
    cases hb : b2.stop with
    | false => rw [(hd2.on hb).2, E1.out.1 (hd2.on hb).1]; rfl
    | true => rw [(hd2.off hb).1]⟩)
  have HD2 := hid hd2
  clear hd2
  go_wp2
  go_ret
  exact ⟨!q, b2, s2, rfl, HD2.out.run, HD.out.kept.trans HD2.out.kept (by intro i hi; exact .inl hi), HD.out.ran.trans HD2.out.ran, HD2.out.good, E2.out.1, by rw [E2.out.2, E1.out.2, HQ.out]⟩
theorem spins_walk (w : World) (cs : List Value) (hcs : AllL w [.base (.int .i64), .base (.int .i64), .base (.int .i64), .row [.int .i64, .int .u64]] cs) (who : Int) (ww : (Lit.int .i64 who).wf = true) (pv : Value) (hpv : (Leaf.row [.bool, .int .i64, .int .i64, .int .i64, .int .u64, .int .u64]).holds w pv) :
    Calls Tryz.prog 4 #[.agg cs.toArray, .int .i64 who, pv] w fun e w' => e = .returned (.bool true) ∧ Below w.heap.size w w' := by
  clear ww
  obtain ⟨p, T, gs, a, c, puts, rfl, hr, hok⟩ := ground_of hcs
  obtain ⟨pa, pc, pokes, rfl, hpr, hpok⟩ := pokes_of hpv
  clear hcs hpv
  have hbb : Below w.heap.size w (w.alloc (.cells #[.int .i64 p, .int .i64 T, .int .i64 gs, .slice a puts.length c] 30)) := below_one w _
  have hbox := Blk.new w [.int .i64 p, .int .i64 T, .int .i64 gs, .slice a puts.length c] 30
  have hr1 := hid (hr.quiet hbb)
  have HOK := hid hok
  have HPR := hid (hpr.quiet hbb)
  have HPK := hid hpok
  clear hr hok hpr hpok
  by_cases hf : FewP p T gs ∧ puts.length ≤ 400
  · obtain ⟨hf, hn⟩ := hf
    have HF := hid hf
    have HN := hid hn
    have HPT := hid (show (0 ≤ p ∧ p ≤ 1000) ∧ T ≤ 1000 by have := hf; unfold FewP Right at this; omega)
    have HPT1 := hid (show 1 ≤ p ∧ 1 ≤ T ∧ 1 ≤ gs ∧ gs ≤ 1000 by have := hf; unfold FewP Right at this; omega)
    clear hf hn
    go_enter Tryz.func4, Tryz.ntmps4
    go_wp2_with fail
    refine (lay_yes p T gs a c puts _ HF.out HN.out hr1.out HOK.out).mono ?_
    rintro e w1 ⟨l, m, g, rm, rg, rfl, hL⟩
    obtain ⟨w0, hw0⟩ : ∃ w0, w0 = w.alloc (.cells #[.int .i64 p, .int .i64 T, .int .i64 gs, .slice a puts.length c] 30) := ⟨_, rfl⟩
    rw [← hw0] at hL HPR hbb hbox
    have HW0 := hid hbb
    have hbox1 := hbox.quiet hL.low
    have b0 := hbox1.cell 0
    have b1 := hbox1.cell 1
    have b2 := hbox1.cell 2
    simp only [List.getElem?_cons_zero, List.getElem?_cons_succ] at b0 b1 b2
    have hlow1 : Below w.heap.size w w1 := hbb.trans (hL.low.mono hbb.size)
    have HBX := hid hbox
    have HL := hid hL
    clear hbox hbox1 hL hbb hr1 hw0
    by_cases g1 : 100 < pokes.length
    · have d1 : decide ((100 : Int) < (pokes.length : Int)) = true := decide_eq_true (by omega)
      (go_wp2_with (first | (go_at_call 19; refine (awake_run _).mono ?_; rintro e w9 ⟨rfl, hb9⟩)); go_ret; exact ⟨rfl, hlow1.trans (hb9.mono hlow1.size)⟩)
    have d1 : decide ((100 : Int) < (pokes.length : Int)) = false := decide_eq_false (by omega)
    have hlen : pokes.length ≤ 100 := by omega
    clear g1
    go_wp2_with fail
    refine (sn_new_run l p T gs who w1 HL.out.lay).mono ?_
    rintro e w3 ⟨rfl, hA, hb⟩
    obtain ⟨s0, hs0⟩ : ∃ s0, s0 = fresh (layW (lenOf p T gs) puts) := ⟨_, rfl⟩
    have z1 : s0.clock = 0 := by rw [hs0]; rfl
    have z2 : s0.bad = 0 := by rw [hs0]; rfl
    have hL := HL.out
    have hLm : MemAt w1 m g s0 := by rw [hs0]; exact hL.mem
    have hLr : RMemAt w1 rm rg s0 := by rw [hs0]; exact hL.rmem
    have hlow3 := hL.low.trans (hb.mono hL.low.size)
    have hI : SI (snM l).sys ((snM l).at_ w0.heap.size l w1.heap.size p T gs who) .a w0 w3 w3.heap.size m g rm rg .a s0 (.slice none 0 0) [] 0 := by
      have q1 := hL.low5
      have q2 := hL.ord
      have hB : Both w3 m g rm rg s0 := ⟨hLm.quiet hb, hLr.quiet hb, by omega, by omega⟩
      exact ⟨hlow3, hB, ⟨hA, hL.low.size, hL.lay.quiet hb, trivial⟩, Grow.nil _ _ _ _ _, .nil _, by simp, Nat.le_refl _, Nat.le_refl _, ⟨by omega, by omega⟩, ⟨hB.mem.ltm, hB.mem.ltg, hB.rmem.ltm, hB.rmem.ltg⟩, ⟨by omega, by omega, by omega, by omega, hlow3.size⟩⟩
    obtain ⟨x, hx⟩ : ∃ x, x = w1.heap.size := ⟨_, rfl⟩
    obtain ⟨B, hB⟩ : ∃ B, B = w3.heap.size := ⟨_, rfl⟩
    rw [← hx, ← hB] at hI
    rw [← hx]
    clear hx hB hs0 z1 z2 hlow3 hA hb hL hLm hLr HL b0 b1 b2 hlow1
    go_wp2_with fail
    go_loopw [13, 12] (fun i v wr => ∃ n : Nat, ∃ st s got, n ≤ pokes.length ∧ i = .int .i64 (n : Int) ∧ SI (snM l).sys ((snM l).at_ w0.heap.size l x p T gs who) .a w0 wr B m g rm rg st s v got n) (fun i _ _ => pokes.length - (intOf i).toNat)
    case atStart => exact ⟨0, _, _, _, Nat.zero_le _, rfl, hI⟩
    case round =>
      clear hI
      obtain ⟨n, st, s, got, hn, rfl, hI⟩ := hrel
      by_cases hlt : n < pokes.length
      case neg =>
        obtain rfl : n = pokes.length := by omega
        have hlt' : decide ((pokes.length : Int) < (pokes.length : Int)) = false := decide_eq_false (by omega)
        have hlow6d : Below w0.heap.size w0 wr.drew := hI.low.drew
        have hB6 : Both wr.drew m g rm rg s := hI.both.quiet (below_drewN (Below.refl _ wr) 1)
        have hlen : s.ws.length ≤ 1000000 := hB6.mem.len
        obtain ⟨cap, spare, e1, e2, e3⟩ := hB6.rmem.ex
        have c0 := e1.cell 0
        simp only [headOf, List.getElem?_cons_zero, List.getElem?_cons_succ] at c0
        have hrow := hid (row_of_blk e2)
        have hrl : rm < wr.drew.heap.size := cell_lt c0
        have HB6 := hid hB6
        clear hI hB6 e1 e2 e3
        go_wp2_with fail
        have HB : Below wr.drew.heap.size wr.drew wr.drew := Below.refl _ _
        go_region_held3 (fun w' => w'.cell? ⟨rm, 0, none⟩ = some (.slice (some ⟨rg, 0, none⟩) s.ws.length cap)) (exact (HB.cell (p := ⟨rm, 0, none⟩) hrl).trans c0) (first | (go_at_call 19; (refine (awake_run _).mono ?_); rintro e w' ⟨rfl, hb⟩; replace HB := Below.then_ HB hb; clear hb) | (go_at_call 38; (refine (mwords_run m g s _ (HB6.out.mem.quiet HB)).mono ?_); rintro e w' ⟨v, b, rfl, hbb, ⟨cap2, spare2, rfl, hcap2, hblk⟩, hb⟩; have hrow2 := hid (row_of_blk hblk); replace HB := Below.then_ HB hb; clear hb hbb hblk hcap2) | (go_at_call 37; (refine (same_run ⟨b, 0, none⟩ ⟨rg, 0, none⟩ cap2 cap s.ws _ hrow2.out (hrow.out.quiet HB) hlen).mono ?_); rintro e w' ⟨rfl, hb⟩; replace HB := Below.then_ HB hb; clear hb) | (fail))
        all_goals go_wp2
        all_goals go_ret
        all_goals exact ⟨rfl, HW0.out.trans ((Below.then_ hlow6d HB).mono HW0.out.size)⟩
      have hlt' : decide ((n : Int) < (pokes.length : Int)) = true := decide_eq_true (by omega)
      obtain ⟨xa, rfl, hx⟩ := HPR.out.quiet hI.low n hlt
      have x0 := hx 0 _ rfl
      have x1 := hx 1 _ rfl
      have x2 := hx 2 _ rfl
      have x3 := hx 3 _ rfl
      have x4 := hx 4 _ rfl
      have x5 := hx 5 _ rfl
      have hnew := HPK.out pokes[n] (List.getElem_mem hlt)
      obtain ⟨⟨sp, act⟩, hq⟩ : ∃ q : PokeT, q = pokes[n] := ⟨_, rfl⟩
      rw [← hq] at x0 x1 x2 x3 x4 x5 hnew
      rw [add_next] at x1 x2 x3 x4 x5
      simp only [Nat.add_zero, Nat.zero_add, Nat.reduceAdd] at x0 x1 x2 x3 x4 x5 hnew
      clear hq hx
      have n0 : (0 : Int) ≤ (n : Int) := by omega
      have n1 : (n : Int) < (pokes.length : Int) := by omega
      have HI := hid hI
      have HNEW := hid hnew
      obtain ⟨a2, c2, hv, _, _, _⟩ := hI.grow.row encI_len
      subst hv
      have HCB := hid (show s.clock < 1000000 ∧ s.bad < 1000000 by have := hI.clock; omega)
      have HGL := hid (show got.length ≤ 100000 by have := hI.len; omega)
      clear hI hnew
      cases sp with
      | false =>
        go_wp2_with fail
        refine (do_run m g rm rg s act wr HI.out.both HNEW.out HCB.out.1 HCB.out.2).mono ?_
        rintro e w4 ⟨⟨ret, rfl⟩, hB4, hK4⟩
        have hI4 := HI.out.poke (mach_of (K := snM l) (lo := w0.heap.size) (l := l) (x := x) (p := p) (t := T) (g := gs) (who := who) (sn_goes l x p T gs who).own) hB4 hK4 ⟨(act_clock act s).1, (act_clock act s).2.1⟩
        clear HI hB4 hK4 x0 x1 x2 x3 x4 x5
        go_wp2_with fail
        go_roundw
        case rel => exact ⟨n + 1, _, _, _, by omega, by go_num, hI4⟩
        case measure => simp [intOf]; omega
      | true =>
        clear x1 x2 x3 x4 x5
        go_upto_region 12 with fail
        have hRun0 : RunAt (wr.alloc (.cells (runCells (.slice a2 got.length c2) (runU got 0)).toArray 56)) B wr.heap.size (.slice a2 got.length c2) (runU got 0) := ⟨Blk.new wr _ _, HI.out.grow.quiet (below_one _ _), Nat.zero_le _, HGL.out⟩
        have hI4 := HI.out.quiet (mach_of (K := snM l) (lo := w0.heap.size) (l := l) (x := x) (p := p) (t := T) (g := gs) (who := who) (sn_goes l x p T gs who).own) (below_one wr (.cells (runCells (.slice a2 got.length c2) (runU got 0)).toArray 56))
        have hrB := HI.out.size
        simp only [runCells, runU] at hRun0 hI4
        obtain ⟨w4, hw4⟩ : ∃ w4, w4 = wr.alloc (.cells #[.slice a2 got.length c2, .int .i64 0, .bool false, .int .i64 0, .int .i64 0, .int .i64 0, .int .u64 0, .int .u64 0, .bool false, .bool false] 56) := ⟨_, rfl⟩
        have hRun : RunAt w4 B wr.heap.size (.slice a2 got.length c2) (runU got 0) := by rw [hw4]; exact hRun0
        have hI4 : SI (snM l).sys ((snM l).at_ w0.heap.size l x p T gs who) .a w0 w4 B m g rm rg st s (.slice a2 got.length c2) got n := by rw [hw4]; exact hI4
        rw [← hw4]
        clear hRun0 hw4 HI x0
        obtain ⟨r, hr⟩ : ∃ r, r = wr.heap.size := ⟨_, rfl⟩
        rw [← hr] at hRun hrB ⊢
        clear hr
        have hrb := hRun.blk
        have HI4 := hid hI4
        have HRUN := hid hRun
        clear hI4 hRun
        have hbx4 := HBX.out.quiet HI4.out.low
        have b0 := hbx4.cell 0
        have b1 := hbx4.cell 1
        have b2 := hbx4.cell 2
        simp only [List.getElem?_cons_zero, List.getElem?_cons_succ] at b0 b1 b2
        clear hbx4
        skip
        go_wp2_with fail
        refine (rspin20_run B r _ (runU got 0) got .a w4 HRUN.out (Fits.start HI4.out.rng) (fun _ => rfl) rfl).mono ?_
        rintro e w5 ⟨qv, b, s1, rfl, hRun5, hK5, hran, hfit, hfin, hq1⟩; replace hran : Ran (snM l).sys _ _ _ _ _ := hran; replace hfin : b.stop = false → (snM l).sys.want s1 = none := hfin
        obtain ⟨e1, e2⟩ := hran.ends rfl (Nat.zero_le _) (by simpa using HI4.out.path) hfin
        have e1 := e1.symm
        subst e1
        subst e2
        have HI5 := hid (HI4.out.side (mach_of (K := snM l) (lo := w0.heap.size) (l := l) (x := x) (p := p) (t := T) (g := gs) (who := who) (sn_goes l x p T gs who).own) hK5 hrB hrb)
        (have HQT := hid hq1; clear hq1)
        clear HI4 HRUN hK5 hran hfit hfin b0 b1 b2 hrb
        skip
        skip
        cases hWant : (snM l).sys.want st with
        | none =>
          have e5 : endOf (snM l).sys got st = runU got got.length := by unfold endOf; rw [hWant]
          rw [e5] at hRun5
          have HOV := hid (show ((snM l).nx st).over = true by rw [mch_over, hWant]; rfl)
          have HST := hid (show stepOf (snM l).sys who st s = (st, s) by unfold stepOf; rw [hWant])
          clear hWant e5
          have hb5 := hRun5.blk
          simp only [runCells, stop0, runU, Wnt.acc] at hb5
          have HRUN := hid hRun5
          have HI := (Inv.nil w5).add hb5
          clear hRun5 hb5
          go_wp2_with fail
          (((first | refine wp_region_I HI (by kernel_rfl) (by kernel_rfl) (by kernel_rfl) ?_ | refine wpList_I0 HI (by kernel_rfl) rfl rfl ?_); (repeat (first | (apply walkD_pure; rfl; rfl; (intro _; go_simp; first | done | rfl); (intro K hK; go_simp; refine hK _ ?_; clear hK K)) | (apply walkD_skip; rfl; rfl; (intro K hK; go_simp; refine hK _ ?_; clear hK K)) | (apply walkD_read; rfl; rfl; (intro bs hbs w' hD; have y2 := hD.cell 0 2 rfl rfl; have y9 := hD.cell 0 9 rfl rfl; go_simp; rfl); (intro K hK; go_simp; refine hK _ ?_; clear hK K)) | (apply walkD_call; rfl; (intro _; go_simp; first | rfl | exact ⟨rfl, rfl⟩); (intro bs hbs w' hD; first | (go_at_call 32; have q := sndone_run ((mach_of (K := snM l) (lo := w0.heap.size) (l := l) (x := x) (p := p) (t := T) (g := gs) (who := who) (sn_goes l x p T gs who).own).quiet HI5.out.mach hD.low); rw [HOV.out] at q; refine q.mono ?_; rintro e w2 ⟨rfl, rfl⟩; exact ⟨rfl, hD⟩) | (go_at_call 33; have q := sn_c_run ((mach_of (K := snM l) (lo := w0.heap.size) (l := l) (x := x) (p := p) (t := T) (g := gs) (who := who) (sn_goes l x p T gs who).own).quiet HI5.out.mach hD.low); rw [HQT.out] at q; refine q.mono ?_; rintro e w2 ⟨rfl, rfl⟩; exact ⟨rfl, hD⟩)); (intro K hK; go_simp; refine hK _ ?_; clear hK K)))); clear HI; intro wz HI; have hD := HI; have y2 := hD.cell 0 2 rfl rfl; have y9 := hD.cell 0 9 rfl rfl; clear hD))
          have hq6 := HI.low
          have HI6 := hid (HI5.out.quiet (mach_of (K := snM l) (lo := w0.heap.size) (l := l) (x := x) (p := p) (t := T) (g := gs) (who := who) (sn_goes l x p T gs who).own) hq6)
          have hRun5 := HRUN.out.quiet hq6
          clear hq6 HI HI5 HRUN
          skip
          have d0 := hRun5.blk.cell 0
          have d1 := hRun5.blk.cell 1
          have d2 := hRun5.blk.cell 2
          have d3 := hRun5.blk.cell 3
          have d4 := hRun5.blk.cell 4
          have d5 := hRun5.blk.cell 5
          have d6 := hRun5.blk.cell 6
          have d7 := hRun5.blk.cell 7
          have d8 := hRun5.blk.cell 8
          have d9 := hRun5.blk.cell 9
          simp only [runCells, stop0, runU, Wnt.acc, List.getElem?_cons_zero, List.getElem?_cons_succ] at d0 d1 d2 d3 d4 d5 d6 d7 d8 d9
          clear hRun5
          go_wp2_with fail
          refine (turn_off B rm rg _ got s who _ HI6.out.grow HI6.out.both.rmem).mono ?_
          skip
          rintro e w7 ⟨rfl, hb7⟩
          have HI7 := hid (HI6.out.quiet (mach_of (K := snM l) (lo := w0.heap.size) (l := l) (x := x) (p := p) (t := T) (g := gs) (who := who) (sn_goes l x p T gs who).own) hb7)
          clear HI6 hb7 d0 d1 d2 d3 d4 d5 d6 d7 d8 d9
          go_wp2_with fail
          refine ((fun (w : World) => snstep_run w0.heap.size l x m g p T gs who (sn_goes l x p T gs who) (st := st) (s := s) (w := w)) w7 HI7.out.mach HI7.out.both.mem HCB.out.1 HCB.out.2).mono ?_
          rintro e w8 ⟨⟨bb, rfl⟩, hA8, hM8, hK8⟩
          rw [HST.out] at hA8 hM8
          have hI8 := SI.stepped (mach_of (K := snM l) (lo := w0.heap.size) (l := l) (x := x) (p := p) (t := T) (g := gs) (who := who) (sn_goes l x p T gs who).own) HI7.out HI7.out.low HI7.out.grow HI7.out.both.rmem (Nat.le_refl _) hA8 hM8 hK8 HI7.out.path HI7.out.rng (by have := HI7.out.len; omega) ⟨by omega, by omega⟩
          have HI8 := hid hI8
          clear hI8 hA8 hM8 hK8 HI7
          go_wp2_with fail
          refine (alike_run m g rm rg _ w8 HI8.out.both).mono ?_
          rintro e w9 ⟨rfl, hb9⟩
          have hI9 := HI8.out.quiet (mach_of (K := snM l) (lo := w0.heap.size) (l := l) (x := x) (p := p) (t := T) (g := gs) (who := who) (sn_goes l x p T gs who).own) hb9
          clear HI8 hb9
          go_wp2_with fail
          go_roundw
          case rel => exact ⟨n + 1, _, _, _, by omega, by go_num, hI9⟩
          case measure => simp [intOf]; omega
        | some W =>
          obtain ⟨kd, ad, o, nw, slp⟩ := W
          have hok := mch_wnt (sn_goes l x p T gs who) hWant HI5.out.mach.2.2.2
          simp only at hok
          obtain ⟨rfl, hok1, hok2⟩ := hok
          have HOKW := hid (And.intro hok1 hok2)
          have e5 : endOf (snM l).sys got st = stop0 got ⟨kd, ad, o, nw, false⟩ := by unfold endOf; rw [hWant]
          rw [e5] at hRun5
          have HOV := hid (show ((snM l).nx st).over = false by rw [mch_over, hWant]; rfl)
          have HWT := hid hWant
          have HTG := hid (show (false && decide ((s.peek ad).1 = 0)) = false from rfl)
          clear hWant e5 hok1 hok2
          have hb5 := hRun5.blk
          simp only [runCells, stop0, runU, Wnt.acc] at hb5
          have HRUN := hid hRun5
          have HI := (Inv.nil w5).add hb5
          clear hRun5 hb5
          go_wp2_with fail
          (((first | refine wp_region_I HI (by kernel_rfl) (by kernel_rfl) (by kernel_rfl) ?_ | refine wpList_I0 HI (by kernel_rfl) rfl rfl ?_); (repeat (first | (apply walkD_pure; rfl; rfl; (intro _; go_simp; first | done | rfl); (intro K hK; go_simp; refine hK _ ?_; clear hK K)) | (apply walkD_skip; rfl; rfl; (intro K hK; go_simp; refine hK _ ?_; clear hK K)) | (apply walkD_read; rfl; rfl; (intro bs hbs w' hD; have y2 := hD.cell 0 2 rfl rfl; have y9 := hD.cell 0 9 rfl rfl; go_simp; rfl); (intro K hK; go_simp; refine hK _ ?_; clear hK K)) | (apply walkD_call; rfl; (intro _; go_simp; first | rfl | exact ⟨rfl, rfl⟩); (intro bs hbs w' hD; first | (go_at_call 32; have q := sndone_run ((mach_of (K := snM l) (lo := w0.heap.size) (l := l) (x := x) (p := p) (t := T) (g := gs) (who := who) (sn_goes l x p T gs who).own).quiet HI5.out.mach hD.low); rw [HOV.out] at q; refine q.mono ?_; rintro e w2 ⟨rfl, rfl⟩; exact ⟨rfl, hD⟩) | (go_at_call 33; have q := sn_c_run ((mach_of (K := snM l) (lo := w0.heap.size) (l := l) (x := x) (p := p) (t := T) (g := gs) (who := who) (sn_goes l x p T gs who).own).quiet HI5.out.mach hD.low); rw [HQT.out] at q; refine q.mono ?_; rintro e w2 ⟨rfl, rfl⟩; exact ⟨rfl, hD⟩)); (intro K hK; go_simp; refine hK _ ?_; clear hK K)))); clear HI; intro wz HI; have hD := HI; have y2 := hD.cell 0 2 rfl rfl; have y9 := hD.cell 0 9 rfl rfl; clear hD))
          have hq6 := HI.low
          have HI6 := hid (HI5.out.quiet (mach_of (K := snM l) (lo := w0.heap.size) (l := l) (x := x) (p := p) (t := T) (g := gs) (who := who) (sn_goes l x p T gs who).own) hq6)
          have hRun5 := HRUN.out.quiet hq6
          clear hq6 HI HI5 HRUN
          skip
          have d0 := hRun5.blk.cell 0
          have d1 := hRun5.blk.cell 1
          have d2 := hRun5.blk.cell 2
          have d3 := hRun5.blk.cell 3
          have d4 := hRun5.blk.cell 4
          have d5 := hRun5.blk.cell 5
          have d6 := hRun5.blk.cell 6
          have d7 := hRun5.blk.cell 7
          have d8 := hRun5.blk.cell 8
          have d9 := hRun5.blk.cell 9
          simp only [runCells, stop0, runU, Wnt.acc, List.getElem?_cons_zero, List.getElem?_cons_succ] at d0 d1 d2 d3 d4 d5 d6 d7 d8 d9
          clear hRun5
          go_wp2_with fail
          skip
          refine (turn_go B rm rg _ got ⟨kd, _, o, nw, _⟩ s who _ HI6.out.grow HI6.out.both.rmem HTG.out HGL.out HOKW.out.1 HOKW.out.2 HCB.out.1 HCB.out.2 HI6.out.size HI6.out.ltB.2.2.1 HI6.out.ltB.2.2.2).mono ?_
          rintro e w7 ⟨v', rfl, hG7, hR7, hK7⟩
          have hs7 := hK7.size
          obtain ⟨hM7, hA7, hlow7⟩ := HI6.out.turn (mach_of (K := snM l) (lo := w0.heap.size) (l := l) (x := x) (p := p) (t := T) (g := gs) (who := who) (sn_goes l x p T gs who).own) hK7
          obtain ⟨a3, c3, rfl, _, _, _⟩ := hG7.row encI_len
          have HG7 := hid hG7
          have HR7 := hid hR7
          have HM7 := hid hM7
          have HA7 := hid hA7
          clear hG7 hR7 hM7 hA7 hK7 d0 d1 d2 d3 d4 d5 d6 d7 d8 d9
          go_wp2_with fail
          refine ((fun (w : World) => snstep_run w0.heap.size l x m g p T gs who (sn_goes l x p T gs who) (st := st) (s := s) (w := w)) w7 HA7.out HM7.out HCB.out.1 HCB.out.2).mono ?_
          rintro e w8 ⟨⟨bb, rfl⟩, hA8, hM8, hK8⟩
          have hst := stepOf_go (M := (snM l).sys) (who := who) HWT.out HTG.out
          rw [hst] at hA8 hM8
          have hI8 := SI.stepped (mach_of (K := snM l) (lo := w0.heap.size) (l := l) (x := x) (p := p) (t := T) (g := gs) (who := who) (sn_goes l x p T gs who).own) HI6.out hlow7 HG7.out HR7.out hs7 hA8 hM8 hK8 (HI6.out.path.snoc (by rw [HWT.out]; simp)) (rng_snoc HI6.out.rng (acc_wf HI6.out.both.mem.wf kd who _ o HOKW.out.2).2) (by have := HI6.out.len; simp; omega) (acc_clock2 ..)
          have HI8 := hid hI8
          clear hI8 hA8 hM8 hK8 HG7 HR7 HM7 HA7 hs7 hlow7 hst
          go_wp2_with fail
          refine (alike_run m g rm rg _ w8 HI8.out.both).mono ?_
          rintro e w9 ⟨rfl, hb9⟩
          have hI9 := HI8.out.quiet (mach_of (K := snM l) (lo := w0.heap.size) (l := l) (x := x) (p := p) (t := T) (g := gs) (who := who) (sn_goes l x p T gs who).own) hb9
          rw [List.length_append, List.length_singleton] at hI9
          clear HI8 HI6 hb9
          go_wp2_with fail
          go_roundw
          case rel => exact ⟨n + 1, _, _, _, by omega, by go_num, hI9⟩
          case measure => simp [intOf]; omega
  · have HF := hid (show ¬ FewP p T gs ∨ 400 < puts.length by
      by_cases h : FewP p T gs
      · right
        have : ¬ puts.length ≤ 400 := fun h2 => hf ⟨h, h2⟩
        omega
      · exact .inl h)
    clear hf
    go_enter Tryz.func4, Tryz.ntmps4
    go_wp2_with fail
    refine (lay_no p T gs a puts.length c _ HF.out).mono ?_
    rintro e w1 ⟨rfl, hb⟩
    have hlow1 : Below w.heap.size w w1 := hbb.trans (hb.mono (by simp))
    clear hb hbox hbb
    (go_wp2_with (first | (go_at_call 19; refine (awake_run _).mono ?_; rintro e w9 ⟨rfl, hb9⟩)); go_ret; exact ⟨rfl, hlow1.trans (hb9.mono hlow1.size)⟩)
end Go.Proofs.YtlhnnggceebpjaaGreat.Rest
