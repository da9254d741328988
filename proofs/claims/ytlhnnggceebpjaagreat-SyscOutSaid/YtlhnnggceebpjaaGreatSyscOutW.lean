/- The walk of SyscOut. -/
import Derived.Test.YtlhnnggceebpjaaGreatSyscE
import Derived.Test.YtlhnnggceebpjaaGreatSyscO
import Derived.Test.YtlhnnggceebpjaaGreatBase4
import Derived.Deep.DeepCutAuto

set_option maxRecDepth 100000
set_option maxHeartbeats 4000000
set_option linter.unusedVariables false
set_option linter.unusedSimpArgs false
namespace Go.Proofs.YtlhnnggceebpjaaGreat.Sysc
open Go.RowKit Go.Shelf Go.Proofs.YtlhnnggceebpjaaGreat.TK Go.Proofs.YtlhnnggceebpjaaGreat.Flag Go.Proofs.YtlhnnggceebpjaaGreat.Words Go.Proofs.YtlhnnggceebpjaaGreat.Mem Go.Proofs.YtlhnnggceebpjaaGreat.Flow Go.Proofs.YtlhnnggceebpjaaGreat.Layout Go.Proofs.YtlhnnggceebpjaaGreat.Run Go.Proofs.YtlhnnggceebpjaaGreat.Lock Go.Proofs.YtlhnnggceebpjaaGreat.Read Go.Proofs.YtlhnnggceebpjaaGreat.Grow Go.Proofs.YtlhnnggceebpjaaGreat.Sys Go.Proofs.YtlhnnggceebpjaaGreat.Mach Go.Proofs.YtlhnnggceebpjaaGreat.Doc Go.Proofs.YtlhnnggceebpjaaGreat.Ref05 Go.Proofs.YtlhnnggceebpjaaGreat.Subs
theorem soHeld_len (gn : Int) (st : SoSt) : (soHeld gn st).length ≤ 1000000 := by
  cases st <;> simp [soHeld]
  split <;> simp
theorem out_walk (w : World) (cs : List Value) (hcs : AllL w [.base (.int .i64), .base (.int .i64), .base (.int .i64), .row [.int .i64, .int .u64]] cs) (cs2 : List Value) (hcs2 : AllL w [.base (.int .i64), .base (.int .i64), .base (.int .i64)] cs2) (pv : Value) (hpv : (Leaf.row [.bool, .int .i64, .int .i64, .int .i64, .int .u64, .int .u64]).holds w pv) :
    Calls Tryz.prog 10 #[.agg cs.toArray, .agg cs2.toArray, pv] w fun e w' => e = .returned (.bool true) ∧ Below w.heap.size w w' := by
  obtain ⟨p, T, gs, a, c, puts, rfl, hr, hok⟩ := ground_of hcs
  obtain ⟨who, q, gn, rfl⟩ : ∃ who q gn, cs2 = [.int .i64 who, .int .i64 q, .int .i64 gn] := by
    obtain ⟨v0, r0, rfl, h0, h⟩ := AllL_cons hcs2
    obtain ⟨v1, r1, rfl, h1, h⟩ := AllL_cons h
    obtain ⟨v2, r2, rfl, h2, h⟩ := AllL_cons h
    obtain rfl := AllL_nil h
    obtain ⟨i0, rfl, _⟩ := h0
    obtain ⟨i1, rfl, _⟩ := h1
    obtain ⟨i2, rfl, _⟩ := h2
    exact ⟨i0, i1, i2, rfl⟩
  obtain ⟨pa, pc, pokes, rfl, hpr, hpok⟩ := pokes_of hpv
  clear hcs hcs2 hpv
  have hbb : Below w.heap.size w ((w.alloc (.cells #[.int .i64 p, .int .i64 T, .int .i64 gs, .slice a puts.length c] 30)).alloc (.cells #[.int .i64 who, .int .i64 q, .int .i64 gn] 91)) := (below_one w _).alloc (by simp) _
  have hbox : Blk ((w.alloc (.cells #[.int .i64 p, .int .i64 T, .int .i64 gs, .slice a puts.length c] 30)).alloc (.cells #[.int .i64 who, .int .i64 q, .int .i64 gn] 91)) w.heap.size [.int .i64 p, .int .i64 T, .int .i64 gs, .slice a puts.length c] 30 := (Blk.new w [.int .i64 p, .int .i64 T, .int .i64 gs, .slice a puts.length c] 30).alloc _
  have hbox2 := Blk.new_at (w := w.alloc (.cells #[.int .i64 p, .int .i64 T, .int .i64 gs, .slice a puts.length c] 30)) (g := w.heap.size + 1) [.int .i64 who, .int .i64 q, .int .i64 gn] 91 (by simp)
  have hr1 := hid (hr.quiet hbb)
  have HOK := hid hok
  have HPR := hid (hpr.quiet hbb)
  have HPK := hid hpok
  clear hr hok hpr hpok
  by_cases hf : FewP p T gs ∧ puts.length ≤ 400
  · obtain ⟨hf, hn⟩ := hf
    have HF := hid hf
    have HN := hid hn
    have HPT := hid (show (0 ≤ p ∧ p ≤ 1000) ∧ T ≤ 1000 by have := hf; unfold FewP Right at this; omega)
    have HPT1 := hid (show 1 ≤ p ∧ 1 ≤ T ∧ 1 ≤ gs ∧ gs ≤ 1000 by have := hf; unfold FewP Right at this; omega)
    clear hf hn
    go_enter Tryz.func10, Tryz.ntmps10
    go_wp2_with fail
    refine (lay_yes p T gs a c puts _ HF.out HN.out hr1.out HOK.out).mono ?_
    rintro e w1 ⟨l, m, g, rm, rg, rfl, hL⟩
    obtain ⟨w0, hw0⟩ : ∃ w0, w0 = (w.alloc (.cells #[.int .i64 p, .int .i64 T, .int .i64 gs, .slice a puts.length c] 30)).alloc (.cells #[.int .i64 who, .int .i64 q, .int .i64 gn] 91) := ⟨_, rfl⟩
    rw [← hw0] at hL HPR hbb hbox hbox2
    have HW0 := hid hbb
    have hbox1 := hbox.quiet hL.low
    have hbox3 := hbox2.quiet hL.low
    have b0 := hbox1.cell 0
    have b1 := hbox1.cell 1
    have b2 := hbox1.cell 2
    (have h0 := hbox3.cell 0; have h1 := hbox3.cell 1; have h2 := hbox3.cell 2; simp only [List.getElem?_cons_zero, List.getElem?_cons_succ] at h0 h1 h2)
    simp only [List.getElem?_cons_zero, List.getElem?_cons_succ] at b0 b1 b2
    have hlow1 : Below w.heap.size w w1 := hbb.trans (hL.low.mono hbb.size)
    have HBX := hid hbox
    have HBH := hid hbox2
    have HL := hid hL
    clear hbox hbox1 hbox2 hbox3 hL hbb hr1 hw0
    by_cases g1 : 200 < pokes.length
    · have d1 : decide ((200 : Int) < (pokes.length : Int)) = true := decide_eq_true (by omega)
      (go_wp2_with (first | (go_at_call 57; refine (awake_run _).mono ?_; rintro e w9 ⟨rfl, hb9⟩)); go_ret; exact ⟨rfl, hlow1.trans (hb9.mono hlow1.size)⟩)
    have d1 : decide ((200 : Int) < (pokes.length : Int)) = false := decide_eq_false (by omega)
    have hlen : pokes.length ≤ 200 := by omega
    by_cases hk : KnownP p T gs who q gn
    case neg =>
      have HK := hid (fun w => known_no p T gs who q gn w hk)
      go_wp2_with fail
      refine (HK.out _).mono ?_
      rintro e wk ⟨rfl, hbk⟩
      have hlow1 := hlow1.trans (hbk.mono hlow1.size)
      (go_wp2_with (first | (go_at_call 57; refine (awake_run _).mono ?_; rintro e w9 ⟨rfl, hb9⟩)); go_ret; exact ⟨rfl, hlow1.trans (hb9.mono hlow1.size)⟩)
    have HK := hid (fun w => known_yes p T gs who q gn w hk)
    have HTB := hid (show (0 ≤ T ∧ T ≤ 1000) ∧ gs ≤ 100000 by have := HPT.out; have := HPT1.out; omega)
    have HWHO := hid (show 0 ≤ who ∧ who ≤ 1000 by have := HPT.out; have := hk; unfold KnownP at this; omega)
    go_wp2_with fail
    refine (HK.out _).mono ?_
    rintro e wk ⟨rfl, hbk⟩
    have hlow1 := hlow1.trans (hbk.mono hlow1.size)
    have HL := hid (show Laid w0 wk l m g rm rg p T gs (layW (lenOf p T gs) puts) from ⟨HL.out.lay.quiet hbk, HL.out.mem.quiet hbk, HL.out.rmem.quiet hbk, HL.out.low.trans (hbk.mono HL.out.low.size), HL.out.low5, HL.out.ord⟩)
    have hbx0 := HBX.out.quiet HL.out.low
    have hbox3 := HBH.out.quiet HL.out.low
    clear b0 b1 b2 h0 h1 h2
    have b0 := hbx0.cell 0
    have b1 := hbx0.cell 1
    have b2 := hbx0.cell 2
    simp only [List.getElem?_cons_zero, List.getElem?_cons_succ] at b0 b1 b2
    have h0 := hbox3.cell 0; have h1 := hbox3.cell 1; have h2 := hbox3.cell 2; simp only [List.getElem?_cons_zero, List.getElem?_cons_succ] at h0 h1 h2
    obtain ⟨w1, hw1⟩ : ∃ w1, w1 = wk := ⟨_, rfl⟩
    rw [← hw1] at HL hlow1 b0 b1 b2 h0 h1 h2 ⊢
    clear g1 hk HK hbk hbx0 hbox3 hw1
    go_wp2_with fail
    refine (so_new_run l p T gs who q gn w1 HL.out.lay).mono ?_
    rintro e w3 ⟨rfl, hA, hb⟩
    obtain ⟨s0, hs0⟩ : ∃ s0, s0 = fresh (layW (lenOf p T gs) puts) := ⟨_, rfl⟩
    have z1 : s0.clock = 0 := by rw [hs0]; rfl
    have z2 : s0.bad = 0 := by rw [hs0]; rfl
    have hL := HL.out
    have hLm : MemAt w1 m g s0 := by rw [hs0]; exact hL.mem
    have hLr : RMemAt w1 rm rg s0 := by rw [hs0]; exact hL.rmem
    have hlow3 := hL.low.trans (hb.mono hL.low.size)
    have hI : SI (soM w0.heap.size l p T gs who q gn).sys ((soM w0.heap.size l p T gs who q gn).at_ w0.heap.size l w1.heap.size p T gs who) .sw w0 w3 w3.heap.size m g rm rg .sw s0 (.slice none 0 0) [] 0 := by
      have q1 := hL.low5
      have q2 := hL.ord
      have hB : Both w3 m g rm rg s0 := ⟨hLm.quiet hb, hLr.quiet hb, by omega, by omega⟩
      exact ⟨hlow3, hB, ⟨⟨(0, 0, 0), hA, trivial⟩, hL.low.size, hL.lay.quiet hb, trivial⟩, Grow.nil _ _ _ _ _, .nil _, by simp, Nat.le_refl _, Nat.le_refl _, ⟨by omega, by omega⟩, ⟨hB.mem.ltm, hB.mem.ltg, hB.rmem.ltm, hB.rmem.ltg⟩, ⟨by omega, by omega, by omega, by omega, hlow3.size⟩⟩
    obtain ⟨x, hx⟩ : ∃ x, x = w1.heap.size := ⟨_, rfl⟩
    obtain ⟨B, hB⟩ : ∃ B, B = w3.heap.size := ⟨_, rfl⟩
    rw [← hx, ← hB] at hI
    rw [← hx]
    clear hx hB hs0 z1 z2 hlow3 hA hb hL hLm hLr HL b0 b1 b2 hlow1
    go_wp2_with fail
    go_loopw [13, 12] (fun i v wr => ∃ n : Nat, ∃ st s got, n ≤ pokes.length ∧ i = .int .i64 (n : Int) ∧ SI (soM w0.heap.size l p T gs who q gn).sys ((soM w0.heap.size l p T gs who q gn).at_ w0.heap.size l x p T gs who) .sw w0 wr B m g rm rg st s v got n) (fun i _ _ => pokes.length - (intOf i).toNat)
    case atStart => exact ⟨0, _, _, _, Nat.zero_le _, rfl, hI⟩
    case round =>
      clear h0 h1 h2
      clear hI
      obtain ⟨n, st, s, got, hn, rfl, hI⟩ := hrel
      by_cases hlt : n < pokes.length
      case neg =>
        obtain rfl : n = pokes.length := by omega
        have hlt' : decide ((pokes.length : Int) < (pokes.length : Int)) = false := decide_eq_false (by omega)
        have hlow6d : Below w0.heap.size w0 wr.drew := hI.low.drew
        have hB6 : Both wr.drew m g rm rg s := hI.both.quiet (below_drewN (Below.refl _ wr) 1)
        have hlen : s.ws.length ≤ 1000000 := hB6.mem.len
        obtain ⟨cap, spare, e1, e2, e3⟩ := hB6.rmem.ex
        have c0 := e1.cell 0
        simp only [headOf, List.getElem?_cons_zero, List.getElem?_cons_succ] at c0
        have hrow := hid (row_of_blk e2)
        have hrl : rm < wr.drew.heap.size := cell_lt c0
        have HB6 := hid hB6
        clear hI hB6 e1 e2 e3
        go_wp2_with fail
        have HB : Below wr.drew.heap.size wr.drew wr.drew := Below.refl _ _
        go_region_held3 (fun w' => w'.cell? ⟨rm, 0, none⟩ = some (.slice (some ⟨rg, 0, none⟩) s.ws.length cap)) (exact (HB.cell (p := ⟨rm, 0, none⟩) hrl).trans c0) (first | (go_at_call 57; (refine (awake_run _).mono ?_); rintro e w' ⟨rfl, hb⟩; replace HB := Below.then_ HB hb; clear hb) | (go_at_call 38; (refine (mwords_run m g s _ (HB6.out.mem.quiet HB)).mono ?_); rintro e w' ⟨v, b, rfl, hbb, ⟨cap2, spare2, rfl, hcap2, hblk⟩, hb⟩; have hrow2 := hid (row_of_blk hblk); replace HB := Below.then_ HB hb; clear hb hbb hblk hcap2) | (go_at_call 37; (refine (same_run ⟨b, 0, none⟩ ⟨rg, 0, none⟩ cap2 cap s.ws _ hrow2.out (hrow.out.quiet HB) hlen).mono ?_); rintro e w' ⟨rfl, hb⟩; replace HB := Below.then_ HB hb; clear hb) | (fail))
        all_goals go_wp2
        all_goals go_ret
        all_goals exact ⟨rfl, HW0.out.trans ((Below.then_ hlow6d HB).mono HW0.out.size)⟩
      have hlt' : decide ((n : Int) < (pokes.length : Int)) = true := decide_eq_true (by omega)
      obtain ⟨xa, rfl, hx⟩ := HPR.out.quiet hI.low n hlt
      have x0 := hx 0 _ rfl
      have x1 := hx 1 _ rfl
      have x2 := hx 2 _ rfl
      have x3 := hx 3 _ rfl
      have x4 := hx 4 _ rfl
      have x5 := hx 5 _ rfl
      have hnew := HPK.out pokes[n] (List.getElem_mem hlt)
      obtain ⟨⟨sp, act⟩, hq⟩ : ∃ q : PokeT, q = pokes[n] := ⟨_, rfl⟩
      rw [← hq] at x0 x1 x2 x3 x4 x5 hnew
      rw [add_next] at x1 x2 x3 x4 x5
      simp only [Nat.add_zero, Nat.zero_add, Nat.reduceAdd] at x0 x1 x2 x3 x4 x5 hnew
      clear hq hx
      have n0 : (0 : Int) ≤ (n : Int) := by omega
      have n1 : (n : Int) < (pokes.length : Int) := by omega
      have HI := hid hI
      have HNEW := hid hnew
      obtain ⟨a2, c2, hv, _, _, _⟩ := hI.grow.row encI_len
      subst hv
      have HCB := hid (show s.clock < 1000000 ∧ s.bad < 1000000 by have := hI.clock; omega)
      have HGL := hid (show got.length ≤ 100000 by have := hI.len; omega)
      clear hI hnew
      cases sp with
      | false =>
        go_wp2_with fail
        refine (do_run m g rm rg s act wr HI.out.both HNEW.out HCB.out.1 HCB.out.2).mono ?_
        rintro e w4 ⟨⟨ret, rfl⟩, hB4, hK4⟩
        have hI4 := HI.out.poke (m2_of (K := soM w0.heap.size l p T gs who q gn) (lo := w0.heap.size) (l := l) (p := p) (t := T) (g := gs) (who := who) (x := x) (fun y _ => so_goes w0.heap.size l y p T gs who q gn HWHO.out) (so_own w0.heap.size l p T gs who q gn)) hB4 hK4 ⟨(act_clock act s).1, (act_clock act s).2.1⟩
        clear HI hB4 hK4 x0 x1 x2 x3 x4 x5
        go_wp2_with fail
        go_roundw
        case rel => exact ⟨n + 1, _, _, _, by omega, by go_num, hI4⟩
        case measure => simp [intOf]; omega
      | true =>
        clear x1 x2 x3 x4 x5
        go_upto_region 12 with fail
        have hRun0 : RunAt (wr.alloc (.cells (runCells (.slice a2 got.length c2) (runU got 0)).toArray 56)) B wr.heap.size (.slice a2 got.length c2) (runU got 0) := ⟨Blk.new wr _ _, HI.out.grow.quiet (below_one _ _), Nat.zero_le _, HGL.out⟩
        have hI4 := HI.out.quiet (m2_of (K := soM w0.heap.size l p T gs who q gn) (lo := w0.heap.size) (l := l) (p := p) (t := T) (g := gs) (who := who) (x := x) (fun y _ => so_goes w0.heap.size l y p T gs who q gn HWHO.out) (so_own w0.heap.size l p T gs who q gn)) (below_one wr (.cells (runCells (.slice a2 got.length c2) (runU got 0)).toArray 56))
        have hrB := HI.out.size
        simp only [runCells, runU] at hRun0 hI4
        obtain ⟨w4, hw4⟩ : ∃ w4, w4 = wr.alloc (.cells #[.slice a2 got.length c2, .int .i64 0, .bool false, .int .i64 0, .int .i64 0, .int .i64 0, .int .u64 0, .int .u64 0, .bool false, .bool false] 56) := ⟨_, rfl⟩
        have hRun : RunAt w4 B wr.heap.size (.slice a2 got.length c2) (runU got 0) := by rw [hw4]; exact hRun0
        have hI4 : SI (soM w0.heap.size l p T gs who q gn).sys ((soM w0.heap.size l p T gs who q gn).at_ w0.heap.size l x p T gs who) .sw w0 w4 B m g rm rg st s (.slice a2 got.length c2) got n := by rw [hw4]; exact hI4
        rw [← hw4]
        clear hRun0 hw4 HI x0
        obtain ⟨r, hr⟩ : ∃ r, r = wr.heap.size := ⟨_, rfl⟩
        rw [← hr] at hRun hrB ⊢
        clear hr
        have hrb := hRun.blk
        have HI4 := hid hI4
        have HRUN := hid hRun
        clear hI4 hRun
        have hbx4 := HBX.out.quiet HI4.out.low
        have b0 := hbx4.cell 0
        have b1 := hbx4.cell 1
        have b2 := hbx4.cell 2
        simp only [List.getElem?_cons_zero, List.getElem?_cons_succ] at b0 b1 b2
        clear hbx4
        (have hbox3 := HBH.out.quiet HI4.out.low; have h0 := hbox3.cell 0; have h1 := hbox3.cell 1; have h2 := hbox3.cell 2; simp only [List.getElem?_cons_zero, List.getElem?_cons_succ] at h0 h1 h2; clear hbox3)
        go_wp2_with fail
        refine (rout24_run p T gs who q gn B r _ (runU got 0) got .sw w4 HRUN.out (Fits.start HI4.out.rng) rfl rfl ⟨HPT.out.1, HTB.out.1, HTB.out.2⟩ HWHO.out).mono ?_
        rintro e w5 ⟨pv, cm, rn, agl, cgl, hl, b, s1, rfl, hRun5, hK5, hran, hfit, hfin, hsay, hrowg⟩; replace hran : Ran (soM w0.heap.size l p T gs who q gn).sys _ _ _ _ _ := hran; replace hfin : b.stop = false → (soM w0.heap.size l p T gs who q gn).sys.want s1 = none := hfin
        obtain ⟨e1, e2⟩ := hran.ends rfl (Nat.zero_le _) (by simpa using HI4.out.path) hfin
        have e1 := e1.symm
        subst e1
        subst e2
        have HI5 := hid (HI4.out.side (m2_of (K := soM w0.heap.size l p T gs who q gn) (lo := w0.heap.size) (l := l) (p := p) (t := T) (g := gs) (who := who) (x := x) (fun y _ => so_goes w0.heap.size l y p T gs who q gn HWHO.out) (so_own w0.heap.size l p T gs who q gn)) hK5 hrB hrb)
        (have HQT := hid hsay; have HROW := hid hrowg; clear hsay hrowg)
        clear HI4 HRUN hK5 hran hfit hfin b0 b1 b2 hrb
        clear h0 h1 h2
        go_upto_region 13 with fail
        have hb6 := below_one w5 (.cells #[.int .i64 pv, .bool cm, .bool rn, .slice agl hl.length cgl] 96)
        have hG6 := Blk.new w5 [.int .i64 pv, .bool cm, .bool rn, .slice agl hl.length cgl] 96
        have hRun6 := hRun5.quiet hb6
        have hI6 := HI5.out.quiet (m2_of (K := soM w0.heap.size l p T gs who q gn) (lo := w0.heap.size) (l := l) (p := p) (t := T) (g := gs) (who := who) (x := x) (fun y _ => so_goes w0.heap.size l y p T gs who q gn HWHO.out) (so_own w0.heap.size l p T gs who q gn)) hb6
        have hR6 := HROW.out.quiet hb6
        obtain ⟨w6, hw6⟩ : ∃ w6, w6 = w5.alloc (.cells #[.int .i64 pv, .bool cm, .bool rn, .slice agl hl.length cgl] 96) := ⟨_, rfl⟩
        obtain ⟨rb, hrbd⟩ : ∃ rb, rb = w5.heap.size := ⟨_, rfl⟩
        have hG6 : Blk w6 rb [.int .i64 pv, .bool cm, .bool rn, .slice agl hl.length cgl] 96 := by rw [hw6, hrbd]; exact hG6
        have hRun6 : RunAt w6 B r (.slice a2 got.length c2) (endOf (soM w0.heap.size l p T gs who q gn).sys got st) := by rw [hw6]; exact hRun6
        have HI6 : Hid (SI (soM w0.heap.size l p T gs who q gn).sys ((soM w0.heap.size l p T gs who q gn).at_ w0.heap.size l x p T gs who) .sw w0 w6 B m g rm rg st s (.slice a2 got.length c2) got n) := by rw [hw6]; exact hI6
        have hR6 : RowOf (encI .i64) 1 w6 agl hl := by rw [hw6]; exact hR6
        rw [← hrbd]
        rw [← hw6]
        clear hRun5 hI6 hb6 HI5 hw6 hrbd HROW
        obtain ⟨w5, hw5⟩ : ∃ w5, w5 = w6 := ⟨_, rfl⟩
        rw [← hw5] at HI6 hRun6 hG6 hR6 ⊢
        have hRun5 := hRun6
        have HI5 := HI6
        have HG5 := hid hG6
        have HROW := hid hR6
        clear hRun6 hG6 HI6 hw5 hR6
        cases hWant : (soM w0.heap.size l p T gs who q gn).sys.want st with
        | none =>
          have e5 : endOf (soM w0.heap.size l p T gs who q gn).sys got st = runU got got.length := by unfold endOf; rw [hWant]
          rw [e5] at hRun5
          have HOV := hid (show ((soM w0.heap.size l p T gs who q gn).sys.want st).isNone = true by rw [hWant]; rfl)
          have HST := hid (show stepOf (soM w0.heap.size l p T gs who q gn).sys who st s = (st, s) by unfold stepOf; rw [hWant])
          clear hWant e5
          have hd5 : Below w5.heap.size w5 w5.drew := below_drewN (Below.refl _ _) 1
          have hRund := hRun5.quiet hd5
          have hb5 := hRund.blk
          have c2 := hb5.cell 2
          have c9 := hb5.cell 9
          simp only [runCells, stop0, runU, Wnt.acc, List.getElem?_cons_zero, List.getElem?_cons_succ] at c2 c9
          clear c9
          have hGd := HG5.out.quiet hd5
          have u0 := hGd.cell 0
          have u1 := hGd.cell 1
          have u2 := hGd.cell 2
          have u3 := hGd.cell 3
          simp only [List.getElem?_cons_zero, List.getElem?_cons_succ] at u0 u1 u2 u3
          have lr := hb5.lt
          have lg := hGd.lt
          have HRUN := hid hRund
          have HI5d := hid (HI5.out.quiet (m2_of (K := soM w0.heap.size l p T gs who q gn) (lo := w0.heap.size) (l := l) (p := p) (t := T) (g := gs) (who := who) (x := x) (fun y _ => so_goes w0.heap.size l y p T gs who q gn HWHO.out) (so_own w0.heap.size l p T gs who q gn)) hd5)
          have HROWd := hid (HROW.out.quiet hd5)
          have HLEN := hid (show hl.length ≤ 1000000 by rw [← HQT.out.2.2.2]; exact soHeld_len gn st)
          have HB : Below w5.drew.heap.size w5.drew w5.drew := Below.refl _ _
          clear hRun5 hRund hb5 hGd HI5 HROW HG5 hd5
          go_wp2_with fail
          go_region_held3 (fun w' => w'.cell? ⟨r, 2, none⟩ = some (.bool false) ∧ w'.cell? ⟨rb, 0, none⟩ = some (.int .i64 pv) ∧ w'.cell? ⟨rb, 1, none⟩ = some (.bool cm) ∧ w'.cell? ⟨rb, 2, none⟩ = some (.bool rn) ∧ w'.cell? ⟨rb, 3, none⟩ = some (.slice agl hl.length cgl)) (exact ⟨(HB.cell (p := ⟨r, 2, none⟩) lr).trans c2, (HB.cell (p := ⟨rb, 0, none⟩) lg).trans u0, (HB.cell (p := ⟨rb, 1, none⟩) lg).trans u1, (HB.cell (p := ⟨rb, 2, none⟩) lg).trans u2, (HB.cell (p := ⟨rb, 3, none⟩) lg).trans u3⟩) (first | (go_at_call 62; have hqq := m2_doneL so_thruD (so_goes w0.heap.size l x p T gs who q gn HWHO.out) ((m2_of (K := soM w0.heap.size l p T gs who q gn) (lo := w0.heap.size) (l := l) (p := p) (t := T) (g := gs) (who := who) (x := x) (fun y _ => so_goes w0.heap.size l y p T gs who q gn HWHO.out) (so_own w0.heap.size l p T gs who q gn)).quiet HI5d.out.mach HB); rw [HOV.out] at hqq; refine hqq.mono ?_; rintro e w2 ⟨rfl, rfl⟩) | (go_at_call 60; (have hqq := so_p_run ((m2_of (K := soM w0.heap.size l p T gs who q gn) (lo := w0.heap.size) (l := l) (p := p) (t := T) (g := gs) (who := who) (x := x) (fun y _ => so_goes w0.heap.size l y p T gs who q gn HWHO.out) (so_own w0.heap.size l p T gs who q gn)).quiet HI5d.out.mach HB); rw [HQT.out.1] at hqq; refine hqq.mono ?_; rintro e w2 ⟨rfl, rfl⟩)) | (go_at_call 67; have hqq := so_c_run ((m2_of (K := soM w0.heap.size l p T gs who q gn) (lo := w0.heap.size) (l := l) (p := p) (t := T) (g := gs) (who := who) (x := x) (fun y _ => so_goes w0.heap.size l y p T gs who q gn HWHO.out) (so_own w0.heap.size l p T gs who q gn)).quiet HI5d.out.mach HB); rw [HQT.out.2.1] at hqq; refine hqq.mono ?_; rintro e w2 ⟨rfl, rfl⟩) | (go_at_call 63; have hqq := so_r_run ((m2_of (K := soM w0.heap.size l p T gs who q gn) (lo := w0.heap.size) (l := l) (p := p) (t := T) (g := gs) (who := who) (x := x) (fun y _ => so_goes w0.heap.size l y p T gs who q gn HWHO.out) (so_own w0.heap.size l p T gs who q gn)).quiet HI5d.out.mach HB); rw [HQT.out.2.2.1] at hqq; refine hqq.mono ?_; rintro e w2 ⟨rfl, rfl⟩) | (go_at_call 70; have hqq := so_h_run ((m2_of (K := soM w0.heap.size l p T gs who q gn) (lo := w0.heap.size) (l := l) (p := p) (t := T) (g := gs) (who := who) (x := x) (fun y _ => so_goes w0.heap.size l y p T gs who q gn HWHO.out) (so_own w0.heap.size l p T gs who q gn)).quiet HI5d.out.mach HB); rw [HQT.out.2.2.2] at hqq; refine hqq.mono ?_; rintro e w2 ⟨a9, c9, rfl, hr9, hb9⟩; have HR9 := hid hr9; replace HB := Below.then_ HB hb9; clear hr9 hb9) | (go_at_call 47; refine (Idlem.same12_run a9 agl c9 cgl hl _ HR9.out (HROWd.out.quiet HB) HLEN.out).mono ?_; rintro e w2 ⟨rfl, hb9⟩; replace HB := Below.then_ HB hb9; clear hb9))
          clear c2 u0 u1 u2 u3
          have HI6 := hid (HI5d.out.quiet (m2_of (K := soM w0.heap.size l p T gs who q gn) (lo := w0.heap.size) (l := l) (p := p) (t := T) (g := gs) (who := who) (x := x) (fun y _ => so_goes w0.heap.size l y p T gs who q gn HWHO.out) (so_own w0.heap.size l p T gs who q gn)) HB)
          have hRun5 := HRUN.out.quiet HB
          clear HI5d HRUN HROWd HLEN HB lr lg
          (have hbox3 := HBH.out.quiet HI6.out.low; have h0 := hbox3.cell 0; simp only [List.getElem?_cons_zero] at h0; clear hbox3)
          have d0 := hRun5.blk.cell 0
          have d1 := hRun5.blk.cell 1
          have d2 := hRun5.blk.cell 2
          have d3 := hRun5.blk.cell 3
          have d4 := hRun5.blk.cell 4
          have d5 := hRun5.blk.cell 5
          have d6 := hRun5.blk.cell 6
          have d7 := hRun5.blk.cell 7
          have d8 := hRun5.blk.cell 8
          have d9 := hRun5.blk.cell 9
          simp only [runCells, stop0, runU, Wnt.acc, List.getElem?_cons_zero, List.getElem?_cons_succ] at d0 d1 d2 d3 d4 d5 d6 d7 d8 d9
          clear hRun5
          go_wp2_with fail
          refine (turn_off B rm rg _ got s who _ HI6.out.grow HI6.out.both.rmem).mono ?_
          clear h0
          rintro e w7 ⟨rfl, hb7⟩
          have HI7 := hid (HI6.out.quiet (m2_of (K := soM w0.heap.size l p T gs who q gn) (lo := w0.heap.size) (l := l) (p := p) (t := T) (g := gs) (who := who) (x := x) (fun y _ => so_goes w0.heap.size l y p T gs who q gn HWHO.out) (so_own w0.heap.size l p T gs who q gn)) hb7)
          clear HI6 hb7 d0 d1 d2 d3 d4 d5 d6 d7 d8 d9
          go_wp2_with fail
          refine ((fun (w : World) => m2_stepL so_thru (so_goes w0.heap.size l x p T gs who q gn HWHO.out) (st := st) (s := s) (w := w) (m := m) (mg := g)) w7 HI7.out.mach HI7.out.both.mem HCB.out.1 HCB.out.2).mono ?_
          rintro e w8 ⟨⟨bb, rfl⟩, hA8, hM8, hK8⟩
          rw [HST.out] at hA8 hM8
          have hI8 := SI.stepped (m2_of (K := soM w0.heap.size l p T gs who q gn) (lo := w0.heap.size) (l := l) (p := p) (t := T) (g := gs) (who := who) (x := x) (fun y _ => so_goes w0.heap.size l y p T gs who q gn HWHO.out) (so_own w0.heap.size l p T gs who q gn)) HI7.out HI7.out.low HI7.out.grow HI7.out.both.rmem (Nat.le_refl _) hA8 hM8 hK8 HI7.out.path HI7.out.rng (by have := HI7.out.len; omega) ⟨by omega, by omega⟩
          have HI8 := hid hI8
          clear hI8 hA8 hM8 hK8 HI7
          go_wp2_with fail
          refine (alike_run m g rm rg _ w8 HI8.out.both).mono ?_
          rintro e w9 ⟨rfl, hb9⟩
          have hI9 := HI8.out.quiet (m2_of (K := soM w0.heap.size l p T gs who q gn) (lo := w0.heap.size) (l := l) (p := p) (t := T) (g := gs) (who := who) (x := x) (fun y _ => so_goes w0.heap.size l y p T gs who q gn HWHO.out) (so_own w0.heap.size l p T gs who q gn)) hb9
          clear HI8 hb9
          go_wp2_with fail
          go_roundw
          case rel => exact ⟨n + 1, _, _, _, by omega, by go_num, hI9⟩
          case measure => simp [intOf]; omega
        | some W =>
          obtain ⟨kd, ad, o, nw, slp⟩ := W
          have hok := m2_wnt (so_goes w0.heap.size l x p T gs who q gn HWHO.out) HI5.out.mach hWant
          simp only at hok
          obtain ⟨rfl, hok1, hok2⟩ := hok
          have HOKW := hid (And.intro hok1 hok2)
          have e5 : endOf (soM w0.heap.size l p T gs who q gn).sys got st = stop0 got ⟨kd, ad, o, nw, false⟩ := by unfold endOf; rw [hWant]
          rw [e5] at hRun5
          have HOV := hid (show ((soM w0.heap.size l p T gs who q gn).sys.want st).isNone = false by rw [hWant]; rfl)
          have HWT := hid hWant
          have HTG := hid (show (false && decide ((s.peek ad).1 = 0)) = false from rfl)
          clear hWant e5 hok1 hok2
          have hd5 : Below w5.heap.size w5 w5.drew := below_drewN (Below.refl _ _) 1
          have hRund := hRun5.quiet hd5
          have hb5 := hRund.blk
          have c2 := hb5.cell 2
          have c9 := hb5.cell 9
          simp only [runCells, stop0, runU, Wnt.acc, List.getElem?_cons_zero, List.getElem?_cons_succ] at c2 c9
          clear c9
          have hGd := HG5.out.quiet hd5
          have u0 := hGd.cell 0
          have u1 := hGd.cell 1
          have u2 := hGd.cell 2
          have u3 := hGd.cell 3
          simp only [List.getElem?_cons_zero, List.getElem?_cons_succ] at u0 u1 u2 u3
          have lr := hb5.lt
          have lg := hGd.lt
          have HRUN := hid hRund
          have HI5d := hid (HI5.out.quiet (m2_of (K := soM w0.heap.size l p T gs who q gn) (lo := w0.heap.size) (l := l) (p := p) (t := T) (g := gs) (who := who) (x := x) (fun y _ => so_goes w0.heap.size l y p T gs who q gn HWHO.out) (so_own w0.heap.size l p T gs who q gn)) hd5)
          have HROWd := hid (HROW.out.quiet hd5)
          have HLEN := hid (show hl.length ≤ 1000000 by rw [← HQT.out.2.2.2]; exact soHeld_len gn st)
          have HB : Below w5.drew.heap.size w5.drew w5.drew := Below.refl _ _
          clear hRun5 hRund hb5 hGd HI5 HROW HG5 hd5
          go_wp2_with fail
          go_region_held3 (fun w' => w'.cell? ⟨r, 2, none⟩ = some (.bool true) ∧ w'.cell? ⟨rb, 0, none⟩ = some (.int .i64 pv) ∧ w'.cell? ⟨rb, 1, none⟩ = some (.bool cm) ∧ w'.cell? ⟨rb, 2, none⟩ = some (.bool rn) ∧ w'.cell? ⟨rb, 3, none⟩ = some (.slice agl hl.length cgl)) (exact ⟨(HB.cell (p := ⟨r, 2, none⟩) lr).trans c2, (HB.cell (p := ⟨rb, 0, none⟩) lg).trans u0, (HB.cell (p := ⟨rb, 1, none⟩) lg).trans u1, (HB.cell (p := ⟨rb, 2, none⟩) lg).trans u2, (HB.cell (p := ⟨rb, 3, none⟩) lg).trans u3⟩) (first | (go_at_call 62; have hqq := m2_doneL so_thruD (so_goes w0.heap.size l x p T gs who q gn HWHO.out) ((m2_of (K := soM w0.heap.size l p T gs who q gn) (lo := w0.heap.size) (l := l) (p := p) (t := T) (g := gs) (who := who) (x := x) (fun y _ => so_goes w0.heap.size l y p T gs who q gn HWHO.out) (so_own w0.heap.size l p T gs who q gn)).quiet HI5d.out.mach HB); rw [HOV.out] at hqq; refine hqq.mono ?_; rintro e w2 ⟨rfl, rfl⟩) | (go_at_call 60; (have hqq := so_p_run ((m2_of (K := soM w0.heap.size l p T gs who q gn) (lo := w0.heap.size) (l := l) (p := p) (t := T) (g := gs) (who := who) (x := x) (fun y _ => so_goes w0.heap.size l y p T gs who q gn HWHO.out) (so_own w0.heap.size l p T gs who q gn)).quiet HI5d.out.mach HB); rw [HQT.out.1] at hqq; refine hqq.mono ?_; rintro e w2 ⟨rfl, rfl⟩)) | (go_at_call 67; have hqq := so_c_run ((m2_of (K := soM w0.heap.size l p T gs who q gn) (lo := w0.heap.size) (l := l) (p := p) (t := T) (g := gs) (who := who) (x := x) (fun y _ => so_goes w0.heap.size l y p T gs who q gn HWHO.out) (so_own w0.heap.size l p T gs who q gn)).quiet HI5d.out.mach HB); rw [HQT.out.2.1] at hqq; refine hqq.mono ?_; rintro e w2 ⟨rfl, rfl⟩) | (go_at_call 63; have hqq := so_r_run ((m2_of (K := soM w0.heap.size l p T gs who q gn) (lo := w0.heap.size) (l := l) (p := p) (t := T) (g := gs) (who := who) (x := x) (fun y _ => so_goes w0.heap.size l y p T gs who q gn HWHO.out) (so_own w0.heap.size l p T gs who q gn)).quiet HI5d.out.mach HB); rw [HQT.out.2.2.1] at hqq; refine hqq.mono ?_; rintro e w2 ⟨rfl, rfl⟩) | (go_at_call 70; have hqq := so_h_run ((m2_of (K := soM w0.heap.size l p T gs who q gn) (lo := w0.heap.size) (l := l) (p := p) (t := T) (g := gs) (who := who) (x := x) (fun y _ => so_goes w0.heap.size l y p T gs who q gn HWHO.out) (so_own w0.heap.size l p T gs who q gn)).quiet HI5d.out.mach HB); rw [HQT.out.2.2.2] at hqq; refine hqq.mono ?_; rintro e w2 ⟨a9, c9, rfl, hr9, hb9⟩; have HR9 := hid hr9; replace HB := Below.then_ HB hb9; clear hr9 hb9) | (go_at_call 47; refine (Idlem.same12_run a9 agl c9 cgl hl _ HR9.out (HROWd.out.quiet HB) HLEN.out).mono ?_; rintro e w2 ⟨rfl, hb9⟩; replace HB := Below.then_ HB hb9; clear hb9))
          clear c2 u0 u1 u2 u3
          have HI6 := hid (HI5d.out.quiet (m2_of (K := soM w0.heap.size l p T gs who q gn) (lo := w0.heap.size) (l := l) (p := p) (t := T) (g := gs) (who := who) (x := x) (fun y _ => so_goes w0.heap.size l y p T gs who q gn HWHO.out) (so_own w0.heap.size l p T gs who q gn)) HB)
          have hRun5 := HRUN.out.quiet HB
          clear HI5d HRUN HROWd HLEN HB lr lg
          (have hbox3 := HBH.out.quiet HI6.out.low; have h0 := hbox3.cell 0; simp only [List.getElem?_cons_zero] at h0; clear hbox3)
          have d0 := hRun5.blk.cell 0
          have d1 := hRun5.blk.cell 1
          have d2 := hRun5.blk.cell 2
          have d3 := hRun5.blk.cell 3
          have d4 := hRun5.blk.cell 4
          have d5 := hRun5.blk.cell 5
          have d6 := hRun5.blk.cell 6
          have d7 := hRun5.blk.cell 7
          have d8 := hRun5.blk.cell 8
          have d9 := hRun5.blk.cell 9
          simp only [runCells, stop0, runU, Wnt.acc, List.getElem?_cons_zero, List.getElem?_cons_succ] at d0 d1 d2 d3 d4 d5 d6 d7 d8 d9
          clear hRun5
          go_wp2_with fail
          clear h0
          refine (turn_go B rm rg _ got ⟨kd, _, o, nw, _⟩ s who _ HI6.out.grow HI6.out.both.rmem HTG.out HGL.out HOKW.out.1 HOKW.out.2 HCB.out.1 HCB.out.2 HI6.out.size HI6.out.ltB.2.2.1 HI6.out.ltB.2.2.2).mono ?_
          rintro e w7 ⟨v', rfl, hG7, hR7, hK7⟩
          have hs7 := hK7.size
          obtain ⟨hM7, hA7, hlow7⟩ := HI6.out.turn (m2_of (K := soM w0.heap.size l p T gs who q gn) (lo := w0.heap.size) (l := l) (p := p) (t := T) (g := gs) (who := who) (x := x) (fun y _ => so_goes w0.heap.size l y p T gs who q gn HWHO.out) (so_own w0.heap.size l p T gs who q gn)) hK7
          obtain ⟨a3, c3, rfl, _, _, _⟩ := hG7.row encI_len
          have HG7 := hid hG7
          have HR7 := hid hR7
          have HM7 := hid hM7
          have HA7 := hid hA7
          clear hG7 hR7 hM7 hA7 hK7 d0 d1 d2 d3 d4 d5 d6 d7 d8 d9
          go_wp2_with fail
          refine ((fun (w : World) => m2_stepL so_thru (so_goes w0.heap.size l x p T gs who q gn HWHO.out) (st := st) (s := s) (w := w) (m := m) (mg := g)) w7 HA7.out HM7.out HCB.out.1 HCB.out.2).mono ?_
          rintro e w8 ⟨⟨bb, rfl⟩, hA8, hM8, hK8⟩
          have hst := stepOf_go (M := (soM w0.heap.size l p T gs who q gn).sys) (who := who) HWT.out HTG.out
          rw [hst] at hA8 hM8
          have hI8 := SI.stepped (m2_of (K := soM w0.heap.size l p T gs who q gn) (lo := w0.heap.size) (l := l) (p := p) (t := T) (g := gs) (who := who) (x := x) (fun y _ => so_goes w0.heap.size l y p T gs who q gn HWHO.out) (so_own w0.heap.size l p T gs who q gn)) HI6.out hlow7 HG7.out HR7.out hs7 hA8 hM8 hK8 (HI6.out.path.snoc (by rw [HWT.out]; simp)) (rng_snoc HI6.out.rng (acc_wf HI6.out.both.mem.wf kd who _ o HOKW.out.2).2) (by have := HI6.out.len; simp; omega) (acc_clock2 ..)
          have HI8 := hid hI8
          clear hI8 hA8 hM8 hK8 HG7 HR7 HM7 HA7 hs7 hlow7 hst
          go_wp2_with fail
          refine (alike_run m g rm rg _ w8 HI8.out.both).mono ?_
          rintro e w9 ⟨rfl, hb9⟩
          have hI9 := HI8.out.quiet (m2_of (K := soM w0.heap.size l p T gs who q gn) (lo := w0.heap.size) (l := l) (p := p) (t := T) (g := gs) (who := who) (x := x) (fun y _ => so_goes w0.heap.size l y p T gs who q gn HWHO.out) (so_own w0.heap.size l p T gs who q gn)) hb9
          rw [List.length_append, List.length_singleton] at hI9
          clear HI8 HI6 hb9
          go_wp2_with fail
          go_roundw
          case rel => exact ⟨n + 1, _, _, _, by omega, by go_num, hI9⟩
          case measure => simp [intOf]; omega
  · have HF := hid (show ¬ FewP p T gs ∨ 400 < puts.length by
      by_cases h : FewP p T gs
      · right
        have : ¬ puts.length ≤ 400 := fun h2 => hf ⟨h, h2⟩
        omega
      · exact .inl h)
    clear hf
    go_enter Tryz.func10, Tryz.ntmps10
    go_wp2_with fail
    refine (lay_no p T gs a puts.length c _ HF.out).mono ?_
    rintro e w1 ⟨rfl, hb⟩
    have hlow1 : Below w.heap.size w w1 := hbb.trans (hb.mono (by simp; omega))
    clear hb hbox hbb hbox2
    (go_wp2_with (first | (go_at_call 57; refine (awake_run _).mono ?_; rintro e w9 ⟨rfl, hb9⟩)); go_ret; exact ⟨rfl, hlow1.trans (hb9.mono hlow1.size)⟩)
end Go.Proofs.YtlhnnggceebpjaaGreat.Sysc
