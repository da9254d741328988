/- The walk of GlobqPuts. -/
import Derived.Test.YtlhnnggceebpjaaGlobqF
import Derived.Test.YtlhnnggceebpjaaBase4
import Derived.Deep.DeepCutAuto

set_option maxRecDepth 100000
set_option maxHeartbeats 4000000
set_option linter.unusedVariables false
set_option linter.unusedSimpArgs false
namespace Go.Proofs.Ytlhnnggceebpjaa.Globq
open Go.RowKit Go.Shelf Go.Proofs.Ytlhnnggceebpjaa.TK Go.Proofs.Ytlhnnggceebpjaa.Flag Go.Proofs.Ytlhnnggceebpjaa.Words Go.Proofs.Ytlhnnggceebpjaa.Mem Go.Proofs.Ytlhnnggceebpjaa.Flow Go.Proofs.Ytlhnnggceebpjaa.Layout Go.Proofs.Ytlhnnggceebpjaa.Run Go.Proofs.Ytlhnnggceebpjaa.Lock Go.Proofs.Ytlhnnggceebpjaa.Read Go.Proofs.Ytlhnnggceebpjaa.Grow Go.Proofs.Ytlhnnggceebpjaa.Sys Go.Proofs.Ytlhnnggceebpjaa.Mach Go.Proofs.Ytlhnnggceebpjaa.Doc Go.Proofs.Ytlhnnggceebpjaa.Ref05
theorem qlst_len {s : St} {P T G : Int} (h : G ≤ 1000) : (qlst s P T G).1.length ≤ 1000000 := by
  have := MapL.wlk_len (qrd s P T G) (G.toNat + 1) (s.peek (wordN 6)).1 []
  unfold qlst
  simp at this
  omega
theorem glist_run3 (l m g : Nat) (P T G : Int) (s : St) (w : World) (hL : Lay w l P T G) (hM : MemAt w m g s) :
    Calls Try.prog 63 #[.pointer (some ⟨l, 0, none⟩), .pointer (some ⟨m, 0, none⟩)] w fun e w' => ∃ a c, e = .returned (.tuple #[.slice a (qlst s P T G).1.length c, .bool (qlst s P T G).2]) ∧ RowOf (encI .i64) 1 w' a (qlst s P T G).1 ∧ Below w.heap.size w w' :=
  (glist_run l m g P T G s w hL hM).mono fun e w' ⟨a, c, h1, h2, h3, _⟩ => ⟨a, c, h1, h2, h3⟩
theorem puts_walk (w : World) (cs : List Value) (hcs : AllL w [.base (.int .i64), .base (.int .i64), .base (.int .i64), .row [.int .i64, .int .u64]] cs) (gv : Value) (hgv : (Leaf.row [.int .i64]).holds w gv) (pv : Value) (hpv : (Leaf.row [.bool, .int .i64, .int .i64, .int .i64, .int .u64, .int .u64]).holds w pv) :
    Calls Try.prog 9 #[.agg cs.toArray, gv, pv] w fun e w' => e = .returned (.bool true) ∧ Below w.heap.size w w' := by
  obtain ⟨ga, gc, gl, rfl, hgr, _, _, _, hgc⟩ := ints_of hgv
  clear hgv
  have HGW := hid hgr
  have HGB0 := hid (show ∀ z, gl ≠ [] → ga = some z → z.block < w.heap.size from fun z hl hz => by
    obtain ⟨y, hy, hc⟩ := hgr 0 (List.length_pos_iff.2 hl)
    rw [hz] at hy
    cases hy
    have := cell_lt (hc 0 _ rfl)
    simpa using this)
  have HGC := hid hgc
  clear hgr hgc
  obtain ⟨p, T, gs, a, c, puts, rfl, hr, hok⟩ := ground_of hcs
  obtain ⟨pa, pc, pokes, rfl, hpr, hpok⟩ := pokes_of hpv
  clear hcs hpv
  have hbb : Below w.heap.size w (w.alloc (.cells #[.int .i64 p, .int .i64 T, .int .i64 gs, .slice a puts.length c] 36)) := below_one w _
  have hbox := Blk.new w [.int .i64 p, .int .i64 T, .int .i64 gs, .slice a puts.length c] 36
  have hr1 := hid (hr.quiet hbb)
  have HOK := hid hok
  have HPR := hid (hpr.quiet hbb)
  have HPK := hid hpok
  clear hr hok hpr hpok
  by_cases hf : FewP p T gs ∧ puts.length ≤ 400
  · obtain ⟨hf, hn⟩ := hf
    have HF := hid hf
    have HN := hid hn
    have HPT := hid (show (0 ≤ p ∧ p ≤ 1000) ∧ T ≤ 1000 by have := hf; unfold FewP Right at this; omega)
    have HPT1 := hid (show 1 ≤ p ∧ 1 ≤ T ∧ 1 ≤ gs ∧ gs ≤ 1000 by have := hf; unfold FewP Right at this; omega)
    clear hf hn
    go_enter Try.func9, Try.ntmps9
    go_wp2_with fail
    refine (lay_yes p T gs a c puts _ HF.out HN.out hr1.out HOK.out).mono ?_
    rintro e w1 ⟨l, m, g, rm, rg, rfl, hL⟩
    obtain ⟨w0, hw0⟩ : ∃ w0, w0 = w.alloc (.cells #[.int .i64 p, .int .i64 T, .int .i64 gs, .slice a puts.length c] 36) := ⟨_, rfl⟩
    rw [← hw0] at hL HPR hbb hbox
    have HW0 := hid hbb
    have hbox1 := hbox.quiet hL.low
    have b0 := hbox1.cell 0
    have b1 := hbox1.cell 1
    have b2 := hbox1.cell 2
    simp only [List.getElem?_cons_zero, List.getElem?_cons_succ] at b0 b1 b2
    have hlow1 : Below w.heap.size w w1 := hbb.trans (hL.low.mono hbb.size)
    have HBX := hid hbox
    have HL := hid hL
    clear hbox hbox1 hL hbb hr1 hw0
    by_cases g1 : 100 < pokes.length
    · have d1 : decide ((100 : Int) < (pokes.length : Int)) = true := decide_eq_true (by omega)
      (go_wp2_with (first | (go_at_call 56; refine (awake_run _).mono ?_; rintro e w9 ⟨rfl, hb9⟩)); go_ret; exact ⟨rfl, hlow1.trans (hb9.mono hlow1.size)⟩)
    have d1 : decide ((100 : Int) < (pokes.length : Int)) = false := decide_eq_false (by omega)
    have hlen : pokes.length ≤ 100 := by omega
    by_cases g2 : 60 < gl.length
    · have d2 : decide ((60 : Int) < (gl.length : Int)) = true := decide_eq_true (by omega)
      (go_wp2_with (first | (go_at_call 56; refine (awake_run _).mono ?_; rintro e w9 ⟨rfl, hb9⟩)); go_ret; exact ⟨rfl, hlow1.trans (hb9.mono hlow1.size)⟩)
    have d2 : decide ((60 : Int) < (gl.length : Int)) = false := decide_eq_false (by omega)
    have HGL2 := hid (show gl.length ≤ 1000 by omega)
    have HGK := hid (fun (wk : World) (h : Below w.heap.size w wk) => gknown_run p T gs ga gc gl wk (by omega) (HGW.out.quiet h))
    by_cases hk : ∀ x ∈ gl, 0 ≤ x ∧ x < gs
    case neg =>
      rw [decide_eq_false hk] at HGK
      clear hk g1 g2
      have HLW1 := hid hlow1
      go_wp2_with fail
      refine (HGK.out _ HLW1.out).mono ?_
      rintro e wk ⟨rfl, hbk⟩
      have hlow1 := HLW1.out.trans (hbk.mono HLW1.out.size)
      (go_wp2_with (first | (go_at_call 56; refine (awake_run _).mono ?_; rintro e w9 ⟨rfl, hb9⟩)); go_ret; exact ⟨rfl, hlow1.trans (hb9.mono hlow1.size)⟩)
    rw [decide_eq_true hk] at HGK
    clear hk g1 g2
    have HLW1 := hid hlow1
    go_wp2_with fail
    refine (HGK.out _ HLW1.out).mono ?_
    rintro e wk ⟨rfl, hbk⟩
    have hlow1 := HLW1.out.trans (hbk.mono HLW1.out.size)
    have HL := hid (show Laid w0 wk l m g rm rg p T gs (layW (lenOf p T gs) puts) from ⟨HL.out.lay.quiet hbk, HL.out.mem.quiet hbk, HL.out.rmem.quiet hbk, HL.out.low.trans (hbk.mono HL.out.low.size), HL.out.low5, HL.out.ord⟩)
    have HGR := hid (HGW.out.quiet HW0.out)
    have HGR1 := hid (HGW.out.quiet hlow1)
    have HGB := hid (show ∀ z, gl ≠ [] → ga = some z → z.block < w0.heap.size from fun z hl hz => by have := HGB0.out z hl hz; have := HW0.out.size; omega)
    clear HGW HGB0 b0 b1 b2
    have hbx0 := HBX.out.quiet HL.out.low
    have b0 := hbx0.cell 0
    have b1 := hbx0.cell 1
    have b2 := hbx0.cell 2
    simp only [List.getElem?_cons_zero, List.getElem?_cons_succ] at b0 b1 b2
    obtain ⟨w1, hw1⟩ : ∃ w1, w1 = wk := ⟨_, rfl⟩
    rw [← hw1] at HL hlow1 HGR1 b0 b1 b2 ⊢
    clear HGK HLW1 hbk hbx0 hw1
    go_wp2_with fail
    refine (qp_any w0.heap.size l p T gs 2 ga gc gl w1 HGC.out HGL2.out HGR1.out HL.out.lay HL.out.low.size).mono ?_
    rintro e w3 ⟨x0, rfl, hA, hb⟩
    obtain ⟨s0, hs0⟩ : ∃ s0, s0 = fresh (layW (lenOf p T gs) puts) := ⟨_, rfl⟩
    have z1 : s0.clock = 0 := by rw [hs0]; rfl
    have z2 : s0.bad = 0 := by rw [hs0]; rfl
    have hL := HL.out
    have hLm : MemAt w1 m g s0 := by rw [hs0]; exact hL.mem
    have hLr : RMemAt w1 rm rg s0 := by rw [hs0]; exact hL.rmem
    have hlow3 := hL.low.trans (hb.mono hL.low.size)
    have hI : SI (qpM w0.heap.size l p T gs 2 gl).sys ((qpM w0.heap.size l p T gs 2 gl).at_ w0.heap.size l x0 p T gs 2) (qpStart gl) w0 w3 w3.heap.size m g rm rg (qpStart gl) s0 (.slice none 0 0) [] 0 := by
      have q1 := hL.low5
      have q2 := hL.ord
      have hB : Both w3 m g rm rg s0 := ⟨hLm.quiet hb, hLr.quiet hb, by omega, by omega⟩
      exact ⟨hlow3, hB, hA, Grow.nil _ _ _ _ _, .nil _, by simp, Nat.le_refl _, Nat.le_refl _, ⟨by omega, by omega⟩, ⟨hB.mem.ltm, hB.mem.ltg, hB.rmem.ltm, hB.rmem.ltg⟩, ⟨by omega, by omega, by omega, by omega, hlow3.size⟩⟩
    obtain ⟨x, hx⟩ : ∃ x, x = x0 := ⟨_, rfl⟩
    obtain ⟨B, hB⟩ : ∃ B, B = w3.heap.size := ⟨_, rfl⟩
    rw [← hx, ← hB] at hI
    rw [← hx]
    clear hx hB hs0 z1 z2 hlow3 hA hb hL hLm hLr HL b0 b1 b2 hlow1 HGR1
    go_wp2_with fail
    go_loopw [13, 12] (fun i v wr => ∃ n : Nat, ∃ st s got, n ≤ pokes.length ∧ i = .int .i64 (n : Int) ∧ SI (qpM w0.heap.size l p T gs 2 gl).sys ((qpM w0.heap.size l p T gs 2 gl).at_ w0.heap.size l x p T gs 2) (qpStart gl) w0 wr B m g rm rg st s v got n) (fun i _ _ => pokes.length - (intOf i).toNat)
    case atStart => exact ⟨0, _, _, _, Nat.zero_le _, rfl, hI⟩
    case round =>
      clear hI
      obtain ⟨n, st, s, got, hn, rfl, hI⟩ := hrel
      by_cases hlt : n < pokes.length
      case neg =>
        obtain rfl : n = pokes.length := by omega
        have hlt' : decide ((pokes.length : Int) < (pokes.length : Int)) = false := decide_eq_false (by omega)
        have HE := hid (show Lay wr l p T gs ∧ Both wr m g rm rg s ∧ Below w0.heap.size w0 wr from ⟨hI.mach.2.2.1, hI.both, hI.low⟩)
        clear hI
        obtain ⟨L, hLd⟩ : ∃ L, L = qlst s p T gs := ⟨_, rfl⟩
        have H7 := hid (glist_run3 l m g p T gs s wr HE.out.1 HE.out.2.1.mem)
        rw [← hLd] at H7
        have H8 := hid (fun w8 h => rlist11_run rm rg p T gs s w8 HPT.out.1 (by have := HPT.out; have := HPT1.out; omega) (by have := HPT1.out; omega) h)
        rw [← hLd] at H8
        have HLN := hid (show L.1.length ≤ 1000000 by rw [hLd]; exact qlst_len (by have := HPT.out; have := HPT1.out; omega))
        clear hLd
        go_wp2_with fail
        refine H7.out.mono ?_
        rintro e w7 ⟨a7, c7, rfl, hrow7, hb7⟩
        have hbx7 := HBX.out.quiet (Below.then_ HE.out.2.2 hb7)
        have b0 := hbx7.cell 0
        have b1 := hbx7.cell 1
        have b2 := hbx7.cell 2
        simp only [List.getElem?_cons_zero, List.getElem?_cons_succ] at b0 b1 b2
        have HE7 := hid (show Lay w7 l p T gs ∧ Both w7 m g rm rg s ∧ Below w0.heap.size w0 w7 ∧ RowOf (encI .i64) 1 w7 a7 L.1 from ⟨HE.out.1.quiet hb7, HE.out.2.1.quiet hb7, Below.then_ HE.out.2.2 hb7, hrow7⟩)
        clear HE H7 hrow7 hb7 hbx7
        go_wp2_with fail
        refine (H8.out w7 HE7.out.2.1.rmem).mono ?_
        rintro e w8 ⟨a8, c8, rfl, hrow8, hb8⟩
        have hbx8 := HBX.out.quiet (Below.then_ HE7.out.2.2.1 hb8)
        have HE8 := hid (show Lay w8 l p T gs ∧ Both w8 m g rm rg s ∧ Below w0.heap.size w0 w8 ∧ RowOf (encI .i64) 1 w8 a7 L.1 ∧ RowOf (encI .i64) 1 w8 a8 L.1 from ⟨HE7.out.1.quiet hb8, HE7.out.2.1.quiet hb8, Below.then_ HE7.out.2.2.1 hb8, HE7.out.2.2.2.quiet hb8, hrow8⟩)
        clear b0 b1 b2
        have b0 := hbx8.cell 0
        have b1 := hbx8.cell 1
        have b2 := hbx8.cell 2
        simp only [List.getElem?_cons_zero, List.getElem?_cons_succ] at b0 b1 b2
        clear HE7 H8 hrow8 hb8 hbx8
        have hlow6d : Below w0.heap.size w0 w8.drew := HE8.out.2.2.1.drew
        have hq8 : Below w8.heap.size w8 w8.drew := below_drewN (Below.refl _ w8) 1
        have hB6 : Both w8.drew m g rm rg s := HE8.out.2.1.quiet hq8
        have hlen : s.ws.length ≤ 1000000 := hB6.mem.len
        obtain ⟨cap, spare, e1, e2, e3⟩ := hB6.rmem.ex
        have c0 := e1.cell 0
        simp only [headOf, List.getElem?_cons_zero, List.getElem?_cons_succ] at c0
        have hrow := hid (row_of_blk e2)
        have hrl : rm < w8.drew.heap.size := cell_lt c0
        have HB6 := hid hB6
        have HXD := hid (show Lay w8.drew l p T gs ∧ RowOf (encI .i64) 1 w8.drew a7 L.1 ∧ RowOf (encI .i64) 1 w8.drew a8 L.1 from ⟨HE8.out.1.quiet hq8, HE8.out.2.2.2.1.quiet hq8, HE8.out.2.2.2.2.quiet hq8⟩)
        clear hB6 e1 e2 e3 HE8 hq8
        go_wp2_with fail
        have HB : Below w8.drew.heap.size w8.drew w8.drew := Below.refl _ _
        go_region_held3 (fun w' => w'.cell? ⟨rm, 0, none⟩ = some (.slice (some ⟨rg, 0, none⟩) s.ws.length cap)) (exact (HB.cell (p := ⟨rm, 0, none⟩) hrl).trans c0) (first | (go_at_call 56; (refine (awake_run _).mono ?_); rintro e w' ⟨rfl, hb⟩; replace HB := Below.then_ HB hb; clear hb) | (go_at_call 73; (refine (mwords_run m g s _ (HB6.out.mem.quiet HB)).mono ?_); rintro e w' ⟨v, b, rfl, hbb, ⟨cap2, spare2, rfl, hcap2, hblk⟩, hb⟩; have hrow2 := hid (row_of_blk hblk); replace HB := Below.then_ HB hb; clear hb hbb hblk hcap2) | (go_at_call 55; (refine (same_run ⟨b, 0, none⟩ ⟨rg, 0, none⟩ cap2 cap s.ws _ hrow2.out (hrow.out.quiet HB) hlen).mono ?_); rintro e w' ⟨rfl, hb⟩; replace HB := Below.then_ HB hb; clear hb) | (go_at_call 64; (refine (Idlem.same12_run a7 a8 c7 c8 L.1 _ (HXD.out.2.1.quiet HB) (HXD.out.2.2.quiet HB) HLN.out).mono ?_); rintro e w' ⟨rfl, hb⟩; replace HB := Below.then_ HB hb; clear hb) | (fail))
        all_goals go_wp2
        all_goals go_ret
        all_goals exact ⟨rfl, HW0.out.trans ((Below.then_ hlow6d HB).mono HW0.out.size)⟩
      have hlt' : decide ((n : Int) < (pokes.length : Int)) = true := decide_eq_true (by omega)
      obtain ⟨xa, rfl, hx⟩ := HPR.out.quiet hI.low n hlt
      have x0 := hx 0 _ rfl
      have x1 := hx 1 _ rfl
      have x2 := hx 2 _ rfl
      have x3 := hx 3 _ rfl
      have x4 := hx 4 _ rfl
      have x5 := hx 5 _ rfl
      have hnew := HPK.out pokes[n] (List.getElem_mem hlt)
      obtain ⟨⟨sp, act⟩, hq⟩ : ∃ q : PokeT, q = pokes[n] := ⟨_, rfl⟩
      rw [← hq] at x0 x1 x2 x3 x4 x5 hnew
      rw [add_next] at x1 x2 x3 x4 x5
      simp only [Nat.add_zero, Nat.zero_add, Nat.reduceAdd] at x0 x1 x2 x3 x4 x5 hnew
      clear hq hx
      have n0 : (0 : Int) ≤ (n : Int) := by omega
      have n1 : (n : Int) < (pokes.length : Int) := by omega
      have HI := hid hI
      have HNEW := hid hnew
      obtain ⟨a2, c2, hv, _, _, _⟩ := hI.grow.row encI_len
      subst hv
      have HCB := hid (show s.clock < 1000000 ∧ s.bad < 1000000 by have := hI.clock; omega)
      have HGL := hid (show got.length ≤ 100000 by have := hI.len; omega)
      clear hI hnew
      cases sp with
      | false =>
        go_wp2_with fail
        refine (do_run m g rm rg s act wr HI.out.both HNEW.out HCB.out.1 HCB.out.2).mono ?_
        rintro e w4 ⟨⟨ret, rfl⟩, hB4, hK4⟩
        have hI4 := HI.out.poke (m2_of (K := qpM w0.heap.size l p T gs 2 gl) (lo := w0.heap.size) (l := l) (p := p) (t := T) (g := gs) (who := 2) (x := x) (fun y _ => qp_goes w0.heap.size l y p T gs 2 gl HGL2.out) (qp_own w0.heap.size l p T gs 2 gl)) hB4 hK4 ⟨(act_clock act s).1, (act_clock act s).2.1⟩
        clear HI hB4 hK4 x0 x1 x2 x3 x4 x5
        go_wp2_with fail
        go_roundw
        case rel => exact ⟨n + 1, _, _, _, by omega, by go_num, hI4⟩
        case measure => simp [intOf]; omega
      | true =>
        clear x1 x2 x3 x4 x5
        go_upto_region 12 with fail
        have hRun0 : RunAt (wr.alloc (.cells (runCells (.slice a2 got.length c2) (runU got 0)).toArray 98)) B wr.heap.size (.slice a2 got.length c2) (runU got 0) := ⟨Blk.new wr _ _, HI.out.grow.quiet (below_one _ _), Nat.zero_le _, HGL.out⟩
        have hI4 := HI.out.quiet (m2_of (K := qpM w0.heap.size l p T gs 2 gl) (lo := w0.heap.size) (l := l) (p := p) (t := T) (g := gs) (who := 2) (x := x) (fun y _ => qp_goes w0.heap.size l y p T gs 2 gl HGL2.out) (qp_own w0.heap.size l p T gs 2 gl)) (below_one wr (.cells (runCells (.slice a2 got.length c2) (runU got 0)).toArray 98))
        have hrB := HI.out.size
        simp only [runCells, runU] at hRun0 hI4
        obtain ⟨w4, hw4⟩ : ∃ w4, w4 = wr.alloc (.cells #[.slice a2 got.length c2, .int .i64 0, .bool false, .int .i64 0, .int .i64 0, .int .i64 0, .int .u64 0, .int .u64 0, .bool false, .bool false] 98) := ⟨_, rfl⟩
        have hRun : RunAt w4 B wr.heap.size (.slice a2 got.length c2) (runU got 0) := by rw [hw4]; exact hRun0
        have hI4 : SI (qpM w0.heap.size l p T gs 2 gl).sys ((qpM w0.heap.size l p T gs 2 gl).at_ w0.heap.size l x p T gs 2) (qpStart gl) w0 w4 B m g rm rg st s (.slice a2 got.length c2) got n := by rw [hw4]; exact hI4
        rw [← hw4]
        clear hRun0 hw4 HI x0
        obtain ⟨r, hr⟩ : ∃ r, r = wr.heap.size := ⟨_, rfl⟩
        rw [← hr] at hRun hrB ⊢
        clear hr
        have hrb := hRun.blk
        have HI4 := hid hI4
        have HRUN := hid hRun
        clear hI4 hRun
        have hbx4 := HBX.out.quiet HI4.out.low
        have b0 := hbx4.cell 0
        have b1 := hbx4.cell 1
        have b2 := hbx4.cell 2
        simp only [List.getElem?_cons_zero, List.getElem?_cons_succ] at b0 b1 b2
        clear hbx4
        skip
        go_wp2_with fail
        refine (rput13_any p T gs gl ga gc B r _ (runU got 0) got (qpStart gl) w4 HRUN.out (Fits.start HI4.out.rng) rfl rfl ⟨HPT.out.1, by have := HPT.out; have := HPT1.out; omega, by have := HPT1.out; omega⟩ HGL2.out (HGR.out.quiet HI4.out.low) (fun z hl hz => by have := HGB.out z hl hz; have := HI4.out.ge; omega)).mono ?_
        rintro e w5 ⟨agl, cgl, hl, b, s1, rfl, hRun5, hK5, hran, hfit, hfin, hsay, hrowg⟩; replace hran : Ran (qpM w0.heap.size l p T gs 2 gl).sys _ _ _ _ _ := hran; replace hfin : b.stop = false → (qpM w0.heap.size l p T gs 2 gl).sys.want s1 = none := hfin
        obtain ⟨e1, e2⟩ := hran.ends rfl (Nat.zero_le _) (by simpa using HI4.out.path) hfin
        have e1 := e1.symm
        subst e1
        subst e2
        have HI5 := hid (HI4.out.side (m2_of (K := qpM w0.heap.size l p T gs 2 gl) (lo := w0.heap.size) (l := l) (p := p) (t := T) (g := gs) (who := 2) (x := x) (fun y _ => qp_goes w0.heap.size l y p T gs 2 gl HGL2.out) (qp_own w0.heap.size l p T gs 2 gl)) hK5 hrB hrb)
        (have HQT := hid hsay; have HROW := hid hrowg; clear hsay hrowg)
        clear HI4 HRUN hK5 hran hfit hfin b0 b1 b2 hrb
        skip
        skip
        cases hWant : (qpM w0.heap.size l p T gs 2 gl).sys.want st with
        | none =>
          have e5 : endOf (qpM w0.heap.size l p T gs 2 gl).sys got st = runU got got.length := by unfold endOf; rw [hWant]
          rw [e5] at hRun5
          have HOV := hid (show ((qpM w0.heap.size l p T gs 2 gl).sys.want st).isNone = true by rw [hWant]; rfl)
          have HST := hid (show stepOf (qpM w0.heap.size l p T gs 2 gl).sys 2 st s = (st, s) by unfold stepOf; rw [hWant])
          clear hWant e5
          have hd5 : Below w5.heap.size w5 w5.drew := below_drewN (Below.refl _ _) 1
          have hRund := hRun5.quiet hd5
          have hb5 := hRund.blk
          have c2 := hb5.cell 2
          simp only [runCells, stop0, runU, Wnt.acc, List.getElem?_cons_zero, List.getElem?_cons_succ] at c2
          have lr := hb5.lt
          have HRUN := hid hRund
          have HI5d := hid (HI5.out.quiet (m2_of (K := qpM w0.heap.size l p T gs 2 gl) (lo := w0.heap.size) (l := l) (p := p) (t := T) (g := gs) (who := 2) (x := x) (fun y _ => qp_goes w0.heap.size l y p T gs 2 gl HGL2.out) (qp_own w0.heap.size l p T gs 2 gl)) hd5)
          have HROWd := hid (HROW.out.quiet hd5)
          have HLEN := hid (show hl.length ≤ 1000000 by rw [← HQT.out]; have := HGL2.out; unfold qpH; split <;> simp <;> omega)
          have HB : Below w5.drew.heap.size w5.drew w5.drew := Below.refl _ _
          clear hRun5 hRund hb5 HI5 HROW hd5
          go_wp2_with fail
          go_region_held3 (fun w' => w'.cell? ⟨r, 2, none⟩ = some (.bool false)) (exact (HB.cell (p := ⟨r, 2, none⟩) lr).trans c2) (first | (go_at_call 68; have hqq := m2_doneL qp_thruD (qp_goes w0.heap.size l x p T gs 2 gl HGL2.out) ((m2_of (K := qpM w0.heap.size l p T gs 2 gl) (lo := w0.heap.size) (l := l) (p := p) (t := T) (g := gs) (who := 2) (x := x) (fun y _ => qp_goes w0.heap.size l y p T gs 2 gl HGL2.out) (qp_own w0.heap.size l p T gs 2 gl)).quiet HI5d.out.mach HB); rw [HOV.out] at hqq; refine hqq.mono ?_; rintro e w2 ⟨rfl, rfl⟩) | (go_at_call 69; have hqq := qp_h_run ((m2_of (K := qpM w0.heap.size l p T gs 2 gl) (lo := w0.heap.size) (l := l) (p := p) (t := T) (g := gs) (who := 2) (x := x) (fun y _ => qp_goes w0.heap.size l y p T gs 2 gl HGL2.out) (qp_own w0.heap.size l p T gs 2 gl)).quiet HI5d.out.mach HB) HGL2.out; rw [HQT.out] at hqq; refine hqq.mono ?_; rintro e w2 ⟨a9, c9, rfl, hr9, hb9⟩; have HR9 := hid hr9; replace HB := Below.then_ HB hb9; clear hr9 hb9) | (go_at_call 64; refine (Idlem.same12_run a9 agl c9 cgl hl _ HR9.out (HROWd.out.quiet HB) HLEN.out).mono ?_; rintro e w2 ⟨rfl, hb9⟩; replace HB := Below.then_ HB hb9; clear hb9))
          clear c2
          have HI6 := hid (HI5d.out.quiet (m2_of (K := qpM w0.heap.size l p T gs 2 gl) (lo := w0.heap.size) (l := l) (p := p) (t := T) (g := gs) (who := 2) (x := x) (fun y _ => qp_goes w0.heap.size l y p T gs 2 gl HGL2.out) (qp_own w0.heap.size l p T gs 2 gl)) HB)
          have hRun5 := HRUN.out.quiet HB
          clear HI5d HRUN HROWd HLEN HB lr
          have d0 := hRun5.blk.cell 0
          have d1 := hRun5.blk.cell 1
          have d2 := hRun5.blk.cell 2
          have d3 := hRun5.blk.cell 3
          have d4 := hRun5.blk.cell 4
          have d5 := hRun5.blk.cell 5
          have d6 := hRun5.blk.cell 6
          have d7 := hRun5.blk.cell 7
          have d8 := hRun5.blk.cell 8
          have d9 := hRun5.blk.cell 9
          simp only [runCells, stop0, runU, Wnt.acc, List.getElem?_cons_zero, List.getElem?_cons_succ] at d0 d1 d2 d3 d4 d5 d6 d7 d8 d9
          clear hRun5
          go_wp2_with fail
          refine (turn_off B rm rg _ got s 2 _ HI6.out.grow HI6.out.both.rmem).mono ?_
          rintro e w7 ⟨rfl, hb7⟩
          have HI7 := hid (HI6.out.quiet (m2_of (K := qpM w0.heap.size l p T gs 2 gl) (lo := w0.heap.size) (l := l) (p := p) (t := T) (g := gs) (who := 2) (x := x) (fun y _ => qp_goes w0.heap.size l y p T gs 2 gl HGL2.out) (qp_own w0.heap.size l p T gs 2 gl)) hb7)
          clear HI6 hb7 d0 d1 d2 d3 d4 d5 d6 d7 d8 d9
          go_wp2_with fail
          refine ((fun (w : World) => m2_stepL qp_thru (qp_goes w0.heap.size l x p T gs 2 gl HGL2.out) (st := st) (s := s) (w := w) (m := m) (mg := g)) w7 HI7.out.mach HI7.out.both.mem HCB.out.1 HCB.out.2).mono ?_
          rintro e w8 ⟨⟨bb, rfl⟩, hA8, hM8, hK8⟩
          rw [HST.out] at hA8 hM8
          have hI8 := SI.stepped (m2_of (K := qpM w0.heap.size l p T gs 2 gl) (lo := w0.heap.size) (l := l) (p := p) (t := T) (g := gs) (who := 2) (x := x) (fun y _ => qp_goes w0.heap.size l y p T gs 2 gl HGL2.out) (qp_own w0.heap.size l p T gs 2 gl)) HI7.out HI7.out.low HI7.out.grow HI7.out.both.rmem (Nat.le_refl _) hA8 hM8 hK8 HI7.out.path HI7.out.rng (by have := HI7.out.len; omega) ⟨by omega, by omega⟩
          have HI8 := hid hI8
          clear hI8 hA8 hM8 hK8 HI7
          go_wp2_with fail
          refine (alike_run m g rm rg _ w8 HI8.out.both).mono ?_
          rintro e w9 ⟨rfl, hb9⟩
          have hI9 := HI8.out.quiet (m2_of (K := qpM w0.heap.size l p T gs 2 gl) (lo := w0.heap.size) (l := l) (p := p) (t := T) (g := gs) (who := 2) (x := x) (fun y _ => qp_goes w0.heap.size l y p T gs 2 gl HGL2.out) (qp_own w0.heap.size l p T gs 2 gl)) hb9
          clear HI8 hb9
          go_wp2_with fail
          go_roundw
          case rel => exact ⟨n + 1, _, _, _, by omega, by go_num, hI9⟩
          case measure => simp [intOf]; omega
        | some W =>
          obtain ⟨kd, ad, o, nw, slp⟩ := W
          have hok := m2_wnt (qp_goes w0.heap.size l x p T gs 2 gl HGL2.out) HI5.out.mach hWant
          simp only at hok
          obtain ⟨rfl, hok1, hok2⟩ := hok
          have HOKW := hid (And.intro hok1 hok2)
          have e5 : endOf (qpM w0.heap.size l p T gs 2 gl).sys got st = stop0 got ⟨kd, ad, o, nw, false⟩ := by unfold endOf; rw [hWant]
          rw [e5] at hRun5
          have HOV := hid (show ((qpM w0.heap.size l p T gs 2 gl).sys.want st).isNone = false by rw [hWant]; rfl)
          have HWT := hid hWant
          have HTG := hid (show (false && decide ((s.peek ad).1 = 0)) = false from rfl)
          clear hWant e5 hok1 hok2
          have hd5 : Below w5.heap.size w5 w5.drew := below_drewN (Below.refl _ _) 1
          have hRund := hRun5.quiet hd5
          have hb5 := hRund.blk
          have c2 := hb5.cell 2
          simp only [runCells, stop0, runU, Wnt.acc, List.getElem?_cons_zero, List.getElem?_cons_succ] at c2
          have lr := hb5.lt
          have HRUN := hid hRund
          have HI5d := hid (HI5.out.quiet (m2_of (K := qpM w0.heap.size l p T gs 2 gl) (lo := w0.heap.size) (l := l) (p := p) (t := T) (g := gs) (who := 2) (x := x) (fun y _ => qp_goes w0.heap.size l y p T gs 2 gl HGL2.out) (qp_own w0.heap.size l p T gs 2 gl)) hd5)
          have HROWd := hid (HROW.out.quiet hd5)
          have HLEN := hid (show hl.length ≤ 1000000 by rw [← HQT.out]; have := HGL2.out; unfold qpH; split <;> simp <;> omega)
          have HB : Below w5.drew.heap.size w5.drew w5.drew := Below.refl _ _
          clear hRun5 hRund hb5 HI5 HROW hd5
          go_wp2_with fail
          go_region_held3 (fun w' => w'.cell? ⟨r, 2, none⟩ = some (.bool true)) (exact (HB.cell (p := ⟨r, 2, none⟩) lr).trans c2) (first | (go_at_call 68; have hqq := m2_doneL qp_thruD (qp_goes w0.heap.size l x p T gs 2 gl HGL2.out) ((m2_of (K := qpM w0.heap.size l p T gs 2 gl) (lo := w0.heap.size) (l := l) (p := p) (t := T) (g := gs) (who := 2) (x := x) (fun y _ => qp_goes w0.heap.size l y p T gs 2 gl HGL2.out) (qp_own w0.heap.size l p T gs 2 gl)).quiet HI5d.out.mach HB); rw [HOV.out] at hqq; refine hqq.mono ?_; rintro e w2 ⟨rfl, rfl⟩) | (go_at_call 69; have hqq := qp_h_run ((m2_of (K := qpM w0.heap.size l p T gs 2 gl) (lo := w0.heap.size) (l := l) (p := p) (t := T) (g := gs) (who := 2) (x := x) (fun y _ => qp_goes w0.heap.size l y p T gs 2 gl HGL2.out) (qp_own w0.heap.size l p T gs 2 gl)).quiet HI5d.out.mach HB) HGL2.out; rw [HQT.out] at hqq; refine hqq.mono ?_; rintro e w2 ⟨a9, c9, rfl, hr9, hb9⟩; have HR9 := hid hr9; replace HB := Below.then_ HB hb9; clear hr9 hb9) | (go_at_call 64; refine (Idlem.same12_run a9 agl c9 cgl hl _ HR9.out (HROWd.out.quiet HB) HLEN.out).mono ?_; rintro e w2 ⟨rfl, hb9⟩; replace HB := Below.then_ HB hb9; clear hb9))
          clear c2
          have HI6 := hid (HI5d.out.quiet (m2_of (K := qpM w0.heap.size l p T gs 2 gl) (lo := w0.heap.size) (l := l) (p := p) (t := T) (g := gs) (who := 2) (x := x) (fun y _ => qp_goes w0.heap.size l y p T gs 2 gl HGL2.out) (qp_own w0.heap.size l p T gs 2 gl)) HB)
          have hRun5 := HRUN.out.quiet HB
          clear HI5d HRUN HROWd HLEN HB lr
          have d0 := hRun5.blk.cell 0
          have d1 := hRun5.blk.cell 1
          have d2 := hRun5.blk.cell 2
          have d3 := hRun5.blk.cell 3
          have d4 := hRun5.blk.cell 4
          have d5 := hRun5.blk.cell 5
          have d6 := hRun5.blk.cell 6
          have d7 := hRun5.blk.cell 7
          have d8 := hRun5.blk.cell 8
          have d9 := hRun5.blk.cell 9
          simp only [runCells, stop0, runU, Wnt.acc, List.getElem?_cons_zero, List.getElem?_cons_succ] at d0 d1 d2 d3 d4 d5 d6 d7 d8 d9
          clear hRun5
          go_wp2_with fail
          refine (turn_go B rm rg _ got ⟨kd, _, o, nw, _⟩ s 2 _ HI6.out.grow HI6.out.both.rmem HTG.out HGL.out HOKW.out.1 HOKW.out.2 HCB.out.1 HCB.out.2 HI6.out.size HI6.out.ltB.2.2.1 HI6.out.ltB.2.2.2).mono ?_
          rintro e w7 ⟨v', rfl, hG7, hR7, hK7⟩
          have hs7 := hK7.size
          obtain ⟨hM7, hA7, hlow7⟩ := HI6.out.turn (m2_of (K := qpM w0.heap.size l p T gs 2 gl) (lo := w0.heap.size) (l := l) (p := p) (t := T) (g := gs) (who := 2) (x := x) (fun y _ => qp_goes w0.heap.size l y p T gs 2 gl HGL2.out) (qp_own w0.heap.size l p T gs 2 gl)) hK7
          obtain ⟨a3, c3, rfl, _, _, _⟩ := hG7.row encI_len
          have HG7 := hid hG7
          have HR7 := hid hR7
          have HM7 := hid hM7
          have HA7 := hid hA7
          clear hG7 hR7 hM7 hA7 hK7 d0 d1 d2 d3 d4 d5 d6 d7 d8 d9
          go_wp2_with fail
          refine ((fun (w : World) => m2_stepL qp_thru (qp_goes w0.heap.size l x p T gs 2 gl HGL2.out) (st := st) (s := s) (w := w) (m := m) (mg := g)) w7 HA7.out HM7.out HCB.out.1 HCB.out.2).mono ?_
          rintro e w8 ⟨⟨bb, rfl⟩, hA8, hM8, hK8⟩
          have hst := stepOf_go (M := (qpM w0.heap.size l p T gs 2 gl).sys) (who := 2) HWT.out HTG.out
          rw [hst] at hA8 hM8
          have hI8 := SI.stepped (m2_of (K := qpM w0.heap.size l p T gs 2 gl) (lo := w0.heap.size) (l := l) (p := p) (t := T) (g := gs) (who := 2) (x := x) (fun y _ => qp_goes w0.heap.size l y p T gs 2 gl HGL2.out) (qp_own w0.heap.size l p T gs 2 gl)) HI6.out hlow7 HG7.out HR7.out hs7 hA8 hM8 hK8 (HI6.out.path.snoc (by rw [HWT.out]; simp)) (rng_snoc HI6.out.rng (acc_wf HI6.out.both.mem.wf kd 2 _ o HOKW.out.2).2) (by have := HI6.out.len; simp; omega) (acc_clock2 ..)
          have HI8 := hid hI8
          clear hI8 hA8 hM8 hK8 HG7 HR7 HM7 HA7 hs7 hlow7 hst
          go_wp2_with fail
          refine (alike_run m g rm rg _ w8 HI8.out.both).mono ?_
          rintro e w9 ⟨rfl, hb9⟩
          have hI9 := HI8.out.quiet (m2_of (K := qpM w0.heap.size l p T gs 2 gl) (lo := w0.heap.size) (l := l) (p := p) (t := T) (g := gs) (who := 2) (x := x) (fun y _ => qp_goes w0.heap.size l y p T gs 2 gl HGL2.out) (qp_own w0.heap.size l p T gs 2 gl)) hb9
          rw [List.length_append, List.length_singleton] at hI9
          clear HI8 HI6 hb9
          go_wp2_with fail
          go_roundw
          case rel => exact ⟨n + 1, _, _, _, by omega, by go_num, hI9⟩
          case measure => simp [intOf]; omega
  · have HF := hid (show ¬ FewP p T gs ∨ 400 < puts.length by
      by_cases h : FewP p T gs
      · right
        have : ¬ puts.length ≤ 400 := fun h2 => hf ⟨h, h2⟩
        omega
      · exact .inl h)
    clear hf
    go_enter Try.func9, Try.ntmps9
    go_wp2_with fail
    refine (lay_no p T gs a puts.length c _ HF.out).mono ?_
    rintro e w1 ⟨rfl, hb⟩
    have hlow1 : Below w.heap.size w w1 := hbb.trans (hb.mono (by simp))
    clear hb hbox hbb
    (go_wp2_with (first | (go_at_call 56; refine (awake_run _).mono ?_; rintro e w9 ⟨rfl, hb9⟩)); go_ret; exact ⟨rfl, hlow1.trans (hb9.mono hlow1.size)⟩)
end Go.Proofs.Ytlhnnggceebpjaa.Globq
