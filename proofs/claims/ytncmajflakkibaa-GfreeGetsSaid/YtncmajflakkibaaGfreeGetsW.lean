/- The walk of GfreeGets. -/
import Derived.Test.YtncmajflakkibaaGfreeC
import Derived.Test.YtncmajflakkibaaBase4
import Derived.Deep.DeepCutAuto
set_option maxRecDepth 100000
set_option maxHeartbeats 4000000
set_option linter.unusedVariables false
set_option linter.unusedSimpArgs false
namespace Go.Proofs.Ytncmajflakkibaa.Gfree
open Go.RowKit Go.Shelf Go.Proofs.Ytncmajflakkibaa.TK Go.Proofs.Ytncmajflakkibaa.Flag Go.Proofs.Ytncmajflakkibaa.Words Go.Proofs.Ytncmajflakkibaa.Mem Go.Proofs.Ytncmajflakkibaa.Flow Go.Proofs.Ytncmajflakkibaa.Layout Go.Proofs.Ytncmajflakkibaa.Run Go.Proofs.Ytncmajflakkibaa.Lock Go.Proofs.Ytncmajflakkibaa.Read Go.Proofs.Ytncmajflakkibaa.Grow Go.Proofs.Ytncmajflakkibaa.Sys Go.Proofs.Ytncmajflakkibaa.Mach Go.Proofs.Ytncmajflakkibaa.Doc Go.Proofs.Ytncmajflakkibaa.Ref05
theorem glst_len {s : St} {P T G : Int} (h : G ≤ 1000) : (glst s P T G).1.length ≤ 1000000 := by
  have := MapL.wlk_len (grd s P T G) (G.toNat + 1) (s.peek (wordN 16)).1 []
  unfold glst
  simp at this
  omega
theorem glist_run3 (l m g : Nat) (P T G : Int) (s : St) (w : World) (hL : Lay w l P T G) (hM : MemAt w m g s) :
    Calls Try.prog 46 #[.pointer (some ⟨l, 0, none⟩), .pointer (some ⟨m, 0, none⟩)] w fun e w' => ∃ a c, e = .returned (.tuple #[.slice a (glst s P T G).1.length c, .bool (glst s P T G).2]) ∧ RowOf (encI .i64) 1 w' a (glst s P T G).1 ∧ Below w.heap.size w w' :=
  (glist_run l m g P T G s w hL hM).mono fun e w' ⟨a, c, h1, h2, h3, _⟩ => ⟨a, c, h1, h2, h3⟩
theorem gets_walk (w : World) (cs : List Value) (hcs : AllL w [.base (.int .i64), .base (.int .i64), .base (.int .i64), .row [.int .i64, .int .u64]] cs) (who : Int) (ww : (Lit.int .i64 who).wf = true) (pv : Value) (hpv : (Leaf.row [.bool, .int .i64, .int .i64, .int .i64, .int .u64, .int .u64]).holds w pv) :
    Calls Try.prog 7 #[.agg cs.toArray, .int .i64 who, pv] w fun e w' => e = .returned (.bool true) ∧ Below w.heap.size w w' := by
  clear ww
  obtain ⟨p, T, gs, a, c, puts, rfl, hr, hok⟩ := ground_of hcs
  obtain ⟨pa, pc, pokes, rfl, hpr, hpok⟩ := pokes_of hpv
  clear hcs hpv
  have hbb : Below w.heap.size w (w.alloc (.cells #[.int .i64 p, .int .i64 T, .int .i64 gs, .slice a puts.length c] 36)) := below_one w _
  have hbox := Blk.new w [.int .i64 p, .int .i64 T, .int .i64 gs, .slice a puts.length c] 36
  have hr1 := hid (hr.quiet hbb)
  have HOK := hid hok
  have HPR := hid (hpr.quiet hbb)
  have HPK := hid hpok
  clear hr hok hpr hpok
  by_cases hf : FewP p T gs ∧ puts.length ≤ 400
  · obtain ⟨hf, hn⟩ := hf
    have HF := hid hf
    have HN := hid hn
    have HPT := hid (show (0 ≤ p ∧ p ≤ 1000) ∧ T ≤ 1000 by have := hf; unfold FewP Right at this; omega)
    have HPT1 := hid (show 1 ≤ p ∧ 1 ≤ T ∧ 1 ≤ gs ∧ gs ≤ 1000 by have := hf; unfold FewP Right at this; omega)
    clear hf hn
    go_enter Try.func7, Try.ntmps7
    go_wp2_with fail
    refine (lay_yes p T gs a c puts _ HF.out HN.out hr1.out HOK.out).mono ?_
    rintro e w1 ⟨l, m, g, rm, rg, rfl, hL⟩
    obtain ⟨w0, hw0⟩ : ∃ w0, w0 = w.alloc (.cells #[.int .i64 p, .int .i64 T, .int .i64 gs, .slice a puts.length c] 36) := ⟨_, rfl⟩
    rw [← hw0] at hL HPR hbb hbox
    have HW0 := hid hbb
    have hbox1 := hbox.quiet hL.low
    have b0 := hbox1.cell 0
    have b1 := hbox1.cell 1
    have b2 := hbox1.cell 2
    simp only [List.getElem?_cons_zero, List.getElem?_cons_succ] at b0 b1 b2
    have hlow1 : Below w.heap.size w w1 := hbb.trans (hL.low.mono hbb.size)
    have HBX := hid hbox
    have HL := hid hL
    clear hbox hbox1 hL hbb hr1 hw0
    by_cases g1 : 100 < pokes.length
    · have d1 : decide ((100 : Int) < (pokes.length : Int)) = true := decide_eq_true (by omega)
      (go_wp2_with (first | (go_at_call 39; refine (awake_run _).mono ?_; rintro e w9 ⟨rfl, hb9⟩)); go_ret; exact ⟨rfl, hlow1.trans (hb9.mono hlow1.size)⟩)
    have d1 : decide ((100 : Int) < (pokes.length : Int)) = false := decide_eq_false (by omega)
    have hlen : pokes.length ≤ 100 := by omega
    by_cases g2 : who < 0
    · have d2 : decide (who < 0) = true := decide_eq_true g2
      (go_wp2_with (first | (go_at_call 39; refine (awake_run _).mono ?_; rintro e w9 ⟨rfl, hb9⟩)); go_ret; exact ⟨rfl, hlow1.trans (hb9.mono hlow1.size)⟩)
    have d2 : decide (who < 0) = false := decide_eq_false g2
    by_cases g3 : 300 < who
    · have d3 : decide (300 < who) = true := decide_eq_true g3
      (go_wp2_with (first | (go_at_call 39; refine (awake_run _).mono ?_; rintro e w9 ⟨rfl, hb9⟩)); go_ret; exact ⟨rfl, hlow1.trans (hb9.mono hlow1.size)⟩)
    have d3 : decide (300 < who) = false := decide_eq_false g3
    have HWHO := hid (show 0 ≤ who ∧ who ≤ 1000 by omega)
    clear g1 g2 g3
    go_wp2_with fail
    refine (gg_made l w0.heap.size p T gs who w1 HWHO.out HL.out.low.size HL.out.lay).mono ?_
    rintro e w3 ⟨rfl, hA, hb⟩
    obtain ⟨s0, hs0⟩ : ∃ s0, s0 = fresh (layW (lenOf p T gs) puts) := ⟨_, rfl⟩
    have z1 : s0.clock = 0 := by rw [hs0]; rfl
    have z2 : s0.bad = 0 := by rw [hs0]; rfl
    have hL := HL.out
    have hLm : MemAt w1 m g s0 := by rw [hs0]; exact hL.mem
    have hLr : RMemAt w1 rm rg s0 := by rw [hs0]; exact hL.rmem
    have hlow3 := hL.low.trans (hb.mono hL.low.size)
    have hI : SI (ggM w0.heap.size l p T gs who).sys ((ggM w0.heap.size l p T gs who).at_ w0.heap.size l w1.heap.size p T gs who) (.acq .ask) w0 w3 w3.heap.size m g rm rg (.acq .ask) s0 (.slice none 0 0) [] 0 := by
      have q1 := hL.low5
      have q2 := hL.ord
      have hB : Both w3 m g rm rg s0 := ⟨hLm.quiet hb, hLr.quiet hb, by omega, by omega⟩
      exact ⟨hlow3, hB, ⟨hA, hL.low.size, hL.lay.quiet hb, trivial⟩, Grow.nil _ _ _ _ _, .nil _, by simp, Nat.le_refl _, Nat.le_refl _, ⟨by omega, by omega⟩, ⟨hB.mem.ltm, hB.mem.ltg, hB.rmem.ltm, hB.rmem.ltg⟩, ⟨by omega, by omega, by omega, by omega, hlow3.size⟩⟩
    obtain ⟨x, hx⟩ : ∃ x, x = w1.heap.size := ⟨_, rfl⟩
    obtain ⟨B, hB⟩ : ∃ B, B = w3.heap.size := ⟨_, rfl⟩
    rw [← hx, ← hB] at hI
    rw [← hx]
    clear hx hB hs0 z1 z2 hlow3 hA hb hL hLm hLr HL b0 b1 b2 hlow1
    go_wp2_with fail
    go_loopw [13, 12] (fun i v wr => ∃ n : Nat, ∃ st s got, n ≤ pokes.length ∧ i = .int .i64 (n : Int) ∧ SI (ggM w0.heap.size l p T gs who).sys ((ggM w0.heap.size l p T gs who).at_ w0.heap.size l x p T gs who) (.acq .ask) w0 wr B m g rm rg st s v got n) (fun i _ _ => pokes.length - (intOf i).toNat)
    case atStart => exact ⟨0, _, _, _, Nat.zero_le _, rfl, hI⟩
    case round =>
      clear hI
      obtain ⟨n, st, s, got, hn, rfl, hI⟩ := hrel
      by_cases hlt : n < pokes.length
      case neg =>
        obtain rfl : n = pokes.length := by omega
        have hlt' : decide ((pokes.length : Int) < (pokes.length : Int)) = false := decide_eq_false (by omega)
        have HE := hid (show Lay wr l p T gs ∧ Both wr m g rm rg s ∧ Below w0.heap.size w0 wr from ⟨hI.mach.2.2.1, hI.both, hI.low⟩)
        clear hI
        obtain ⟨L, hLd⟩ : ∃ L, L = glst s p T gs := ⟨_, rfl⟩
        have H7 := hid (glist_run3 l m g p T gs s wr HE.out.1 HE.out.2.1.mem)
        rw [← hLd] at H7
        have H8 := hid (fun w8 h => rlist11_run rm rg p T gs s w8 HPT.out.1 (by have := HPT.out; have := HPT1.out; omega) (by have := HPT1.out; omega) h)
        rw [← hLd] at H8
        have HLN := hid (show L.1.length ≤ 1000000 by rw [hLd]; exact glst_len (by have := HPT.out; have := HPT1.out; omega))
        clear hLd
        go_wp2_with fail
        refine H7.out.mono ?_
        rintro e w7 ⟨a7, c7, rfl, hrow7, hb7⟩
        have hbx7 := HBX.out.quiet (Below.then_ HE.out.2.2 hb7)
        have b0 := hbx7.cell 0
        have b1 := hbx7.cell 1
        have b2 := hbx7.cell 2
        simp only [List.getElem?_cons_zero, List.getElem?_cons_succ] at b0 b1 b2
        have HE7 := hid (show Lay w7 l p T gs ∧ Both w7 m g rm rg s ∧ Below w0.heap.size w0 w7 ∧ RowOf (encI .i64) 1 w7 a7 L.1 from ⟨HE.out.1.quiet hb7, HE.out.2.1.quiet hb7, Below.then_ HE.out.2.2 hb7, hrow7⟩)
        clear HE H7 hrow7 hb7 hbx7
        go_wp2_with fail
        refine (H8.out w7 HE7.out.2.1.rmem).mono ?_
        rintro e w8 ⟨a8, c8, rfl, hrow8, hb8⟩
        have hbx8 := HBX.out.quiet (Below.then_ HE7.out.2.2.1 hb8)
        have HE8 := hid (show Lay w8 l p T gs ∧ Both w8 m g rm rg s ∧ Below w0.heap.size w0 w8 ∧ RowOf (encI .i64) 1 w8 a7 L.1 ∧ RowOf (encI .i64) 1 w8 a8 L.1 from ⟨HE7.out.1.quiet hb8, HE7.out.2.1.quiet hb8, Below.then_ HE7.out.2.2.1 hb8, HE7.out.2.2.2.quiet hb8, hrow8⟩)
        clear b0 b1 b2
        have b0 := hbx8.cell 0
        have b1 := hbx8.cell 1
        have b2 := hbx8.cell 2
        simp only [List.getElem?_cons_zero, List.getElem?_cons_succ] at b0 b1 b2
        clear HE7 H8 hrow8 hb8 hbx8
        go_wp2_with fail
        go_loopw [22] (fun i wr => ∃ k : Nat, k ≤ L.1.length ∧ i = .int .i64 (k : Int) ∧ Below w8.heap.size w8 wr) (fun i _ => L.1.length - (intOf i).toNat)
        case atStart => exact ⟨0, Nat.zero_le _, rfl, Below.refl _ _⟩
        case round =>
          obtain ⟨k, hk, rfl, hlow9⟩ := hrel
          by_cases hlt9 : k < L.1.length
          · obtain ⟨xa, rfl, h1⟩ := (HE8.out.2.2.2.1.quiet hlow9) k hlt9
            obtain ⟨xb, rfl, h2⟩ := (HE8.out.2.2.2.2.quiet hlow9) k hlt9
            have c1 := h1 0 _ rfl
            have c2 := h2 0 _ rfl
            rw [Nat.mul_one, Nat.add_zero] at c1 c2
            have hlt9' : decide ((k : Int) < (L.1.length : Int)) = true := decide_eq_true (by omega)
            obtain ⟨v9, hv9⟩ : ∃ v, v = L.1[k] := ⟨_, rfl⟩
            rw [← hv9] at c1 c2
            have k0 : (0 : Int) ≤ (k : Int) := by omega
            have k1 : (k : Int) < (L.1.length : Int) := by omega
            have k2 : L.1.length ≤ 1000000 := HLN.out
            clear hv9 h1 h2
            go_wp2_with fail
            go_quiet (fail)
            go_wp2_with fail
            go_roundw
            case rel => exact ⟨k + 1, by omega, by go_num, below_drewN hlow9 _⟩
            case measure => simp [intOf]; omega
          · obtain rfl : k = L.1.length := by omega
            have hlt9' : decide ((L.1.length : Int) < (L.1.length : Int)) = false := decide_eq_false (by omega)
            have HE8 := hid (show Lay wr l p T gs ∧ Both wr m g rm rg s ∧ Below w0.heap.size w0 wr ∧ RowOf (encI .i64) 1 wr a7 L.1 ∧ RowOf (encI .i64) 1 wr a8 L.1 from ⟨HE8.out.1.quiet hlow9, HE8.out.2.1.quiet hlow9, Below.then_ HE8.out.2.2.1 hlow9, HE8.out.2.2.2.1.quiet hlow9, HE8.out.2.2.2.2.quiet hlow9⟩)
            obtain ⟨w8, hw8⟩ : ∃ z, z = wr := ⟨_, rfl⟩
            rw [← hw8] at HE8 ⊢
            clear hw8 hlow9
            have hlow6d : Below w0.heap.size w0 w8.drew := HE8.out.2.2.1.drew
            have hq8 : Below w8.heap.size w8 w8.drew := below_drewN (Below.refl _ w8) 1
            have hB6 : Both w8.drew m g rm rg s := HE8.out.2.1.quiet hq8
            have hlen : s.ws.length ≤ 1000000 := hB6.mem.len
            obtain ⟨cap, spare, e1, e2, e3⟩ := hB6.rmem.ex
            have c0 := e1.cell 0
            simp only [headOf, List.getElem?_cons_zero, List.getElem?_cons_succ] at c0
            have hrow := hid (row_of_blk e2)
            have hrl : rm < w8.drew.heap.size := cell_lt c0
            have HB6 := hid hB6
            have HXD := hid (show Lay w8.drew l p T gs ∧ RowOf (encI .i64) 1 w8.drew a7 L.1 ∧ RowOf (encI .i64) 1 w8.drew a8 L.1 from ⟨HE8.out.1.quiet hq8, HE8.out.2.2.2.1.quiet hq8, HE8.out.2.2.2.2.quiet hq8⟩)
            clear hB6 e1 e2 e3 HE8 hq8
            go_wp2_with fail
            have HB : Below w8.drew.heap.size w8.drew w8.drew := Below.refl _ _
            go_region_held3 (fun w' => w'.cell? ⟨rm, 0, none⟩ = some (.slice (some ⟨rg, 0, none⟩) s.ws.length cap)) (exact (HB.cell (p := ⟨rm, 0, none⟩) hrl).trans c0) (first | (go_at_call 39; (refine (awake_run _).mono ?_); rintro e w' ⟨rfl, hb⟩; replace HB := Below.then_ HB hb; clear hb) | (go_at_call 55; (refine (mwords_run m g s _ (HB6.out.mem.quiet HB)).mono ?_); rintro e w' ⟨v, b, rfl, hbb, ⟨cap2, spare2, rfl, hcap2, hblk⟩, hb⟩; have hrow2 := hid (row_of_blk hblk); replace HB := Below.then_ HB hb; clear hb hbb hblk hcap2) | (go_at_call 54; (refine (same_run ⟨b, 0, none⟩ ⟨rg, 0, none⟩ cap2 cap s.ws _ hrow2.out (hrow.out.quiet HB) hlen).mono ?_); rintro e w' ⟨rfl, hb⟩; replace HB := Below.then_ HB hb; clear hb) | (go_at_call 65; (refine (Idlem.same12_run a7 a8 c7 c8 L.1 _ (HXD.out.2.1.quiet HB) (HXD.out.2.2.quiet HB) HLN.out).mono ?_); rintro e w' ⟨rfl, hb⟩; replace HB := Below.then_ HB hb; clear hb) | (fail))
            all_goals go_wp2
            all_goals go_ret
            all_goals exact ⟨rfl, HW0.out.trans ((Below.then_ hlow6d HB).mono HW0.out.size)⟩
      have hlt' : decide ((n : Int) < (pokes.length : Int)) = true := decide_eq_true (by omega)
      obtain ⟨xa, rfl, hx⟩ := HPR.out.quiet hI.low n hlt
      have x0 := hx 0 _ rfl
      have x1 := hx 1 _ rfl
      have x2 := hx 2 _ rfl
      have x3 := hx 3 _ rfl
      have x4 := hx 4 _ rfl
      have x5 := hx 5 _ rfl
      have hnew := HPK.out pokes[n] (List.getElem_mem hlt)
      obtain ⟨⟨sp, act⟩, hq⟩ : ∃ q : PokeT, q = pokes[n] := ⟨_, rfl⟩
      rw [← hq] at x0 x1 x2 x3 x4 x5 hnew
      rw [add_next] at x1 x2 x3 x4 x5
      simp only [Nat.add_zero, Nat.zero_add, Nat.reduceAdd] at x0 x1 x2 x3 x4 x5 hnew
      clear hq hx
      have n0 : (0 : Int) ≤ (n : Int) := by omega
      have n1 : (n : Int) < (pokes.length : Int) := by omega
      have HI := hid hI
      have HNEW := hid hnew
      obtain ⟨a2, c2, hv, _, _, _⟩ := hI.grow.row encI_len
      subst hv
      have HCB := hid (show s.clock < 1000000 ∧ s.bad < 1000000 by have := hI.clock; omega)
      have HGL := hid (show got.length ≤ 100000 by have := hI.len; omega)
      clear hI hnew
      cases sp with
      | false =>
        go_wp2_with fail
        refine (do_run m g rm rg s act wr HI.out.both HNEW.out HCB.out.1 HCB.out.2).mono ?_
        rintro e w4 ⟨⟨ret, rfl⟩, hB4, hK4⟩
        have hI4 := HI.out.poke (m2_of (K := ggM w0.heap.size l p T gs who) (lo := w0.heap.size) (l := l) (p := p) (t := T) (g := gs) (who := who) (x := x) (fun y _ => gg_goes w0.heap.size l y p T gs who HWHO.out (by have := HPT1.out; omega)) (gg_own w0.heap.size l p T gs who)) hB4 hK4 ⟨(act_clock act s).1, (act_clock act s).2.1⟩
        clear HI hB4 hK4 x0 x1 x2 x3 x4 x5
        go_wp2_with fail
        go_roundw
        case rel => exact ⟨n + 1, _, _, _, by omega, by go_num, hI4⟩
        case measure => simp [intOf]; omega
      | true =>
        clear x1 x2 x3 x4 x5
        go_upto_region 12 with fail
        have hRun0 : RunAt (wr.alloc (.cells (runCells (.slice a2 got.length c2) (runU got 0)).toArray 84)) B wr.heap.size (.slice a2 got.length c2) (runU got 0) := ⟨Blk.new wr _ _, HI.out.grow.quiet (below_one _ _), Nat.zero_le _, HGL.out⟩
        have hI4 := HI.out.quiet (m2_of (K := ggM w0.heap.size l p T gs who) (lo := w0.heap.size) (l := l) (p := p) (t := T) (g := gs) (who := who) (x := x) (fun y _ => gg_goes w0.heap.size l y p T gs who HWHO.out (by have := HPT1.out; omega)) (gg_own w0.heap.size l p T gs who)) (below_one wr (.cells (runCells (.slice a2 got.length c2) (runU got 0)).toArray 84))
        have hrB := HI.out.size
        simp only [runCells, runU] at hRun0 hI4
        obtain ⟨w4, hw4⟩ : ∃ w4, w4 = wr.alloc (.cells #[.slice a2 got.length c2, .int .i64 0, .bool false, .int .i64 0, .int .i64 0, .int .i64 0, .int .u64 0, .int .u64 0, .bool false, .bool false] 84) := ⟨_, rfl⟩
        have hRun : RunAt w4 B wr.heap.size (.slice a2 got.length c2) (runU got 0) := by rw [hw4]; exact hRun0
        have hI4 : SI (ggM w0.heap.size l p T gs who).sys ((ggM w0.heap.size l p T gs who).at_ w0.heap.size l x p T gs who) (.acq .ask) w0 w4 B m g rm rg st s (.slice a2 got.length c2) got n := by rw [hw4]; exact hI4
        rw [← hw4]
        clear hRun0 hw4 HI x0
        obtain ⟨r, hr⟩ : ∃ r, r = wr.heap.size := ⟨_, rfl⟩
        rw [← hr] at hRun hrB ⊢
        clear hr
        have hrb := hRun.blk
        have HI4 := hid hI4
        have HRUN := hid hRun
        clear hI4 hRun
        have hbx4 := HBX.out.quiet HI4.out.low
        have b0 := hbx4.cell 0
        have b1 := hbx4.cell 1
        have b2 := hbx4.cell 2
        simp only [List.getElem?_cons_zero, List.getElem?_cons_succ] at b0 b1 b2
        clear hbx4
        go_wp2_with fail
        refine (rget11_run p T gs who B r _ (runU got 0) got (.acq .ask) w4 HRUN.out (Fits.start HI4.out.rng) (fun _ => rfl) ⟨HPT.out.1, by have := HPT.out; have := HPT1.out; omega, by have := HPT1.out; omega⟩ (by have := HPT1.out; omega) HWHO.out).mono ?_
        rintro e w5 ⟨gt, hd, b, s1, rfl, hRun5, hK5, hran, hfit, hfin, hq1⟩; replace hran : Ran (ggM w0.heap.size l p T gs who).sys _ _ _ _ _ := hran; replace hfin : b.stop = false → (ggM w0.heap.size l p T gs who).sys.want s1 = none := hfin
        obtain ⟨e1, e2⟩ := hran.ends rfl (Nat.zero_le _) (by simpa using HI4.out.path) hfin
        have e1 := e1.symm
        subst e1
        subst e2
        have HI5 := hid (HI4.out.side (m2_of (K := ggM w0.heap.size l p T gs who) (lo := w0.heap.size) (l := l) (p := p) (t := T) (g := gs) (who := who) (x := x) (fun y _ => gg_goes w0.heap.size l y p T gs who HWHO.out (by have := HPT1.out; omega)) (gg_own w0.heap.size l p T gs who)) hK5 hrB hrb)
        (have hq2 := hq1 rfl; clear hq1)
        clear HI4 HRUN hK5 hran hfit hfin b0 b1 b2 hrb
        cases hd with
        | true =>
          have HQT := hid (show ggG st = nOf gt from hq2)
          have m1 : IntKind.i64.wrap (IntKind.i64.wrap gt - 1) = nOf gt := rfl
          have m2 : wrap64 (wrap64 gt - 1) = nOf gt := by unfold nOf; simp only [IntWalk.i64_left]
          clear hq2
          cases hWant : (ggM w0.heap.size l p T gs who).sys.want st with
          | none =>
            have e5 : endOf (ggM w0.heap.size l p T gs who).sys got st = runU got got.length := by unfold endOf; rw [hWant]
            rw [e5] at hRun5
            have HOV := hid (show ((ggM w0.heap.size l p T gs who).sys.want st).isNone = true by rw [hWant]; rfl)
            have HST := hid (show stepOf (ggM w0.heap.size l p T gs who).sys who st s = (st, s) by unfold stepOf; rw [hWant])
            clear hWant e5
            have hb5 := hRun5.blk
            simp only [runCells, stop0, runU, Wnt.acc] at hb5
            have HRUN := hid hRun5
            have HI := (Inv.nil w5).add hb5
            clear hRun5 hb5
            go_wp2_with fail
            (((first | refine wp_region_I HI (by kernel_rfl) (by kernel_rfl) (by kernel_rfl) ?_ | refine wpList_I0 HI (by kernel_rfl) rfl rfl ?_); (repeat (first | (apply walkD_pure; rfl; rfl; (intro _; go_simp; first | done | rfl); (intro K hK; go_simp; refine hK _ ?_; clear hK K)) | (apply walkD_skip; rfl; rfl; (intro K hK; go_simp; refine hK _ ?_; clear hK K)) | (apply walkD_read; rfl; rfl; (intro bs hbs w' hD; have y2 := hD.cell 0 2 rfl rfl; have y9 := hD.cell 0 9 rfl rfl; go_simp; rfl); (intro K hK; go_simp; refine hK _ ?_; clear hK K)) | (apply walkD_call; rfl; (intro _; go_simp; first | rfl | exact ⟨rfl, rfl⟩); (intro bs hbs w' hD; first | (go_at_call 50; have q := m2_doneL gg_thruD (gg_goes w0.heap.size l x p T gs who HWHO.out (by have := HPT1.out; omega)) ((m2_of (K := ggM w0.heap.size l p T gs who) (lo := w0.heap.size) (l := l) (p := p) (t := T) (g := gs) (who := who) (x := x) (fun y _ => gg_goes w0.heap.size l y p T gs who HWHO.out (by have := HPT1.out; omega)) (gg_own w0.heap.size l p T gs who)).quiet HI5.out.mach hD.low); rw [HOV.out] at q; refine q.mono ?_; rintro e w2 ⟨rfl, rfl⟩; exact ⟨rfl, hD⟩) | (go_at_call 43; have q := gg_g_run ((m2_of (K := ggM w0.heap.size l p T gs who) (lo := w0.heap.size) (l := l) (p := p) (t := T) (g := gs) (who := who) (x := x) (fun y _ => gg_goes w0.heap.size l y p T gs who HWHO.out (by have := HPT1.out; omega)) (gg_own w0.heap.size l p T gs who)).quiet HI5.out.mach hD.low); rw [HQT.out] at q; refine q.mono ?_; rintro e w2 ⟨rfl, rfl⟩; exact ⟨rfl, hD⟩)); (intro K hK; go_simp; refine hK _ ?_; clear hK K)))); clear HI; intro wz HI; have hD := HI; have y2 := hD.cell 0 2 rfl rfl; have y9 := hD.cell 0 9 rfl rfl; clear hD))
            have hq6 := HI.low
            have HI6 := hid (HI5.out.quiet (m2_of (K := ggM w0.heap.size l p T gs who) (lo := w0.heap.size) (l := l) (p := p) (t := T) (g := gs) (who := who) (x := x) (fun y _ => gg_goes w0.heap.size l y p T gs who HWHO.out (by have := HPT1.out; omega)) (gg_own w0.heap.size l p T gs who)) hq6)
            have hRun5 := HRUN.out.quiet hq6
            clear hq6 HI HI5 HRUN
            have d0 := hRun5.blk.cell 0
            have d1 := hRun5.blk.cell 1
            have d2 := hRun5.blk.cell 2
            have d3 := hRun5.blk.cell 3
            have d4 := hRun5.blk.cell 4
            have d5 := hRun5.blk.cell 5
            have d6 := hRun5.blk.cell 6
            have d7 := hRun5.blk.cell 7
            have d8 := hRun5.blk.cell 8
            have d9 := hRun5.blk.cell 9
            simp only [runCells, stop0, runU, Wnt.acc, List.getElem?_cons_zero, List.getElem?_cons_succ] at d0 d1 d2 d3 d4 d5 d6 d7 d8 d9
            clear hRun5
            go_wp2_with fail
            refine (turn_off B rm rg _ got s who _ HI6.out.grow HI6.out.both.rmem).mono ?_
            rintro e w7 ⟨rfl, hb7⟩
            have HI7 := hid (HI6.out.quiet (m2_of (K := ggM w0.heap.size l p T gs who) (lo := w0.heap.size) (l := l) (p := p) (t := T) (g := gs) (who := who) (x := x) (fun y _ => gg_goes w0.heap.size l y p T gs who HWHO.out (by have := HPT1.out; omega)) (gg_own w0.heap.size l p T gs who)) hb7)
            clear HI6 hb7 d0 d1 d2 d3 d4 d5 d6 d7 d8 d9
            go_wp2_with fail
            refine ((fun (w : World) => m2_stepL gg_thru (gg_goes w0.heap.size l x p T gs who HWHO.out (by have := HPT1.out; omega)) (st := st) (s := s) (w := w) (m := m) (mg := g)) w7 HI7.out.mach HI7.out.both.mem HCB.out.1 HCB.out.2).mono ?_
            rintro e w8 ⟨⟨bb, rfl⟩, hA8, hM8, hK8⟩
            rw [HST.out] at hA8 hM8
            have hI8 := SI.stepped (m2_of (K := ggM w0.heap.size l p T gs who) (lo := w0.heap.size) (l := l) (p := p) (t := T) (g := gs) (who := who) (x := x) (fun y _ => gg_goes w0.heap.size l y p T gs who HWHO.out (by have := HPT1.out; omega)) (gg_own w0.heap.size l p T gs who)) HI7.out HI7.out.low HI7.out.grow HI7.out.both.rmem (Nat.le_refl _) hA8 hM8 hK8 HI7.out.path HI7.out.rng (by have := HI7.out.len; omega) ⟨by omega, by omega⟩
            have HI8 := hid hI8
            clear hI8 hA8 hM8 hK8 HI7
            go_wp2_with fail
            refine (alike_run m g rm rg _ w8 HI8.out.both).mono ?_
            rintro e w9 ⟨rfl, hb9⟩
            have hI9 := HI8.out.quiet (m2_of (K := ggM w0.heap.size l p T gs who) (lo := w0.heap.size) (l := l) (p := p) (t := T) (g := gs) (who := who) (x := x) (fun y _ => gg_goes w0.heap.size l y p T gs who HWHO.out (by have := HPT1.out; omega)) (gg_own w0.heap.size l p T gs who)) hb9
            clear HI8 hb9
            go_wp2_with fail
            go_roundw
            case rel => exact ⟨n + 1, _, _, _, by omega, by go_num, hI9⟩
            case measure => simp [intOf]; omega
          | some W =>
            obtain ⟨kd, ad, o, nw, slp⟩ := W
            have hok := m2_wnt (gg_goes w0.heap.size l x p T gs who HWHO.out (by have := HPT1.out; omega)) HI5.out.mach hWant
            simp only at hok
            obtain ⟨rfl, hok1, hok2⟩ := hok
            have HOKW := hid (And.intro hok1 hok2)
            have e5 : endOf (ggM w0.heap.size l p T gs who).sys got st = stop0 got ⟨kd, ad, o, nw, false⟩ := by unfold endOf; rw [hWant]
            rw [e5] at hRun5
            have HOV := hid (show ((ggM w0.heap.size l p T gs who).sys.want st).isNone = false by rw [hWant]; rfl)
            have HWT := hid hWant
            have HTG := hid (show (false && decide ((s.peek ad).1 = 0)) = false from rfl)
            clear hWant e5 hok1 hok2
            have hb5 := hRun5.blk
            simp only [runCells, stop0, runU, Wnt.acc] at hb5
            have HRUN := hid hRun5
            have HI := (Inv.nil w5).add hb5
            clear hRun5 hb5
            go_wp2_with fail
            (((first | refine wp_region_I HI (by kernel_rfl) (by kernel_rfl) (by kernel_rfl) ?_ | refine wpList_I0 HI (by kernel_rfl) rfl rfl ?_); (repeat (first | (apply walkD_pure; rfl; rfl; (intro _; go_simp; first | done | rfl); (intro K hK; go_simp; refine hK _ ?_; clear hK K)) | (apply walkD_skip; rfl; rfl; (intro K hK; go_simp; refine hK _ ?_; clear hK K)) | (apply walkD_read; rfl; rfl; (intro bs hbs w' hD; have y2 := hD.cell 0 2 rfl rfl; have y9 := hD.cell 0 9 rfl rfl; go_simp; rfl); (intro K hK; go_simp; refine hK _ ?_; clear hK K)) | (apply walkD_call; rfl; (intro _; go_simp; first | rfl | exact ⟨rfl, rfl⟩); (intro bs hbs w' hD; first | (go_at_call 50; have q := m2_doneL gg_thruD (gg_goes w0.heap.size l x p T gs who HWHO.out (by have := HPT1.out; omega)) ((m2_of (K := ggM w0.heap.size l p T gs who) (lo := w0.heap.size) (l := l) (p := p) (t := T) (g := gs) (who := who) (x := x) (fun y _ => gg_goes w0.heap.size l y p T gs who HWHO.out (by have := HPT1.out; omega)) (gg_own w0.heap.size l p T gs who)).quiet HI5.out.mach hD.low); rw [HOV.out] at q; refine q.mono ?_; rintro e w2 ⟨rfl, rfl⟩; exact ⟨rfl, hD⟩) | (go_at_call 43; have q := gg_g_run ((m2_of (K := ggM w0.heap.size l p T gs who) (lo := w0.heap.size) (l := l) (p := p) (t := T) (g := gs) (who := who) (x := x) (fun y _ => gg_goes w0.heap.size l y p T gs who HWHO.out (by have := HPT1.out; omega)) (gg_own w0.heap.size l p T gs who)).quiet HI5.out.mach hD.low); rw [HQT.out] at q; refine q.mono ?_; rintro e w2 ⟨rfl, rfl⟩; exact ⟨rfl, hD⟩)); (intro K hK; go_simp; refine hK _ ?_; clear hK K)))); clear HI; intro wz HI; have hD := HI; have y2 := hD.cell 0 2 rfl rfl; have y9 := hD.cell 0 9 rfl rfl; clear hD))
            have hq6 := HI.low
            have HI6 := hid (HI5.out.quiet (m2_of (K := ggM w0.heap.size l p T gs who) (lo := w0.heap.size) (l := l) (p := p) (t := T) (g := gs) (who := who) (x := x) (fun y _ => gg_goes w0.heap.size l y p T gs who HWHO.out (by have := HPT1.out; omega)) (gg_own w0.heap.size l p T gs who)) hq6)
            have hRun5 := HRUN.out.quiet hq6
            clear hq6 HI HI5 HRUN
            have d0 := hRun5.blk.cell 0
            have d1 := hRun5.blk.cell 1
            have d2 := hRun5.blk.cell 2
            have d3 := hRun5.blk.cell 3
            have d4 := hRun5.blk.cell 4
            have d5 := hRun5.blk.cell 5
            have d6 := hRun5.blk.cell 6
            have d7 := hRun5.blk.cell 7
            have d8 := hRun5.blk.cell 8
            have d9 := hRun5.blk.cell 9
            simp only [runCells, stop0, runU, Wnt.acc, List.getElem?_cons_zero, List.getElem?_cons_succ] at d0 d1 d2 d3 d4 d5 d6 d7 d8 d9
            clear hRun5
            go_wp2_with fail
            refine (turn_go B rm rg _ got ⟨kd, _, o, nw, _⟩ s who _ HI6.out.grow HI6.out.both.rmem HTG.out HGL.out HOKW.out.1 HOKW.out.2 HCB.out.1 HCB.out.2 HI6.out.size HI6.out.ltB.2.2.1 HI6.out.ltB.2.2.2).mono ?_
            rintro e w7 ⟨v', rfl, hG7, hR7, hK7⟩
            have hs7 := hK7.size
            obtain ⟨hM7, hA7, hlow7⟩ := HI6.out.turn (m2_of (K := ggM w0.heap.size l p T gs who) (lo := w0.heap.size) (l := l) (p := p) (t := T) (g := gs) (who := who) (x := x) (fun y _ => gg_goes w0.heap.size l y p T gs who HWHO.out (by have := HPT1.out; omega)) (gg_own w0.heap.size l p T gs who)) hK7
            obtain ⟨a3, c3, rfl, _, _, _⟩ := hG7.row encI_len
            have HG7 := hid hG7
            have HR7 := hid hR7
            have HM7 := hid hM7
            have HA7 := hid hA7
            clear hG7 hR7 hM7 hA7 hK7 d0 d1 d2 d3 d4 d5 d6 d7 d8 d9
            go_wp2_with fail
            refine ((fun (w : World) => m2_stepL gg_thru (gg_goes w0.heap.size l x p T gs who HWHO.out (by have := HPT1.out; omega)) (st := st) (s := s) (w := w) (m := m) (mg := g)) w7 HA7.out HM7.out HCB.out.1 HCB.out.2).mono ?_
            rintro e w8 ⟨⟨bb, rfl⟩, hA8, hM8, hK8⟩
            have hst := stepOf_go (M := (ggM w0.heap.size l p T gs who).sys) (who := who) HWT.out HTG.out
            rw [hst] at hA8 hM8
            have hI8 := SI.stepped (m2_of (K := ggM w0.heap.size l p T gs who) (lo := w0.heap.size) (l := l) (p := p) (t := T) (g := gs) (who := who) (x := x) (fun y _ => gg_goes w0.heap.size l y p T gs who HWHO.out (by have := HPT1.out; omega)) (gg_own w0.heap.size l p T gs who)) HI6.out hlow7 HG7.out HR7.out hs7 hA8 hM8 hK8 (HI6.out.path.snoc (by rw [HWT.out]; simp)) (rng_snoc HI6.out.rng (acc_wf HI6.out.both.mem.wf kd who _ o HOKW.out.2).2) (by have := HI6.out.len; simp; omega) (acc_clock2 ..)
            have HI8 := hid hI8
            clear hI8 hA8 hM8 hK8 HG7 HR7 HM7 HA7 hs7 hlow7 hst
            go_wp2_with fail
            refine (alike_run m g rm rg _ w8 HI8.out.both).mono ?_
            rintro e w9 ⟨rfl, hb9⟩
            have hI9 := HI8.out.quiet (m2_of (K := ggM w0.heap.size l p T gs who) (lo := w0.heap.size) (l := l) (p := p) (t := T) (g := gs) (who := who) (x := x) (fun y _ => gg_goes w0.heap.size l y p T gs who HWHO.out (by have := HPT1.out; omega)) (gg_own w0.heap.size l p T gs who)) hb9
            rw [List.length_append, List.length_singleton] at hI9
            clear HI8 HI6 hb9
            go_wp2_with fail
            go_roundw
            case rel => exact ⟨n + 1, _, _, _, by omega, by go_num, hI9⟩
            case measure => simp [intOf]; omega
        | false =>
          have HQT := hid (show ggG st = -1 from hq2)
          clear hq2
          cases hWant : (ggM w0.heap.size l p T gs who).sys.want st with
          | none =>
            have e5 : endOf (ggM w0.heap.size l p T gs who).sys got st = runU got got.length := by unfold endOf; rw [hWant]
            rw [e5] at hRun5
            have HOV := hid (show ((ggM w0.heap.size l p T gs who).sys.want st).isNone = true by rw [hWant]; rfl)
            have HST := hid (show stepOf (ggM w0.heap.size l p T gs who).sys who st s = (st, s) by unfold stepOf; rw [hWant])
            clear hWant e5
            have hb5 := hRun5.blk
            simp only [runCells, stop0, runU, Wnt.acc] at hb5
            have HRUN := hid hRun5
            have HI := (Inv.nil w5).add hb5
            clear hRun5 hb5
            go_wp2_with fail
            (((first | refine wp_region_I HI (by kernel_rfl) (by kernel_rfl) (by kernel_rfl) ?_ | refine wpList_I0 HI (by kernel_rfl) rfl rfl ?_); (repeat (first | (apply walkD_pure; rfl; rfl; (intro _; go_simp; first | done | rfl); (intro K hK; go_simp; refine hK _ ?_; clear hK K)) | (apply walkD_skip; rfl; rfl; (intro K hK; go_simp; refine hK _ ?_; clear hK K)) | (apply walkD_read; rfl; rfl; (intro bs hbs w' hD; have y2 := hD.cell 0 2 rfl rfl; have y9 := hD.cell 0 9 rfl rfl; go_simp; rfl); (intro K hK; go_simp; refine hK _ ?_; clear hK K)) | (apply walkD_call; rfl; (intro _; go_simp; first | rfl | exact ⟨rfl, rfl⟩); (intro bs hbs w' hD; first | (go_at_call 50; have q := m2_doneL gg_thruD (gg_goes w0.heap.size l x p T gs who HWHO.out (by have := HPT1.out; omega)) ((m2_of (K := ggM w0.heap.size l p T gs who) (lo := w0.heap.size) (l := l) (p := p) (t := T) (g := gs) (who := who) (x := x) (fun y _ => gg_goes w0.heap.size l y p T gs who HWHO.out (by have := HPT1.out; omega)) (gg_own w0.heap.size l p T gs who)).quiet HI5.out.mach hD.low); rw [HOV.out] at q; refine q.mono ?_; rintro e w2 ⟨rfl, rfl⟩; exact ⟨rfl, hD⟩) | (go_at_call 43; have q := gg_g_run ((m2_of (K := ggM w0.heap.size l p T gs who) (lo := w0.heap.size) (l := l) (p := p) (t := T) (g := gs) (who := who) (x := x) (fun y _ => gg_goes w0.heap.size l y p T gs who HWHO.out (by have := HPT1.out; omega)) (gg_own w0.heap.size l p T gs who)).quiet HI5.out.mach hD.low); rw [HQT.out] at q; refine q.mono ?_; rintro e w2 ⟨rfl, rfl⟩; exact ⟨rfl, hD⟩)); (intro K hK; go_simp; refine hK _ ?_; clear hK K)))); clear HI; intro wz HI; have hD := HI; have y2 := hD.cell 0 2 rfl rfl; have y9 := hD.cell 0 9 rfl rfl; clear hD))
            have hq6 := HI.low
            have HI6 := hid (HI5.out.quiet (m2_of (K := ggM w0.heap.size l p T gs who) (lo := w0.heap.size) (l := l) (p := p) (t := T) (g := gs) (who := who) (x := x) (fun y _ => gg_goes w0.heap.size l y p T gs who HWHO.out (by have := HPT1.out; omega)) (gg_own w0.heap.size l p T gs who)) hq6)
            have hRun5 := HRUN.out.quiet hq6
            clear hq6 HI HI5 HRUN
            have d0 := hRun5.blk.cell 0
            have d1 := hRun5.blk.cell 1
            have d2 := hRun5.blk.cell 2
            have d3 := hRun5.blk.cell 3
            have d4 := hRun5.blk.cell 4
            have d5 := hRun5.blk.cell 5
            have d6 := hRun5.blk.cell 6
            have d7 := hRun5.blk.cell 7
            have d8 := hRun5.blk.cell 8
            have d9 := hRun5.blk.cell 9
            simp only [runCells, stop0, runU, Wnt.acc, List.getElem?_cons_zero, List.getElem?_cons_succ] at d0 d1 d2 d3 d4 d5 d6 d7 d8 d9
            clear hRun5
            go_wp2_with fail
            refine (turn_off B rm rg _ got s who _ HI6.out.grow HI6.out.both.rmem).mono ?_
            rintro e w7 ⟨rfl, hb7⟩
            have HI7 := hid (HI6.out.quiet (m2_of (K := ggM w0.heap.size l p T gs who) (lo := w0.heap.size) (l := l) (p := p) (t := T) (g := gs) (who := who) (x := x) (fun y _ => gg_goes w0.heap.size l y p T gs who HWHO.out (by have := HPT1.out; omega)) (gg_own w0.heap.size l p T gs who)) hb7)
            clear HI6 hb7 d0 d1 d2 d3 d4 d5 d6 d7 d8 d9
            go_wp2_with fail
            refine ((fun (w : World) => m2_stepL gg_thru (gg_goes w0.heap.size l x p T gs who HWHO.out (by have := HPT1.out; omega)) (st := st) (s := s) (w := w) (m := m) (mg := g)) w7 HI7.out.mach HI7.out.both.mem HCB.out.1 HCB.out.2).mono ?_
            rintro e w8 ⟨⟨bb, rfl⟩, hA8, hM8, hK8⟩
            rw [HST.out] at hA8 hM8
            have hI8 := SI.stepped (m2_of (K := ggM w0.heap.size l p T gs who) (lo := w0.heap.size) (l := l) (p := p) (t := T) (g := gs) (who := who) (x := x) (fun y _ => gg_goes w0.heap.size l y p T gs who HWHO.out (by have := HPT1.out; omega)) (gg_own w0.heap.size l p T gs who)) HI7.out HI7.out.low HI7.out.grow HI7.out.both.rmem (Nat.le_refl _) hA8 hM8 hK8 HI7.out.path HI7.out.rng (by have := HI7.out.len; omega) ⟨by omega, by omega⟩
            have HI8 := hid hI8
            clear hI8 hA8 hM8 hK8 HI7
            go_wp2_with fail
            refine (alike_run m g rm rg _ w8 HI8.out.both).mono ?_
            rintro e w9 ⟨rfl, hb9⟩
            have hI9 := HI8.out.quiet (m2_of (K := ggM w0.heap.size l p T gs who) (lo := w0.heap.size) (l := l) (p := p) (t := T) (g := gs) (who := who) (x := x) (fun y _ => gg_goes w0.heap.size l y p T gs who HWHO.out (by have := HPT1.out; omega)) (gg_own w0.heap.size l p T gs who)) hb9
            clear HI8 hb9
            go_wp2_with fail
            go_roundw
            case rel => exact ⟨n + 1, _, _, _, by omega, by go_num, hI9⟩
            case measure => simp [intOf]; omega
          | some W =>
            obtain ⟨kd, ad, o, nw, slp⟩ := W
            have hok := m2_wnt (gg_goes w0.heap.size l x p T gs who HWHO.out (by have := HPT1.out; omega)) HI5.out.mach hWant
            simp only at hok
            obtain ⟨rfl, hok1, hok2⟩ := hok
            have HOKW := hid (And.intro hok1 hok2)
            have e5 : endOf (ggM w0.heap.size l p T gs who).sys got st = stop0 got ⟨kd, ad, o, nw, false⟩ := by unfold endOf; rw [hWant]
            rw [e5] at hRun5
            have HOV := hid (show ((ggM w0.heap.size l p T gs who).sys.want st).isNone = false by rw [hWant]; rfl)
            have HWT := hid hWant
            have HTG := hid (show (false && decide ((s.peek ad).1 = 0)) = false from rfl)
            clear hWant e5 hok1 hok2
            have hb5 := hRun5.blk
            simp only [runCells, stop0, runU, Wnt.acc] at hb5
            have HRUN := hid hRun5
            have HI := (Inv.nil w5).add hb5
            clear hRun5 hb5
            go_wp2_with fail
            (((first | refine wp_region_I HI (by kernel_rfl) (by kernel_rfl) (by kernel_rfl) ?_ | refine wpList_I0 HI (by kernel_rfl) rfl rfl ?_); (repeat (first | (apply walkD_pure; rfl; rfl; (intro _; go_simp; first | done | rfl); (intro K hK; go_simp; refine hK _ ?_; clear hK K)) | (apply walkD_skip; rfl; rfl; (intro K hK; go_simp; refine hK _ ?_; clear hK K)) | (apply walkD_read; rfl; rfl; (intro bs hbs w' hD; have y2 := hD.cell 0 2 rfl rfl; have y9 := hD.cell 0 9 rfl rfl; go_simp; rfl); (intro K hK; go_simp; refine hK _ ?_; clear hK K)) | (apply walkD_call; rfl; (intro _; go_simp; first | rfl | exact ⟨rfl, rfl⟩); (intro bs hbs w' hD; first | (go_at_call 50; have q := m2_doneL gg_thruD (gg_goes w0.heap.size l x p T gs who HWHO.out (by have := HPT1.out; omega)) ((m2_of (K := ggM w0.heap.size l p T gs who) (lo := w0.heap.size) (l := l) (p := p) (t := T) (g := gs) (who := who) (x := x) (fun y _ => gg_goes w0.heap.size l y p T gs who HWHO.out (by have := HPT1.out; omega)) (gg_own w0.heap.size l p T gs who)).quiet HI5.out.mach hD.low); rw [HOV.out] at q; refine q.mono ?_; rintro e w2 ⟨rfl, rfl⟩; exact ⟨rfl, hD⟩) | (go_at_call 43; have q := gg_g_run ((m2_of (K := ggM w0.heap.size l p T gs who) (lo := w0.heap.size) (l := l) (p := p) (t := T) (g := gs) (who := who) (x := x) (fun y _ => gg_goes w0.heap.size l y p T gs who HWHO.out (by have := HPT1.out; omega)) (gg_own w0.heap.size l p T gs who)).quiet HI5.out.mach hD.low); rw [HQT.out] at q; refine q.mono ?_; rintro e w2 ⟨rfl, rfl⟩; exact ⟨rfl, hD⟩)); (intro K hK; go_simp; refine hK _ ?_; clear hK K)))); clear HI; intro wz HI; have hD := HI; have y2 := hD.cell 0 2 rfl rfl; have y9 := hD.cell 0 9 rfl rfl; clear hD))
            have hq6 := HI.low
            have HI6 := hid (HI5.out.quiet (m2_of (K := ggM w0.heap.size l p T gs who) (lo := w0.heap.size) (l := l) (p := p) (t := T) (g := gs) (who := who) (x := x) (fun y _ => gg_goes w0.heap.size l y p T gs who HWHO.out (by have := HPT1.out; omega)) (gg_own w0.heap.size l p T gs who)) hq6)
            have hRun5 := HRUN.out.quiet hq6
            clear hq6 HI HI5 HRUN
            have d0 := hRun5.blk.cell 0
            have d1 := hRun5.blk.cell 1
            have d2 := hRun5.blk.cell 2
            have d3 := hRun5.blk.cell 3
            have d4 := hRun5.blk.cell 4
            have d5 := hRun5.blk.cell 5
            have d6 := hRun5.blk.cell 6
            have d7 := hRun5.blk.cell 7
            have d8 := hRun5.blk.cell 8
            have d9 := hRun5.blk.cell 9
            simp only [runCells, stop0, runU, Wnt.acc, List.getElem?_cons_zero, List.getElem?_cons_succ] at d0 d1 d2 d3 d4 d5 d6 d7 d8 d9
            clear hRun5
            go_wp2_with fail
            refine (turn_go B rm rg _ got ⟨kd, _, o, nw, _⟩ s who _ HI6.out.grow HI6.out.both.rmem HTG.out HGL.out HOKW.out.1 HOKW.out.2 HCB.out.1 HCB.out.2 HI6.out.size HI6.out.ltB.2.2.1 HI6.out.ltB.2.2.2).mono ?_
            rintro e w7 ⟨v', rfl, hG7, hR7, hK7⟩
            have hs7 := hK7.size
            obtain ⟨hM7, hA7, hlow7⟩ := HI6.out.turn (m2_of (K := ggM w0.heap.size l p T gs who) (lo := w0.heap.size) (l := l) (p := p) (t := T) (g := gs) (who := who) (x := x) (fun y _ => gg_goes w0.heap.size l y p T gs who HWHO.out (by have := HPT1.out; omega)) (gg_own w0.heap.size l p T gs who)) hK7
            obtain ⟨a3, c3, rfl, _, _, _⟩ := hG7.row encI_len
            have HG7 := hid hG7
            have HR7 := hid hR7
            have HM7 := hid hM7
            have HA7 := hid hA7
            clear hG7 hR7 hM7 hA7 hK7 d0 d1 d2 d3 d4 d5 d6 d7 d8 d9
            go_wp2_with fail
            refine ((fun (w : World) => m2_stepL gg_thru (gg_goes w0.heap.size l x p T gs who HWHO.out (by have := HPT1.out; omega)) (st := st) (s := s) (w := w) (m := m) (mg := g)) w7 HA7.out HM7.out HCB.out.1 HCB.out.2).mono ?_
            rintro e w8 ⟨⟨bb, rfl⟩, hA8, hM8, hK8⟩
            have hst := stepOf_go (M := (ggM w0.heap.size l p T gs who).sys) (who := who) HWT.out HTG.out
            rw [hst] at hA8 hM8
            have hI8 := SI.stepped (m2_of (K := ggM w0.heap.size l p T gs who) (lo := w0.heap.size) (l := l) (p := p) (t := T) (g := gs) (who := who) (x := x) (fun y _ => gg_goes w0.heap.size l y p T gs who HWHO.out (by have := HPT1.out; omega)) (gg_own w0.heap.size l p T gs who)) HI6.out hlow7 HG7.out HR7.out hs7 hA8 hM8 hK8 (HI6.out.path.snoc (by rw [HWT.out]; simp)) (rng_snoc HI6.out.rng (acc_wf HI6.out.both.mem.wf kd who _ o HOKW.out.2).2) (by have := HI6.out.len; simp; omega) (acc_clock2 ..)
            have HI8 := hid hI8
            clear hI8 hA8 hM8 hK8 HG7 HR7 HM7 HA7 hs7 hlow7 hst
            go_wp2_with fail
            refine (alike_run m g rm rg _ w8 HI8.out.both).mono ?_
            rintro e w9 ⟨rfl, hb9⟩
            have hI9 := HI8.out.quiet (m2_of (K := ggM w0.heap.size l p T gs who) (lo := w0.heap.size) (l := l) (p := p) (t := T) (g := gs) (who := who) (x := x) (fun y _ => gg_goes w0.heap.size l y p T gs who HWHO.out (by have := HPT1.out; omega)) (gg_own w0.heap.size l p T gs who)) hb9
            rw [List.length_append, List.length_singleton] at hI9
            clear HI8 HI6 hb9
            go_wp2_with fail
            go_roundw
            case rel => exact ⟨n + 1, _, _, _, by omega, by go_num, hI9⟩
            case measure => simp [intOf]; omega
  · have HF := hid (show ¬ FewP p T gs ∨ 400 < puts.length by
      by_cases h : FewP p T gs
      · right
        have : ¬ puts.length ≤ 400 := fun h2 => hf ⟨h, h2⟩
        omega
      · exact .inl h)
    clear hf
    go_enter Try.func7, Try.ntmps7
    go_wp2_with fail
    refine (lay_no p T gs a puts.length c _ HF.out).mono ?_
    rintro e w1 ⟨rfl, hb⟩
    have hlow1 : Below w.heap.size w w1 := hbb.trans (hb.mono (by simp))
    clear hb hbox hbb
    (go_wp2_with (first | (go_at_call 39; refine (awake_run _).mono ?_; rintro e w9 ⟨rfl, hb9⟩)); go_ret; exact ⟨rfl, hlow1.trans (hb9.mono hlow1.size)⟩)
end Go.Proofs.Ytncmajflakkibaa.Gfree
