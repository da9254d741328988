/- The walk of NoteWakes. -/
import Derived.Test.YtokpgbocomhpiaaNoteRef
import Derived.Test.YtokpgbocomhpiaaNoteKeepsW
import Derived.Deep.DeepCutAuto
set_option maxRecDepth 100000
set_option maxHeartbeats 4000000
set_option linter.unusedVariables false
set_option linter.unusedSimpArgs false
namespace Go.Proofs.Ytokpgbocomhpiaa.Run
open Go.RowKit Go.Shelf Go.Proofs.Ytokpgbocomhpiaa.TK Go.Proofs.Ytokpgbocomhpiaa.Read Go.Proofs.Ytokpgbocomhpiaa.Mem
/-- A ground that came in. -/
theorem ground_of {w : World} {cs : List Value} (h : AllL w [.base (.int .i64), .base (.int .i64), .base (.int .i64), .row [.int .i64, .int .u64]] cs) :
    ∃ p T gs a c, ∃ puts : List PutT, cs = [.int .i64 p, .int .i64 T, .int .i64 gs, .slice a puts.length c] ∧ RowOf encP 2 w a puts ∧ (∀ q ∈ puts, 0 ≤ q.2 ∧ q.2 < 18446744073709551616) := by
  obtain ⟨v0, r0, rfl, h0, h⟩ := AllL_cons h
  obtain ⟨v1, r1, rfl, h1, h⟩ := AllL_cons h
  obtain ⟨v2, r2, rfl, h2, h⟩ := AllL_cons h
  obtain ⟨v3, r3, rfl, h3, h⟩ := AllL_cons h
  obtain rfl := AllL_nil h
  obtain ⟨p, rfl, _⟩ := h0
  obtain ⟨T, rfl, _⟩ := h1
  obtain ⟨gs, rfl, _⟩ := h2
  obtain ⟨a, c, puts, rfl, hr, hok, _⟩ := rows_of encP (fun q => 0 ≤ q.2 ∧ q.2 < 18446744073709551616) h3 (fun cs h => by
    obtain ⟨x, r, rfl, hx, h⟩ := AllB_cons h
    obtain ⟨y, r', rfl, hy, h⟩ := AllB_cons h
    obtain rfl := AllB_nil h
    obtain ⟨i, rfl, _⟩ := hx
    obtain ⟨u, rfl, hu⟩ := hy
    exact ⟨(i, u), rfl, wf_u64 hu⟩)
  exact ⟨p, T, gs, a, c, puts, rfl, hr, hok⟩
end Go.Proofs.Ytokpgbocomhpiaa.Run
namespace Go.Proofs.Ytokpgbocomhpiaa.Note
open Go.RowKit Go.Shelf Go.Proofs.Ytokpgbocomhpiaa.TK Go.Proofs.Ytokpgbocomhpiaa.Flag Go.Proofs.Ytokpgbocomhpiaa.Words Go.Proofs.Ytokpgbocomhpiaa.Mem Go.Proofs.Ytokpgbocomhpiaa.Flow Go.Proofs.Ytokpgbocomhpiaa.Layout Go.Proofs.Ytokpgbocomhpiaa.Run Go.Proofs.Ytokpgbocomhpiaa.Lock Go.Proofs.Ytokpgbocomhpiaa.Read Go.Proofs.Ytokpgbocomhpiaa.Grow
theorem layW_len (n : Nat) (puts : List PutT) : (layW n puts).length = n := layTo_len n puts puts.length
theorem nt_at {p T gs t : Int} (puts : List PutT) (h : FewP p T gs) (ht : 0 ≤ t ∧ t < T) : nt p T t = 20 + 264 * p + 3 * t + 0 ∧ (fresh (layW (lenOf p T gs) puts)).inr (nt p T t) = true := by
  unfold FewP Right at h
  have e : nt p T t = 20 + 264 * p + 3 * t + 0 := by unfold nt placeN; rw [if_pos (by simp; omega)]; omega
  refine ⟨e, ?_⟩
  rw [e]
  unfold fresh St.inr
  simp only [layW_len, lenOf, decide_eq_true_eq]
  omega
theorem WkAt.kept {w w' : World} {x : Nat} {a who : Int} {st : Bool} {S : List Nat} (h : WkAt w x a who st) (hk : Kept S w w') (hx : x ∉ S) (hS : ∀ i ∈ S, ∀ cs, ¬ Blk w i cs 1) : WkAt w' x a who st := by
  cases st with
  | false => obtain ⟨b, h, h2⟩ := h; exact ⟨b, h.kept hk hx, h2.kept hk (fun hb => hS b hb _ h2)⟩
  | true => exact FlAt.kept h hk hx
theorem WkAt.quiet {w w' : World} {x : Nat} {a who : Int} (h : WkAt w x a who true) (hb : Below w.heap.size w w') : WkAt w' x a who true := FlAt.quiet h hb
def run0 (got : List Int) : RunSt := ⟨got, 0, false, ⟨0, 0, 0, 0, 0, false⟩, false⟩
theorem wakes_walk (w : World) (cs : List Value) (hcs : AllL w [.base (.int .i64), .base (.int .i64), .base (.int .i64), .row [.int .i64, .int .u64]] cs) (t : Int) (wt : (Lit.int .i64 t).wf = true) (who : Int) (ww : (Lit.int .i64 who).wf = true) :
    Calls Try.prog 8 #[.agg cs.toArray, .int .i64 t, .int .i64 who] w fun e w' => e = .returned (.bool true) ∧ Below w.heap.size w w' := by
  obtain ⟨p, T, gs, a, c, puts, rfl, hr, hok⟩ := ground_of hcs
  clear hcs wt ww
  have hbox := Blk.new w [.int .i64 p, .int .i64 T, .int .i64 gs, .slice a puts.length c] 39
  have hr1 := hid (hr.quiet (below_one w (.cells #[.int .i64 p, .int .i64 T, .int .i64 gs, .slice a puts.length c] 39)))
  have HOK := hid hok
  clear hr hok
  by_cases hf : FewP p T gs ∧ puts.length ≤ 400
  · obtain ⟨hf, hn⟩ := hf
    have HF := hid hf
    have HN := hid hn
    clear hf hn
    go_enter Try.func8, Try.ntmps8
    go_wp2_with fail
    refine (lay_yes p T gs a c puts _ HF.out HN.out hr1.out HOK.out).mono ?_
    rintro e w1 ⟨l, m, g, rm, rg, rfl, hL⟩
    have hbox1 := hbox.quiet hL.low
    have b1 := hbox1.cell 1
    have b0 := hbox1.cell 0
    have b2 := hbox1.cell 2
    simp only [List.getElem?_cons_zero, List.getElem?_cons_succ] at b0 b1 b2
    have hlow1 : Below w.heap.size w w1 := (below_one w _).trans (hL.low.mono (by simp))
    have HL := hid hL
    clear hbox hL
    by_cases ht : 0 ≤ t ∧ t < T
    · have HT := hid ht
      have d1 : decide (t < 0) = false := decide_eq_false (by omega)
      have d2 : decide (T ≤ t) = false := decide_eq_false (by omega)
      clear ht
      (go_wp2_with (first | (go_at_call 37; refine (ndone_nil _).mono ?_; rintro e w9 ⟨rfl, rfl⟩) | (go_at_call 34; refine (nstep_nil _ _).mono ?_; rintro e w9 ⟨rfl, rfl⟩) | (go_at_call 36; refine (nasleep_nil _ _).mono ?_; rintro e w9 ⟨rfl, rfl⟩) | (go_at_call 53; refine (wdone_nil _).mono ?_; rintro e w9 ⟨rfl, rfl⟩) | (go_at_call 39; refine (wstep_nil _ _).mono ?_; rintro e w9 ⟨rfl, rfl⟩) | (go_at_call 31; refine (awake_run _).mono ?_; rintro e w9 ⟨rfl, hb9⟩)))
      refine (nwake_run l p T gs t who w1 HL.out.lay).mono ?_
      rintro e w2 ⟨rfl, hW, hb⟩
      have hL2 := hid (show Both w2 m g rm rg (fresh (layW (lenOf p T gs) puts)) ∧ Lay w2 l p T gs from ⟨⟨HL.out.mem.quiet hb, HL.out.rmem.quiet hb, by have := HL.out.ord; omega, by have := HL.out.ord; omega⟩, HL.out.lay.quiet hb⟩)
      have hbox2 := hbox1.quiet hb
      have hlow2 := hlow1.trans (hb.mono hlow1.size)
      have hy := hlow1.size
      obtain ⟨y, hyd⟩ : ∃ y, y = w1.heap.size := ⟨_, rfl⟩
      rw [← hyd] at hW hy ⊢
      clear hyd hb hbox1 b0 b1 b2
      have b0 := hbox2.cell 0
      have b1 := hbox2.cell 1
      have b2 := hbox2.cell 2
      simp only [List.getElem?_cons_zero, List.getElem?_cons_succ] at b0 b1 b2
      have hlt := hbox2.lt
      go_upto_region 10 with fail
      have hRun0 : RunAt (w2.alloc (.cells (runCells (.slice none 0 0) (run0 [])).toArray 69)) w2.heap.size w2.heap.size (.slice none 0 0) (run0 []) := ⟨Blk.new w2 _ _, Grow.nil _ _ _ _ _, Nat.le_refl _, by simp [run0]⟩
      have hb3 := below_one w2 (.cells (runCells (.slice none 0 0) (run0 [])).toArray 69)
      simp only [runCells, run0, List.length_nil] at hRun0 hb3
      obtain ⟨w3, hw3⟩ : ∃ w3, w3 = w2.alloc (.cells #[.slice none 0 0, .int .i64 0, .bool false, .int .i64 0, .int .i64 0, .int .i64 0, .int .u64 0, .int .u64 0, .bool false, .bool false] 69) := ⟨_, rfl⟩
      have hRun : RunAt w3 w2.heap.size w2.heap.size (.slice none 0 0) (run0 []) := by rw [hw3]; exact hRun0
      have hb3 : Below w2.heap.size w2 w3 := by rw [hw3]; exact hb3
      rw [← hw3]
      clear hRun0 hw3 b0 b1 b2 hlt
      obtain ⟨r, hr⟩ : ∃ r, r = w2.heap.size := ⟨_, rfl⟩
      have hrs : w.heap.size ≤ r := by rw [hr]; exact hlow2.size
      have hrx : y < r ∧ m < r ∧ g < r ∧ rm < r ∧ rg < r ∧ l < r ∧ w.heap.size < r := by
        obtain ⟨_, q, _⟩ := hW
        rw [hr]
        exact ⟨q.lt, hL2.out.1.mem.ltm, hL2.out.1.mem.ltg, hL2.out.1.rmem.ltm, hL2.out.1.rmem.ltg, hL2.out.2.1.lt, hbox2.lt⟩
      have hr3 : r ≤ w3.heap.size := by rw [hr]; exact hb3.size
      have hL3 := hid (show Both w3 m g rm rg (fresh (layW (lenOf p T gs) puts)) ∧ Lay w3 l p T gs from ⟨hL2.out.1.quiet hb3, hL2.out.2.quiet hb3⟩)
      have hW3 : WkAt w3 y (nt p T t) who false := WkAt.kept hW (Kept.of_below hb3 []) (by simp) (by simp)
      have hlow3 := hlow2.trans (hb3.mono hlow2.size)
      have hbox3 := hbox2.quiet hb3
      rw [← hr] at hRun ⊢
      clear hr hL2 hW hlow2 hbox2 hb3
      have b0 := hbox3.cell 0
      have b1 := hbox3.cell 1
      have b2 := hbox3.cell 2
      simp only [List.getElem?_cons_zero, List.getElem?_cons_succ] at b0 b1 b2
      go_wp2_with fail
      refine (rwake_run r r _ _ p T gs t w3 hRun (by have := HF.out; unfold FewP Right at this; omega) HT.out (by have := HF.out; unfold FewP Right at this; omega)).mono ?_
      rintro e w4 ⟨rfl, hRun4, hK4⟩
      obtain ⟨hea, hin⟩ := nt_at puts HF.out HT.out
      obtain ⟨A, hA⟩ : ∃ A, A = nt p T t := ⟨_, rfl⟩
      rw [← hA] at hea hin hW3
      have hst : ((run0 []).dox ⟨2, 0, 20 + 264 * p + 3 * t, 0, 1, false⟩).1 = ⟨[], 0, true, ⟨2, 0, A, 0, 1, false⟩, false⟩ := by rw [show 20 + 264 * p + 3 * t = A by omega]; rfl
      rw [hst] at hRun4
      have hW4 : WkAt w4 y A who false := hW3.kept hK4 (by simp; omega) (by
        intro i hi
        simp at hi
        subst hi
        exact blk_not hRun.blk (by decide))
      have hM4 := hL3.out.1.mem.kept hK4 (by simp; omega) (by simp; omega)
      have hR4 := hL3.out.1.rmem.kept hK4 (by simp; omega) (by simp; omega)
      have hLay4 := hL3.out.2.kept hK4 (by simp; omega)
      have hlow4 := below_kept hlow3 hK4 (by simp; omega) hlow3.size
      have hr4 := Nat.le_trans hr3 hK4.size
      obtain ⟨s0, hs0⟩ : ∃ s0, s0 = fresh (layW (lenOf p T gs) puts) := ⟨_, rfl⟩
      have z1 : s0.clock = 0 := by rw [hs0]; rfl
      have z2 : s0.bad = 0 := by rw [hs0]; rfl
      rw [← hs0] at hin hM4 hR4
      obtain ⟨p1, p2, p3, p4⟩ := acc_put hin who 1
      have hv1 : decide ((((s0.acc 2 who A 0 1).1.peek A).1) ≠ 0) = true := by rw [peek_in p1, p2]; rfl
      have hq1 : m ≠ rg ∧ g ≠ rg := ⟨hL3.out.1.n1, hL3.out.1.n2⟩
      have hqm := hL3.out.1.neR
      have c0 := hRun4.blk.cell 0
      have c1 := hRun4.blk.cell 1
      have c2 := hRun4.blk.cell 2
      have c3 := hRun4.blk.cell 3
      have c4 := hRun4.blk.cell 4
      have c5 := hRun4.blk.cell 5
      have c6 := hRun4.blk.cell 6
      have c7 := hRun4.blk.cell 7
      have c8 := hRun4.blk.cell 8
      have c9 := hRun4.blk.cell 9
      simp only [runCells, List.getElem?_cons_zero, List.getElem?_cons_succ] at c0 c1 c2 c3 c4 c5 c6 c7 c8 c9
      have HW4 := hid hW4
      have HM4 := hid hM4
      have HR4 := hid hR4
      have HG4 := hid hRun4.grow
      have HE := hid hea
      have HV1 := hid hv1
      have HZ := hid (And.intro z1 z2)
      have HP := hid (And.intro p3 p4)
      have HNT := hid hA
      clear hs0 hst hL3 hW3 hlow3 hbox3 b0 b1 b2 hK4 hRun hRun4 hea hin z1 z2 p1 p2 p3 p4 hv1 hW4 hM4 hR4 hr3 hA
      go_wp2_with fail
      refine (turn_yes r r rm rg (.slice none 0 0) ⟨[], 0, true, ⟨2, 0, A, 0, 1, false⟩, false⟩ s0 who w4 HG4.out HR4.out rfl (by simp) (by simp) (by simp) (by have := HZ.out.1; omega) (by have := HZ.out.2; omega) hr4 hrx.2.2.2.1 hrx.2.2.2.2.1).mono ?_
      rintro e w5 ⟨v', rfl, hG5, hR5, hK5⟩
      have hown : (Value.slice none 0 0).ownBlock.toList = [] := rfl
      rw [hown, List.append_nil] at hK5
      have hnr : y ≠ rm ∧ y ≠ rg := by
        obtain ⟨f, hf, _⟩ := HW4.out.fl
        obtain ⟨_, _, a1, a2, _⟩ := HR4.out.ex
        exact ⟨Blk.ne hf a1 (by decide), Blk.ne hf a2 (by decide)⟩
      have hS5 : ∀ i ∈ [rm, rg], ∀ cs, ¬ Blk w4 i cs 1 := by
        obtain ⟨_, _, a1, a2, _⟩ := HR4.out.ex
        intro i hi
        simp at hi
        rcases hi with rfl | rfl
        · exact blk_not a1 (by decide)
        · exact blk_not a2 (by decide)
      have hlr : l ≠ rm ∧ l ≠ rg := by
        obtain ⟨_, _, a1, a2, _⟩ := HR4.out.ex
        exact ⟨Blk.ne hLay4.1 a1 (by decide), Blk.ne hLay4.1 a2 (by decide)⟩
      have hW5 := HW4.out.kept hK5 (by simp [hnr]) hS5
      have hM5 := HM4.out.kept hK5 (by simp [hqm, hq1]) (by simp [hqm, hq1])
      have hLay5 := hLay4.kept hK5 (by simp [hlr])
      have HW5 := hid hW5
      have HM5 := hid hM5
      have HR5 := hid hR5
      clear c0 c1 c2 c3 c4 c5 c6 c7 c8 c9 hW5 hM5 hR5 hLay4 hS5 hG5 HG4 HW4 HM4 HR4
      have hl5 := HL.out.low5
      simp at hl5
      have hlow5 : Below w.heap.size w w5 := below_kept hlow4 hK5 (by simp; omega) hlow4.size
      have hor := HL.out.ord
      have hny : y ≠ m ∧ y ≠ g := by
        obtain ⟨f, hf, _⟩ := HW5.out.fl
        exact ⟨HM5.out.neT hf (by decide), HM5.out.neG hf (by decide)⟩
      have hly : l ≠ y ∧ l ≠ m ∧ l ≠ g := by
        obtain ⟨f, hf, _⟩ := HW5.out.fl
        exact ⟨Blk.ne hLay5.1 hf (by decide), HM5.out.neT hLay5.1 (by decide), HM5.out.neG hLay5.1 (by decide)⟩
      clear hlow4 hK5
      go_wp2_with fail
      refine (wdone_run y A who false w5 HW5.out).mono ?_
      rintro e w6 ⟨rfl, rfl⟩
      go_wp2_with fail
      refine (wstep_run y m g A who s0 w5 HW5.out HM5.out (by have := HZ.out.1; omega) (by have := HZ.out.2; omega)).mono ?_
      rintro e w6 ⟨rfl, hW6, hM6, hK6⟩
      obtain ⟨s1, hs1⟩ : ∃ s1, s1 = (s0.acc 2 who A 0 1).1 := ⟨_, rfl⟩
      have HV2 := HV1.out
      have HR5' := HR5.out
      have HR5' : RMemAt w5 rm rg (s0.acc 2 who A 0 1).1 := HR5'
      rw [← hs1] at HV2 HR5' hM6
      have hR6 := HR5'.kept hK6 (by simp; exact ⟨hnr.1.symm, hqm.1.symm, hqm.2.symm⟩) (by simp; exact ⟨hnr.2.symm, hq1.1.symm, hq1.2.symm⟩)
      have hLay6 := hLay5.kept hK6 (by simp [hly])
      have hlow6 : Below w.heap.size w w6 := below_kept hlow5 hK6 (by simp; omega) hlow5.size
      have hB6 : Both w6.drew m g rm rg s1 := ⟨hM6.quiet (below_drewN (Below.refl _ w6) 1), hR6.quiet (below_drewN (Below.refl _ w6) 1), hq1.1, hq1.2⟩
      have hW6d : WkAt w6.drew y A who true := hW6.quiet (below_drewN (Below.refl _ w6) 1)
      have hLay6d : Lay w6.drew l p T gs := hLay6.quiet (below_drewN (Below.refl _ w6) 1)
      have hlow6d : Below w.heap.size w w6.drew := hlow6.drew
      have hlen : s1.ws.length ≤ 1000000 := hM6.len
      obtain ⟨cap, spare, e1, e2, e3⟩ := hB6.rmem.ex
      have c0 := e1.cell 0
      simp only [headOf, List.getElem?_cons_zero, List.getElem?_cons_succ] at c0
      have hrow := hid (row_of_blk e2)
      have hrl : rm < w6.drew.heap.size := cell_lt c0
      have HB6 := hid hB6
      have HW6 := hid hW6d
      have HL6 := hid hLay6d
      have HV := hid HV2
      have HAN : Hid (nt p T t = A) := HNT.out.symm
      clear HR5 HR5' HW5 HM5 hLay5 hlow5 hW6 hM6 hK6 hR6 hLay6 hlow6 hB6 hW6d hLay6d e1 e2 e3 HV2 HV1 HE HP HZ HNT hs1 HL hl5 hor hny hly hnr hlr hq1 hqm hrx
      go_wp2_with fail
      have HB : Below w6.drew.heap.size w6.drew w6.drew := Below.refl _ _
      go_region_held3 (fun w' => w'.cell? ⟨rm, 0, none⟩ = some (.slice (some ⟨rg, 0, none⟩) s1.ws.length cap)) (exact (HB.cell (p := ⟨rm, 0, none⟩) hrl).trans c0) (first | (go_at_call 31; (refine (awake_run _).mono ?_); rintro e w' ⟨rfl, hb⟩; replace HB := Below.then_ HB hb; clear hb) | (go_at_call 53; (refine (wdone_run y A who true _ (HW6.out.quiet HB)).mono ?_); rintro e w' ⟨rfl, rfl⟩) | (go_at_call 47; (refine (alike_run m g rm rg s1 _ (HB6.out.quiet HB)).mono ?_); rintro e w' ⟨rfl, hb⟩; replace HB := Below.then_ HB hb; clear hb) | (go_at_call 40; (refine (nawake_run l m g p T gs t s1 _ (HL6.out.quiet HB) (HB6.out.mem.quiet HB)).mono ?_); rintro e w' ⟨rfl, hb⟩; rw [HAN.out, HV.out]; replace HB := Below.then_ HB hb; clear hb) | (go_at_call 49; (refine (mwords_run m g s1 _ (HB6.out.mem.quiet HB)).mono ?_); rintro e w' ⟨v, b, rfl, hbb, ⟨cap2, spare2, rfl, hcap2, hblk⟩, hb⟩; have hrow2 := hid (row_of_blk hblk); replace HB := Below.then_ HB hb; clear hb hbb hblk hcap2) | (go_at_call 48; (refine (same_run ⟨b, 0, none⟩ ⟨rg, 0, none⟩ cap2 cap s1.ws _ hrow2.out (hrow.out.quiet HB) hlen).mono ?_); rintro e w' ⟨rfl, hb⟩; replace HB := Below.then_ HB hb; clear hb))
      all_goals go_wp2
      all_goals go_ret
      all_goals exact ⟨rfl, Below.then_ hlow6d HB⟩
    · by_cases ht0 : t < 0
      · have d1 : decide (t < 0) = true := decide_eq_true ht0
        clear ht
        (go_wp2_with (first | (go_at_call 37; refine (ndone_nil _).mono ?_; rintro e w9 ⟨rfl, rfl⟩) | (go_at_call 34; refine (nstep_nil _ _).mono ?_; rintro e w9 ⟨rfl, rfl⟩) | (go_at_call 36; refine (nasleep_nil _ _).mono ?_; rintro e w9 ⟨rfl, rfl⟩) | (go_at_call 53; refine (wdone_nil _).mono ?_; rintro e w9 ⟨rfl, rfl⟩) | (go_at_call 39; refine (wstep_nil _ _).mono ?_; rintro e w9 ⟨rfl, rfl⟩) | (go_at_call 31; refine (awake_run _).mono ?_; rintro e w9 ⟨rfl, hb9⟩)))
        go_ret
        exact ⟨rfl, hlow1.trans (hb9.mono hlow1.size)⟩
      · have d1 : decide (t < 0) = false := decide_eq_false ht0
        have d2 : decide (T ≤ t) = true := decide_eq_true (by omega)
        clear ht
        (go_wp2_with (first | (go_at_call 37; refine (ndone_nil _).mono ?_; rintro e w9 ⟨rfl, rfl⟩) | (go_at_call 34; refine (nstep_nil _ _).mono ?_; rintro e w9 ⟨rfl, rfl⟩) | (go_at_call 36; refine (nasleep_nil _ _).mono ?_; rintro e w9 ⟨rfl, rfl⟩) | (go_at_call 53; refine (wdone_nil _).mono ?_; rintro e w9 ⟨rfl, rfl⟩) | (go_at_call 39; refine (wstep_nil _ _).mono ?_; rintro e w9 ⟨rfl, rfl⟩) | (go_at_call 31; refine (awake_run _).mono ?_; rintro e w9 ⟨rfl, hb9⟩)))
        go_ret
        exact ⟨rfl, hlow1.trans (hb9.mono hlow1.size)⟩
  · have HF := hid (show ¬ FewP p T gs ∨ 400 < puts.length by
      by_cases h : FewP p T gs
      · right
        have : ¬ puts.length ≤ 400 := fun h2 => hf ⟨h, h2⟩
        omega
      · exact .inl h)
    clear hf
    go_enter Try.func8, Try.ntmps8
    go_wp2_with fail
    refine (lay_no p T gs a puts.length c _ HF.out).mono ?_
    rintro e w1 ⟨rfl, hb⟩
    have hlow1 : Below w.heap.size w w1 := (below_one w _).trans (hb.mono (by simp))
    clear hb
    (go_wp2_with (first | (go_at_call 37; refine (ndone_nil _).mono ?_; rintro e w9 ⟨rfl, rfl⟩) | (go_at_call 34; refine (nstep_nil _ _).mono ?_; rintro e w9 ⟨rfl, rfl⟩) | (go_at_call 36; refine (nasleep_nil _ _).mono ?_; rintro e w9 ⟨rfl, rfl⟩) | (go_at_call 53; refine (wdone_nil _).mono ?_; rintro e w9 ⟨rfl, rfl⟩) | (go_at_call 39; refine (wstep_nil _ _).mono ?_; rintro e w9 ⟨rfl, rfl⟩) | (go_at_call 31; refine (awake_run _).mono ?_; rintro e w9 ⟨rfl, hb9⟩)))
    go_ret
    exact ⟨rfl, hlow1.trans (hb9.mono hlow1.size)⟩
end Go.Proofs.Ytokpgbocomhpiaa.Note
