/- The walk of LockSteps. -/
import Derived.Test.YtokpgbocomhpiaaLockStepsA
import Derived.Test.YtokpgbocomhpiaaNoteWakesW
import Derived.Deep.DeepCutAuto
set_option maxRecDepth 100000
set_option maxHeartbeats 4000000
set_option linter.unusedVariables false
set_option linter.unusedSimpArgs false
namespace Go.Proofs.Ytokpgbocomhpiaa.Lock
open Go.RowKit Go.Shelf Go.Proofs.Ytokpgbocomhpiaa.TK Go.Proofs.Ytokpgbocomhpiaa.Flag Go.Proofs.Ytokpgbocomhpiaa.Words Go.Proofs.Ytokpgbocomhpiaa.Mem Go.Proofs.Ytokpgbocomhpiaa.Flow Go.Proofs.Ytokpgbocomhpiaa.Layout Go.Proofs.Ytokpgbocomhpiaa.Run Go.Proofs.Ytokpgbocomhpiaa.Read Go.Proofs.Ytokpgbocomhpiaa.Grow
theorem AI.lenle {w0 w : World} {B l m g rm rg x : Nat} {k who : Int} {st : AcqSt} {s : St} {v : Value} {got : List Int} {n : Nat} (h : AI w0 w B l m g rm rg x k who st s v got n) (hn : n ≤ 100) : got.length ≤ 100000 := by have := h.len; omega
theorem got_wait {t k who : Int} {s : St} {got : List Int} (h : AcqGot (.wait t) got) : AcqGot ((AcqSt.wait t).step k who s).1 (got ++ [(s.acc 1 who (sv k) 0 0).2]) := by
  obtain ⟨t0, ls, rfl, hr, rfl, hne⟩ := h
  by_cases he : (s.acc 1 who (sv k) 0 0).2 = turnOf t0
  · simp only [AcqSt.step, if_pos he]
    exact ⟨t0, ls, by rw [he]; simp, hr, rfl, hne⟩
  · simp only [AcqSt.step, if_neg he]
    refine ⟨t0, ls ++ [(s.acc 1 who (sv k) 0 0).2], by simp, hr, rfl, ?_⟩
    intro x hx
    rcases List.mem_append.1 hx with h | h
    · exact hne x h
    · obtain rfl := List.mem_singleton.1 h; exact he
theorem got_own {t : Int} {got : List Int} (z : Int) (h : AcqGot (.own t) got) : AcqGot (.done t) (got ++ [z]) := by
  obtain ⟨t0, ls, rfl, hr, rfl, hne⟩ := h
  exact ⟨t0, ls, z, by simp, hr, rfl, hne⟩
theorem steps_walk (w : World) (cs : List Value) (hcs : AllL w [.base (.int .i64), .base (.int .i64), .base (.int .i64), .row [.int .i64, .int .u64]] cs) (cs2 : List Value) (hcs2 : AllL w [.base (.int .i64), .base (.int .i64)] cs2) (pv : Value) (hpv : (Leaf.row [.bool, .int .i64, .int .i64, .int .i64, .int .u64, .int .u64]).holds w pv) :
    Calls Try.prog 6 #[.agg cs.toArray, .agg cs2.toArray, pv] w fun e w' => e = .returned (.bool true) ∧ Below w.heap.size w w' := by
  obtain ⟨p, T, gs, a, c, puts, rfl, hr, hok⟩ := ground_of hcs
  obtain ⟨k, who, rfl, hk0, hw0⟩ := two_ints hcs2
  obtain ⟨pa, pc, pokes, rfl, hpr, hpok⟩ := pokes_of hpv
  clear hcs hcs2 hpv hk0 hw0
  have hbb : Below w.heap.size w ((w.alloc (.cells #[.int .i64 p, .int .i64 T, .int .i64 gs, .slice a puts.length c] 39)).alloc (.cells #[.int .i64 k, .int .i64 who] 58)) := (below_one w _).alloc (by simp) _
  have hbox := Blk.new_at (w := w.alloc (.cells #[.int .i64 p, .int .i64 T, .int .i64 gs, .slice a puts.length c] 39)) (g := w.heap.size + 1) [.int .i64 k, .int .i64 who] 58 (by simp)
  have hr1 := hid (hr.quiet hbb)
  have HOK := hid hok
  have HPR := hid hpr
  have HPK := hid hpok
  clear hr hok hpr hpok
  by_cases hf : FewP p T gs ∧ puts.length ≤ 400
  · obtain ⟨hf, hn⟩ := hf
    have HF := hid hf
    have HN := hid hn
    clear hf hn
    go_enter Try.func6, Try.ntmps6
    go_wp2_with fail
    refine (lay_yes p T gs a c puts _ HF.out HN.out hr1.out HOK.out).mono ?_
    rintro e w1 ⟨l, m, g, rm, rg, rfl, hL⟩
    have hbox1 := hbox.quiet hL.low
    have b0 := hbox1.cell 0
    have b1 := hbox1.cell 1
    simp only [List.getElem?_cons_zero, List.getElem?_cons_succ] at b0 b1
    have hlow1 : Below w.heap.size w w1 := hbb.trans (hL.low.mono (by simp; omega))
    have HL := hid hL
    clear hbox hbox1 hL hbb hr1
    go_wp2_with fail
    go_quiet (fail)
    have hlow1 := below_drewN hlow1 nq
    obtain ⟨W, hW⟩ : ∃ W, W = w1.drewN nq := ⟨_, rfl⟩
    have HL := hid (show Both W m g rm rg (fresh (layW (lenOf p T gs) puts)) ∧ (w.heap.size ≤ m ∧ w.heap.size ≤ g ∧ w.heap.size ≤ rm ∧ w.heap.size ≤ rg) by
      have q1 := HL.out.low5
      have q2 := HL.out.ord
      have q3 : Below w1.heap.size w1 (w1.drewN nq) := below_drewN (Below.refl _ w1) nq
      simp at q1
      rw [hW]
      exact ⟨⟨HL.out.mem.quiet q3, HL.out.rmem.quiet q3, by omega, by omega⟩, by omega, by omega, by omega, by omega⟩)
    rw [← hW] at hlow1 ⊢
    clear hW b0 b1
    by_cases g1 : 100 < pokes.length
    · have d1 : decide ((100 : Int) < (pokes.length : Int)) = true := decide_eq_true (by omega)
      (go_wp2_with (first | (go_at_call 28; refine (awake_run _).mono ?_; rintro e w9 ⟨rfl, hb9⟩)); go_ret; exact ⟨rfl, hlow1.trans (hb9.mono hlow1.size)⟩)
    have d1 : decide ((100 : Int) < (pokes.length : Int)) = false := decide_eq_false (by omega)
    by_cases g2 : k < 0
    · have d2 : decide (k < 0) = true := decide_eq_true g2
      (go_wp2_with (first | (go_at_call 28; refine (awake_run _).mono ?_; rintro e w9 ⟨rfl, hb9⟩)); go_ret; exact ⟨rfl, hlow1.trans (hb9.mono hlow1.size)⟩)
    have d2 : decide (k < 0) = false := decide_eq_false g2
    by_cases g3 : 1 < k
    · have d3 : decide (1 < k) = true := decide_eq_true g3
      (go_wp2_with (first | (go_at_call 28; refine (awake_run _).mono ?_; rintro e w9 ⟨rfl, hb9⟩)); go_ret; exact ⟨rfl, hlow1.trans (hb9.mono hlow1.size)⟩)
    have d3 : decide (1 < k) = false := decide_eq_false g3
    by_cases g4 : who < 0
    · have d4 : decide (who < 0) = true := decide_eq_true g4
      (go_wp2_with (first | (go_at_call 28; refine (awake_run _).mono ?_; rintro e w9 ⟨rfl, hb9⟩)); go_ret; exact ⟨rfl, hlow1.trans (hb9.mono hlow1.size)⟩)
    have d4 : decide (who < 0) = false := decide_eq_false g4
    by_cases g5 : 300 < who
    · have d5 : decide (300 < who) = true := decide_eq_true g5
      (go_wp2_with (first | (go_at_call 28; refine (awake_run _).mono ?_; rintro e w9 ⟨rfl, hb9⟩)); go_ret; exact ⟨rfl, hlow1.trans (hb9.mono hlow1.size)⟩)
    have d5 : decide (300 < who) = false := decide_eq_false g5
    have hlen : pokes.length ≤ 100 := by omega
    have hk : 0 ≤ k ∧ k ≤ 1 := by omega
    have hwho : 0 ≤ who ∧ who ≤ 300 := by omega
    have HK := hid hk
    have HW := hid hwho
    clear g1 g2 g3 g4 g5 hk hwho
    go_wp2_with fail
    refine (acq_new l k who W).mono ?_
    rintro e w3 ⟨rfl, hA, hb⟩
    obtain ⟨s0, hs0⟩ : ∃ s0, s0 = fresh (layW (lenOf p T gs) puts) := ⟨_, rfl⟩
    have z1 : s0.clock = 0 := by rw [hs0]; rfl
    have z2 : s0.bad = 0 := by rw [hs0]; rfl
    have hL := HL.out
    rw [← hs0] at hL
    have hlow3 := hlow1.trans (hb.mono hlow1.size)
    have hA : AcqAt w3 W.heap.size l k who .ask := hA
    have hI : AI w w3 w3.heap.size l m g rm rg W.heap.size k who .ask s0 (.slice none 0 0) [] 0 := by
      obtain ⟨f, hf, _⟩ := hA.fl
      have hB := hL.1.quiet hb
      exact ⟨hlow3, hB, hA, Grow.nil _ _ _ _ _, rfl, Nat.le_refl _, Nat.le_refl _, ⟨by omega, by omega⟩, ⟨hf.lt, hB.mem.ltm, hB.mem.ltg, hB.rmem.ltm, hB.rmem.ltg⟩, ⟨hlow1.size, hL.2.1, hL.2.2.1, hL.2.2.2.1, hL.2.2.2.2, hlow3.size⟩⟩
    obtain ⟨x, hx⟩ : ∃ x, x = W.heap.size := ⟨_, rfl⟩
    obtain ⟨B, hB⟩ : ∃ B, B = w3.heap.size := ⟨_, rfl⟩
    rw [← hx, ← hB] at hI
    rw [← hx]
    clear hx hB hs0 z1 z2 hL hlow3 hA hb HL hlow1
    go_wp2_with fail
    go_loopw [15, 14] (fun i v wr => ∃ n : Nat, ∃ st s got, n ≤ pokes.length ∧ i = .int .i64 (n : Int) ∧ AI w wr B l m g rm rg x k who st s v got n) (fun i _ _ => pokes.length - (intOf i).toNat)
    case atStart => exact ⟨0, _, _, _, Nat.zero_le _, rfl, hI⟩
    case round =>
      clear hI
      obtain ⟨n, st, s, got, hn, rfl, hI⟩ := hrel
      by_cases hlt : n < pokes.length
      · have hlt' : decide ((n : Int) < (pokes.length : Int)) = true := decide_eq_true (by omega)
        obtain ⟨xa, rfl, hx⟩ := HPR.out.quiet hI.low n hlt
        have x0 := hx 0 _ rfl
        have x1 := hx 1 _ rfl
        have x2 := hx 2 _ rfl
        have x3 := hx 3 _ rfl
        have x4 := hx 4 _ rfl
        have x5 := hx 5 _ rfl
        have hnew := HPK.out pokes[n] (List.getElem_mem hlt)
        obtain ⟨⟨sp, act⟩, hq⟩ : ∃ q : PokeT, q = pokes[n] := ⟨_, rfl⟩
        rw [← hq] at x0 x1 x2 x3 x4 x5 hnew
        rw [add_next] at x1 x2 x3 x4 x5
        simp only [Nat.add_zero, Nat.zero_add, Nat.reduceAdd] at x0 x1 x2 x3 x4 x5 hnew
        clear hq hx
        have n0 : (0 : Int) ≤ (n : Int) := by omega
        have n1 : (n : Int) < (pokes.length : Int) := by omega
        have HI := hid hI
        have HNEW := hid hnew
        obtain ⟨a2, c2, hv, _, _, _⟩ := hI.grow.row encI_len
        subst hv
        have hcb : s.clock < 1000000 ∧ s.bad < 1000000 := by
          have := hI.clock
          omega
        have HCB := hid hcb
        clear hI hnew hcb
        cases sp with
        | false =>
          go_wp2_with fail
          refine (do_run m g rm rg s act wr HI.out.both HNEW.out HCB.out.1 HCB.out.2).mono ?_
          rintro e w4 ⟨⟨ret, rfl⟩, hB4, hK4⟩
          have hI4 := HI.out.poke hB4 hK4 ⟨(act_clock act s).1, (act_clock act s).2.1⟩
          clear HI hB4 hK4 x0 x1 x2 x3 x4 x5
          go_wp2_with fail
          go_roundw
          case rel => exact ⟨n + 1, _, _, _, by omega, by go_num, hI4⟩
          case measure => simp [intOf]; omega
        | true =>
          clear x1 x2 x3 x4 x5
          go_upto_region 13 with fail
          have hgl : got.length ≤ 100000 := by have := HI.out.len; omega
          have hRun0 : RunAt (wr.alloc (.cells (runCells (.slice a2 got.length c2) (Run.at_ got 0)).toArray 69)) B wr.heap.size (.slice a2 got.length c2) (Run.at_ got 0) := ⟨Blk.new wr _ _, HI.out.grow.quiet (below_one _ _), Nat.zero_le _, hgl⟩
          have hI4 := HI.out.quiet (below_one wr (.cells (runCells (.slice a2 got.length c2) (Run.at_ got 0)).toArray 69))
          have hrB := HI.out.size
          simp only [runCells, Run.at_] at hRun0 hI4
          obtain ⟨w4, hw4⟩ : ∃ w4, w4 = wr.alloc (.cells #[.slice a2 got.length c2, .int .i64 0, .bool false, .int .i64 0, .int .i64 0, .int .i64 0, .int .u64 0, .int .u64 0, .bool false, .bool false] 69) := ⟨_, rfl⟩
          have hRun : RunAt w4 B wr.heap.size (.slice a2 got.length c2) (Run.at_ got 0) := by rw [hw4]; exact hRun0
          have hI4 : AI w w4 B l m g rm rg x k who st s (.slice a2 got.length c2) got n := by rw [hw4]; exact hI4
          rw [← hw4]
          clear hRun0 hw4 HI x0
          obtain ⟨r, hr⟩ : ∃ r, r = wr.heap.size := ⟨_, rfl⟩
          rw [← hr] at hRun hrB ⊢
          clear hr
          have hor := own_type hRun.grow hRun.blk (by decide)
          have hTr := blk_not (T' := 1) hRun.blk (by decide)
          have HI4 := hid hI4
          have HRUN := hid hRun
          clear hI4 hRun
          have hgot := HI4.out.rep
          have hlw := lock_words HK.out
          cases st with
          | ask =>
            obtain rfl : got = [] := hgot
            go_wp2_with fail
            refine (racq_none B r _ k who w4 HRUN.out HK.out).mono ?_
            rintro e w5 ⟨⟨z, rfl⟩, hRun5, hK5⟩
            have HI5 := hid (HI4.out.side hK5 hrB hor hTr)
            clear HI4 HRUN hK5
            go_wp2_with fail
            refine (aturn_run x l k who .ask w5 HI5.out.rl).mono ?_
            rintro e w6 ⟨rfl, hb6⟩
            have HI6 := hid (HI5.out.quiet hb6)
            have hRun6 := hRun5.quiet hb6
            clear HI5 hRun5 hb6
            have d0 := hRun6.blk.cell 0
            have d1 := hRun6.blk.cell 1
            have d2 := hRun6.blk.cell 2
            have d3 := hRun6.blk.cell 3
            have d4 := hRun6.blk.cell 4
            have d5 := hRun6.blk.cell 5
            have d6 := hRun6.blk.cell 6
            have d7 := hRun6.blk.cell 7
            have d8 := hRun6.blk.cell 8
            have d9 := hRun6.blk.cell 9
            simp only [runCells, stopAt, List.length_nil, List.getElem?_cons_zero, List.getElem?_cons_succ] at d0 d1 d2 d3 d4 d5 d6 d7 d8 d9
            clear hRun6
            simp only [AcqSt.turn, AcqSt.known]
            go_wp2_with fail
            go_quiet ((go_at_call 29; exact quiet_same (adone_run x l k who .ask _ (HI6.out.rl.quiet (below_drewN (Below.refl _ _) _)))))
            have hq7 : Below w6.heap.size w6 (w6.drewN nq) := below_drewN (Below.refl _ _) nq
            have HI7 := hid (HI6.out.quiet hq7)
            clear hq7
            go_wp2_with fail
            refine (turn_yes B r rm rg _ (stopAt [] ⟨4, 0, 3 * k, 0, 1, false⟩) s who _ HI7.out.grow HI7.out.both.rmem rfl (by simp [stopAt]) (by simp [stopAt]) (by simp [stopAt]) HCB.out.1 HCB.out.2 HI7.out.size HI7.out.ltB.2.2.2.1 HI7.out.ltB.2.2.2.2).mono ?_
            rintro e w7 ⟨v', rfl, hG7, hR7, hK7⟩
            have hs7 := hK7.size
            obtain ⟨hM7, hA7, hlow7⟩ := HI7.out.turn hR7 hK7
            obtain ⟨a3, c3, rfl, _, _, _⟩ := hG7.row encI_len
            have HG7 := hid hG7
            have HR7 := hid hR7
            have HM7 := hid hM7
            have HA7 := hid hA7
            have hwf := acc_wf HI7.out.both.mem.wf 4 who (3 * k) 0 (w := 1) (by omega)
            clear hG7 hR7 hM7 hA7 hK7 d0 d1 d2 d3 d4 d5 d6 d7 d8 d9
            go_wp2_with fail
            refine (astep_run x l m g k who .ask s w7 HA7.out HM7.out (by have := HW.out; omega) HCB.out.1 HCB.out.2).mono ?_
            rintro e w8 ⟨rfl, hA8, hM8, hK8⟩
            have hacc := acc_clock s 4 who (3 * k) 0 1
            have hI8 := AI.stepped (st' := .wait (turnOf (s.acc 4 who (3 * k) 0 1).2)) (s' := (s.acc 4 who (3 * k) 0 1).1) HI7.out hlow7 HG7.out HR7.out hs7 (by have := hA8; simp only [AcqSt.step, hlw.1] at this; exact this) (by have := hM8; simp only [AcqSt.step, hlw.1] at this; exact this) hK8 ⟨_, [], rfl, hwf.2, rfl, by simp⟩ (by simp [stopAt]) ⟨by omega, by omega⟩
            have HI8 := hid hI8
            clear hI8 hA8 hM8 hK8 HG7 HR7 HM7 HA7 hs7 hlow7 hwf
            go_wp2_with fail
            refine (alike_run m g rm rg _ w8 HI8.out.both).mono ?_
            rintro e w9 ⟨rfl, hb9⟩
            have hI9 := HI8.out.quiet hb9
            clear HI8 HI7 HI6 hb9
            go_wp2_with fail
            go_roundw
            case rel => exact ⟨n + 1, _, _, _, by omega, by go_num, hI9⟩
            case measure => simp [intOf]; omega
          | wait t =>
            obtain ⟨t0, ls, hg, hr0, rfl, hne⟩ := hgot
            have HG := hid hg
            have hcon := racq_run B r (.slice a2 got.length c2) k who t0 ls [] w4 (by rw [← hg]; exact HRUN.out) HK.out (by have := HW.out; omega) hr0 hne (.inl rfl)
            rw [← hg] at hcon
            have hpos : 0 < got.length := by rw [hg]; simp
            have hp1 : decide ((0 : Int) < (got.length : Int)) = true := decide_eq_true (by omega)
            have HNE := hid hne
            have HR0 := hid hr0
            obtain ⟨tn, htn⟩ : ∃ tn, tn = turnOf t0 := ⟨_, rfl⟩
            have HTN := hid htn
            rw [← htn] at hcon HI4
            have HCON := hid hcon
            clear hcon hne hr0 hg htn
            go_wp2_with fail
            refine HCON.out.mono ?_
            rintro e w5 ⟨rfl, hRun5, hK5⟩
            have HI5 := hid (HI4.out.side hK5 hrB hor hTr)
            clear HI4 HRUN hK5 HCON
            go_wp2_with fail
            refine (aturn_run x l k who (.wait tn) w5 HI5.out.rl).mono ?_
            rintro e w6 ⟨rfl, hb6⟩
            have HI6 := hid (HI5.out.quiet hb6)
            have hRun6 : RunAt w6 B r (.slice a2 got.length c2) (stopAt got ⟨1, 0, 3 * k + 1, 0, 0, false⟩) := hRun5.quiet hb6
            clear HI5 hRun5 hb6
            have d0 := hRun6.blk.cell 0
            have d1 := hRun6.blk.cell 1
            have d2 := hRun6.blk.cell 2
            have d3 := hRun6.blk.cell 3
            have d4 := hRun6.blk.cell 4
            have d5 := hRun6.blk.cell 5
            have d6 := hRun6.blk.cell 6
            have d7 := hRun6.blk.cell 7
            have d8 := hRun6.blk.cell 8
            have d9 := hRun6.blk.cell 9
            simp only [runCells, stopAt, Run.at_, List.getElem?_cons_zero, List.getElem?_cons_succ] at d0 d1 d2 d3 d4 d5 d6 d7 d8 d9
            clear hRun6
            simp only [AcqSt.turn, AcqSt.known]
            go_wp2_with fail
            go_quiet ((go_at_call 29; exact quiet_same (adone_run x l k who (.wait tn) _ (HI6.out.rl.quiet (below_drewN (Below.refl _ _) _)))))
            have hq7 : Below w6.heap.size w6 (w6.drewN nq) := below_drewN (Below.refl _ _) nq
            have HI7 := hid (HI6.out.quiet hq7)
            clear hq7
            go_wp2_with fail
            refine (turn_yes B r rm rg _ (stopAt got ⟨1, 0, 3 * k + 1, 0, 0, false⟩) s who _ HI7.out.grow HI7.out.both.rmem rfl (HI7.out.lenle (by omega)) (by simp [stopAt]) (by simp [stopAt]; try (have := HW.out; omega)) HCB.out.1 HCB.out.2 HI7.out.size HI7.out.ltB.2.2.2.1 HI7.out.ltB.2.2.2.2).mono ?_
            rintro e w7 ⟨v', rfl, hG7, hR7, hK7⟩
            have hs7 := hK7.size
            obtain ⟨hM7, hA7, hlow7⟩ := HI7.out.turn hR7 hK7
            obtain ⟨a3, c3, rfl, _, _, _⟩ := hG7.row encI_len
            have HG7 := hid hG7
            have HR7 := hid hR7
            have HM7 := hid hM7
            have HA7 := hid hA7
            clear hG7 hR7 hM7 hA7 hK7 d0 d1 d2 d3 d4 d5 d6 d7 d8 d9
            go_wp2_with fail
            refine (astep_run x l m g k who (.wait tn) s w7 HA7.out HM7.out (by have := HW.out; omega) HCB.out.1 HCB.out.2).mono ?_
            rintro e w8 ⟨rfl, hA8, hM8, hK8⟩
            have hacc := acc_clock s 1 who (3 * k + 1) 0 0
            have hI8 := AI.stepped (s' := (s.acc 1 who (3 * k + 1) 0 0).1) HI7.out hlow7 HG7.out HR7.out hs7 hA8 (by have := hM8; simp only [AcqSt.step, hlw.2.1] at this; exact this) hK8 (by have := got_wait (k := k) (who := who) (s := s) HI7.out.rep; rw [hlw.2.1] at this; exact this) (by have := HI7.out.len; simp [stopAt]; omega) ⟨by omega, by omega⟩
            have HI8 := hid hI8
            clear hI8 hA8 hM8 hK8 HG7 HR7 HM7 HA7 hs7 hlow7
            go_wp2_with fail
            refine (alike_run m g rm rg _ w8 HI8.out.both).mono ?_
            rintro e w9 ⟨rfl, hb9⟩
            have hI9 := HI8.out.quiet hb9
            rw [List.length_append, List.length_singleton] at hI9
            clear HI8 HI7 HI6 hb9
            go_wp2_with fail
            go_roundw
            case rel => exact ⟨n + 1, _, _, _, by omega, by go_num, hI9⟩
            case measure => simp [intOf]; omega
          | own t =>
            obtain ⟨t0, ls, hg, hr0, rfl, hne⟩ := hgot
            have HG := hid hg
            have hcon := racq_run B r (.slice a2 got.length c2) k who t0 ls [turnOf t0] w4 (by rw [← hg]; exact HRUN.out) HK.out (by have := HW.out; omega) hr0 hne (.inr (.inl rfl))
            rw [← hg] at hcon
            have hpos : 0 < got.length := by rw [hg]; simp
            have hp1 : decide ((0 : Int) < (got.length : Int)) = true := decide_eq_true (by omega)
            have HNE := hid hne
            have HR0 := hid hr0
            obtain ⟨tn, htn⟩ : ∃ tn, tn = turnOf t0 := ⟨_, rfl⟩
            have HTN := hid htn
            rw [← htn] at hcon HI4
            have HCON := hid hcon
            clear hcon hne hr0 hg htn
            go_wp2_with fail
            refine HCON.out.mono ?_
            rintro e w5 ⟨rfl, hRun5, hK5⟩
            have HI5 := hid (HI4.out.side hK5 hrB hor hTr)
            clear HI4 HRUN hK5 HCON
            go_wp2_with fail
            refine (aturn_run x l k who (.own tn) w5 HI5.out.rl).mono ?_
            rintro e w6 ⟨rfl, hb6⟩
            have HI6 := hid (HI5.out.quiet hb6)
            have hRun6 : RunAt w6 B r (.slice a2 got.length c2) (stopAt got ⟨2, 0, 3 * k + 2, 0, who + 1, false⟩) := hRun5.quiet hb6
            clear HI5 hRun5 hb6
            have d0 := hRun6.blk.cell 0
            have d1 := hRun6.blk.cell 1
            have d2 := hRun6.blk.cell 2
            have d3 := hRun6.blk.cell 3
            have d4 := hRun6.blk.cell 4
            have d5 := hRun6.blk.cell 5
            have d6 := hRun6.blk.cell 6
            have d7 := hRun6.blk.cell 7
            have d8 := hRun6.blk.cell 8
            have d9 := hRun6.blk.cell 9
            simp only [runCells, stopAt, Run.at_, List.getElem?_cons_zero, List.getElem?_cons_succ] at d0 d1 d2 d3 d4 d5 d6 d7 d8 d9
            clear hRun6
            simp only [AcqSt.turn, AcqSt.known]
            go_wp2_with fail
            go_quiet ((go_at_call 29; exact quiet_same (adone_run x l k who (.own tn) _ (HI6.out.rl.quiet (below_drewN (Below.refl _ _) _)))))
            have hq7 : Below w6.heap.size w6 (w6.drewN nq) := below_drewN (Below.refl _ _) nq
            have HI7 := hid (HI6.out.quiet hq7)
            clear hq7
            go_wp2_with fail
            refine (turn_yes B r rm rg _ (stopAt got ⟨2, 0, 3 * k + 2, 0, who + 1, false⟩) s who _ HI7.out.grow HI7.out.both.rmem rfl (HI7.out.lenle (by omega)) (by simp [stopAt]) (by simp [stopAt]; try (have := HW.out; omega)) HCB.out.1 HCB.out.2 HI7.out.size HI7.out.ltB.2.2.2.1 HI7.out.ltB.2.2.2.2).mono ?_
            rintro e w7 ⟨v', rfl, hG7, hR7, hK7⟩
            have hs7 := hK7.size
            obtain ⟨hM7, hA7, hlow7⟩ := HI7.out.turn hR7 hK7
            obtain ⟨a3, c3, rfl, _, _, _⟩ := hG7.row encI_len
            have HG7 := hid hG7
            have HR7 := hid hR7
            have HM7 := hid hM7
            have HA7 := hid hA7
            clear hG7 hR7 hM7 hA7 hK7 d0 d1 d2 d3 d4 d5 d6 d7 d8 d9
            go_wp2_with fail
            refine (astep_run x l m g k who (.own tn) s w7 HA7.out HM7.out (by have := HW.out; omega) HCB.out.1 HCB.out.2).mono ?_
            rintro e w8 ⟨rfl, hA8, hM8, hK8⟩
            have hacc := acc_clock s 2 who (3 * k + 2) 0 (who + 1)
            have hI8 := AI.stepped (s' := (s.acc 2 who (3 * k + 2) 0 (who + 1)).1) HI7.out hlow7 HG7.out HR7.out hs7 hA8 (by have := hM8; simp only [AcqSt.step, hlw.2.2] at this; exact this) hK8 (got_own _ HI7.out.rep) (by have := HI7.out.len; simp [stopAt]; omega) ⟨by omega, by omega⟩
            have HI8 := hid hI8
            clear hI8 hA8 hM8 hK8 HG7 HR7 HM7 HA7 hs7 hlow7
            go_wp2_with fail
            refine (alike_run m g rm rg _ w8 HI8.out.both).mono ?_
            rintro e w9 ⟨rfl, hb9⟩
            have hI9 := HI8.out.quiet hb9
            rw [List.length_append, List.length_singleton] at hI9
            clear HI8 HI7 HI6 hb9
            go_wp2_with fail
            go_roundw
            case rel => exact ⟨n + 1, _, _, _, by omega, by go_num, hI9⟩
            case measure => simp [intOf]; omega
          | done t =>
            obtain ⟨t0, ls, z, hg, hr0, rfl, hne⟩ := hgot
            have HG := hid hg
            have hcon := racq_run B r (.slice a2 got.length c2) k who t0 ls [turnOf t0, z] w4 (by rw [← hg]; exact HRUN.out) HK.out (by have := HW.out; omega) hr0 hne (.inr (.inr ⟨z, rfl⟩))
            rw [← hg] at hcon
            have hpos : 0 < got.length := by rw [hg]; simp
            have hp1 : decide ((0 : Int) < (got.length : Int)) = true := decide_eq_true (by omega)
            have HNE := hid hne
            have HR0 := hid hr0
            obtain ⟨tn, htn⟩ : ∃ tn, tn = turnOf t0 := ⟨_, rfl⟩
            have HTN := hid htn
            rw [← htn] at hcon HI4
            have HCON := hid hcon
            clear hcon hne hr0 hg htn
            go_wp2_with fail
            refine HCON.out.mono ?_
            rintro e w5 ⟨rfl, hRun5, hK5⟩
            have HI5 := hid (HI4.out.side hK5 hrB hor hTr)
            clear HI4 HRUN hK5 HCON
            go_wp2_with fail
            refine (aturn_run x l k who (.done tn) w5 HI5.out.rl).mono ?_
            rintro e w6 ⟨rfl, hb6⟩
            have HI6 := hid (HI5.out.quiet hb6)
            have hRun6 : RunAt w6 B r (.slice a2 got.length c2) (Run.at_ got got.length) := hRun5.quiet hb6
            clear HI5 hRun5 hb6
            have d0 := hRun6.blk.cell 0
            have d1 := hRun6.blk.cell 1
            have d2 := hRun6.blk.cell 2
            have d3 := hRun6.blk.cell 3
            have d4 := hRun6.blk.cell 4
            have d5 := hRun6.blk.cell 5
            have d6 := hRun6.blk.cell 6
            have d7 := hRun6.blk.cell 7
            have d8 := hRun6.blk.cell 8
            have d9 := hRun6.blk.cell 9
            simp only [runCells, stopAt, Run.at_, List.getElem?_cons_zero, List.getElem?_cons_succ] at d0 d1 d2 d3 d4 d5 d6 d7 d8 d9
            clear hRun6
            simp only [AcqSt.turn, AcqSt.known]
            go_wp2_with fail
            go_quiet ((go_at_call 29; exact quiet_same (adone_run x l k who (.done tn) _ (HI6.out.rl.quiet (below_drewN (Below.refl _ _) _)))))
            have hq7 : Below w6.heap.size w6 (w6.drewN nq) := below_drewN (Below.refl _ _) nq
            have HI7 := hid (HI6.out.quiet hq7)
            clear hq7
            go_wp2_with fail
            refine (turn_no B r rm rg _ (Run.at_ got got.length) s who _ HI7.out.grow HI7.out.both.rmem rfl).mono ?_
            rintro e w7 ⟨rfl, hb7⟩
            have HI8 := hid (HI7.out.quiet hb7)
            clear HI7 HI6 hb7 d0 d1 d2 d3 d4 d5 d6 d7 d8 d9
            go_wp2_with fail
            refine (astep_run x l m g k who (.done tn) s w7 HI8.out.rl HI8.out.both.mem (by have := HW.out; omega) HCB.out.1 HCB.out.2).mono ?_
            rintro e w8 ⟨rfl, hA8, hM8, hK8⟩
            have hI8 := AI.stepped (n := n) (st' := .done tn) (s' := s) HI8.out HI8.out.low HI8.out.grow HI8.out.both.rmem (Nat.le_refl _) hA8 hM8 hK8 HI8.out.rep (Nat.le_succ_of_le HI8.out.len) ⟨by omega, by omega⟩
            have HI9 := hid hI8
            clear hI8 hA8 hM8 hK8 HI8
            go_wp2_with fail
            refine (alike_run m g rm rg _ w8 HI9.out.both).mono ?_
            rintro e w9 ⟨rfl, hb9⟩
            have hI9 := HI9.out.quiet hb9
            clear HI9 hb9
            go_wp2_with fail
            go_roundw
            case rel => exact ⟨n + 1, _, _, _, by omega, by go_num, hI9⟩
            case measure => simp [intOf]; omega
      · obtain rfl : n = pokes.length := by omega
        have hlt' : decide ((pokes.length : Int) < (pokes.length : Int)) = false := decide_eq_false (by omega)
        have hlow6d : Below w.heap.size w wr.drew := hI.low.drew
        have hB6 : Both wr.drew m g rm rg s := hI.both.quiet (below_drewN (Below.refl _ wr) 1)
        have hlen : s.ws.length ≤ 1000000 := hB6.mem.len
        obtain ⟨cap, spare, e1, e2, e3⟩ := hB6.rmem.ex
        have c0 := e1.cell 0
        simp only [headOf, List.getElem?_cons_zero, List.getElem?_cons_succ] at c0
        have hrow := hid (row_of_blk e2)
        have hrl : rm < wr.drew.heap.size := cell_lt c0
        have HB6 := hid hB6
        clear hI hB6 e1 e2 e3
        go_wp2_with fail
        have HB : Below wr.drew.heap.size wr.drew wr.drew := Below.refl _ _
        go_region_held3 (fun w' => w'.cell? ⟨rm, 0, none⟩ = some (.slice (some ⟨rg, 0, none⟩) s.ws.length cap)) (exact (HB.cell (p := ⟨rm, 0, none⟩) hrl).trans c0) (first | (go_at_call 28; (refine (awake_run _).mono ?_); rintro e w' ⟨rfl, hb⟩; replace HB := Below.then_ HB hb; clear hb) | (go_at_call 49; (refine (mwords_run m g s _ (HB6.out.mem.quiet HB)).mono ?_); rintro e w' ⟨v, b, rfl, hbb, ⟨cap2, spare2, rfl, hcap2, hblk⟩, hb⟩; have hrow2 := hid (row_of_blk hblk); replace HB := Below.then_ HB hb; clear hb hbb hblk hcap2) | (go_at_call 48; (refine (same_run ⟨b, 0, none⟩ ⟨rg, 0, none⟩ cap2 cap s.ws _ hrow2.out (hrow.out.quiet HB) hlen).mono ?_); rintro e w' ⟨rfl, hb⟩; replace HB := Below.then_ HB hb; clear hb))
        all_goals go_wp2
        all_goals go_ret
        all_goals exact ⟨rfl, Below.then_ hlow6d HB⟩
  · have HF := hid (show ¬ FewP p T gs ∨ 400 < puts.length by
      by_cases h : FewP p T gs
      · right
        have : ¬ puts.length ≤ 400 := fun h2 => hf ⟨h, h2⟩
        omega
      · exact .inl h)
    clear hf
    go_enter Try.func6, Try.ntmps6
    go_wp2_with fail
    refine (lay_no p T gs a puts.length c _ HF.out).mono ?_
    rintro e w1 ⟨rfl, hb⟩
    have hbox1 := hbox.quiet hb
    have b0 := hbox1.cell 0
    have b1 := hbox1.cell 1
    simp only [List.getElem?_cons_zero, List.getElem?_cons_succ] at b0 b1
    have hlow1 : Below w.heap.size w w1 := hbb.trans (hb.mono (by simp; omega))
    clear hb hbox hbox1
    go_wp2_with fail
    go_quiet (fail)
    have hlow1 := below_drewN hlow1 nq
    (go_wp2_with (first | (go_at_call 28; refine (awake_run _).mono ?_; rintro e w9 ⟨rfl, hb9⟩)); go_ret; exact ⟨rfl, hlow1.trans (hb9.mono hlow1.size)⟩)
end Go.Proofs.Ytokpgbocomhpiaa.Lock
