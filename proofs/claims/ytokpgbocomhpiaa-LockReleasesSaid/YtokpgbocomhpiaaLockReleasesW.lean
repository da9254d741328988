/- The walk of LockReleases. -/
import Derived.Test.YtokpgbocomhpiaaLockRef
import Derived.Test.YtokpgbocomhpiaaNoteWakesW
import Derived.Deep.DeepCutAuto
set_option maxRecDepth 100000
set_option maxHeartbeats 4000000
set_option linter.unusedVariables false
set_option linter.unusedSimpArgs false
namespace Go.Proofs.Ytokpgbocomhpiaa.Lock
open Go.RowKit Go.Shelf Go.Proofs.Ytokpgbocomhpiaa.TK Go.Proofs.Ytokpgbocomhpiaa.Flag Go.Proofs.Ytokpgbocomhpiaa.Words Go.Proofs.Ytokpgbocomhpiaa.Mem Go.Proofs.Ytokpgbocomhpiaa.Flow Go.Proofs.Ytokpgbocomhpiaa.Layout Go.Proofs.Ytokpgbocomhpiaa.Run Go.Proofs.Ytokpgbocomhpiaa.Read Go.Proofs.Ytokpgbocomhpiaa.Grow
/-- What the law knows of a world, behind n pokes. -/
structure RI (w0 w : World) (B l m g rm rg x : Nat) (k who : Int) (st : RlSt) (s : St) (v : Value) (got : List Int) (n : Nat) : Prop where
  low : Below w0.heap.size w0 w
  both : Both w m g rm rg s
  rl : RlAt w x l k who st
  grow : Grow w B 25 1 (encI .u64) v got
  got : RlGot st got
  size : B ≤ w.heap.size
  clock : s.clock ≤ n ∧ s.bad ≤ n
  ltB : x < B ∧ m < B ∧ g < B ∧ rm < B ∧ rg < B
  ge : w0.heap.size ≤ x ∧ w0.heap.size ≤ m ∧ w0.heap.size ≤ g ∧ w0.heap.size ≤ rm ∧ w0.heap.size ≤ rg ∧ w0.heap.size ≤ B
section
variable {w0 w w' : World} {B l m g rm rg x : Nat} {k who : Int} {st st' : RlSt} {s s' : St} {v v' : Value} {got got' : List Int} {n : Nat}
theorem RI.quiet (h : RI w0 w B l m g rm rg x k who st s v got n) (hb : Below w.heap.size w w') : RI w0 w' B l m g rm rg x k who st s v got n :=
  ⟨h.low.trans (hb.mono h.low.size), h.both.quiet hb, h.rl.quiet hb, h.grow.quiet hb, h.got, Nat.le_trans h.size hb.size, h.clock, h.ltB, h.ge⟩
theorem RI.neX (h : RI w0 w B l m g rm rg x k who st s v got n) : x ≠ m ∧ x ≠ g ∧ x ≠ rm ∧ x ≠ rg := by
  obtain ⟨f, hf, _⟩ := h.rl.fl
  obtain ⟨_, _, a1, a2, _⟩ := h.both.rmem.ex
  exact ⟨h.both.mem.neT hf (by decide), h.both.mem.neG hf (by decide), Blk.ne hf a1 (by decide), Blk.ne hf a2 (by decide)⟩
theorem RI.noAfter (h : RI w0 w B l m g rm rg x k who st s v got n) : ∀ i ∈ [m, g, rm, rg], ∀ cs, ¬ Blk w i cs 1 := by
  obtain ⟨_, _, a1, a2, _⟩ := h.both.rmem.ex
  obtain ⟨_, _, b1, b2, _⟩ := h.both.mem.ex
  intro i hi
  simp at hi
  rcases hi with rfl | rfl | rfl | rfl
  · exact blk_not b1 (by decide)
  · exact blk_not b2 (by decide)
  · exact blk_not a1 (by decide)
  · exact blk_not a2 (by decide)
theorem RI.ownLow (h : RI w0 w B l m g rm rg x k who st s v got n) {i : Nat} (hi : i < B) : i ∉ v.ownBlock.toList := by
  have := own_low h.grow hi
  simpa using this
/-- An access by both. -/
theorem RI.poke (h : RI w0 w B l m g rm rg x k who st s v got n) (hB : Both w' m g rm rg s') (hK : Kept [m, g, rm, rg] w w') (hc : s'.clock = s.clock + 1 ∧ s'.bad ≤ s.bad + 1) : RI w0 w' B l m g rm rg x k who st s' v got (n + 1) := by
  obtain ⟨x1, x2, x3, x4⟩ := h.neX
  obtain ⟨l1, l2, l3, l4, l5⟩ := h.ltB
  obtain ⟨g1, g2, g3, g4, g5, g6⟩ := h.ge
  obtain ⟨c1, c2⟩ := h.clock
  refine ⟨below_kept h.low hK (by simp; omega) h.low.size, hB, h.rl.kept hK (by simp [x1, x2, x3, x4]) h.noAfter, Grow.kept h.grow hK (by simp; omega), h.got, Nat.le_trans h.size hK.size, ⟨by push_cast; omega, by push_cast; omega⟩, h.ltB, h.ge⟩
/-- The document's turn. -/
theorem RI.turn (h : RI w0 w B l m g rm rg x k who st s v got n) (hR : RMemAt w' rm rg s') (hK : Kept ([rm, rg] ++ v.ownBlock.toList) w w') : MemAt w' m g s ∧ RlAt w' x l k who st ∧ Below w0.heap.size w0 w' := by
  obtain ⟨x1, x2, x3, x4⟩ := h.neX
  obtain ⟨l1, l2, l3, l4, l5⟩ := h.ltB
  obtain ⟨g1, g2, g3, g4, g5, g6⟩ := h.ge
  have q := h.both.neR
  refine ⟨h.both.mem.kept hK (by simp only [List.mem_append, List.mem_cons, List.not_mem_nil, or_false]; rintro (h1 | h1); rcases h1 with h1 | h1; exact q.1 h1; exact h.both.n1 h1; exact h.ownLow l2 h1) (by simp only [List.mem_append, List.mem_cons, List.not_mem_nil, or_false]; rintro (h1 | h1); rcases h1 with h1 | h1; exact q.2 h1; exact h.both.n2 h1; exact h.ownLow l3 h1), h.rl.kept hK (by simp only [List.mem_append, List.mem_cons, List.not_mem_nil, or_false]; rintro (h1 | h1); rcases h1 with h1 | h1; exact x3 h1; exact x4 h1; exact h.ownLow l1 h1) ?_, ?_⟩
  · intro i hi
    rcases List.mem_append.1 hi with hi | hi
    · exact h.noAfter i (by simp at hi; rcases hi with rfl | rfl <;> simp)
    · exact own_after h.grow (by decide) i hi
  · refine below_kept h.low hK ?_ h.low.size
    intro i hi
    rcases List.mem_append.1 hi with hi | hi
    · simp at hi; omega
    · have := own_le h.grow i (by simpa using hi)
      omega
/-- A block of another's turns. -/
theorem RI.side {r : Nat} (h : RI w0 w B l m g rm rg x k who st s v got n) (hK : Kept [r] w w') (hr : B ≤ r) (ho : v.ownBlock ≠ some r) (hT : ∀ cs, ¬ Blk w r cs 1) : RI w0 w' B l m g rm rg x k who st s v got n := by
  obtain ⟨l1, l2, l3, l4, l5⟩ := h.ltB
  obtain ⟨g1, g2, g3, g4, g5, g6⟩ := h.ge
  exact ⟨below_kept h.low hK (by simp; omega) h.low.size, ⟨h.both.mem.kept hK (by simp; omega) (by simp; omega), h.both.rmem.kept hK (by simp; omega) (by simp; omega), h.both.n1, h.both.n2⟩, h.rl.kept hK (by simp; omega) (by intro i hi; simp at hi; subst hi; exact hT), Grow.keptB h.grow hK (by intro i hi; simp at hi; subst hi; exact ho), h.got, Nat.le_trans h.size hK.size, h.clock, h.ltB, h.ge⟩
/-- A turn of the document's, and a step. -/
theorem RI.stepped {w1 w2 : World} (h : RI w0 w B l m g rm rg x k who st s v got n) (hlow : Below w0.heap.size w0 w1) (hG : Grow w1 B 25 1 (encI .u64) v' got') (hR : RMemAt w1 rm rg s') (hS : w.heap.size ≤ w1.heap.size) (hA : RlAt w2 x l k who st') (hM : MemAt w2 m g s') (hK : Kept [x, m, g] w1 w2) (hg : RlGot st' got') (hc : s'.clock ≤ s.clock + 1 ∧ s'.bad ≤ s.bad + 1) : RI w0 w2 B l m g rm rg x k who st' s' v' got' (n + 1) := by
  obtain ⟨x1, x2, x3, x4⟩ := h.neX
  obtain ⟨l1, l2, l3, l4, l5⟩ := h.ltB
  obtain ⟨g1, g2, g3, g4, g5, g6⟩ := h.ge
  obtain ⟨c1, c2⟩ := h.clock
  have q := h.both.neR
  have q1 := h.both.n1
  have q2 := h.both.n2
  exact ⟨below_kept hlow hK (by simp; omega) hlow.size, ⟨hM, hR.kept hK (by simp; exact ⟨x3.symm, q.1.symm, q.2.symm⟩) (by simp; exact ⟨x4.symm, q1.symm, q2.symm⟩), q1, q2⟩, hA, Grow.kept hG hK (by simp; omega), hg, Nat.le_trans h.size (Nat.le_trans hS hK.size), ⟨by push_cast; omega, by push_cast; omega⟩, h.ltB, h.ge⟩
end
end Go.Proofs.Ytokpgbocomhpiaa.Lock
namespace Go.Proofs.Ytokpgbocomhpiaa.Lock
open Go.RowKit Go.Shelf Go.Proofs.Ytokpgbocomhpiaa.TK Go.Proofs.Ytokpgbocomhpiaa.Flag Go.Proofs.Ytokpgbocomhpiaa.Words Go.Proofs.Ytokpgbocomhpiaa.Mem Go.Proofs.Ytokpgbocomhpiaa.Flow Go.Proofs.Ytokpgbocomhpiaa.Layout Go.Proofs.Ytokpgbocomhpiaa.Run Go.Proofs.Ytokpgbocomhpiaa.Read Go.Proofs.Ytokpgbocomhpiaa.Grow
theorem releases_walk (w : World) (cs : List Value) (hcs : AllL w [.base (.int .i64), .base (.int .i64), .base (.int .i64), .row [.int .i64, .int .u64]] cs) (cs2 : List Value) (hcs2 : AllL w [.base (.int .i64), .base (.int .i64)] cs2) (pv : Value) (hpv : (Leaf.row [.bool, .int .i64, .int .i64, .int .i64, .int .u64, .int .u64]).holds w pv) :
    Calls Try.prog 9 #[.agg cs.toArray, .agg cs2.toArray, pv] w fun e w' => e = .returned (.bool true) ∧ Below w.heap.size w w' := by
  obtain ⟨p, T, gs, a, c, puts, rfl, hr, hok⟩ := ground_of hcs
  obtain ⟨k, who, rfl, hk0, hw0⟩ := two_ints hcs2
  obtain ⟨pa, pc, pokes, rfl, hpr, hpok⟩ := pokes_of hpv
  clear hcs hcs2 hpv hk0 hw0
  have hbb : Below w.heap.size w ((w.alloc (.cells #[.int .i64 p, .int .i64 T, .int .i64 gs, .slice a puts.length c] 39)).alloc (.cells #[.int .i64 k, .int .i64 who] 58)) := (below_one w _).alloc (by simp) _
  have hbox := Blk.new_at (w := w.alloc (.cells #[.int .i64 p, .int .i64 T, .int .i64 gs, .slice a puts.length c] 39)) (g := w.heap.size + 1) [.int .i64 k, .int .i64 who] 58 (by simp)
  have hr1 := hid (hr.quiet hbb)
  have HOK := hid hok
  have HPR := hid hpr
  have HPK := hid hpok
  clear hr hok hpr hpok
  by_cases hf : FewP p T gs ∧ puts.length ≤ 400
  · obtain ⟨hf, hn⟩ := hf
    have HF := hid hf
    have HN := hid hn
    clear hf hn
    go_enter Try.func9, Try.ntmps9
    go_wp2_with fail
    refine (lay_yes p T gs a c puts _ HF.out HN.out hr1.out HOK.out).mono ?_
    rintro e w1 ⟨l, m, g, rm, rg, rfl, hL⟩
    have hbox1 := hbox.quiet hL.low
    have b0 := hbox1.cell 0
    have b1 := hbox1.cell 1
    simp only [List.getElem?_cons_zero, List.getElem?_cons_succ] at b0 b1
    have hlow1 : Below w.heap.size w w1 := hbb.trans (hL.low.mono (by simp; omega))
    have HL := hid hL
    clear hbox hbox1 hL hbb hr1
    go_wp2_with fail
    go_quiet (fail)
    have hlow1 := below_drewN hlow1 nq
    obtain ⟨W, hW⟩ : ∃ W, W = w1.drewN nq := ⟨_, rfl⟩
    have HL := hid (show Both W m g rm rg (fresh (layW (lenOf p T gs) puts)) ∧ (w.heap.size ≤ m ∧ w.heap.size ≤ g ∧ w.heap.size ≤ rm ∧ w.heap.size ≤ rg) by
      have q1 := HL.out.low5
      have q2 := HL.out.ord
      have q3 : Below w1.heap.size w1 (w1.drewN nq) := below_drewN (Below.refl _ w1) nq
      simp at q1
      rw [hW]
      exact ⟨⟨HL.out.mem.quiet q3, HL.out.rmem.quiet q3, by omega, by omega⟩, by omega, by omega, by omega, by omega⟩)
    rw [← hW] at hlow1 ⊢
    clear hW b0 b1
    by_cases g1 : 100 < pokes.length
    · have d1 : decide ((100 : Int) < (pokes.length : Int)) = true := decide_eq_true (by omega)
      (go_wp2_with (first | (go_at_call 28; refine (awake_run _).mono ?_; rintro e w9 ⟨rfl, hb9⟩)); go_ret; exact ⟨rfl, hlow1.trans (hb9.mono hlow1.size)⟩)
    have d1 : decide ((100 : Int) < (pokes.length : Int)) = false := decide_eq_false (by omega)
    by_cases g2 : k < 0
    · have d2 : decide (k < 0) = true := decide_eq_true g2
      (go_wp2_with (first | (go_at_call 28; refine (awake_run _).mono ?_; rintro e w9 ⟨rfl, hb9⟩)); go_ret; exact ⟨rfl, hlow1.trans (hb9.mono hlow1.size)⟩)
    have d2 : decide (k < 0) = false := decide_eq_false g2
    by_cases g3 : 1 < k
    · have d3 : decide (1 < k) = true := decide_eq_true g3
      (go_wp2_with (first | (go_at_call 28; refine (awake_run _).mono ?_; rintro e w9 ⟨rfl, hb9⟩)); go_ret; exact ⟨rfl, hlow1.trans (hb9.mono hlow1.size)⟩)
    have d3 : decide (1 < k) = false := decide_eq_false g3
    by_cases g4 : who < 0
    · have d4 : decide (who < 0) = true := decide_eq_true g4
      (go_wp2_with (first | (go_at_call 28; refine (awake_run _).mono ?_; rintro e w9 ⟨rfl, hb9⟩)); go_ret; exact ⟨rfl, hlow1.trans (hb9.mono hlow1.size)⟩)
    have d4 : decide (who < 0) = false := decide_eq_false g4
    by_cases g5 : 300 < who
    · have d5 : decide (300 < who) = true := decide_eq_true g5
      (go_wp2_with (first | (go_at_call 28; refine (awake_run _).mono ?_; rintro e w9 ⟨rfl, hb9⟩)); go_ret; exact ⟨rfl, hlow1.trans (hb9.mono hlow1.size)⟩)
    have d5 : decide (300 < who) = false := decide_eq_false g5
    have hlen : pokes.length ≤ 100 := by omega
    have hk : 0 ≤ k ∧ k ≤ 1 := by omega
    have hwho : 0 ≤ who ∧ who ≤ 300 := by omega
    have HK := hid hk
    have HW := hid hwho
    clear g1 g2 g3 g4 g5 hk hwho
    go_wp2_with fail
    refine (rel_new l k who W).mono ?_
    rintro e w3 ⟨rfl, hA, hb⟩
    obtain ⟨s0, hs0⟩ : ∃ s0, s0 = fresh (layW (lenOf p T gs) puts) := ⟨_, rfl⟩
    have z1 : s0.clock = 0 := by rw [hs0]; rfl
    have z2 : s0.bad = 0 := by rw [hs0]; rfl
    have hL := HL.out
    rw [← hs0] at hL
    have hlow3 := hlow1.trans (hb.mono hlow1.size)
    have hA : RlAt w3 W.heap.size l k who .puts := hA
    have hI : RI w w3 w3.heap.size l m g rm rg W.heap.size k who .puts s0 (.slice none 0 0) [] 0 := by
      obtain ⟨f, hf, _⟩ := hA.fl
      have hB := hL.1.quiet hb
      exact ⟨hlow3, hB, hA, Grow.nil _ _ _ _ _, rfl, Nat.le_refl _, ⟨by omega, by omega⟩, ⟨hf.lt, hB.mem.ltm, hB.mem.ltg, hB.rmem.ltm, hB.rmem.ltg⟩, ⟨hlow1.size, hL.2.1, hL.2.2.1, hL.2.2.2.1, hL.2.2.2.2, hlow3.size⟩⟩
    obtain ⟨x, hx⟩ : ∃ x, x = W.heap.size := ⟨_, rfl⟩
    obtain ⟨B, hB⟩ : ∃ B, B = w3.heap.size := ⟨_, rfl⟩
    rw [← hx, ← hB] at hI
    rw [← hx]
    clear hx hB hs0 z1 z2 hL hlow3 hA hb HL hlow1
    go_wp2_with fail
    go_loopw [15, 14] (fun i v wr => ∃ n : Nat, ∃ st s got, n ≤ pokes.length ∧ i = .int .i64 (n : Int) ∧ RI w wr B l m g rm rg x k who st s v got n) (fun i _ _ => pokes.length - (intOf i).toNat)
    case atStart => exact ⟨0, _, _, _, Nat.zero_le _, rfl, hI⟩
    case round =>
      clear hI
      obtain ⟨n, st, s, got, hn, rfl, hI⟩ := hrel
      by_cases hlt : n < pokes.length
      · have hlt' : decide ((n : Int) < (pokes.length : Int)) = true := decide_eq_true (by omega)
        obtain ⟨xa, rfl, hx⟩ := HPR.out.quiet hI.low n hlt
        have x0 := hx 0 _ rfl
        have x1 := hx 1 _ rfl
        have x2 := hx 2 _ rfl
        have x3 := hx 3 _ rfl
        have x4 := hx 4 _ rfl
        have x5 := hx 5 _ rfl
        have hnew := HPK.out pokes[n] (List.getElem_mem hlt)
        obtain ⟨⟨sp, act⟩, hq⟩ : ∃ q : PokeT, q = pokes[n] := ⟨_, rfl⟩
        rw [← hq] at x0 x1 x2 x3 x4 x5 hnew
        rw [add_next] at x1 x2 x3 x4 x5
        simp only [Nat.add_zero, Nat.zero_add, Nat.reduceAdd] at x0 x1 x2 x3 x4 x5 hnew
        clear hq hx
        have n0 : (0 : Int) ≤ (n : Int) := by omega
        have n1 : (n : Int) < (pokes.length : Int) := by omega
        have HI := hid hI
        have HNEW := hid hnew
        obtain ⟨a2, c2, hv, _, _, _⟩ := hI.grow.row encI_len
        subst hv
        have hcb : s.clock < 1000000 ∧ s.bad < 1000000 := by
          have := hI.clock
          omega
        have HCB := hid hcb
        clear hI hnew hcb
        cases sp with
        | false =>
          go_wp2_with fail
          refine (do_run m g rm rg s act wr HI.out.both HNEW.out HCB.out.1 HCB.out.2).mono ?_
          rintro e w4 ⟨⟨ret, rfl⟩, hB4, hK4⟩
          have hI4 := HI.out.poke hB4 hK4 ⟨(act_clock act s).1, (act_clock act s).2.1⟩
          clear HI hB4 hK4 x0 x1 x2 x3 x4 x5
          go_wp2_with fail
          go_roundw
          case rel => exact ⟨n + 1, _, _, _, by omega, by go_num, hI4⟩
          case measure => simp [intOf]; omega
        | true =>
          clear x1 x2 x3 x4 x5
          go_upto_region 13 with fail
          have hgl : got.length ≤ 100000 := by
            have := HI.out.got
            cases st with
            | puts => simp [RlGot] at this; simp [this]
            | adds => obtain ⟨a, ha⟩ := this; simp [ha]
            | done => obtain ⟨a, b, ha⟩ := this; simp [ha]
          have hRun0 : RunAt (wr.alloc (.cells (runCells (.slice a2 got.length c2) (runOf got)).toArray 69)) B wr.heap.size (.slice a2 got.length c2) (runOf got) := ⟨Blk.new wr _ _, HI.out.grow.quiet (below_one _ _), Nat.zero_le _, hgl⟩
          have hI4 := HI.out.quiet (below_one wr (.cells (runCells (.slice a2 got.length c2) (runOf got)).toArray 69))
          have hrB := HI.out.size
          simp only [runCells, runOf] at hRun0 hI4
          obtain ⟨w4, hw4⟩ : ∃ w4, w4 = wr.alloc (.cells #[.slice a2 got.length c2, .int .i64 0, .bool false, .int .i64 0, .int .i64 0, .int .i64 0, .int .u64 0, .int .u64 0, .bool false, .bool false] 69) := ⟨_, rfl⟩
          have hRun : RunAt w4 B wr.heap.size (.slice a2 got.length c2) (runOf got) := by rw [hw4]; exact hRun0
          have hI4 : RI w w4 B l m g rm rg x k who st s (.slice a2 got.length c2) got n := by rw [hw4]; exact hI4
          rw [← hw4]
          clear hRun0 hw4 HI x0
          obtain ⟨r, hr⟩ : ∃ r, r = wr.heap.size := ⟨_, rfl⟩
          rw [← hr] at hRun hrB ⊢
          clear hr
          have hor := own_type hRun.grow hRun.blk (by decide)
          have hTr := blk_not (T' := 1) hRun.blk (by decide)
          have HI4 := hid hI4
          have HRUN := hid hRun
          clear hI4 hRun
          go_wp2_with fail
          refine (rrel_run B r _ _ k w4 HRUN.out HK.out).mono ?_
          rintro e w5 ⟨rfl, hRun5, hK5⟩
          have HI5 := hid (HI4.out.side hK5 hrB hor hTr)
          have hgot := HI4.out.got
          have hlw := lock_words HK.out
          clear HI4 HRUN hK5
          cases st with
          | puts =>
            obtain rfl : got = [] := hgot
            rw [rl_puts] at hRun5
            have HRUN := hid hRun5
            have d0 := hRun5.blk.cell 0
            have d1 := hRun5.blk.cell 1
            have d2 := hRun5.blk.cell 2
            have d3 := hRun5.blk.cell 3
            have d4 := hRun5.blk.cell 4
            have d5 := hRun5.blk.cell 5
            have d6 := hRun5.blk.cell 6
            have d7 := hRun5.blk.cell 7
            have d8 := hRun5.blk.cell 8
            have d9 := hRun5.blk.cell 9
            simp only [runCells, List.getElem?_cons_zero, List.getElem?_cons_succ] at d0 d1 d2 d3 d4 d5 d6 d7 d8 d9
            clear hRun5
            go_wp2_with fail
            go_quiet ((go_at_call 30; exact quiet_same (rldone_run x l k who .puts _ (HI5.out.rl.quiet (below_drewN (Below.refl _ _) _)))))
            have hq6 : Below w5.heap.size w5 (w5.drewN nq) := below_drewN (Below.refl _ _) nq
            have HI6 := hid (HI5.out.quiet hq6)
            clear hq6
            go_wp2_with fail
            refine (turn_yes B r rm rg _ ⟨[], 0, true, ⟨2, 0, 3 * k + 2, 0, 0, false⟩, false⟩ s who _ HI6.out.grow HI6.out.both.rmem rfl (by simp) (by simp) (by simp) HCB.out.1 HCB.out.2 HI6.out.size HI6.out.ltB.2.2.2.1 HI6.out.ltB.2.2.2.2).mono ?_
            rintro e w7 ⟨v', rfl, hG7, hR7, hK7⟩
            have hs7 := hK7.size
            obtain ⟨hM7, hA7, hlow7⟩ := HI6.out.turn hR7 hK7
            obtain ⟨a3, c3, rfl, _, _, _⟩ := hG7.row encI_len
            have HG7 := hid hG7
            have HR7 := hid hR7
            have HM7 := hid hM7
            have HA7 := hid hA7
            clear hG7 hR7 hM7 hA7 hK7 d0 d1 d2 d3 d4 d5 d6 d7 d8 d9
            go_wp2_with fail
            refine (rlstep_run x l m g k who .puts s w7 HA7.out HM7.out HCB.out.1 HCB.out.2).mono ?_
            rintro e w8 ⟨rfl, hA8, hM8, hK8⟩
            have hacc := acc_clock s 2 who (3 * k + 2) 0 0
            have hI8 := RI.stepped (st' := .adds) (s' := (s.acc 2 who (3 * k + 2) 0 0).1) HI6.out hlow7 HG7.out HR7.out hs7 hA8 (by have := hM8; simp only [RlSt.step, hlw.2.1, hlw.2.2] at this; exact this) hK8 ⟨_, rfl⟩ ⟨by omega, by omega⟩
            have HI8 := hid hI8
            clear hI8 hA8 hM8 hK8 HG7 HR7 HM7 HA7 hs7 hlow7
            go_wp2_with fail
            refine (alike_run m g rm rg _ w8 HI8.out.both).mono ?_
            rintro e w9 ⟨rfl, hb9⟩
            have hI9 := HI8.out.quiet hb9
            clear HI8 HI6 HI5 HRUN hb9
            go_wp2_with fail
            go_roundw
            case rel => exact ⟨n + 1, _, _, _, by omega, by go_num, hI9⟩
            case measure => simp [intOf]; omega
          | adds =>
            obtain ⟨ga, rfl⟩ := hgot
            rw [rl_adds] at hRun5
            have HRUN := hid hRun5
            have d0 := hRun5.blk.cell 0
            have d1 := hRun5.blk.cell 1
            have d2 := hRun5.blk.cell 2
            have d3 := hRun5.blk.cell 3
            have d4 := hRun5.blk.cell 4
            have d5 := hRun5.blk.cell 5
            have d6 := hRun5.blk.cell 6
            have d7 := hRun5.blk.cell 7
            have d8 := hRun5.blk.cell 8
            have d9 := hRun5.blk.cell 9
            simp only [runCells, List.getElem?_cons_zero, List.getElem?_cons_succ] at d0 d1 d2 d3 d4 d5 d6 d7 d8 d9
            clear hRun5
            go_wp2_with fail
            go_quiet ((go_at_call 30; exact quiet_same (rldone_run x l k who .adds _ (HI5.out.rl.quiet (below_drewN (Below.refl _ _) _)))))
            have hq6 : Below w5.heap.size w5 (w5.drewN nq) := below_drewN (Below.refl _ _) nq
            have HI6 := hid (HI5.out.quiet hq6)
            clear hq6
            go_wp2_with fail
            refine (turn_yes B r rm rg _ ⟨[ga], 1, true, ⟨4, 0, 3 * k + 1, 0, 1, false⟩, false⟩ s who _ HI6.out.grow HI6.out.both.rmem rfl (by simp) (by simp) (by simp) HCB.out.1 HCB.out.2 HI6.out.size HI6.out.ltB.2.2.2.1 HI6.out.ltB.2.2.2.2).mono ?_
            rintro e w7 ⟨v', rfl, hG7, hR7, hK7⟩
            have hs7 := hK7.size
            obtain ⟨hM7, hA7, hlow7⟩ := HI6.out.turn hR7 hK7
            obtain ⟨a3, c3, rfl, _, _, _⟩ := hG7.row encI_len
            have HG7 := hid hG7
            have HR7 := hid hR7
            have HM7 := hid hM7
            have HA7 := hid hA7
            clear hG7 hR7 hM7 hA7 hK7 d0 d1 d2 d3 d4 d5 d6 d7 d8 d9
            go_wp2_with fail
            refine (rlstep_run x l m g k who .adds s w7 HA7.out HM7.out HCB.out.1 HCB.out.2).mono ?_
            rintro e w8 ⟨rfl, hA8, hM8, hK8⟩
            have hacc := acc_clock s 4 who (3 * k + 1) 0 1
            have hI8 := RI.stepped (st' := .done) (s' := (s.acc 4 who (3 * k + 1) 0 1).1) HI6.out hlow7 HG7.out HR7.out hs7 hA8 (by have := hM8; simp only [RlSt.step, hlw.2.1, hlw.2.2] at this; exact this) hK8 ⟨_, _, rfl⟩ ⟨by omega, by omega⟩
            have HI8 := hid hI8
            clear hI8 hA8 hM8 hK8 HG7 HR7 HM7 HA7 hs7 hlow7
            go_wp2_with fail
            refine (alike_run m g rm rg _ w8 HI8.out.both).mono ?_
            rintro e w9 ⟨rfl, hb9⟩
            have hI9 := HI8.out.quiet hb9
            clear HI8 HI6 HI5 HRUN hb9
            go_wp2_with fail
            go_roundw
            case rel => exact ⟨n + 1, _, _, _, by omega, by go_num, hI9⟩
            case measure => simp [intOf]; omega
          | done =>
            obtain ⟨ga, gb, rfl⟩ := hgot
            rw [rl_done] at hRun5
            have HRUN := hid hRun5
            have d0 := hRun5.blk.cell 0
            have d1 := hRun5.blk.cell 1
            have d2 := hRun5.blk.cell 2
            have d3 := hRun5.blk.cell 3
            have d4 := hRun5.blk.cell 4
            have d5 := hRun5.blk.cell 5
            have d6 := hRun5.blk.cell 6
            have d7 := hRun5.blk.cell 7
            have d8 := hRun5.blk.cell 8
            have d9 := hRun5.blk.cell 9
            simp only [runCells, List.getElem?_cons_zero, List.getElem?_cons_succ] at d0 d1 d2 d3 d4 d5 d6 d7 d8 d9
            clear hRun5
            go_wp2_with fail
            go_quiet ((go_at_call 30; exact quiet_same (rldone_run x l k who .done _ (HI5.out.rl.quiet (below_drewN (Below.refl _ _) _)))))
            have hq6 : Below w5.heap.size w5 (w5.drewN nq) := below_drewN (Below.refl _ _) nq
            have HI6 := hid (HI5.out.quiet hq6)
            clear hq6
            go_wp2_with fail
            refine (turn_no B r rm rg _ ⟨[ga, gb], 2, false, ⟨0, 0, 0, 0, 0, false⟩, false⟩ s who _ HI6.out.grow HI6.out.both.rmem rfl).mono ?_
            rintro e w7 ⟨rfl, hb7⟩
            have HI7 := hid (HI6.out.quiet hb7)
            clear HI6 HI5 hb7 d0 d1 d2 d3 d4 d5 d6 d7 d8 d9
            go_wp2_with fail
            refine (rlstep_run x l m g k who .done s w7 HI7.out.rl HI7.out.both.mem HCB.out.1 HCB.out.2).mono ?_
            rintro e w8 ⟨rfl, hA8, hM8, hK8⟩
            have hI8 := RI.stepped (n := n) (st' := .done) (s' := s) HI7.out HI7.out.low HI7.out.grow HI7.out.both.rmem (Nat.le_refl _) hA8 hM8 hK8 ⟨_, _, rfl⟩ ⟨by omega, by omega⟩
            have HI8 := hid hI8
            clear hI8 hA8 hM8 hK8 HI7
            go_wp2_with fail
            refine (alike_run m g rm rg _ w8 HI8.out.both).mono ?_
            rintro e w9 ⟨rfl, hb9⟩
            have hI9 := HI8.out.quiet hb9
            clear HI8 HRUN hb9
            go_wp2_with fail
            go_roundw
            case rel => exact ⟨n + 1, _, _, _, by omega, by go_num, hI9⟩
            case measure => simp [intOf]; omega
      · obtain rfl : n = pokes.length := by omega
        have hlt' : decide ((pokes.length : Int) < (pokes.length : Int)) = false := decide_eq_false (by omega)
        have hlow6d : Below w.heap.size w wr.drew := hI.low.drew
        have hB6 : Both wr.drew m g rm rg s := hI.both.quiet (below_drewN (Below.refl _ wr) 1)
        have hlen : s.ws.length ≤ 1000000 := hB6.mem.len
        obtain ⟨cap, spare, e1, e2, e3⟩ := hB6.rmem.ex
        have c0 := e1.cell 0
        simp only [headOf, List.getElem?_cons_zero, List.getElem?_cons_succ] at c0
        have hrow := hid (row_of_blk e2)
        have hrl : rm < wr.drew.heap.size := cell_lt c0
        have HB6 := hid hB6
        clear hI hB6 e1 e2 e3
        go_wp2_with fail
        have HB : Below wr.drew.heap.size wr.drew wr.drew := Below.refl _ _
        go_region_held3 (fun w' => w'.cell? ⟨rm, 0, none⟩ = some (.slice (some ⟨rg, 0, none⟩) s.ws.length cap)) (exact (HB.cell (p := ⟨rm, 0, none⟩) hrl).trans c0) (first | (go_at_call 28; (refine (awake_run _).mono ?_); rintro e w' ⟨rfl, hb⟩; replace HB := Below.then_ HB hb; clear hb) | (go_at_call 49; (refine (mwords_run m g s _ (HB6.out.mem.quiet HB)).mono ?_); rintro e w' ⟨v, b, rfl, hbb, ⟨cap2, spare2, rfl, hcap2, hblk⟩, hb⟩; have hrow2 := hid (row_of_blk hblk); replace HB := Below.then_ HB hb; clear hb hbb hblk hcap2) | (go_at_call 48; (refine (same_run ⟨b, 0, none⟩ ⟨rg, 0, none⟩ cap2 cap s.ws _ hrow2.out (hrow.out.quiet HB) hlen).mono ?_); rintro e w' ⟨rfl, hb⟩; replace HB := Below.then_ HB hb; clear hb))
        all_goals go_wp2
        all_goals go_ret
        all_goals exact ⟨rfl, Below.then_ hlow6d HB⟩
  · have HF := hid (show ¬ FewP p T gs ∨ 400 < puts.length by
      by_cases h : FewP p T gs
      · right
        have : ¬ puts.length ≤ 400 := fun h2 => hf ⟨h, h2⟩
        omega
      · exact .inl h)
    clear hf
    go_enter Try.func9, Try.ntmps9
    go_wp2_with fail
    refine (lay_no p T gs a puts.length c _ HF.out).mono ?_
    rintro e w1 ⟨rfl, hb⟩
    have hbox1 := hbox.quiet hb
    have b0 := hbox1.cell 0
    have b1 := hbox1.cell 1
    simp only [List.getElem?_cons_zero, List.getElem?_cons_succ] at b0 b1
    have hlow1 : Below w.heap.size w w1 := hbb.trans (hb.mono (by simp; omega))
    clear hb hbox hbox1
    go_wp2_with fail
    go_quiet (fail)
    have hlow1 := below_drewN hlow1 nq
    (go_wp2_with (first | (go_at_call 28; refine (awake_run _).mono ?_; rintro e w9 ⟨rfl, hb9⟩)); go_ret; exact ⟨rfl, hlow1.trans (hb9.mono hlow1.size)⟩)
end Go.Proofs.Ytokpgbocomhpiaa.Lock
