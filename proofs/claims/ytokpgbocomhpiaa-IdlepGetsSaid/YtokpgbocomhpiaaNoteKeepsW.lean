/- The walk of NoteKeeps. -/
import Derived.Test.YtokpgbocomhpiaaNoteC
import Derived.Test.YtokpgbocomhpiaaRead
set_option maxRecDepth 100000
set_option maxHeartbeats 4000000
set_option linter.unusedVariables false
set_option linter.unusedSimpArgs false
namespace Go.Proofs.Ytokpgbocomhpiaa.Note
open Go.RowKit Go.Shelf Go.Proofs.Ytokpgbocomhpiaa.TK Go.Proofs.Ytokpgbocomhpiaa.Flag Go.Proofs.Ytokpgbocomhpiaa.Words Go.Proofs.Ytokpgbocomhpiaa.Mem Go.Proofs.Ytokpgbocomhpiaa.Flow Go.Proofs.Ytokpgbocomhpiaa.Layout Go.Proofs.Ytokpgbocomhpiaa.Run Go.Proofs.Ytokpgbocomhpiaa.Lock
theorem ws_inr {s s' : St} (h : s'.ws = s.ws) (a : Int) : s'.inr a = s.inr a ∧ s'.word a = s.word a := by unfold St.inr St.word; rw [h]; exact ⟨rfl, rfl⟩
theorem acc_sleep {s : St} {a : Int} (h : s.inr a = true) (who : Int) : (s.acc 5 who a 0 0).2 = s.word a ∧ (s.acc 5 who a 0 0).1.ws = s.ws ∧ (s.acc 5 who a 0 0).1.clock = s.clock + 1 ∧ (s.acc 5 who a 0 0).1.bad = s.bad := by
  unfold St.acc; simp [h]
theorem acc_put {s : St} {a : Int} (h : s.inr a = true) (who v : Int) : (s.acc 2 who a 0 v).1.inr a = true ∧ (s.acc 2 who a 0 v).1.word a = v ∧ (s.acc 2 who a 0 v).1.clock = s.clock + 1 ∧ (s.acc 2 who a 0 v).1.bad = s.bad := by
  have hl := (inr_spec h).2.1
  have e : (s.acc 2 who a 0 v).1 = { s with ws := s.ws.set a.toNat v, clock := s.clock + 1, last := ⟨2, who, a, s.word a, v, true⟩ } := by unfold St.acc; simp [h]
  rw [e]
  refine ⟨?_, ?_, rfl, rfl⟩
  · unfold St.inr at h ⊢; simpa using h
  · unfold St.word; simp [List.getD_eq_getElem?_getD, List.getElem?_set, hl]
theorem peek_in {s : St} {a : Int} (h : s.inr a = true) : (s.peek a).1 = s.word a := by unfold St.peek; simp [h]
theorem zeros (n : Nat) : layW n [] = List.replicate n 0 := rfl
/-- The note of a thread, in a memory of noughts. -/
theorem nt_in {T t : Int} (hT : 1 ≤ T ∧ T ≤ 8) (ht : 0 ≤ t ∧ t < T) : (fresh (layW (lenOf 1 T 1) [])).inr (nt 1 T t) = true ∧ (fresh (layW (lenOf 1 T 1) [])).word (nt 1 T t) = 0 := by
  have e : nt 1 T t = 284 + t * 3 := by unfold nt placeN; rw [if_pos (by simp; omega)]; omega
  rw [e]
  unfold fresh St.inr St.word lenOf
  rw [zeros]
  simp only [List.length_replicate, decide_eq_true_eq]
  refine ⟨by omega, ?_⟩
  rw [List.getD_eq_getElem?_getD, List.getElem?_replicate]
  split <;> rfl
/-- Behind k steps without a wake. -/
def keepAt (s0 : St) (a t : Int) (k : Nat) : SlSt × St := if k = 0 then (.waits false, s0) else (.waits true, (s0.acc 5 t a 0 0).1)
theorem keep_step {s0 : St} {a : Int} (t : Int) (h : s0.inr a = true) (hz : s0.word a = 0) (k : Nat) : (keepAt s0 a t k).1.step a t (keepAt s0 a t k).2 = keepAt s0 a t (k + 1) := by
  obtain ⟨c1, c2, c3, c4⟩ := acc_sleep h t
  unfold keepAt
  rw [if_neg (show ¬ k + 1 = 0 by omega)]
  by_cases hk : k = 0
  · simp only [if_pos hk, SlSt.step, SlSt.asleep]
    rw [c1, hz]; simp
  · have : ((s0.acc 5 t a 0 0).1.peek a).1 = 0 := by
      rw [peek_in (by rw [(ws_inr c2 a).1]; exact h), (ws_inr c2 a).2, hz]
    simp only [if_neg hk, SlSt.step, SlSt.asleep, this]
    simp
theorem keep_facts {s0 : St} {a : Int} (t : Int) (h : s0.inr a = true) (hz : s0.word a = 0) (h0 : s0.clock = 0) (h1 : s0.bad = 0) (k : Nat) :
    (keepAt s0 a t k).2.inr a = true ∧ (keepAt s0 a t k).2.word a = 0 ∧ (keepAt s0 a t k).2.clock = (if k = 0 then 0 else 1) ∧ (keepAt s0 a t k).2.bad = 0 ∧ (keepAt s0 a t k).1.asleep a (keepAt s0 a t k).2 = decide (k ≠ 0) ∧ (keepAt s0 a t k).1.over = false := by
  obtain ⟨c1, c2, c3, c4⟩ := acc_sleep h t
  have q := ws_inr c2 a
  unfold keepAt
  by_cases hk : k = 0
  · simp [hk, h, hz, h0, h1, SlSt.asleep, SlSt.over]
  · have e : ((s0.acc 5 t a 0 0).1.peek a).1 = 0 := by rw [peek_in (by rw [q.1]; exact h), q.2, hz]
    simp [hk, q, h, hz, c3, c4, h0, h1, SlSt.asleep, SlSt.over, e]
/-- Behind the wake: the two last steps. -/
theorem wake_steps {s : St} {a : Int} (t : Int) (h : s.inr a = true) (hc : s.clock ≤ 1) (hb : s.bad = 0) (asl : Bool) (ha : asl = asl) :
    let s1 := (s.acc 2 0 a 0 1).1
    let r1 := (SlSt.waits asl).step a t s1
    let r2 := r1.1.step a t r1.2
    r1.1.over = false ∧ r2.1.over = true ∧ (r2.2.peek a).1 = 0 ∧ s1.clock ≤ 2 ∧ s1.bad = 0 ∧ r1.2.clock ≤ 3 ∧ r1.2.bad = 0 := by
  obtain ⟨c1, c2, c3, c4⟩ := acc_put h 0 1
  obtain ⟨d1, d2, d3, d4⟩ := acc_sleep c1 t
  have q := ws_inr d2 a
  obtain ⟨f1, f2, f3, f4⟩ := acc_put (q.1.trans c1) t 0
  have e1 : (SlSt.waits asl).asleep a (s.acc 2 0 a 0 1).1 = false := by
    cases asl
    · rfl
    · simp [SlSt.asleep, peek_in c1, c2]
  have e2 : (SlSt.waits asl).step a t (s.acc 2 0 a 0 1).1 = (.puts, ((s.acc 2 0 a 0 1).1.acc 5 t a 0 0).1) := by
    simp only [SlSt.step, e1]
    rw [d1, c2]; simp
  intro s1 r1 r2
  have hr1 : r1 = (.puts, ((s.acc 2 0 a 0 1).1.acc 5 t a 0 0).1) := e2
  have hr2 : r2 = (.done, (((s.acc 2 0 a 0 1).1.acc 5 t a 0 0).1.acc 2 t a 0 0).1) := by show r1.1.step a t r1.2 = _; rw [hr1]; rfl
  rw [hr2, hr1]
  refine ⟨rfl, rfl, ?_, ?_, ?_, ?_, ?_⟩
  · rw [peek_in f1, f2]
  · show (s.acc 2 0 a 0 1).1.clock ≤ 2; omega
  · show (s.acc 2 0 a 0 1).1.bad = 0; omega
  · show ((s.acc 2 0 a 0 1).1.acc 5 t a 0 0).1.clock ≤ 3; omega
  · show ((s.acc 2 0 a 0 1).1.acc 5 t a 0 0).1.bad = 0; omega
/-- What the law knows of a world. -/
structure NK (w0 w : World) (B l m g x : Nat) (T a t : Int) (cs : List Value) (st : SlSt) (s : St) : Prop where
  low : Below w0.heap.size w0 w
  box : Blk w B cs 30
  lay : Lay w l 1 T 1
  mem : MemAt w m g s
  sl : SlAt w x a t st
  lo : w0.heap.size ≤ m ∧ w0.heap.size ≤ g ∧ w0.heap.size ≤ x
theorem NK.step {w0 w w' : World} {B l m g x : Nat} {T a t : Int} {cs : List Value} {st st' : SlSt} {s s' : St} (h : NK w0 w B l m g x T a t cs st s) (hA : SlAt w' x a t st') (hM : MemAt w' m g s') (hK : Kept [x, m, g] w w') : NK w0 w' B l m g x T a t cs st' s' := by
  obtain ⟨f, hf, _⟩ := h.sl.fl
  obtain ⟨o1, o2, o3⟩ := h.lo
  have a1 := Blk.ne h.box hf (by decide)
  have a2 := h.mem.neT h.box (by decide)
  have a3 := h.mem.neG h.box (by decide)
  have b1 := Blk.ne h.lay.1 hf (by decide)
  have b2 := h.mem.neT h.lay.1 (by decide)
  have b3 := h.mem.neG h.lay.1 (by decide)
  exact ⟨below_kept h.low hK (by simp; omega) h.low.size, h.box.kept hK (by simp [a1, a2, a3]), h.lay.kept hK (by simp [b1, b2, b3]), hM, hA, h.lo⟩
theorem NK.quiet {w0 w w' : World} {B l m g x : Nat} {T a t : Int} {cs : List Value} {st : SlSt} {s : St} (h : NK w0 w B l m g x T a t cs st s) (hb : Below w.heap.size w w') : NK w0 w' B l m g x T a t cs st s :=
  ⟨h.low.trans (hb.mono h.low.size), h.box.quiet hb, h.lay.quiet hb, h.mem.quiet hb, h.sl.quiet hb, h.lo⟩
theorem NK.wake {w0 w w' : World} {B l m g x y : Nat} {T a t : Int} {cs : List Value} {st : SlSt} {s s' : St} (h : NK w0 w B l m g x T a t cs st s) (hW : ∃ who b, WkAt w y a who b) (hy : w0.heap.size ≤ y) (hM : MemAt w' m g s') (hK : Kept [y, m, g] w w') : NK w0 w' B l m g x T a t cs st s' := by
  obtain ⟨f, hf, _⟩ := h.sl.fl
  obtain ⟨who, b, hW⟩ := hW
  obtain ⟨fy, hfy, _⟩ := hW.fl
  obtain ⟨o1, o2, o3⟩ := h.lo
  have a1 := Blk.ne h.box hfy (by decide)
  have a2 := h.mem.neT h.box (by decide)
  have a3 := h.mem.neG h.box (by decide)
  have b1 := Blk.ne h.lay.1 hfy (by decide)
  have b2 := h.mem.neT h.lay.1 (by decide)
  have b3 := h.mem.neG h.lay.1 (by decide)
  have x1 := Blk.ne hf hfy (by decide)
  have x2 := h.mem.neT hf (by decide)
  have x3 := h.mem.neG hf (by decide)
  have hS : ∀ i ∈ [y, m, g], ∀ cs, ¬ Blk w i cs 1 := by
    obtain ⟨cap, spare, z1, z2, z3⟩ := h.mem.ex
    intro i hi
    simp at hi
    rcases hi with rfl | rfl | rfl
    · exact blk_not hfy (by decide)
    · exact blk_not z1 (by decide)
    · exact blk_not z2 (by decide)
  exact ⟨below_kept h.low hK (by simp; omega) h.low.size, h.box.kept hK (by simp [a1, a2, a3]), h.lay.kept hK (by simp [b1, b2, b3]), hM, h.sl.kept hK (by simp [x1, x2, x3]) hS, h.lo⟩

theorem keeps_walk (w : World) (T : Int) (wT : (Lit.int .i64 T).wf = true) (t : Int) (wt : (Lit.int .i64 t).wf = true) (cs : List Value) (hcs : Read.AllL w [.base (.int .u8), .base (.int .u8)] cs) :
    Calls Try.prog 4 #[.int .i64 T, .int .i64 t, .agg cs.toArray] w fun e w' => e = .returned (.bool true) ∧ Below w.heap.size w w' := by
  obtain ⟨x0, x1, rfl, h0, h1⟩ := Read.two_ints hcs
  have h0 : 0 ≤ x0 ∧ x0 ≤ 255 := by simp [Lit.wf, IntKind.min, IntKind.max, IntKind.signed, IntKind.bits] at h0; omega
  have h1 : 0 ≤ x1 ∧ x1 ≤ 255 := by simp [Lit.wf, IntKind.min, IntKind.max, IntKind.signed, IntKind.bits] at h1; omega
  clear hcs wT wt
  have hbox := Blk.new w [.int .u8 x0, .int .u8 x1] 30
  have b0 := hbox.cell 0
  have b1 := hbox.cell 1
  simp only [List.getElem?_cons_zero, List.getElem?_cons_succ] at b0 b1
  by_cases g1 : T < 1
  · go_enter Try.func4, Try.ntmps4
    (go_wp2_with (first | (go_at_call 31; refine (awake_run _).mono ?_; rintro e w' ⟨rfl, hb⟩)); go_ret; exact ⟨rfl, Below.then_ (below_one w _) hb⟩)
  by_cases g2 : 8 < T
  · have g1' : 1 ≤ T := by omega
    go_enter Try.func4, Try.ntmps4
    (go_wp2_with (first | (go_at_call 31; refine (awake_run _).mono ?_; rintro e w' ⟨rfl, hb⟩)); go_ret; exact ⟨rfl, Below.then_ (below_one w _) hb⟩)
  by_cases g3 : t < 0
  · have g1' : 1 ≤ T := by omega
    go_enter Try.func4, Try.ntmps4
    (go_wp2_with (first | (go_at_call 31; refine (awake_run _).mono ?_; rintro e w' ⟨rfl, hb⟩)); go_ret; exact ⟨rfl, Below.then_ (below_one w _) hb⟩)
  by_cases g4 : T ≤ t
  · have g1' : 1 ≤ T := by omega
    go_enter Try.func4, Try.ntmps4
    (go_wp2_with (first | (go_at_call 31; refine (awake_run _).mono ?_; rintro e w' ⟨rfl, hb⟩)); go_ret; exact ⟨rfl, Below.then_ (below_one w _) hb⟩)
  by_cases g5 : 100 < x0
  · have g1' : 1 ≤ T := by omega
    go_enter Try.func4, Try.ntmps4
    (go_wp2_with (first | (go_at_call 31; refine (awake_run _).mono ?_; rintro e w' ⟨rfl, hb⟩)); go_ret; exact ⟨rfl, Below.then_ (below_one w _) hb⟩)
  have hT : 1 ≤ T ∧ T ≤ 8 := by omega
  have ht : 0 ≤ t ∧ t < T := by omega
  have hx : x0 ≤ 100 := by omega
  have hfew : FewP 1 T 1 := by unfold FewP Right; omega
  obtain ⟨n1, n2⟩ := nt_in hT ht
  obtain ⟨a, ha⟩ : ∃ a, a = nt 1 T t := ⟨_, rfl⟩
  obtain ⟨s0, hs0⟩ : ∃ s0, s0 = fresh (layW (lenOf 1 T 1) []) := ⟨_, rfl⟩
  rw [← ha, ← hs0] at n1 n2
  have z1 : s0.clock = 0 := by rw [hs0]; rfl
  have z2 : s0.bad = 0 := by rw [hs0]; rfl
  have HA := hid ha
  have HS := hid hs0
  have HI := hid n1
  have HZ := hid n2
  have HC := hid z1
  have HB := hid z2
  clear ha hs0 n1 n2 z1 z2 g1 g2 g3 g4 g5
  obtain ⟨N, hN⟩ : ∃ N : Nat, x0 = (N : Int) := ⟨x0.toNat, by omega⟩
  subst hN
  have hN : N ≤ 100 := by omega
  have hw : IntKind.i64.wrap (N : Int) = (N : Int) := wrap_id (by omega)
  go_enter Try.func4, Try.ntmps4
  go_wp2_with fail
  refine (lay_yes 1 T 1 none 0 [] _ hfew (by simp) ?_ (by simp)).mono ?_
  · intro i hi; simp at hi
  rintro e w1 ⟨l, m, g, rm, rg, rfl, hL⟩
  have hM1 : MemAt w1 m g s0 := by rw [HS.out]; exact hL.mem
  have hlow := hL.low
  obtain ⟨q1, q2, q3, q4, q5⟩ := hL.low5
  have hbox1 := hbox.quiet hlow
  go_wp2_with fail
  refine (nnew_run l 1 T 1 t w1 hL.lay).mono ?_
  rintro e w2 ⟨rfl, hA, hb⟩
  rw [← HA.out] at hA
  have hK : NK w w2 w.heap.size l m g w1.heap.size T a t [.int .u8 (N : Int), .int .u8 x1] (keepAt s0 a t 0).1 (keepAt s0 a t 0).2 :=
    ⟨((below_one w _).trans (hlow.mono (by simp))).trans (hb.mono (Nat.le_trans (by simp) hlow.size)), hbox1.quiet hb, hL.lay.quiet hb, hM1.quiet hb, hA, by simp at q2 q3; omega, by simp at q2 q3; omega, Nat.le_trans (by simp) hlow.size⟩
  obtain ⟨x, hxd⟩ : ∃ x, x = w1.heap.size := ⟨_, rfl⟩
  rw [← hxd] at hK ⊢
  clear hxd hA hb hL hM1 hlow hbox hbox1 b0 b1 q1 q2 q3 q4 q5
  go_wp2_with fail
  go_loopw [12] (fun i wr => ∃ k : Nat, k ≤ N ∧ i = .int .i64 (k : Int) ∧ NK w wr w.heap.size l m g x T a t [.int .u8 (N : Int), .int .u8 x1] (keepAt s0 a t k).1 (keepAt s0 a t k).2) (fun i _ => N - (intOf i).toNat)
  case atStart => exact ⟨0, Nat.zero_le _, rfl, hK⟩
  case round =>
    clear hK
    obtain ⟨k, hk, rfl, hK⟩ := hrel
    have b0 := hK.box.cell 0
    have b1 := hK.box.cell 1
    simp only [List.getElem?_cons_zero, List.getElem?_cons_succ] at b0 b1
    have HKF := hid (keep_facts t HI.out HZ.out HC.out HB.out k)
    by_cases hlt : k < N
    · have hlt' : decide ((k : Int) < (N : Int)) = true := decide_eq_true (by omega)
      go_wp2_with fail
      refine (nstep_run x m g a t _ _ wr hK.sl hK.mem (by rw [HKF.out.2.2.1]; split <;> omega) (by rw [HKF.out.2.2.2.1]; omega)).mono ?_
      rintro e w3 ⟨rfl, hA3, hM3, hK3⟩
      rw [keep_step t HI.out HZ.out k] at hA3 hM3 ⊢
      rw [(keep_facts t HI.out HZ.out HC.out HB.out (k + 1)).2.2.2.2.2]
      have hN3 := hK.step hA3 hM3 hK3
      clear hK hA3 hM3 hK3 b0 b1
      go_wp2_with fail
      go_roundw
      case rel => exact ⟨k + 1, by omega, by go_num, hN3⟩
      case measure => simp [intOf]; omega
    · obtain rfl : k = N := by omega
      have hlt' : decide ((k : Int) < (k : Int)) = false := decide_eq_false (by omega)
      obtain ⟨kf1, kf2, kf3, kf4, kf5, kf6⟩ := HKF.out
      obtain ⟨c, hc⟩ : ∃ c : Int, c = (if k = 0 then 0 else 1) := ⟨_, rfl⟩
      rw [← hc] at kf3
      have hmin : (k : Int) < 1 ∨ 1 ≤ (k : Int) := by omega
      have hw8 : IntKind.u8.wrap x1 = x1 := by rw [IntKind.wrap_u8]; omega
      obtain ⟨st, hst⟩ : ∃ st, st = (keepAt s0 a t k).1 := ⟨_, rfl⟩
      obtain ⟨s, hs⟩ : ∃ s, s = (keepAt s0 a t k).2 := ⟨_, rfl⟩
      rw [← hs] at kf1 kf2 kf3 kf4 kf5 hK
      rw [← hst] at kf5 kf6 hK
      have hasl : ∃ asl, st = .waits asl := by rw [hst]; unfold keepAt; split <;> exact ⟨_, rfl⟩
      have F1 := hid kf1
      have F4 := hid kf4
      have F3 := hid kf3
      have F5 := hid kf5
      have F6 := hid kf6
      have FK := hid hK
      have FC := hid hc
      clear kf1 kf2 kf3 kf4 kf5 kf6 hK hc hst hs HKF HI HZ HC HB HS
      clear hmin
      by_cases hk0 : k = 0
      · subst hk0
        have ec : c = 0 := by rw [FC.out]; rfl
        subst ec
        go_wp2_with fail
        refine (mclock_run m g s wr FK.out.mem).mono ?_
        rintro e w3 ⟨rfl, rfl⟩
        rw [F3.out]
        go_wp2_with fail
        refine (nasleep_run x m g a t st s wr FK.out.sl FK.out.mem).mono ?_
        rintro e w3 ⟨rfl, rfl⟩
        rw [F5.out, show decide ((0 : Nat) ≠ 0) = false by rfl]
        by_cases hpar : x1 % 2 = 1
        · have hp' : ((x1 % 2 : Int) == 1) = true := by simp [hpar]
          clear hpar
          go_wp2_with fail
          refine (awake_run wr).mono ?_
          rintro e w3 ⟨rfl, hb⟩
          go_wp2_with fail
          refine (ndone_run x a t st w3 (FK.out.sl.quiet hb)).mono ?_
          rintro e w4 ⟨rfl, rfl⟩
          rw [F6.out]
          go_wp2
          go_ret
          exact ⟨rfl, FK.out.low.trans (hb.mono FK.out.low.size)⟩
        · have hp' : ((x1 % 2 : Int) == 1) = false := by simp [hpar]
          clear hpar
          obtain ⟨asl, rfl⟩ := hasl
          obtain ⟨v1, v2, v3, v4, v5, v6, v7⟩ := wake_steps t F1.out (by rw [F3.out]; omega) F4.out asl rfl
          have V1 := hid v1
          have V2 := hid v2
          have V3 := hid v3
          have V45 := hid (And.intro v4 v5)
          have V67 := hid (And.intro v6 v7)
          clear v1 v2 v3 v4 v5 v6 v7
          go_wp2_with fail
          refine (nwake_run l 1 T 1 t 0 wr FK.out.lay).mono ?_
          rintro e w3 ⟨rfl, hW, hb⟩
          rw [← HA.out] at hW
          have hK3 := FK.out.quiet hb
          have hW : WkAt w3 wr.heap.size a 0 false := hW
          have hy : w.heap.size ≤ wr.heap.size := FK.out.low.size
          have FC4 : s.clock < 1000000 ∧ s.bad < 1000000 := by rw [F3.out, F4.out]; omega
          have FC4 := hid FC4
          obtain ⟨y, hyd⟩ : ∃ y, y = wr.heap.size := ⟨_, rfl⟩
          rw [← hyd] at hW hy ⊢
          clear hyd FK hb b0 b1
          go_wp2_with fail
          refine (wstep_run y m g a 0 s w3 hW hK3.mem FC4.out.1 FC4.out.2).mono ?_
          rintro e w4 ⟨rfl, hW4, hM4, hk4⟩
          have hK4 := hK3.wake ⟨_, _, hW⟩ hy hM4 hk4
          clear hW4 hM4 hk4 hK3 hW
          go_wp2_with fail
          refine (nstep_run x m g a t _ _ w4 hK4.sl hK4.mem (by have := V45.out.1; omega) (by have := V45.out.2; omega)).mono ?_
          rintro e w5 ⟨rfl, hA5, hM5, hk5⟩
          have hK5 := hK4.step hA5 hM5 hk5
          rw [V1.out]
          clear hA5 hM5 hk5 hK4
          go_wp2_with fail
          refine (nstep_run x m g a t _ _ w5 hK5.sl hK5.mem (by have := V67.out.1; omega) (by have := V67.out.2; omega)).mono ?_
          rintro e w6 ⟨rfl, hA6, hM6, hk6⟩
          have hK6 := hK5.step hA6 hM6 hk6
          rw [V2.out]
          clear hA6 hM6 hk6 hK5
          go_wp2_with fail
          refine (awake_run w6).mono ?_
          rintro e w7 ⟨rfl, hb7⟩
          have hK7 := hK6.quiet hb7
          clear hb7 hK6
          go_wp2_with fail
          refine (nawake_run l m g 1 T 1 t _ w7 hK7.lay hK7.mem).mono ?_
          rintro e w8 ⟨rfl, hb8⟩
          rw [← HA.out, show decide ((((((SlSt.waits asl).step a t (s.acc 2 0 a 0 1).1).1.step a t ((SlSt.waits asl).step a t (s.acc 2 0 a 0 1).1).2).2.peek a).1 ≠ 0)) = false by rw [V3.out]; rfl]
          go_wp2
          go_ret
          exact ⟨rfl, hK7.low.trans (hb8.mono hK7.low.size)⟩
      by_cases hk2 : k = 1
      · subst hk2
        have ec : c = 1 := by rw [FC.out]; rfl
        subst ec
        go_wp2_with fail
        refine (mclock_run m g s wr FK.out.mem).mono ?_
        rintro e w3 ⟨rfl, rfl⟩
        rw [F3.out]
        go_wp2_with fail
        refine (nasleep_run x m g a t st s wr FK.out.sl FK.out.mem).mono ?_
        rintro e w3 ⟨rfl, rfl⟩
        rw [F5.out, show decide ((1 : Nat) ≠ 0) = true by rfl]
        by_cases hpar : x1 % 2 = 1
        · have hp' : ((x1 % 2 : Int) == 1) = true := by simp [hpar]
          clear hpar
          go_wp2_with fail
          refine (awake_run wr).mono ?_
          rintro e w3 ⟨rfl, hb⟩
          go_wp2_with fail
          refine (ndone_run x a t st w3 (FK.out.sl.quiet hb)).mono ?_
          rintro e w4 ⟨rfl, rfl⟩
          rw [F6.out]
          go_wp2
          go_ret
          exact ⟨rfl, FK.out.low.trans (hb.mono FK.out.low.size)⟩
        · have hp' : ((x1 % 2 : Int) == 1) = false := by simp [hpar]
          clear hpar
          obtain ⟨asl, rfl⟩ := hasl
          obtain ⟨v1, v2, v3, v4, v5, v6, v7⟩ := wake_steps t F1.out (by rw [F3.out]; omega) F4.out asl rfl
          have V1 := hid v1
          have V2 := hid v2
          have V3 := hid v3
          have V45 := hid (And.intro v4 v5)
          have V67 := hid (And.intro v6 v7)
          clear v1 v2 v3 v4 v5 v6 v7
          go_wp2_with fail
          refine (nwake_run l 1 T 1 t 0 wr FK.out.lay).mono ?_
          rintro e w3 ⟨rfl, hW, hb⟩
          rw [← HA.out] at hW
          have hK3 := FK.out.quiet hb
          have hW : WkAt w3 wr.heap.size a 0 false := hW
          have hy : w.heap.size ≤ wr.heap.size := FK.out.low.size
          have FC4 : s.clock < 1000000 ∧ s.bad < 1000000 := by rw [F3.out, F4.out]; omega
          have FC4 := hid FC4
          obtain ⟨y, hyd⟩ : ∃ y, y = wr.heap.size := ⟨_, rfl⟩
          rw [← hyd] at hW hy ⊢
          clear hyd FK hb b0 b1
          go_wp2_with fail
          refine (wstep_run y m g a 0 s w3 hW hK3.mem FC4.out.1 FC4.out.2).mono ?_
          rintro e w4 ⟨rfl, hW4, hM4, hk4⟩
          have hK4 := hK3.wake ⟨_, _, hW⟩ hy hM4 hk4
          clear hW4 hM4 hk4 hK3 hW
          go_wp2_with fail
          refine (nstep_run x m g a t _ _ w4 hK4.sl hK4.mem (by have := V45.out.1; omega) (by have := V45.out.2; omega)).mono ?_
          rintro e w5 ⟨rfl, hA5, hM5, hk5⟩
          have hK5 := hK4.step hA5 hM5 hk5
          rw [V1.out]
          clear hA5 hM5 hk5 hK4
          go_wp2_with fail
          refine (nstep_run x m g a t _ _ w5 hK5.sl hK5.mem (by have := V67.out.1; omega) (by have := V67.out.2; omega)).mono ?_
          rintro e w6 ⟨rfl, hA6, hM6, hk6⟩
          have hK6 := hK5.step hA6 hM6 hk6
          rw [V2.out]
          clear hA6 hM6 hk6 hK5
          go_wp2_with fail
          refine (awake_run w6).mono ?_
          rintro e w7 ⟨rfl, hb7⟩
          have hK7 := hK6.quiet hb7
          clear hb7 hK6
          go_wp2_with fail
          refine (nawake_run l m g 1 T 1 t _ w7 hK7.lay hK7.mem).mono ?_
          rintro e w8 ⟨rfl, hb8⟩
          rw [← HA.out, show decide ((((((SlSt.waits asl).step a t (s.acc 2 0 a 0 1).1).1.step a t ((SlSt.waits asl).step a t (s.acc 2 0 a 0 1).1).2).2.peek a).1 ≠ 0)) = false by rw [V3.out]; rfl]
          go_wp2
          go_ret
          exact ⟨rfl, hK7.low.trans (hb8.mono hK7.low.size)⟩
      · have ec : c = 1 := by rw [FC.out, if_neg hk0]
        subst ec
        have hk1 : (2 : Int) ≤ (k : Int) := by omega
        have HK0 := hid (decide_eq_true (p := k ≠ 0) hk0)
        clear hk0 hk2
        go_wp2_with fail
        refine (mclock_run m g s wr FK.out.mem).mono ?_
        rintro e w3 ⟨rfl, rfl⟩
        rw [F3.out]
        go_wp2_with fail
        refine (nasleep_run x m g a t st s wr FK.out.sl FK.out.mem).mono ?_
        rintro e w3 ⟨rfl, rfl⟩
        rw [F5.out, HK0.out]
        by_cases hpar : x1 % 2 = 1
        · have hp' : ((x1 % 2 : Int) == 1) = true := by simp [hpar]
          clear hpar
          go_wp2_with fail
          refine (awake_run wr).mono ?_
          rintro e w3 ⟨rfl, hb⟩
          go_wp2_with fail
          refine (ndone_run x a t st w3 (FK.out.sl.quiet hb)).mono ?_
          rintro e w4 ⟨rfl, rfl⟩
          rw [F6.out]
          go_wp2
          go_ret
          exact ⟨rfl, FK.out.low.trans (hb.mono FK.out.low.size)⟩
        · have hp' : ((x1 % 2 : Int) == 1) = false := by simp [hpar]
          clear hpar
          obtain ⟨asl, rfl⟩ := hasl
          obtain ⟨v1, v2, v3, v4, v5, v6, v7⟩ := wake_steps t F1.out (by rw [F3.out]; omega) F4.out asl rfl
          have V1 := hid v1
          have V2 := hid v2
          have V3 := hid v3
          have V45 := hid (And.intro v4 v5)
          have V67 := hid (And.intro v6 v7)
          clear v1 v2 v3 v4 v5 v6 v7
          go_wp2_with fail
          refine (nwake_run l 1 T 1 t 0 wr FK.out.lay).mono ?_
          rintro e w3 ⟨rfl, hW, hb⟩
          rw [← HA.out] at hW
          have hK3 := FK.out.quiet hb
          have hW : WkAt w3 wr.heap.size a 0 false := hW
          have hy : w.heap.size ≤ wr.heap.size := FK.out.low.size
          have FC4 : s.clock < 1000000 ∧ s.bad < 1000000 := by rw [F3.out, F4.out]; omega
          have FC4 := hid FC4
          obtain ⟨y, hyd⟩ : ∃ y, y = wr.heap.size := ⟨_, rfl⟩
          rw [← hyd] at hW hy ⊢
          clear hyd FK hb b0 b1
          go_wp2_with fail
          refine (wstep_run y m g a 0 s w3 hW hK3.mem FC4.out.1 FC4.out.2).mono ?_
          rintro e w4 ⟨rfl, hW4, hM4, hk4⟩
          have hK4 := hK3.wake ⟨_, _, hW⟩ hy hM4 hk4
          clear hW4 hM4 hk4 hK3 hW
          go_wp2_with fail
          refine (nstep_run x m g a t _ _ w4 hK4.sl hK4.mem (by have := V45.out.1; omega) (by have := V45.out.2; omega)).mono ?_
          rintro e w5 ⟨rfl, hA5, hM5, hk5⟩
          have hK5 := hK4.step hA5 hM5 hk5
          rw [V1.out]
          clear hA5 hM5 hk5 hK4
          go_wp2_with fail
          refine (nstep_run x m g a t _ _ w5 hK5.sl hK5.mem (by have := V67.out.1; omega) (by have := V67.out.2; omega)).mono ?_
          rintro e w6 ⟨rfl, hA6, hM6, hk6⟩
          have hK6 := hK5.step hA6 hM6 hk6
          rw [V2.out]
          clear hA6 hM6 hk6 hK5
          go_wp2_with fail
          refine (awake_run w6).mono ?_
          rintro e w7 ⟨rfl, hb7⟩
          have hK7 := hK6.quiet hb7
          clear hb7 hK6
          go_wp2_with fail
          refine (nawake_run l m g 1 T 1 t _ w7 hK7.lay hK7.mem).mono ?_
          rintro e w8 ⟨rfl, hb8⟩
          rw [← HA.out, show decide ((((((SlSt.waits asl).step a t (s.acc 2 0 a 0 1).1).1.step a t ((SlSt.waits asl).step a t (s.acc 2 0 a 0 1).1).2).2.peek a).1 ≠ 0)) = false by rw [V3.out]; rfl]
          go_wp2
          go_ret
          exact ⟨rfl, hK7.low.trans (hb8.mono hK7.low.size)⟩
end Go.Proofs.Ytokpgbocomhpiaa.Note
