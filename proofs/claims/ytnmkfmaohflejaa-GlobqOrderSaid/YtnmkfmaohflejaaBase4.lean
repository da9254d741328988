/- Texts of mine, laid into one: Note, NoteB, NoteC, NoteKeepsW, NoteRef, NoteWakesW, Rel, LockRef, AcqRef. -/
import Derived.Test.YtnmkfmaohflejaaBase3
import Derived.Test.YtnmkfmaohflejaaBase1
import Derived.Deep.DeepCutAuto
section
/- Notes: a sleep and a wake, state by state. -/
set_option maxRecDepth 100000
set_option maxHeartbeats 4000000
set_option linter.unusedVariables false
set_option linter.unusedSimpArgs false
namespace Go.Proofs.Ytnmkfmaohflejaa.Note
open Go.RowKit Go.Shelf Go.Proofs.Ytnmkfmaohflejaa.TK Go.Proofs.Ytnmkfmaohflejaa.Flag Go.Proofs.Ytnmkfmaohflejaa.Words Go.Proofs.Ytnmkfmaohflejaa.Mem Go.Proofs.Ytnmkfmaohflejaa.Flow Go.Proofs.Ytnmkfmaohflejaa.Layout Go.Proofs.Ytnmkfmaohflejaa.Lock
def nt (p t n : Int) : Int := placeN true (20 + p * 264) n t 3 0 3
end Go.Proofs.Ytnmkfmaohflejaa.Note
end

section
/- Notes: a step, from any state; what is called from outside. -/
set_option maxRecDepth 100000
set_option maxHeartbeats 4000000
set_option linter.unusedVariables false
set_option linter.unusedSimpArgs false
namespace Go.Proofs.Ytnmkfmaohflejaa.Note
open Go.RowKit Go.Shelf Go.Proofs.Ytnmkfmaohflejaa.TK Go.Proofs.Ytnmkfmaohflejaa.Flag Go.Proofs.Ytnmkfmaohflejaa.Words Go.Proofs.Ytnmkfmaohflejaa.Mem Go.Proofs.Ytnmkfmaohflejaa.Flow Go.Proofs.Ytnmkfmaohflejaa.Layout Go.Proofs.Ytnmkfmaohflejaa.Lock
inductive SlSt
  | waits (asl : Bool)
  | puts
  | done
def SlSt.over : SlSt → Bool
  | .done => true
  | _ => false
/-- It is asleep. -/
def SlSt.asleep (st : SlSt) (a : Int) (s : St) : Bool :=
  match st with
  | .waits true => decide ((s.peek a).1 = 0)
  | _ => false
def SlSt.step (st : SlSt) (a who : Int) (s : St) : SlSt × St :=
  match st with
  | .waits asl => if (SlSt.waits asl).asleep a s = true then (.waits asl, s) else if (s.acc 5 who a 0 0).2 = 0 then (.waits true, (s.acc 5 who a 0 0).1) else (.puts, (s.acc 5 who a 0 0).1)
  | .puts => (.done, (s.acc 2 who a 0 0).1)
  | .done => (.done, s)
end Go.Proofs.Ytnmkfmaohflejaa.Note
end

section
/- The notes' example. -/
set_option maxRecDepth 100000
set_option maxHeartbeats 4000000
set_option linter.unusedVariables false
set_option linter.unusedSimpArgs false
namespace Go.Proofs.Ytnmkfmaohflejaa.Note
open Go.RowKit Go.Shelf Go.Proofs.Ytnmkfmaohflejaa.TK Go.Proofs.Ytnmkfmaohflejaa.Flag Go.Proofs.Ytnmkfmaohflejaa.Words Go.Proofs.Ytnmkfmaohflejaa.Mem Go.Proofs.Ytnmkfmaohflejaa.Flow Go.Proofs.Ytnmkfmaohflejaa.Layout Go.Proofs.Ytnmkfmaohflejaa.Run Go.Proofs.Ytnmkfmaohflejaa.Lock
def n0 : St := fresh (layW (lenOf 1 1 1) [])
def n1 : SlSt × St := (SlSt.waits false).step (nt 1 1 0) 0 n0
def n2 : St := (n1.2.acc 2 0 (nt 1 1 0) 0 1).1
def n3 : SlSt × St := n1.1.step (nt 1 1 0) 0 n2
def n4 : SlSt × St := n3.1.step (nt 1 1 0) 0 n3.2
theorem few111 : FewP 1 1 1 := by unfold FewP Right; omega
theorem ex_run : n1.1.over = false ∧ n1.1.asleep (nt 1 1 0) n1.2 = true ∧ decide ((n2.peek (nt 1 1 0)).1 ≠ 0) = true ∧ n1.1.asleep (nt 1 1 0) n2 = false ∧ n3.1.over = false ∧ n4.1.over = true ∧ decide ((n4.2.peek (nt 1 1 0)).1 ≠ 0) = false
    ∧ n0.clock = 0 ∧ n0.bad = 0 ∧ n1.2.clock = 1 ∧ n1.2.bad = 0 ∧ n2.clock = 2 ∧ n2.bad = 0 ∧ n3.2.clock = 3 ∧ n3.2.bad = 0 := by
  refine ⟨?_, ?_, ?_, ?_, ?_, ?_, ?_, ?_, ?_, ?_, ?_, ?_, ?_, ?_, ?_⟩ <;> decide +kernel
end Go.Proofs.Ytnmkfmaohflejaa.Note
end

section
/- The walk of NoteKeeps. -/
set_option maxRecDepth 100000
set_option maxHeartbeats 4000000
set_option linter.unusedVariables false
set_option linter.unusedSimpArgs false
namespace Go.Proofs.Ytnmkfmaohflejaa.Note
open Go.RowKit Go.Shelf Go.Proofs.Ytnmkfmaohflejaa.TK Go.Proofs.Ytnmkfmaohflejaa.Flag Go.Proofs.Ytnmkfmaohflejaa.Words Go.Proofs.Ytnmkfmaohflejaa.Mem Go.Proofs.Ytnmkfmaohflejaa.Flow Go.Proofs.Ytnmkfmaohflejaa.Layout Go.Proofs.Ytnmkfmaohflejaa.Run Go.Proofs.Ytnmkfmaohflejaa.Lock
theorem ws_inr {s s' : St} (h : s'.ws = s.ws) (a : Int) : s'.inr a = s.inr a ∧ s'.word a = s.word a := by unfold St.inr St.word; rw [h]; exact ⟨rfl, rfl⟩
theorem acc_sleep {s : St} {a : Int} (h : s.inr a = true) (who : Int) : (s.acc 5 who a 0 0).2 = s.word a ∧ (s.acc 5 who a 0 0).1.ws = s.ws ∧ (s.acc 5 who a 0 0).1.clock = s.clock + 1 ∧ (s.acc 5 who a 0 0).1.bad = s.bad := by
  unfold St.acc; simp [h]
theorem acc_put {s : St} {a : Int} (h : s.inr a = true) (who v : Int) : (s.acc 2 who a 0 v).1.inr a = true ∧ (s.acc 2 who a 0 v).1.word a = v ∧ (s.acc 2 who a 0 v).1.clock = s.clock + 1 ∧ (s.acc 2 who a 0 v).1.bad = s.bad := by
  have hl := (inr_spec h).2.1
  have e : (s.acc 2 who a 0 v).1 = { s with ws := s.ws.set a.toNat v, clock := s.clock + 1, last := ⟨2, who, a, s.word a, v, true⟩ } := by unfold St.acc; simp [h]
  rw [e]
  refine ⟨?_, ?_, rfl, rfl⟩
  · unfold St.inr at h ⊢; simpa using h
  · unfold St.word; simp [List.getD_eq_getElem?_getD, List.getElem?_set, hl]
theorem peek_in {s : St} {a : Int} (h : s.inr a = true) : (s.peek a).1 = s.word a := by unfold St.peek; simp [h]
theorem zeros (n : Nat) : layW n [] = List.replicate n 0 := rfl
/-- The note of a thread, in a memory of noughts. -/
theorem nt_in {T t : Int} (hT : 1 ≤ T ∧ T ≤ 8) (ht : 0 ≤ t ∧ t < T) : (fresh (layW (lenOf 1 T 1) [])).inr (nt 1 T t) = true ∧ (fresh (layW (lenOf 1 T 1) [])).word (nt 1 T t) = 0 := by
  have e : nt 1 T t = 284 + t * 3 := by unfold nt placeN; rw [if_pos (by simp; omega)]; omega
  rw [e]
  unfold fresh St.inr St.word lenOf
  rw [zeros]
  simp only [List.length_replicate, decide_eq_true_eq]
  refine ⟨by omega, ?_⟩
  rw [List.getD_eq_getElem?_getD, List.getElem?_replicate]
  split <;> rfl
/-- Behind k steps without a wake. -/
def keepAt (s0 : St) (a t : Int) (k : Nat) : SlSt × St := if k = 0 then (.waits false, s0) else (.waits true, (s0.acc 5 t a 0 0).1)
theorem keep_step {s0 : St} {a : Int} (t : Int) (h : s0.inr a = true) (hz : s0.word a = 0) (k : Nat) : (keepAt s0 a t k).1.step a t (keepAt s0 a t k).2 = keepAt s0 a t (k + 1) := by
  obtain ⟨c1, c2, c3, c4⟩ := acc_sleep h t
  unfold keepAt
  rw [if_neg (show ¬ k + 1 = 0 by omega)]
  by_cases hk : k = 0
  · simp only [if_pos hk, SlSt.step, SlSt.asleep]
    rw [c1, hz]; simp
  · have : ((s0.acc 5 t a 0 0).1.peek a).1 = 0 := by
      rw [peek_in (by rw [(ws_inr c2 a).1]; exact h), (ws_inr c2 a).2, hz]
    simp only [if_neg hk, SlSt.step, SlSt.asleep, this]
    simp
theorem keep_facts {s0 : St} {a : Int} (t : Int) (h : s0.inr a = true) (hz : s0.word a = 0) (h0 : s0.clock = 0) (h1 : s0.bad = 0) (k : Nat) :
    (keepAt s0 a t k).2.inr a = true ∧ (keepAt s0 a t k).2.word a = 0 ∧ (keepAt s0 a t k).2.clock = (if k = 0 then 0 else 1) ∧ (keepAt s0 a t k).2.bad = 0 ∧ (keepAt s0 a t k).1.asleep a (keepAt s0 a t k).2 = decide (k ≠ 0) ∧ (keepAt s0 a t k).1.over = false := by
  obtain ⟨c1, c2, c3, c4⟩ := acc_sleep h t
  have q := ws_inr c2 a
  unfold keepAt
  by_cases hk : k = 0
  · simp [hk, h, hz, h0, h1, SlSt.asleep, SlSt.over]
  · have e : ((s0.acc 5 t a 0 0).1.peek a).1 = 0 := by rw [peek_in (by rw [q.1]; exact h), q.2, hz]
    simp [hk, q, h, hz, c3, c4, h0, h1, SlSt.asleep, SlSt.over, e]
/-- Behind the wake: the two last steps. -/
theorem wake_steps {s : St} {a : Int} (t : Int) (h : s.inr a = true) (hc : s.clock ≤ 1) (hb : s.bad = 0) (asl : Bool) (ha : asl = asl) :
    let s1 := (s.acc 2 0 a 0 1).1
    let r1 := (SlSt.waits asl).step a t s1
    let r2 := r1.1.step a t r1.2
    r1.1.over = false ∧ r2.1.over = true ∧ (r2.2.peek a).1 = 0 ∧ s1.clock ≤ 2 ∧ s1.bad = 0 ∧ r1.2.clock ≤ 3 ∧ r1.2.bad = 0 := by
  obtain ⟨c1, c2, c3, c4⟩ := acc_put h 0 1
  obtain ⟨d1, d2, d3, d4⟩ := acc_sleep c1 t
  have q := ws_inr d2 a
  obtain ⟨f1, f2, f3, f4⟩ := acc_put (q.1.trans c1) t 0
  have e1 : (SlSt.waits asl).asleep a (s.acc 2 0 a 0 1).1 = false := by
    cases asl
    · rfl
    · simp [SlSt.asleep, peek_in c1, c2]
  have e2 : (SlSt.waits asl).step a t (s.acc 2 0 a 0 1).1 = (.puts, ((s.acc 2 0 a 0 1).1.acc 5 t a 0 0).1) := by
    simp only [SlSt.step, e1]
    rw [d1, c2]; simp
  intro s1 r1 r2
  have hr1 : r1 = (.puts, ((s.acc 2 0 a 0 1).1.acc 5 t a 0 0).1) := e2
  have hr2 : r2 = (.done, (((s.acc 2 0 a 0 1).1.acc 5 t a 0 0).1.acc 2 t a 0 0).1) := by show r1.1.step a t r1.2 = _; rw [hr1]; rfl
  rw [hr2, hr1]
  refine ⟨rfl, rfl, ?_, ?_, ?_, ?_, ?_⟩
  · rw [peek_in f1, f2]
  · show (s.acc 2 0 a 0 1).1.clock ≤ 2; omega
  · show (s.acc 2 0 a 0 1).1.bad = 0; omega
  · show ((s.acc 2 0 a 0 1).1.acc 5 t a 0 0).1.clock ≤ 3; omega
  · show ((s.acc 2 0 a 0 1).1.acc 5 t a 0 0).1.bad = 0; omega
end Go.Proofs.Ytnmkfmaohflejaa.Note
end

section
/- The document's notes. -/
set_option maxRecDepth 100000
set_option maxHeartbeats 4000000
set_option linter.unusedVariables false
set_option linter.unusedSimpArgs false
namespace Go.Proofs.Ytnmkfmaohflejaa.Run
open Go.RowKit Go.Shelf Go.Proofs.Ytnmkfmaohflejaa.TK Go.Proofs.Ytnmkfmaohflejaa.Flag Go.Proofs.Ytnmkfmaohflejaa.Read Go.Proofs.Ytnmkfmaohflejaa.Grow Go.Proofs.Ytnmkfmaohflejaa.Words Go.Proofs.Ytnmkfmaohflejaa.Mem Go.Proofs.Ytnmkfmaohflejaa.Layout
theorem row_of_blk {w : World} {b : Nat} {xs : List Int} {spare : List Value} {T : TypeId} (h : Blk w b (u64s xs ++ spare) T) : RowAt w ⟨b, 0, none⟩ xs := by
  intro i hi
  rw [show (⟨b, 0, none⟩ : Addr).add i = ⟨b, i, none⟩ by unfold Addr.add; split <;> simp_all]
  exact ((h.cell i).trans (List.getElem?_append_left (by simpa [u64s] using hi))).trans (u64s_get xs i hi)
end Go.Proofs.Ytnmkfmaohflejaa.Run
end

section
/- The walk of NoteWakes. -/
set_option maxRecDepth 100000
set_option maxHeartbeats 4000000
set_option linter.unusedVariables false
set_option linter.unusedSimpArgs false
namespace Go.Proofs.Ytnmkfmaohflejaa.Run
open Go.RowKit Go.Shelf Go.Proofs.Ytnmkfmaohflejaa.TK Go.Proofs.Ytnmkfmaohflejaa.Read Go.Proofs.Ytnmkfmaohflejaa.Mem
/-- A ground that came in. -/
theorem ground_of {w : World} {cs : List Value} (h : AllL w [.base (.int .i64), .base (.int .i64), .base (.int .i64), .row [.int .i64, .int .u64]] cs) :
    ∃ p T gs a c, ∃ puts : List PutT, cs = [.int .i64 p, .int .i64 T, .int .i64 gs, .slice a puts.length c] ∧ RowOf encP 2 w a puts ∧ (∀ q ∈ puts, 0 ≤ q.2 ∧ q.2 < 18446744073709551616) := by
  obtain ⟨v0, r0, rfl, h0, h⟩ := AllL_cons h
  obtain ⟨v1, r1, rfl, h1, h⟩ := AllL_cons h
  obtain ⟨v2, r2, rfl, h2, h⟩ := AllL_cons h
  obtain ⟨v3, r3, rfl, h3, h⟩ := AllL_cons h
  obtain rfl := AllL_nil h
  obtain ⟨p, rfl, _⟩ := h0
  obtain ⟨T, rfl, _⟩ := h1
  obtain ⟨gs, rfl, _⟩ := h2
  obtain ⟨a, c, puts, rfl, hr, hok, _⟩ := rows_of encP (fun q => 0 ≤ q.2 ∧ q.2 < 18446744073709551616) h3 (fun cs h => by
    obtain ⟨x, r, rfl, hx, h⟩ := AllB_cons h
    obtain ⟨y, r', rfl, hy, h⟩ := AllB_cons h
    obtain rfl := AllB_nil h
    obtain ⟨i, rfl, _⟩ := hx
    obtain ⟨u, rfl, hu⟩ := hy
    exact ⟨(i, u), rfl, wf_u64 hu⟩)
  exact ⟨p, T, gs, a, c, puts, rfl, hr, hok⟩
end Go.Proofs.Ytnmkfmaohflejaa.Run
namespace Go.Proofs.Ytnmkfmaohflejaa.Note
open Go.RowKit Go.Shelf Go.Proofs.Ytnmkfmaohflejaa.TK Go.Proofs.Ytnmkfmaohflejaa.Flag Go.Proofs.Ytnmkfmaohflejaa.Words Go.Proofs.Ytnmkfmaohflejaa.Mem Go.Proofs.Ytnmkfmaohflejaa.Flow Go.Proofs.Ytnmkfmaohflejaa.Layout Go.Proofs.Ytnmkfmaohflejaa.Run Go.Proofs.Ytnmkfmaohflejaa.Lock Go.Proofs.Ytnmkfmaohflejaa.Read Go.Proofs.Ytnmkfmaohflejaa.Grow
theorem layW_len (n : Nat) (puts : List PutT) : (layW n puts).length = n := layTo_len n puts puts.length
theorem nt_at {p T gs t : Int} (puts : List PutT) (h : FewP p T gs) (ht : 0 ≤ t ∧ t < T) : nt p T t = 20 + 264 * p + 3 * t + 0 ∧ (fresh (layW (lenOf p T gs) puts)).inr (nt p T t) = true := by
  unfold FewP Right at h
  have e : nt p T t = 20 + 264 * p + 3 * t + 0 := by unfold nt placeN; rw [if_pos (by simp; omega)]; omega
  refine ⟨e, ?_⟩
  rw [e]
  unfold fresh St.inr
  simp only [layW_len, lenOf, decide_eq_true_eq]
  omega
def run0 (got : List Int) : RunSt := ⟨got, 0, false, ⟨0, 0, 0, 0, 0, false⟩, false⟩
end Go.Proofs.Ytnmkfmaohflejaa.Note
end

section
/- Releasing a lock, state by state. -/
set_option maxRecDepth 100000
set_option maxHeartbeats 4000000
set_option linter.unusedVariables false
set_option linter.unusedSimpArgs false
namespace Go.Proofs.Ytnmkfmaohflejaa.Lock
open Go.RowKit Go.Shelf Go.Proofs.Ytnmkfmaohflejaa.TK Go.Proofs.Ytnmkfmaohflejaa.Flag Go.Proofs.Ytnmkfmaohflejaa.Words Go.Proofs.Ytnmkfmaohflejaa.Mem Go.Proofs.Ytnmkfmaohflejaa.Flow Go.Proofs.Ytnmkfmaohflejaa.Layout
def relR (l : Nat) (k : Int) : List Value := [.pointer (some ⟨l, 0, none⟩), .int .i64 k]
theorem rel_new (l : Nat) (k who : Int) (w : World) :
    Calls Try.prog 17 #[.pointer (some ⟨l, 0, none⟩), .int .i64 k, .int .i64 who] w fun e w' => e = .returned (.pointer (some ⟨w.heap.size, 0, none⟩)) ∧ (∃ b, FlAt w' w.heap.size ⟨who, 2, ow k, 0, 0, .func (.func 112) #[] #[.pointer (some ⟨b, 0, none⟩)], false, .nilIface, .nilFunc⟩ (relR l k) 99 ∧ Blk w' b [meth 75 w.heap.size] 1) ∧ Below w.heap.size w w' := by
  have h0 : FlAt (w.alloc (.cells (fl fl0 ++ relR l k).toArray 99)) w.heap.size fl0 (relR l k) 99 := Blk.new w _ _
  go_enter Try.func17, Try.ntmps17
  go_wp2_with fail
  refine (fof_run w.heap.size fl0 (relR l k) 99 who _ h0).mono ?_
  rintro e w1 ⟨rfl, h1, hK⟩
  have hlow : Below w.heap.size w w1 := (below_one _ _).trans (hK.below (by simp) (by simp))
  clear h0 hK
  go_wp2_with fail
  refine wp_region_T 8 (fun w' => FlAt w' w.heap.size { fl0 with who := who } (relR l k) 99 ∧ Below w.heap.size w w') (fun w' => (∃ b, FlAt w' w.heap.size ⟨who, 2, ow k, 0, 0, .func (.func 112) #[] #[.pointer (some ⟨b, 0, none⟩)], false, .nilIface, .nilFunc⟩ (relR l k) 99 ∧ Blk w' b [meth 75 w.heap.size] 1) ∧ Below w.heap.size w w') (by kernel_rfl) (by kernel_rfl) rfl (by kernel_rfl) ⟨h1, hlow.drew⟩ ?_
  clear h1 hlow
  repeat (first | (apply walkD_pure; rfl; rfl; (intro _; go_simp; first | done | rfl); (intro K hK; go_simp; refine hK _ ?_; clear hK K)) | (apply walkD_skip; rfl; rfl; (intro K hK; go_simp; refine hK _ ?_; clear hK K)) | (apply walkD_call1 [false] (by kernel_rfl); rfl; (intro _; go_simp; first | rfl | exact ⟨rfl, rfl⟩); (intro w' hD; first | (go_at_call 74; refine (owner_run l k _).mono ?_; rintro e w2 ⟨rfl, rfl⟩; exact ⟨rfl, hD⟩) | (go_at_call 73; refine (fstore_run w.heap.size _ _ _ _ _ _ _ _ _ hD.1).mono ?_; rintro e w2 ⟨rfl, b, hF, hX, hle, hK⟩; exact ⟨rfl, ⟨b, hF, hX⟩, hD.2.trans (hK.below (by simp) hD.2.size)⟩)); (intro K hK; go_simp; refine hK _ ?_; clear hK K)))
  rintro w2 ⟨hF, hlow⟩
  go_wp2
  go_ret
  exact ⟨rfl, hF, hlow⟩
theorem serves_run (x l : Nat) (k : Int) (f : Fl) (w : World) (hb : FlAt w x f (relR l k) 99) :
    Calls Try.prog 75 #[.pointer (some ⟨x, 0, none⟩)] w fun e w' => e = .returned (.tuple #[]) ∧ FlAt w' x { f with kind := 4, at_ := sv k, old := 0, nw := 1, th := meth 113 x } (relR l k) 99 ∧ Kept [x] w w' := by
  have HB := hid hb
  clear hb
  go_enter Try.func75, Try.ntmps75
  go_wp2_with fail
  refine wp_region_T 14 (fun w' => FlAt w' x f (relR l k) 99 ∧ Kept [x] w w') (fun w' => FlAt w' x { f with kind := 4, at_ := sv k, old := 0, nw := 1, th := meth 113 x } (relR l k) 99 ∧ Kept [x] w w') (by kernel_rfl) (by kernel_rfl) rfl (by kernel_rfl) ⟨HB.out, (Kept.refl [x] w).drew⟩ ?_
  clear HB
  repeat (first | (apply walkD_pure; rfl; rfl; (intro _; go_simp; first | done | rfl); (intro K hK; go_simp; refine hK _ ?_; clear hK K)) | (apply walkD_skip; rfl; rfl; (intro K hK; go_simp; refine hK _ ?_; clear hK K)) | (apply walkD_read1 [false] (by kernel_rfl); rfl; rfl; (intro w' hD; have y0 := Blk.cell hD.1 9; have y1 := Blk.cell hD.1 10; simp only [fl, relR, List.cons_append, List.nil_append, List.getElem?_cons_zero, List.getElem?_cons_succ] at y0 y1; go_simp; rfl); (intro K hK; go_simp; refine hK _ ?_; clear hK K)) | (apply walkD_call1 [false] (by kernel_rfl); rfl; (intro _; go_simp; first | rfl | exact ⟨rfl, rfl⟩); (intro w' hD; first | (go_at_call 108; refine (serving_run l k _).mono ?_; rintro e w2 ⟨rfl, rfl⟩; exact ⟨rfl, hD⟩) | (go_at_call 69; refine (fadd_run x _ _ _ _ _ _ _ _ _ hD.1).mono ?_; rintro e w2 ⟨rfl, hF, hK⟩; exact ⟨rfl, hF, hD.2.trans hK (by intro i hi; exact .inl hi)⟩)); (intro K hK; go_simp; refine hK _ ?_; clear hK K)))
  rintro w2 ⟨hF, hK⟩
  go_wp2
  go_returns
  exact ⟨rfl, hF, hK⟩
theorem rlends_run (x v : Value) (w : World) : Calls Try.prog 113 #[x, v] w fun e w' => (∃ r, e = .returned r) ∧ w = w' := by
  go_enter Try.func113, Try.ntmps113
  go_wp2
  go_returns
  exact ⟨⟨_, rfl⟩, rfl⟩
inductive RlSt
  | puts
  | adds
  | done
def RlAt (w : World) (x l : Nat) (k who : Int) : RlSt → Prop
  | .puts => ∃ b, FlAt w x ⟨who, 2, ow k, 0, 0, .func (.func 112) #[] #[.pointer (some ⟨b, 0, none⟩)], false, .nilIface, .nilFunc⟩ (relR l k) 99 ∧ Blk w b [meth 75 x] 1
  | .adds => FlAt w x ⟨who, 4, sv k, 0, 1, meth 113 x, false, .nilIface, .nilFunc⟩ (relR l k) 99
  | .done => FlAt w x ⟨who, 0, sv k, 0, 1, .nilFunc, false, .nilIface, .nilFunc⟩ (relR l k) 99
def RlSt.over : RlSt → Bool
  | .done => true
  | _ => false
def RlSt.step (st : RlSt) (k who : Int) (s : St) : RlSt × St :=
  match st with
  | .puts => (.adds, (s.acc 2 who (ow k) 0 0).1)
  | .adds => (.done, (s.acc 4 who (sv k) 0 1).1)
  | .done => (.done, s)
theorem RlAt.fl {w : World} {x l : Nat} {k who : Int} {st : RlSt} (h : RlAt w x l k who st) : ∃ f, FlAt w x f (relR l k) 99 ∧ f.sub = .nilIface ∧ f.over = st.over ∧ f.fine := by
  cases st with
  | puts => obtain ⟨b, h, _⟩ := h; exact ⟨_, h, rfl, rfl, .inl rfl⟩
  | adds => exact ⟨_, h, rfl, rfl, .inl rfl⟩
  | done => exact ⟨_, h, rfl, rfl, .inl rfl⟩
theorem RlAt.kept {w w' : World} {x l : Nat} {k who : Int} {st : RlSt} {S : List Nat} (h : RlAt w x l k who st) (hk : Kept S w w') (hx : x ∉ S) (hS : ∀ i ∈ S, ∀ cs, ¬ Blk w i cs 1) : RlAt w' x l k who st := by
  cases st with
  | puts => obtain ⟨b, h, h2⟩ := h; exact ⟨b, h.kept hk hx, h2.kept hk (fun hb => hS b hb _ h2)⟩
  | adds => exact FlAt.kept h hk hx
  | done => exact FlAt.kept h hk hx
theorem RlAt.quiet {w w' : World} {x l : Nat} {k who : Int} {st : RlSt} (h : RlAt w x l k who st) (hb : Below w.heap.size w w') : RlAt w' x l k who st := h.kept (Kept.of_below hb []) (by simp) (by simp)
theorem rl_fstep (x l m g : Nat) (k who : Int) (st : RlSt) (s : St) (w : World) (hA : RlAt w x l k who st) (hM : MemAt w m g s) (hc : s.clock < 1000000) (hbd : s.bad < 1000000) :
    Calls Try.prog 72 #[.pointer (some ⟨x, 0, none⟩), .pointer (some ⟨m, 0, none⟩)] w fun e w' => e = .returned (.bool (st.step k who s).1.over) ∧ RlAt w' x l k who (st.step k who s).1 ∧ MemAt w' m g (st.step k who s).2 ∧ Kept [x, m, g] w w' := by
  obtain ⟨f0, hF0, hz0, hz1, hz2⟩ := hA.fl
  have hxm : x ≠ m := hM.neT hF0 (by decide)
  have hxg : x ≠ g := hM.neG hF0 (by decide)
  clear hF0 hz0 hz1 hz2 f0
  cases st with
  | puts =>
    obtain ⟨b, hF, hB⟩ := hA
    refine fstep_then false x m g _ _ _ s w _ hF rfl hM hxm hxg ⟨by simp, by simp⟩ hc hbd (by simp) rfl (.inl (by simp)) _ _ _ rfl (enters_of Try.func112 (by kernel_rfl) rfl) ?_ ?_
    · intro w1 h1 h2 h3
      have hbx : b ∉ [x, m, g] := by
        have n1 := Blk.ne hB hF (by decide)
        have n2 := hM.neT hB (by decide)
        have n3 := hM.neG hB (by decide)
        simp [n1, n2, n3]
      refine fstore1_run _ b _ _ _ w1 _ (hB.kept h3 hbx) (enters_of Try.func75 (by kernel_rfl) rfl) ?_
      refine (serves_run x l k _ w1 h1).mono ?_
      rintro e w2 ⟨rfl, h4, h5⟩
      exact ⟨⟨_, rfl⟩, h4, h2.kept h5 (by simp; omega) (by simp; omega), h3.trans h5 (by intro i hi; simp at hi; subst hi; exact .inl (by simp))⟩
    · rintro w' ⟨h, _⟩
      exact ⟨_, _, h, .inl rfl, rfl⟩
  | adds =>
    refine fstep_then true x m g _ _ _ s w _ hA rfl hM hxm hxg ⟨by simp, by simp⟩ hc hbd (by simp) rfl (.inl (by simp)) _ _ _ rfl (enters_of Try.func113 (by kernel_rfl) rfl) ?_ ?_
    · intro w1 h1 h2 h3
      refine (rlends_run _ _ w1).mono ?_
      rintro e w2 ⟨hr, rfl⟩
      exact ⟨hr, h1, h2, h3⟩
    · rintro w' ⟨h, _⟩
      exact ⟨_, _, h, .inl rfl, rfl⟩
  | done =>
    refine (fstep_done x _ _ _ _ w hA rfl rfl).mono ?_
    rintro e w' ⟨rfl, rfl⟩
    exact ⟨rfl, hA, hM, Kept.refl _ _⟩
theorem rlstep_run (x l m g : Nat) (k who : Int) (st : RlSt) (s : St) (w : World) (hA : RlAt w x l k who st) (hM : MemAt w m g s) (hc : s.clock < 1000000) (hbd : s.bad < 1000000) :
    Calls Try.prog 13 #[.pointer (some ⟨x, 0, none⟩), .pointer (some ⟨m, 0, none⟩)] w fun e w' => e = .returned (.bool (st.step k who s).1.over) ∧ RlAt w' x l k who (st.step k who s).1 ∧ MemAt w' m g (st.step k who s).2 ∧ Kept [x, m, g] w w' := by
  have H := hid (rl_fstep x l m g k who st s w hA hM hc hbd)
  generalize st.step k who s = r at H ⊢
  clear hA hM
  go_enter Try.func13, Try.ntmps13
  go_wp2_with fail
  refine H.out.mono ?_
  rintro e w1 ⟨rfl, h1, h2, h3⟩
  go_wp2
  go_ret
  exact ⟨rfl, h1, h2, h3⟩
theorem rldone_run (x l : Nat) (k who : Int) (st : RlSt) (w : World) (hA : RlAt w x l k who st) :
    Calls Try.prog 11 #[.pointer (some ⟨x, 0, none⟩)] w fun e w' => e = .returned (.bool st.over) ∧ w = w' := by
  obtain ⟨f, hF, _, ho, hf⟩ := hA.fl
  have H := fdone_any x f _ _ w hF hf
  rw [ho] at H
  have H := hid H
  clear hA hF ho hf
  go_enter Try.func11, Try.ntmps11
  go_wp2_with fail
  refine H.out.mono ?_
  rintro e w1 ⟨rfl, rfl⟩
  go_wp2
  go_ret
  exact ⟨rfl, rfl⟩
end Go.Proofs.Ytnmkfmaohflejaa.Lock
end

section
/- The document's release; a replay; the pokes that came in. -/
set_option maxRecDepth 100000
set_option maxHeartbeats 4000000
set_option linter.unusedVariables false
set_option linter.unusedSimpArgs false
namespace Go.Proofs.Ytnmkfmaohflejaa.Run
open Go.RowKit Go.Shelf Go.Proofs.Ytnmkfmaohflejaa.TK Go.Proofs.Ytnmkfmaohflejaa.Flag Go.Proofs.Ytnmkfmaohflejaa.Read Go.Proofs.Ytnmkfmaohflejaa.Grow Go.Proofs.Ytnmkfmaohflejaa.Words Go.Proofs.Ytnmkfmaohflejaa.Mem Go.Proofs.Ytnmkfmaohflejaa.Layout Go.Proofs.Ytnmkfmaohflejaa.Lock
/-- A run as it begins. -/
def runOf (got : List Int) : RunSt := ⟨got, 0, false, ⟨0, 0, 0, 0, 0, false⟩, false⟩
def relRun (k : Int) (st : RunSt) : RunSt := ((st.dox ⟨2, 0, 3 * k + 2, 0, 0, false⟩).1.dox ⟨4, 0, 3 * k + 1, 0, 1, false⟩).1
/-- How far a release is by what its accesses answered. -/
def RlGot : RlSt → List Int → Prop
  | .puts, got => got = []
  | .adds, got => ∃ a, got = [a]
  | .done, got => ∃ a b, got = [a, b]
theorem rl_puts (k : Int) : relRun k (runOf []) = ⟨[], 0, true, ⟨2, 0, 3 * k + 2, 0, 0, false⟩, false⟩ := rfl
theorem rl_adds (k a : Int) : relRun k (runOf [a]) = ⟨[a], 1, true, ⟨4, 0, 3 * k + 1, 0, 1, false⟩, false⟩ := rfl
theorem rl_done (k a b : Int) : relRun k (runOf [a, b]) = ⟨[a, b], 2, false, ⟨0, 0, 0, 0, 0, false⟩, false⟩ := rfl
theorem lock_words {k : Int} (hk : 0 ≤ k ∧ k ≤ 1) : tk k = 3 * k ∧ sv k = 3 * k + 1 ∧ ow k = 3 * k + 2 := by
  have : k = 0 ∨ k = 1 := by omega
  rcases this with rfl | rfl <;> decide
/-- A poke that came in. -/
structure PokeT where
  step : Bool
  act : ActT
def encA (a : ActT) : List Value := [.int .i64 a.kind, .int .i64 a.who, .int .i64 a.at_, .int .u64 a.old, .int .u64 a.new]
def encK (p : PokeT) : List Value := .bool p.step :: encA p.act
theorem pokes_of {w : World} {v : Value} (h : (Leaf.row [.bool, .int .i64, .int .i64, .int .i64, .int .u64, .int .u64]).holds w v) :
    ∃ a c, ∃ pokes : List PokeT, v = .slice a pokes.length c ∧ RowOf encK 6 w a pokes ∧ (∀ q ∈ pokes, 0 ≤ q.act.new ∧ q.act.new < 18446744073709551616) := by
  obtain ⟨a, c, xs, rfl, hr, hok, _⟩ := rows_of encK (fun q => 0 ≤ q.act.new ∧ q.act.new < 18446744073709551616) h (fun cs h => by
    obtain ⟨x0, r, rfl, h0, h⟩ := AllB_cons h
    obtain ⟨x1, r, rfl, h1, h⟩ := AllB_cons h
    obtain ⟨x2, r, rfl, h2, h⟩ := AllB_cons h
    obtain ⟨x3, r, rfl, h3, h⟩ := AllB_cons h
    obtain ⟨x4, r, rfl, h4, h⟩ := AllB_cons h
    obtain ⟨x5, r, rfl, h5, h⟩ := AllB_cons h
    obtain rfl := AllB_nil h
    obtain ⟨b, rfl⟩ := h0
    obtain ⟨i1, rfl, _⟩ := h1
    obtain ⟨i2, rfl, _⟩ := h2
    obtain ⟨i3, rfl, _⟩ := h3
    obtain ⟨i4, rfl, _⟩ := h4
    obtain ⟨i5, rfl, hu⟩ := h5
    exact ⟨⟨b, ⟨i1, i2, i3, i4, i5⟩⟩, rfl, wf_u64 hu⟩)
  exact ⟨a, c, xs, rfl, hr, hok⟩
theorem own_after {w : World} {B : Nat} {v : Value} {xs : List Int} (h : Grow w B 31 1 (encI .u64) v xs) {T' : TypeId} (hT : 31 ≠ T') : ∀ i ∈ v.ownBlock.toList, ∀ cs, ¬ Blk w i cs T' := by
  intro i hi cs hb
  have := own_type h hb hT
  simp at hi
  exact this hi
theorem act_clock (a : ActT) (s : St) : (a.on s).clock = s.clock + 1 ∧ (a.on s).bad ≤ s.bad + 1 ∧ s.bad ≤ (a.on s).bad := by
  unfold ActT.on
  split
  · exact ⟨(acc_clock ..).1, (acc_clock ..).2.2, (acc_clock ..).2.1⟩
  · split
    · exact ⟨(acc_clock ..).1, (acc_clock ..).2.2, (acc_clock ..).2.1⟩
    · split
      · exact ⟨(acc_clock ..).1, (acc_clock ..).2.2, (acc_clock ..).2.1⟩
      · exact ⟨(acc_clock ..).1, (acc_clock ..).2.2, (acc_clock ..).2.1⟩
end Go.Proofs.Ytnmkfmaohflejaa.Run
end

section
/- The document's acquire. -/
set_option maxRecDepth 100000
set_option maxHeartbeats 4000000
set_option linter.unusedVariables false
set_option linter.unusedSimpArgs false
namespace Go.Proofs.Ytnmkfmaohflejaa.Run
open Go.RowKit Go.Shelf Go.Proofs.Ytnmkfmaohflejaa.TK Go.Proofs.Ytnmkfmaohflejaa.Flag Go.Proofs.Ytnmkfmaohflejaa.Read Go.Proofs.Ytnmkfmaohflejaa.Grow Go.Proofs.Ytnmkfmaohflejaa.Words Go.Proofs.Ytnmkfmaohflejaa.Mem Go.Proofs.Ytnmkfmaohflejaa.Layout Go.Proofs.Ytnmkfmaohflejaa.Lock
/-- A run that goes on. -/
def at_ (got : List Int) (u : Nat) : RunSt := ⟨got, u, false, ⟨0, 0, 0, 0, 0, false⟩, false⟩
def stopAt (got : List Int) (A : Acc) : RunSt := ⟨got, got.length, true, A, false⟩
theorem dox_on (got : List Int) (u : Nat) (A : Acc) (h : u < got.length) : (at_ got u).dox A = (at_ got (u + 1), got[u]) := by
  unfold RunSt.dox at_
  simp [h, List.getD_eq_getElem?_getD]
theorem dox_end (got : List Int) (A : Acc) : (at_ got got.length).dox A = (stopAt got A, 0) := by
  unfold RunSt.dox at_ stopAt
  simp
theorem dox_stop (got : List Int) (A C : Acc) : (stopAt got A).dox C = (stopAt got A, 0) := by
  unfold RunSt.dox stopAt
  simp
/-- The turn that the document tells of an answer. -/
theorem turn_wrap2 (a : Int) (h : 0 ≤ a ∧ a < 18446744073709551616) : (IntKind.u64.wrap (a + 4294967295)).tmod 4294967296 = turnOf a ∧ IntKind.u64.wrap (a + 4294967295) % 4294967296 = turnOf a := by
  have e : 0 ≤ IntKind.u64.wrap (a + 4294967295) := by rw [IntKind.wrap_u64]; omega
  have e2 : IntKind.u64.wrap (a + 4294967295) % 4294967296 = turnOf a := by rw [IntKind.wrap_u64]; unfold turnOf; omega
  exact ⟨by rw [Int.tmod_eq_emod_of_nonneg e]; exact e2, e2⟩
def acqEnd (k who : Int) (got tail : List Int) : RunSt :=
  match tail with
  | [] => stopAt got ⟨1, 0, 3 * k + 1, 0, 0, false⟩
  | [_] => stopAt got ⟨2, 0, 3 * k + 2, 0, who + 1, false⟩
  | _ => at_ got got.length
/-- What is left of a run. -/
def leftOf (N r : Nat) (w : World) : Nat :=
  (match w.cell? ⟨r, 1, none⟩ with | some (.int _ n) => N - n.toNat | _ => 0) + (match w.cell? ⟨r, 2, none⟩ with | some (.bool true) => 0 | _ => 1)
end Go.Proofs.Ytnmkfmaohflejaa.Run
end
