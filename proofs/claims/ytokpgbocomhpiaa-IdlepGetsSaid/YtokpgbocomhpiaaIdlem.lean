/- The threads' list: putting one on it, getting one: machines by their states. -/
import Derived.Test.YtokpgbocomhpiaaRefAt
set_option maxRecDepth 100000
set_option maxHeartbeats 4000000
set_option linter.unusedVariables false
set_option linter.unusedSimpArgs false
namespace Go.Proofs.Ytokpgbocomhpiaa.Idlem
open Go.RowKit Go.Shelf Go.Proofs.Ytokpgbocomhpiaa.TK Go.Proofs.Ytokpgbocomhpiaa.Flag Go.Proofs.Ytokpgbocomhpiaa.Words Go.Proofs.Ytokpgbocomhpiaa.Mem Go.Proofs.Ytokpgbocomhpiaa.Flow Go.Proofs.Ytokpgbocomhpiaa.Layout Go.Proofs.Ytokpgbocomhpiaa.Lock Go.Proofs.Ytokpgbocomhpiaa.Run Go.Proofs.Ytokpgbocomhpiaa.Sys Go.Proofs.Ytokpgbocomhpiaa.Mach Go.Proofs.Ytokpgbocomhpiaa.Ref05
def mpR (l : Nat) (t : Int) : List Value := [.pointer (some ⟨l, 0, none⟩), .int .i64 t]
inductive MpSt
  | h
  | k (a : Int)
  | s
  | i
  | done
def mpNx (P T t : Int) : MpSt → Nx
  | .h => .load (wordN 11) 169
  | .k a => .store (th P T t 2) a 213
  | .s => .store (wordN 11) (t + 1) 235
  | .i => .add (wordN 12) 1 252
  | .done => .done
def mpNext (st : MpSt) (v : Int) : MpSt :=
  match st with
  | .h => .k v
  | .k _ => .s
  | .s => .i
  | .i => .done
  | .done => .done
def mpOk : MpSt → Prop
  | .k a => 0 ≤ a ∧ a < 18446744073709551616
  | _ => True
def mpM (l : Nat) (P T t : Int) : Mch MpSt := ⟨181, mpNx P T t, fun _ => mpR l t, mpNext, mpOk⟩
theorem mp_first_run (x l : Nat) (P T G who : Int) (t v : Int) (w : World)  (hp : Pend w x who (mpR l t) 181 .done) (hL : Lay w l P T G) :
    Calls Try.prog 169 #[.pointer (some ⟨x, 0, none⟩), .int .u64 v] w fun e w' => (∃ r, e = .returned r) ∧ Pend w' x who (mpR l t) 181 (.store (th P T t 2) v 213) ∧ Kept [x] w w' := by
  have HI := hid (MI.start hp hL).drew
  have hf := hp.idle.frozen
  (have y0 := hp.idle.rest 0; have y1 := hp.idle.rest 1; simp only [mpR, Nat.reduceAdd, Nat.zero_add, List.getElem?_cons_zero, List.getElem?_cons_succ] at y0 y1)
  clear hp hL
  go_enter Try.func169, Try.ntmps169
  go_wp2_with fail
  refine wp_region_T 15 (fun w' => MI w w' x who (mpR l t) 181 l P T G) (fun w' => Pend w' x who (mpR l t) 181 (.store (th P T t 2) v 213) ∧ Kept [x] w w') (by kernel_rfl) (by kernel_rfl) rfl (by kernel_rfl) HI.out ?_
  clear HI
  (repeat (first | (apply walkD_pure; rfl; rfl; (intro _; go_simp; first | done | rfl); (intro K hK; go_simp; refine hK _ ?_; clear hK K)) | (apply walkD_skip; rfl; rfl; (intro K hK; go_simp; refine hK _ ?_; clear hK K)) | (apply walkD_read1 [false] (by kernel_rfl); rfl; rfl; (intro w' hD; (have y0 := hD.pend.idle.rest 0; have y1 := hD.pend.idle.rest 1; simp only [mpR, Nat.reduceAdd, Nat.zero_add, List.getElem?_cons_zero, List.getElem?_cons_succ] at y0 y1); go_simp; rfl); (intro K hK; go_simp; refine hK _ ?_; clear hK K)) | (apply walkD_call1 [false] (by kernel_rfl); rfl; (intro _; go_simp; first | rfl | exact ⟨rfl, rfl⟩); (intro w' hD; first | (go_at_call 165; refine (proc_run _ _ _ _ _ _ _ hD.lay).mono ?_; rintro e w2 ⟨rfl, hb⟩; exact ⟨rfl, hD.quiet hb⟩) | (go_at_call 137; refine (thread_run _ _ _ _ _ _ _ hD.lay).mono ?_; rintro e w2 ⟨rfl, hb⟩; exact ⟨rfl, hD.quiet hb⟩) | (go_at_call 185; refine (ring_run _ _ _ _ _ _ (by assumption) _ hD.lay).mono ?_; rintro e w2 ⟨rfl, hb⟩; exact ⟨rfl, hD.quiet hb⟩) | (go_at_call 183; refine (g_run _ _ _ _ _ _ _ hD.lay).mono ?_; rintro e w2 ⟨rfl, hb⟩; exact ⟨rfl, hD.quiet hb⟩) | (go_at_call 168; refine (word_run _ 0 0 0 _ _).mono ?_; rintro e w2 ⟨rfl, rfl⟩; exact ⟨rfl, hD⟩) | (go_at_call 164; refine (iload_run hD.pend.idle _ _).mono ?_; rintro e w2 ⟨rfl, hP, hK⟩; exact ⟨rfl, hP, hD.kept.trans hK (by intro i hi; exact .inl hi)⟩) | (go_at_call 146; refine (iadd_run hD.pend.idle _ _ _).mono ?_; rintro e w2 ⟨rfl, hP, hK⟩; exact ⟨rfl, hP, hD.kept.trans hK (by intro i hi; exact .inl hi)⟩) | (go_at_call 144; refine (istore_run hD.pend.idle _ _ _).mono ?_; rintro e w2 ⟨rfl, hP, hK⟩; exact ⟨rfl, hP, hD.kept.trans hK (by intro i hi; exact .inl hi)⟩) | (go_at_call 241; refine (iswap_run hD.pend.idle _ _ _ _).mono ?_; rintro e w2 ⟨rfl, hP, hK⟩; exact ⟨rfl, hP, hD.kept.trans hK (by intro i hi; exact .inl hi)⟩)); (intro K hK; go_simp; refine hK _ ?_; clear hK K))))
  (rintro w2 ⟨h1, h2⟩; go_wp2; go_returns; exact ⟨⟨_, rfl⟩, h1, h2⟩)
theorem mp_linked_run (x l : Nat) (P T G who : Int) (t : Int) (w : World) (ht : 0 ≤ t ∧ t ≤ 1000000) (hp : Pend w x who (mpR l t) 181 .done) (hL : Lay w l P T G) :
    Calls Try.prog 213 #[.pointer (some ⟨x, 0, none⟩)] w fun e w' => (∃ r, e = .returned r) ∧ Pend w' x who (mpR l t) 181 (.store (wordN 11) (t + 1) 235) ∧ Kept [x] w w' := by
  have n1 : IntKind.u64.wrap t = t := by rw [IntKind.wrap_u64]; omega
  have n2 : IntKind.u64.wrap (t + 1) = t + 1 := by rw [IntKind.wrap_u64]; omega
  have HI := hid (MI.start hp hL).drew
  have hf := hp.idle.frozen
  (have y0 := hp.idle.rest 0; have y1 := hp.idle.rest 1; simp only [mpR, Nat.reduceAdd, Nat.zero_add, List.getElem?_cons_zero, List.getElem?_cons_succ] at y0 y1)
  clear hp hL
  go_enter Try.func213, Try.ntmps213
  go_wp2_with fail
  refine wp_region_T 16 (fun w' => MI w w' x who (mpR l t) 181 l P T G) (fun w' => Pend w' x who (mpR l t) 181 (.store (wordN 11) (t + 1) 235) ∧ Kept [x] w w') (by kernel_rfl) (by kernel_rfl) rfl (by kernel_rfl) HI.out ?_
  clear HI
  (repeat (first | (apply walkD_pure; rfl; rfl; (intro _; go_simp; first | done | rfl); (intro K hK; go_simp; refine hK _ ?_; clear hK K)) | (apply walkD_skip; rfl; rfl; (intro K hK; go_simp; refine hK _ ?_; clear hK K)) | (apply walkD_read1 [false] (by kernel_rfl); rfl; rfl; (intro w' hD; (have y0 := hD.pend.idle.rest 0; have y1 := hD.pend.idle.rest 1; simp only [mpR, Nat.reduceAdd, Nat.zero_add, List.getElem?_cons_zero, List.getElem?_cons_succ] at y0 y1); go_simp; rfl); (intro K hK; go_simp; refine hK _ ?_; clear hK K)) | (apply walkD_call1 [false] (by kernel_rfl); rfl; (intro _; go_simp; first | rfl | exact ⟨rfl, rfl⟩); (intro w' hD; first | (go_at_call 165; refine (proc_run _ _ _ _ _ _ _ hD.lay).mono ?_; rintro e w2 ⟨rfl, hb⟩; exact ⟨rfl, hD.quiet hb⟩) | (go_at_call 137; refine (thread_run _ _ _ _ _ _ _ hD.lay).mono ?_; rintro e w2 ⟨rfl, hb⟩; exact ⟨rfl, hD.quiet hb⟩) | (go_at_call 185; refine (ring_run _ _ _ _ _ _ (by assumption) _ hD.lay).mono ?_; rintro e w2 ⟨rfl, hb⟩; exact ⟨rfl, hD.quiet hb⟩) | (go_at_call 183; refine (g_run _ _ _ _ _ _ _ hD.lay).mono ?_; rintro e w2 ⟨rfl, hb⟩; exact ⟨rfl, hD.quiet hb⟩) | (go_at_call 168; refine (word_run _ 0 0 0 _ _).mono ?_; rintro e w2 ⟨rfl, rfl⟩; exact ⟨rfl, hD⟩) | (go_at_call 164; refine (iload_run hD.pend.idle _ _).mono ?_; rintro e w2 ⟨rfl, hP, hK⟩; exact ⟨rfl, hP, hD.kept.trans hK (by intro i hi; exact .inl hi)⟩) | (go_at_call 146; refine (iadd_run hD.pend.idle _ _ _).mono ?_; rintro e w2 ⟨rfl, hP, hK⟩; exact ⟨rfl, hP, hD.kept.trans hK (by intro i hi; exact .inl hi)⟩) | (go_at_call 144; refine (istore_run hD.pend.idle _ _ _).mono ?_; rintro e w2 ⟨rfl, hP, hK⟩; exact ⟨rfl, hP, hD.kept.trans hK (by intro i hi; exact .inl hi)⟩) | (go_at_call 241; refine (iswap_run hD.pend.idle _ _ _ _).mono ?_; rintro e w2 ⟨rfl, hP, hK⟩; exact ⟨rfl, hP, hD.kept.trans hK (by intro i hi; exact .inl hi)⟩)); (intro K hK; go_simp; refine hK _ ?_; clear hK K))))
  (rintro w2 ⟨h1, h2⟩; go_wp2; go_returns; exact ⟨⟨_, rfl⟩, h1, h2⟩)
theorem mp_lies_run (x l : Nat) (P T G who : Int) (t : Int) (w : World)  (hp : Pend w x who (mpR l t) 181 .done) (hL : Lay w l P T G) :
    Calls Try.prog 235 #[.pointer (some ⟨x, 0, none⟩)] w fun e w' => (∃ r, e = .returned r) ∧ Pend w' x who (mpR l t) 181 (.add (wordN 12) 1 252) ∧ Kept [x] w w' := by
  have HI := hid (MI.start hp hL).drew
  have hf := hp.idle.frozen
  (have y0 := hp.idle.rest 0; have y1 := hp.idle.rest 1; simp only [mpR, Nat.reduceAdd, Nat.zero_add, List.getElem?_cons_zero, List.getElem?_cons_succ] at y0 y1)
  clear hp hL
  go_enter Try.func235, Try.ntmps235
  go_wp2_with fail
  refine wp_region_T 10 (fun w' => MI w w' x who (mpR l t) 181 l P T G) (fun w' => Pend w' x who (mpR l t) 181 (.add (wordN 12) 1 252) ∧ Kept [x] w w') (by kernel_rfl) (by kernel_rfl) rfl (by kernel_rfl) HI.out ?_
  clear HI
  (repeat (first | (apply walkD_pure; rfl; rfl; (intro _; go_simp; first | done | rfl); (intro K hK; go_simp; refine hK _ ?_; clear hK K)) | (apply walkD_skip; rfl; rfl; (intro K hK; go_simp; refine hK _ ?_; clear hK K)) | (apply walkD_read1 [false] (by kernel_rfl); rfl; rfl; (intro w' hD; (have y0 := hD.pend.idle.rest 0; have y1 := hD.pend.idle.rest 1; simp only [mpR, Nat.reduceAdd, Nat.zero_add, List.getElem?_cons_zero, List.getElem?_cons_succ] at y0 y1); go_simp; rfl); (intro K hK; go_simp; refine hK _ ?_; clear hK K)) | (apply walkD_call1 [false] (by kernel_rfl); rfl; (intro _; go_simp; first | rfl | exact ⟨rfl, rfl⟩); (intro w' hD; first | (go_at_call 165; refine (proc_run _ _ _ _ _ _ _ hD.lay).mono ?_; rintro e w2 ⟨rfl, hb⟩; exact ⟨rfl, hD.quiet hb⟩) | (go_at_call 137; refine (thread_run _ _ _ _ _ _ _ hD.lay).mono ?_; rintro e w2 ⟨rfl, hb⟩; exact ⟨rfl, hD.quiet hb⟩) | (go_at_call 185; refine (ring_run _ _ _ _ _ _ (by assumption) _ hD.lay).mono ?_; rintro e w2 ⟨rfl, hb⟩; exact ⟨rfl, hD.quiet hb⟩) | (go_at_call 183; refine (g_run _ _ _ _ _ _ _ hD.lay).mono ?_; rintro e w2 ⟨rfl, hb⟩; exact ⟨rfl, hD.quiet hb⟩) | (go_at_call 168; refine (word_run _ 0 0 0 _ _).mono ?_; rintro e w2 ⟨rfl, rfl⟩; exact ⟨rfl, hD⟩) | (go_at_call 164; refine (iload_run hD.pend.idle _ _).mono ?_; rintro e w2 ⟨rfl, hP, hK⟩; exact ⟨rfl, hP, hD.kept.trans hK (by intro i hi; exact .inl hi)⟩) | (go_at_call 146; refine (iadd_run hD.pend.idle _ _ _).mono ?_; rintro e w2 ⟨rfl, hP, hK⟩; exact ⟨rfl, hP, hD.kept.trans hK (by intro i hi; exact .inl hi)⟩) | (go_at_call 144; refine (istore_run hD.pend.idle _ _ _).mono ?_; rintro e w2 ⟨rfl, hP, hK⟩; exact ⟨rfl, hP, hD.kept.trans hK (by intro i hi; exact .inl hi)⟩) | (go_at_call 241; refine (iswap_run hD.pend.idle _ _ _ _).mono ?_; rintro e w2 ⟨rfl, hP, hK⟩; exact ⟨rfl, hP, hD.kept.trans hK (by intro i hi; exact .inl hi)⟩)); (intro K hK; go_simp; refine hK _ ?_; clear hK K))))
  (rintro w2 ⟨h1, h2⟩; go_wp2; go_returns; exact ⟨⟨_, rfl⟩, h1, h2⟩)
theorem mp_ends_run (x l : Nat) (P T G who : Int) (t v : Int) (w : World)  (hp : Pend w x who (mpR l t) 181 .done) (hL : Lay w l P T G) :
    Calls Try.prog 252 #[.pointer (some ⟨x, 0, none⟩), .int .u64 v] w fun e w' => (∃ r, e = .returned r) ∧ Pend w' x who (mpR l t) 181 (.done) ∧ Kept [x] w w' := by
  have HI := hid (MI.start hp hL)
  have hf := hp.idle.frozen
  (have y0 := hp.idle.rest 0; have y1 := hp.idle.rest 1; simp only [mpR, Nat.reduceAdd, Nat.zero_add, List.getElem?_cons_zero, List.getElem?_cons_succ] at y0 y1)
  clear hp hL
  go_enter Try.func252, Try.ntmps252
  go_wp2
  go_returns
  exact ⟨⟨_, rfl⟩, HI.out.pend, HI.out.kept⟩
theorem mp_new_run (l : Nat) (P T G who : Int) (t : Int) (w : World) (hL : Lay w l P T G) :
    Calls Try.prog 65 #[.pointer (some ⟨l, 0, none⟩), .int .i64 who, .int .i64 t] w fun e w' => e = .returned (.pointer (some ⟨w.heap.size, 0, none⟩)) ∧ Pend w' w.heap.size who (mpR l t) 181 (.load (wordN 11) 169) ∧ Below w.heap.size w w' := by
  have h0 : FlAt (w.alloc (.cells (fl fl0 ++ mpR l t).toArray 181)) w.heap.size fl0 (mpR l t) 181 := Blk.new w _ _
  have hL0 := hL.quiet (below_one w (.cells (fl fl0 ++ mpR l t).toArray 181))
  have hlx : l ≠ w.heap.size := Nat.ne_of_lt hL.1.lt
  clear hL
  go_enter Try.func65, Try.ntmps65
  go_wp2_with fail
  refine (iof_run h0 who).mono ?_
  rintro e w1 ⟨rfl, hp, hK⟩
  have hL1 := hL0.kept hK (by simpa using hlx)
  have hlow : Below w.heap.size w w1 := (below_one _ _).trans (hK.below (by simp) (by simp))
  have HI := hid (MI.start hp hL1).drew
  clear h0 hL0 hp hL1 hK
  go_wp2_with fail
  refine wp_region_T 7 (fun w' => MI w1 w' w.heap.size who (mpR l t) 181 l P T G) (fun w' => Pend w' w.heap.size who (mpR l t) 181 (.load (wordN 11) 169) ∧ Kept [w.heap.size] w1 w') (by kernel_rfl) (by kernel_rfl) rfl (by kernel_rfl) HI.out ?_
  clear HI
  (repeat (first | (apply walkD_pure; rfl; rfl; (intro _; go_simp; first | done | rfl); (intro K hK; go_simp; refine hK _ ?_; clear hK K)) | (apply walkD_skip; rfl; rfl; (intro K hK; go_simp; refine hK _ ?_; clear hK K)) | (apply walkD_read1 [false] (by kernel_rfl); rfl; rfl; (intro w' hD; (have y0 := hD.pend.idle.rest 0; have y1 := hD.pend.idle.rest 1; simp only [mpR, Nat.reduceAdd, Nat.zero_add, List.getElem?_cons_zero, List.getElem?_cons_succ] at y0 y1); go_simp; rfl); (intro K hK; go_simp; refine hK _ ?_; clear hK K)) | (apply walkD_call1 [false] (by kernel_rfl); rfl; (intro _; go_simp; first | rfl | exact ⟨rfl, rfl⟩); (intro w' hD; first | (go_at_call 165; refine (proc_run _ _ _ _ _ _ _ hD.lay).mono ?_; rintro e w2 ⟨rfl, hb⟩; exact ⟨rfl, hD.quiet hb⟩) | (go_at_call 137; refine (thread_run _ _ _ _ _ _ _ hD.lay).mono ?_; rintro e w2 ⟨rfl, hb⟩; exact ⟨rfl, hD.quiet hb⟩) | (go_at_call 185; refine (ring_run _ _ _ _ _ _ (by assumption) _ hD.lay).mono ?_; rintro e w2 ⟨rfl, hb⟩; exact ⟨rfl, hD.quiet hb⟩) | (go_at_call 183; refine (g_run _ _ _ _ _ _ _ hD.lay).mono ?_; rintro e w2 ⟨rfl, hb⟩; exact ⟨rfl, hD.quiet hb⟩) | (go_at_call 168; refine (word_run _ 0 0 0 _ _).mono ?_; rintro e w2 ⟨rfl, rfl⟩; exact ⟨rfl, hD⟩) | (go_at_call 164; refine (iload_run hD.pend.idle _ _).mono ?_; rintro e w2 ⟨rfl, hP, hK⟩; exact ⟨rfl, hP, hD.kept.trans hK (by intro i hi; exact .inl hi)⟩) | (go_at_call 146; refine (iadd_run hD.pend.idle _ _ _).mono ?_; rintro e w2 ⟨rfl, hP, hK⟩; exact ⟨rfl, hP, hD.kept.trans hK (by intro i hi; exact .inl hi)⟩) | (go_at_call 144; refine (istore_run hD.pend.idle _ _ _).mono ?_; rintro e w2 ⟨rfl, hP, hK⟩; exact ⟨rfl, hP, hD.kept.trans hK (by intro i hi; exact .inl hi)⟩) | (go_at_call 241; refine (iswap_run hD.pend.idle _ _ _ _).mono ?_; rintro e w2 ⟨rfl, hP, hK⟩; exact ⟨rfl, hP, hD.kept.trans hK (by intro i hi; exact .inl hi)⟩)); (intro K hK; go_simp; refine hK _ ?_; clear hK K))))
  rintro w2 ⟨h1, h2⟩
  go_wp2
  go_ret
  exact ⟨rfl, h1, hlow.trans (h2.below (by simp) hlow.size)⟩
theorem mp_goes (l x : Nat) (P T t G who : Int) (ht : 0 ≤ t ∧ t ≤ 1000000) : Goes (mpM l P T t) l x P T G who := by
  refine ⟨by show ∀ T ∈ ownT 181, _; decide, by show 181 ≠ _ ∧ 181 ≠ _ ∧ 181 ≠ _; decide, ?_, ?_, ?_, ?_⟩
  · intro st hok
    cases st with
    | k a => exact hok
    | s => simp [mpM, mpNx, Nx.val]; omega
    | h => simp [mpM, mpNx, Nx.val]
    | i => simp [mpM, mpNx, Nx.val]
    | done => simp [mpM, mpNx, Nx.val]
  · intro st a hok ha
    cases st <;> first | exact ha | trivial
  · intro st hst
    cases st with
    | h => exact enters_of Try.func169 (by kernel_rfl) rfl
    | k a => exact enters_of Try.func213 (by kernel_rfl) rfl
    | s => exact enters_of Try.func235 (by kernel_rfl) rfl
    | i => exact enters_of Try.func252 (by kernel_rfl) rfl
    | done => exact absurd rfl hst
  · intro st v w hst hok hv hp hL
    cases st with
    | h => exact mp_first_run x l P T G who t v w hp hL
    | k a => exact mp_linked_run x l P T G who t w ht hp hL
    | s => exact mp_lies_run x l P T G who t w hp hL
    | i => exact mp_ends_run x l P T G who t v w hp hL
    | done => exact absurd rfl hst
theorem mpstep_run (lo l x m g : Nat) (P T G who : Int) (t : Int) {st : _} {s : St} {w : World} (hgo : Goes (mpM l P T t) l x P T G who) (hA : Mch.at_ (mpM l P T t) lo l x P T G who w st) (hM : MemAt w m g s) (hc : s.clock < 1000000) (hbd : s.bad < 1000000) :
    Calls Try.prog 66 #[.pointer (some ⟨x, 0, none⟩), .pointer (some ⟨m, 0, none⟩)] w fun e w' => (∃ b, e = .returned (.bool b)) ∧ Mch.at_ (mpM l P T t) lo l x P T G who w' (stepOf (Mch.sys (mpM l P T t)) who st s).1 ∧ MemAt w' m g (stepOf (Mch.sys (mpM l P T t)) who st s).2 ∧ KeptOwn (ownT 181) lo m g w w' := by
  obtain ⟨cs, hb⟩ := hA.1.blk
  have h2 := hA.2.1
  have H := hid (mch_fstep hgo hA hM hc hbd)
  have HK := hid (fun (w' : World) (hK : Kept [x, m, g] w w') => mch_kept (K := mpM l P T t) h2 hb hK)
  clear hA hM hb hgo
  obtain ⟨q, hq⟩ : ∃ q, q = stepOf (Mch.sys (mpM l P T t)) who st s := ⟨_, rfl⟩
  rw [← hq] at H ⊢
  obtain ⟨o, ho⟩ : ∃ o, o = (Mch.nx (mpM l P T t) q.1).over := ⟨_, rfl⟩
  rw [← ho] at H
  clear hq ho
  go_enter Try.func66, Try.ntmps66
  go_wp2_with fail
  refine H.out.mono ?_
  rintro e w1 ⟨rfl, h1, h2, h3⟩
  have HX := hid (And.intro h1 (And.intro h2 (HK.out w1 h3)))
  clear h1 h2 h3
  go_wp2
  go_ret
  exact ⟨⟨_, rfl⟩, HX.out⟩
theorem mpdone_run {lo l x : Nat} {P T G who : Int} (t : Int) {st : _} {w : World} (hA : Mch.at_ (mpM l P T t) lo l x P T G who w st) :
    Calls Try.prog 93 #[.pointer (some ⟨x, 0, none⟩)] w fun e w' => e = .returned (.bool (Mch.nx (mpM l P T t) st).over) ∧ w = w' := by
  have H := hid (pend_done hA.1)
  clear hA
  obtain ⟨o, ho⟩ : ∃ o, o = (Mch.nx (mpM l P T t) st).over := ⟨_, rfl⟩
  rw [← ho] at H ⊢
  clear ho
  go_enter Try.func93, Try.ntmps93
  go_wp2_with fail
  refine H.out.mono ?_
  rintro e w1 ⟨rfl, rfl⟩
  go_wp2
  go_ret
  exact ⟨rfl, rfl⟩
theorem mpstep_nil (m : Option Addr) (w : World) : Calls Try.prog 66 #[.pointer none, .pointer m] w fun e w' => e = .returned (.bool true) ∧ w = w' := by
  go_enter Try.func66, Try.ntmps66
  go_wp2
  go_ret
  exact ⟨rfl, rfl⟩
theorem mpdone_nil (w : World) : Calls Try.prog 93 #[.pointer none] w fun e w' => e = .returned (.bool true) ∧ w = w' := by
  go_enter Try.func93, Try.ntmps93
  go_wp2
  go_ret
  exact ⟨rfl, rfl⟩
def mgR (l : Nat) (a t : Int) : List Value := [.pointer (some ⟨l, 0, none⟩), .int .u64 a, .int .i64 t]
/-- The number that a word tells of. -/
def nOf (a : Int) : Int := IntKind.i64.wrap (IntKind.i64.wrap a - 1)
inductive MgSt
  | h
  | sec (a : Int)
  | mid (a b : Int)
  | inc (a : Int)
  | more
  | mk (a : Int)
  | got (a : Int)
  | none
def mgNx (P T : Int) : MgSt → Nx
  | .h => .load (wordN 11) 170
  | .sec a => .load (th P T (nOf a) 2) 215
  | .mid _ b => .store (wordN 11) b 237
  | .inc _ => .add (wordN 12) 4294967295 253
  | .more => .load (wordN 15) 214
  | .mk a => .store (wordN 15) a 236
  | .got _ => .done
  | .none => .done
def mgRest (l : Nat) : MgSt → List Value
  | .h => mgR l 0 (-1)
  | .sec a => mgR l a (-1)
  | .mid a _ => mgR l a (-1)
  | .inc a => mgR l a (nOf a)
  | .more => mgR l 0 (-1)
  | .mk a => mgR l a (-1)
  | .got a => mgR l a (nOf a)
  | .none => mgR l 0 (-1)
def mgNext (T : Int) (st : MgSt) (v : Int) : MgSt :=
  match st with
  | .h => if v = 0 then .more else .sec v
  | .sec a => .mid a v
  | .mid a _ => .inc a
  | .inc a => .got a
  | .more => if v < T then .mk (v + 1) else .none
  | .mk a => .got a
  | .got a => .got a
  | .none => .none
def MgSt.t : MgSt → Int
  | .inc a => nOf a
  | .got a => nOf a
  | _ => -1
def mgOk : MgSt → Prop
  | .sec a => a ≠ 0 ∧ 0 ≤ a ∧ a < 18446744073709551616
  | .mid a b => (a ≠ 0 ∧ 0 ≤ a ∧ a < 18446744073709551616) ∧ 0 ≤ b ∧ b < 18446744073709551616
  | .inc a => 0 ≤ a ∧ a < 18446744073709551616
  | .mk a => 0 ≤ a ∧ a < 18446744073709551616
  | .got a => 0 ≤ a ∧ a < 18446744073709551616
  | _ => True
def mgM (l : Nat) (P T : Int) : Mch MgSt := ⟨183, mgNx P T, mgRest l, mgNext T, mgOk⟩
theorem mg_first0_run (x l : Nat) (P T G who : Int) (a t : Int) (w : World)  (hp : Pend w x who (mgR l a t) 183 .done) (hL : Lay w l P T G) :
    Calls Try.prog 170 #[.pointer (some ⟨x, 0, none⟩), .int .u64 0] w fun e w' => (∃ r, e = .returned r) ∧ Pend w' x who (mgR l 0 t) 183 (.load (wordN 15) 214) ∧ Kept [x] w w' := by
  have HI := hid ((MI.start hp hL).put (by decide) 1 (.int .u64 0)).drew
  have hf := hp.idle.frozen
  (have y0 := hp.idle.rest 0; have y1 := hp.idle.rest 1; have y2 := hp.idle.rest 2; simp only [mgR, Nat.reduceAdd, Nat.zero_add, List.getElem?_cons_zero, List.getElem?_cons_succ] at y0 y1 y2)
  clear hp hL
  go_enter Try.func170, Try.ntmps170
  go_wp2_with fail
  refine wp_region_T 10 (fun w' => MI w w' x who (mgR l 0 t) 183 l P T G) (fun w' => Pend w' x who (mgR l 0 t) 183 (.load (wordN 15) 214) ∧ Kept [x] w w') (by kernel_rfl) (by kernel_rfl) rfl (by kernel_rfl) HI.out ?_
  clear HI
  (repeat (first | (apply walkD_pure; rfl; rfl; (intro _; go_simp; first | done | rfl); (intro K hK; go_simp; refine hK _ ?_; clear hK K)) | (apply walkD_skip; rfl; rfl; (intro K hK; go_simp; refine hK _ ?_; clear hK K)) | (apply walkD_read1 [false] (by kernel_rfl); rfl; rfl; (intro w' hD; (have y0 := hD.pend.idle.rest 0; have y1 := hD.pend.idle.rest 1; have y2 := hD.pend.idle.rest 2; simp only [mgR, Nat.reduceAdd, Nat.zero_add, List.getElem?_cons_zero, List.getElem?_cons_succ] at y0 y1 y2); go_simp; rfl); (intro K hK; go_simp; refine hK _ ?_; clear hK K)) | (apply walkD_call1 [false] (by kernel_rfl); rfl; (intro _; go_simp; first | rfl | exact ⟨rfl, rfl⟩); (intro w' hD; first | (go_at_call 165; refine (proc_run _ _ _ _ _ _ _ hD.lay).mono ?_; rintro e w2 ⟨rfl, hb⟩; exact ⟨rfl, hD.quiet hb⟩) | (go_at_call 137; refine (thread_run _ _ _ _ _ _ _ hD.lay).mono ?_; rintro e w2 ⟨rfl, hb⟩; exact ⟨rfl, hD.quiet hb⟩) | (go_at_call 185; refine (ring_run _ _ _ _ _ _ (by assumption) _ hD.lay).mono ?_; rintro e w2 ⟨rfl, hb⟩; exact ⟨rfl, hD.quiet hb⟩) | (go_at_call 183; refine (g_run _ _ _ _ _ _ _ hD.lay).mono ?_; rintro e w2 ⟨rfl, hb⟩; exact ⟨rfl, hD.quiet hb⟩) | (go_at_call 168; refine (word_run _ 0 0 0 _ _).mono ?_; rintro e w2 ⟨rfl, rfl⟩; exact ⟨rfl, hD⟩) | (go_at_call 164; refine (iload_run hD.pend.idle _ _).mono ?_; rintro e w2 ⟨rfl, hP, hK⟩; exact ⟨rfl, hP, hD.kept.trans hK (by intro i hi; exact .inl hi)⟩) | (go_at_call 146; refine (iadd_run hD.pend.idle _ _ _).mono ?_; rintro e w2 ⟨rfl, hP, hK⟩; exact ⟨rfl, hP, hD.kept.trans hK (by intro i hi; exact .inl hi)⟩) | (go_at_call 144; refine (istore_run hD.pend.idle _ _ _).mono ?_; rintro e w2 ⟨rfl, hP, hK⟩; exact ⟨rfl, hP, hD.kept.trans hK (by intro i hi; exact .inl hi)⟩) | (go_at_call 241; refine (iswap_run hD.pend.idle _ _ _ _).mono ?_; rintro e w2 ⟨rfl, hP, hK⟩; exact ⟨rfl, hP, hD.kept.trans hK (by intro i hi; exact .inl hi)⟩)); (intro K hK; go_simp; refine hK _ ?_; clear hK K))))
  (rintro w2 ⟨h1, h2⟩; go_wp2; go_returns; exact ⟨⟨_, rfl⟩, h1, h2⟩)
theorem mg_first1_run (x l : Nat) (P T G who : Int) (a t v : Int) (w : World) (hv : v ≠ 0) (hp : Pend w x who (mgR l a t) 183 .done) (hL : Lay w l P T G) :
    Calls Try.prog 170 #[.pointer (some ⟨x, 0, none⟩), .int .u64 v] w fun e w' => (∃ r, e = .returned r) ∧ Pend w' x who (mgR l v t) 183 (.load (th P T (nOf v) 2) 215) ∧ Kept [x] w w' := by
  have h0 : ((v : Int) == 0) = false := by simp [hv]
  have n1 : IntKind.i64.wrap (IntKind.i64.wrap v - 1) = nOf v := rfl
  have n2 : wrap64 (wrap64 v - 1) = nOf v := by unfold nOf; simp only [IntWalk.i64_left]
  have HI := hid ((MI.start hp hL).put (by decide) 1 (.int .u64 v)).drew
  have hf := hp.idle.frozen
  (have y0 := hp.idle.rest 0; have y1 := hp.idle.rest 1; have y2 := hp.idle.rest 2; simp only [mgR, Nat.reduceAdd, Nat.zero_add, List.getElem?_cons_zero, List.getElem?_cons_succ] at y0 y1 y2)
  clear hp hL
  go_enter Try.func170, Try.ntmps170
  go_wp2_with fail
  refine wp_region_T 13 (fun w' => MI w w' x who (mgR l v t) 183 l P T G) (fun w' => Pend w' x who (mgR l v t) 183 (.load (th P T (nOf v) 2) 215) ∧ Kept [x] w w') (by kernel_rfl) (by kernel_rfl) rfl (by kernel_rfl) HI.out ?_
  clear HI
  (repeat (first | (apply walkD_pure; rfl; rfl; (intro _; go_simp; first | done | rfl); (intro K hK; go_simp; refine hK _ ?_; clear hK K)) | (apply walkD_skip; rfl; rfl; (intro K hK; go_simp; refine hK _ ?_; clear hK K)) | (apply walkD_read1 [false] (by kernel_rfl); rfl; rfl; (intro w' hD; (have y0 := hD.pend.idle.rest 0; have y1 := hD.pend.idle.rest 1; have y2 := hD.pend.idle.rest 2; simp only [mgR, Nat.reduceAdd, Nat.zero_add, List.getElem?_cons_zero, List.getElem?_cons_succ] at y0 y1 y2); go_simp; rfl); (intro K hK; go_simp; refine hK _ ?_; clear hK K)) | (apply walkD_call1 [false] (by kernel_rfl); rfl; (intro _; go_simp; first | rfl | exact ⟨rfl, rfl⟩); (intro w' hD; first | (go_at_call 165; refine (proc_run _ _ _ _ _ _ _ hD.lay).mono ?_; rintro e w2 ⟨rfl, hb⟩; exact ⟨rfl, hD.quiet hb⟩) | (go_at_call 137; refine (thread_run _ _ _ _ _ _ _ hD.lay).mono ?_; rintro e w2 ⟨rfl, hb⟩; exact ⟨rfl, hD.quiet hb⟩) | (go_at_call 185; refine (ring_run _ _ _ _ _ _ (by assumption) _ hD.lay).mono ?_; rintro e w2 ⟨rfl, hb⟩; exact ⟨rfl, hD.quiet hb⟩) | (go_at_call 183; refine (g_run _ _ _ _ _ _ _ hD.lay).mono ?_; rintro e w2 ⟨rfl, hb⟩; exact ⟨rfl, hD.quiet hb⟩) | (go_at_call 168; refine (word_run _ 0 0 0 _ _).mono ?_; rintro e w2 ⟨rfl, rfl⟩; exact ⟨rfl, hD⟩) | (go_at_call 164; refine (iload_run hD.pend.idle _ _).mono ?_; rintro e w2 ⟨rfl, hP, hK⟩; exact ⟨rfl, hP, hD.kept.trans hK (by intro i hi; exact .inl hi)⟩) | (go_at_call 146; refine (iadd_run hD.pend.idle _ _ _).mono ?_; rintro e w2 ⟨rfl, hP, hK⟩; exact ⟨rfl, hP, hD.kept.trans hK (by intro i hi; exact .inl hi)⟩) | (go_at_call 144; refine (istore_run hD.pend.idle _ _ _).mono ?_; rintro e w2 ⟨rfl, hP, hK⟩; exact ⟨rfl, hP, hD.kept.trans hK (by intro i hi; exact .inl hi)⟩) | (go_at_call 241; refine (iswap_run hD.pend.idle _ _ _ _).mono ?_; rintro e w2 ⟨rfl, hP, hK⟩; exact ⟨rfl, hP, hD.kept.trans hK (by intro i hi; exact .inl hi)⟩)); (intro K hK; go_simp; refine hK _ ?_; clear hK K))))
  (rintro w2 ⟨h1, h2⟩; go_wp2; go_returns; exact ⟨⟨_, rfl⟩, h1, h2⟩)
theorem mg_second_run (x l : Nat) (P T G who : Int) (a t v : Int) (w : World)  (hp : Pend w x who (mgR l a t) 183 .done) (hL : Lay w l P T G) :
    Calls Try.prog 215 #[.pointer (some ⟨x, 0, none⟩), .int .u64 v] w fun e w' => (∃ r, e = .returned r) ∧ Pend w' x who (mgR l a t) 183 (.store (wordN 11) v 237) ∧ Kept [x] w w' := by
  have HI := hid (MI.start hp hL).drew
  have hf := hp.idle.frozen
  (have y0 := hp.idle.rest 0; have y1 := hp.idle.rest 1; have y2 := hp.idle.rest 2; simp only [mgR, Nat.reduceAdd, Nat.zero_add, List.getElem?_cons_zero, List.getElem?_cons_succ] at y0 y1 y2)
  clear hp hL
  go_enter Try.func215, Try.ntmps215
  go_wp2_with fail
  refine wp_region_T 11 (fun w' => MI w w' x who (mgR l a t) 183 l P T G) (fun w' => Pend w' x who (mgR l a t) 183 (.store (wordN 11) v 237) ∧ Kept [x] w w') (by kernel_rfl) (by kernel_rfl) rfl (by kernel_rfl) HI.out ?_
  clear HI
  (repeat (first | (apply walkD_pure; rfl; rfl; (intro _; go_simp; first | done | rfl); (intro K hK; go_simp; refine hK _ ?_; clear hK K)) | (apply walkD_skip; rfl; rfl; (intro K hK; go_simp; refine hK _ ?_; clear hK K)) | (apply walkD_read1 [false] (by kernel_rfl); rfl; rfl; (intro w' hD; (have y0 := hD.pend.idle.rest 0; have y1 := hD.pend.idle.rest 1; have y2 := hD.pend.idle.rest 2; simp only [mgR, Nat.reduceAdd, Nat.zero_add, List.getElem?_cons_zero, List.getElem?_cons_succ] at y0 y1 y2); go_simp; rfl); (intro K hK; go_simp; refine hK _ ?_; clear hK K)) | (apply walkD_call1 [false] (by kernel_rfl); rfl; (intro _; go_simp; first | rfl | exact ⟨rfl, rfl⟩); (intro w' hD; first | (go_at_call 165; refine (proc_run _ _ _ _ _ _ _ hD.lay).mono ?_; rintro e w2 ⟨rfl, hb⟩; exact ⟨rfl, hD.quiet hb⟩) | (go_at_call 137; refine (thread_run _ _ _ _ _ _ _ hD.lay).mono ?_; rintro e w2 ⟨rfl, hb⟩; exact ⟨rfl, hD.quiet hb⟩) | (go_at_call 185; refine (ring_run _ _ _ _ _ _ (by assumption) _ hD.lay).mono ?_; rintro e w2 ⟨rfl, hb⟩; exact ⟨rfl, hD.quiet hb⟩) | (go_at_call 183; refine (g_run _ _ _ _ _ _ _ hD.lay).mono ?_; rintro e w2 ⟨rfl, hb⟩; exact ⟨rfl, hD.quiet hb⟩) | (go_at_call 168; refine (word_run _ 0 0 0 _ _).mono ?_; rintro e w2 ⟨rfl, rfl⟩; exact ⟨rfl, hD⟩) | (go_at_call 164; refine (iload_run hD.pend.idle _ _).mono ?_; rintro e w2 ⟨rfl, hP, hK⟩; exact ⟨rfl, hP, hD.kept.trans hK (by intro i hi; exact .inl hi)⟩) | (go_at_call 146; refine (iadd_run hD.pend.idle _ _ _).mono ?_; rintro e w2 ⟨rfl, hP, hK⟩; exact ⟨rfl, hP, hD.kept.trans hK (by intro i hi; exact .inl hi)⟩) | (go_at_call 144; refine (istore_run hD.pend.idle _ _ _).mono ?_; rintro e w2 ⟨rfl, hP, hK⟩; exact ⟨rfl, hP, hD.kept.trans hK (by intro i hi; exact .inl hi)⟩) | (go_at_call 241; refine (iswap_run hD.pend.idle _ _ _ _).mono ?_; rintro e w2 ⟨rfl, hP, hK⟩; exact ⟨rfl, hP, hD.kept.trans hK (by intro i hi; exact .inl hi)⟩)); (intro K hK; go_simp; refine hK _ ?_; clear hK K))))
  (rintro w2 ⟨h1, h2⟩; go_wp2; go_returns; exact ⟨⟨_, rfl⟩, h1, h2⟩)
theorem mg_got_run (x l : Nat) (P T G who : Int) (a t : Int) (w : World)  (hp : Pend w x who (mgR l a t) 183 .done) (hL : Lay w l P T G) :
    Calls Try.prog 237 #[.pointer (some ⟨x, 0, none⟩)] w fun e w' => (∃ r, e = .returned r) ∧ Pend w' x who (mgR l a (nOf a)) 183 (.add (wordN 12) 4294967295 253) ∧ Kept [x] w w' := by
  have n1 : IntKind.i64.wrap (IntKind.i64.wrap a - 1) = nOf a := rfl
  have n2 : wrap64 (wrap64 a - 1) = nOf a := by unfold nOf; simp only [IntWalk.i64_left]
  have HI := hid ((MI.start hp hL).put (by decide) 2 (.int .i64 (nOf a))).drew
  have hf := hp.idle.frozen
  (have y0 := hp.idle.rest 0; have y1 := hp.idle.rest 1; have y2 := hp.idle.rest 2; simp only [mgR, Nat.reduceAdd, Nat.zero_add, List.getElem?_cons_zero, List.getElem?_cons_succ] at y0 y1 y2)
  clear hp hL
  go_enter Try.func237, Try.ntmps237
  go_wp2_with fail
  refine wp_region_T 10 (fun w' => MI w w' x who (mgR l a (nOf a)) 183 l P T G) (fun w' => Pend w' x who (mgR l a (nOf a)) 183 (.add (wordN 12) 4294967295 253) ∧ Kept [x] w w') (by kernel_rfl) (by kernel_rfl) rfl (by kernel_rfl) HI.out ?_
  clear HI
  (repeat (first | (apply walkD_pure; rfl; rfl; (intro _; go_simp; first | done | rfl); (intro K hK; go_simp; refine hK _ ?_; clear hK K)) | (apply walkD_skip; rfl; rfl; (intro K hK; go_simp; refine hK _ ?_; clear hK K)) | (apply walkD_read1 [false] (by kernel_rfl); rfl; rfl; (intro w' hD; (have y0 := hD.pend.idle.rest 0; have y1 := hD.pend.idle.rest 1; have y2 := hD.pend.idle.rest 2; simp only [mgR, Nat.reduceAdd, Nat.zero_add, List.getElem?_cons_zero, List.getElem?_cons_succ] at y0 y1 y2); go_simp; rfl); (intro K hK; go_simp; refine hK _ ?_; clear hK K)) | (apply walkD_call1 [false] (by kernel_rfl); rfl; (intro _; go_simp; first | rfl | exact ⟨rfl, rfl⟩); (intro w' hD; first | (go_at_call 165; refine (proc_run _ _ _ _ _ _ _ hD.lay).mono ?_; rintro e w2 ⟨rfl, hb⟩; exact ⟨rfl, hD.quiet hb⟩) | (go_at_call 137; refine (thread_run _ _ _ _ _ _ _ hD.lay).mono ?_; rintro e w2 ⟨rfl, hb⟩; exact ⟨rfl, hD.quiet hb⟩) | (go_at_call 185; refine (ring_run _ _ _ _ _ _ (by assumption) _ hD.lay).mono ?_; rintro e w2 ⟨rfl, hb⟩; exact ⟨rfl, hD.quiet hb⟩) | (go_at_call 183; refine (g_run _ _ _ _ _ _ _ hD.lay).mono ?_; rintro e w2 ⟨rfl, hb⟩; exact ⟨rfl, hD.quiet hb⟩) | (go_at_call 168; refine (word_run _ 0 0 0 _ _).mono ?_; rintro e w2 ⟨rfl, rfl⟩; exact ⟨rfl, hD⟩) | (go_at_call 164; refine (iload_run hD.pend.idle _ _).mono ?_; rintro e w2 ⟨rfl, hP, hK⟩; exact ⟨rfl, hP, hD.kept.trans hK (by intro i hi; exact .inl hi)⟩) | (go_at_call 146; refine (iadd_run hD.pend.idle _ _ _).mono ?_; rintro e w2 ⟨rfl, hP, hK⟩; exact ⟨rfl, hP, hD.kept.trans hK (by intro i hi; exact .inl hi)⟩) | (go_at_call 144; refine (istore_run hD.pend.idle _ _ _).mono ?_; rintro e w2 ⟨rfl, hP, hK⟩; exact ⟨rfl, hP, hD.kept.trans hK (by intro i hi; exact .inl hi)⟩) | (go_at_call 241; refine (iswap_run hD.pend.idle _ _ _ _).mono ?_; rintro e w2 ⟨rfl, hP, hK⟩; exact ⟨rfl, hP, hD.kept.trans hK (by intro i hi; exact .inl hi)⟩)); (intro K hK; go_simp; refine hK _ ?_; clear hK K))))
  (rintro w2 ⟨h1, h2⟩; go_wp2; go_returns; exact ⟨⟨_, rfl⟩, h1, h2⟩)
theorem mg_made_run (x l : Nat) (P T G who : Int) (a t : Int) (w : World)  (hp : Pend w x who (mgR l a t) 183 .done) (hL : Lay w l P T G) :
    Calls Try.prog 236 #[.pointer (some ⟨x, 0, none⟩)] w fun e w' => (∃ r, e = .returned r) ∧ Pend w' x who (mgR l a (nOf a)) 183 (.done) ∧ Kept [x] w w' := by
  have n1 : IntKind.i64.wrap (IntKind.i64.wrap a - 1) = nOf a := rfl
  have n2 : wrap64 (wrap64 a - 1) = nOf a := by unfold nOf; simp only [IntWalk.i64_left]
  have HI := hid ((MI.start hp hL).put (by decide) 2 (.int .i64 (nOf a)))
  have hf := hp.idle.frozen
  (have y0 := hp.idle.rest 0; have y1 := hp.idle.rest 1; have y2 := hp.idle.rest 2; simp only [mgR, Nat.reduceAdd, Nat.zero_add, List.getElem?_cons_zero, List.getElem?_cons_succ] at y0 y1 y2)
  clear hp hL
  go_enter Try.func236, Try.ntmps236
  go_wp2
  go_returns
  exact ⟨⟨_, rfl⟩, HI.out.pend, HI.out.kept⟩
theorem mg_ends_run (x l : Nat) (P T G who : Int) (a t v : Int) (w : World)  (hp : Pend w x who (mgR l a t) 183 .done) (hL : Lay w l P T G) :
    Calls Try.prog 253 #[.pointer (some ⟨x, 0, none⟩), .int .u64 v] w fun e w' => (∃ r, e = .returned r) ∧ Pend w' x who (mgR l a t) 183 (.done) ∧ Kept [x] w w' := by
  have HI := hid (MI.start hp hL)
  have hf := hp.idle.frozen
  (have y0 := hp.idle.rest 0; have y1 := hp.idle.rest 1; have y2 := hp.idle.rest 2; simp only [mgR, Nat.reduceAdd, Nat.zero_add, List.getElem?_cons_zero, List.getElem?_cons_succ] at y0 y1 y2)
  clear hp hL
  go_enter Try.func253, Try.ntmps253
  go_wp2
  go_returns
  exact ⟨⟨_, rfl⟩, HI.out.pend, HI.out.kept⟩
theorem mg_more_yes (x l : Nat) (P T G who : Int) (a t v : Int) (w : World) (hv : 0 ≤ v ∧ v < T) (hp : Pend w x who (mgR l a t) 183 .done) (hL : Lay w l P T G) :
    Calls Try.prog 214 #[.pointer (some ⟨x, 0, none⟩), .int .u64 v] w fun e w' => (∃ r, e = .returned r) ∧ Pend w' x who (mgR l (v + 1) t) 183 (.store (wordN 15) (v + 1) 236) ∧ Kept [x] w w' := by
  have hR := hL.2
  unfold Right at hR
  have n1 : IntKind.u64.wrap T = T := by rw [IntKind.wrap_u64]; omega
  have n2 : IntKind.u64.wrap (v + 1) = v + 1 := by rw [IntKind.wrap_u64]; omega
  have d1 : decide (v < T) = true := decide_eq_true hv.2
  have hc0 := cfg_field1
  have y1 := hp.idle.rest 0
  simp only [mgR, Nat.zero_add, List.getElem?_cons_zero] at y1
  have HP := hid (And.intro hp hL)
  clear hp hL hR
  go_enter Try.func214, Try.ntmps214
  go_wp2_with fail
  refine (config_run l P T G w HP.out.2).mono ?_
  rintro e w1 ⟨rfl, hb⟩
  have HI0 : MI w w1 x who (mgR l a t) 183 l P T G := ⟨HP.out.1.quiet hb, HP.out.2.quiet hb, Kept.of_below hb _⟩
  have HI := hid (HI0.put (by decide) 1 (.int .u64 (v + 1))).drew
  have hf := HI0.pend.idle.frozen
  have hp := HI0.pend
  (have y0 := hp.idle.rest 0; have y1 := hp.idle.rest 1; have y2 := hp.idle.rest 2; simp only [mgR, Nat.reduceAdd, Nat.zero_add, List.getElem?_cons_zero, List.getElem?_cons_succ] at y0 y1 y2)
  clear hp HI0 hb HP
  go_wp2_with fail
  refine wp_region_T 12 (fun w' => MI w w' x who (mgR l (v + 1) t) 183 l P T G) (fun w' => Pend w' x who (mgR l (v + 1) t) 183 (.store (wordN 15) (v + 1) 236) ∧ Kept [x] w w') (by kernel_rfl) (by kernel_rfl) rfl (by kernel_rfl) HI.out ?_
  clear HI
  (repeat (first | (apply walkD_pure; rfl; rfl; (intro _; go_simp; first | done | rfl); (intro K hK; go_simp; refine hK _ ?_; clear hK K)) | (apply walkD_skip; rfl; rfl; (intro K hK; go_simp; refine hK _ ?_; clear hK K)) | (apply walkD_read1 [false] (by kernel_rfl); rfl; rfl; (intro w' hD; (have y0 := hD.pend.idle.rest 0; have y1 := hD.pend.idle.rest 1; have y2 := hD.pend.idle.rest 2; simp only [mgR, Nat.reduceAdd, Nat.zero_add, List.getElem?_cons_zero, List.getElem?_cons_succ] at y0 y1 y2); go_simp; rfl); (intro K hK; go_simp; refine hK _ ?_; clear hK K)) | (apply walkD_call1 [false] (by kernel_rfl); rfl; (intro _; go_simp; first | rfl | exact ⟨rfl, rfl⟩); (intro w' hD; first | (go_at_call 165; refine (proc_run _ _ _ _ _ _ _ hD.lay).mono ?_; rintro e w2 ⟨rfl, hb⟩; exact ⟨rfl, hD.quiet hb⟩) | (go_at_call 137; refine (thread_run _ _ _ _ _ _ _ hD.lay).mono ?_; rintro e w2 ⟨rfl, hb⟩; exact ⟨rfl, hD.quiet hb⟩) | (go_at_call 185; refine (ring_run _ _ _ _ _ _ (by assumption) _ hD.lay).mono ?_; rintro e w2 ⟨rfl, hb⟩; exact ⟨rfl, hD.quiet hb⟩) | (go_at_call 183; refine (g_run _ _ _ _ _ _ _ hD.lay).mono ?_; rintro e w2 ⟨rfl, hb⟩; exact ⟨rfl, hD.quiet hb⟩) | (go_at_call 168; refine (word_run _ 0 0 0 _ _).mono ?_; rintro e w2 ⟨rfl, rfl⟩; exact ⟨rfl, hD⟩) | (go_at_call 164; refine (iload_run hD.pend.idle _ _).mono ?_; rintro e w2 ⟨rfl, hP, hK⟩; exact ⟨rfl, hP, hD.kept.trans hK (by intro i hi; exact .inl hi)⟩) | (go_at_call 146; refine (iadd_run hD.pend.idle _ _ _).mono ?_; rintro e w2 ⟨rfl, hP, hK⟩; exact ⟨rfl, hP, hD.kept.trans hK (by intro i hi; exact .inl hi)⟩) | (go_at_call 144; refine (istore_run hD.pend.idle _ _ _).mono ?_; rintro e w2 ⟨rfl, hP, hK⟩; exact ⟨rfl, hP, hD.kept.trans hK (by intro i hi; exact .inl hi)⟩) | (go_at_call 241; refine (iswap_run hD.pend.idle _ _ _ _).mono ?_; rintro e w2 ⟨rfl, hP, hK⟩; exact ⟨rfl, hP, hD.kept.trans hK (by intro i hi; exact .inl hi)⟩)); (intro K hK; go_simp; refine hK _ ?_; clear hK K))))
  (rintro w2 ⟨h1, h2⟩; go_wp2; go_returns; exact ⟨⟨_, rfl⟩, h1, h2⟩)
theorem mg_more_no (x l : Nat) (P T G who : Int) (a t v : Int) (w : World) (hv : ¬ v < T) (hp : Pend w x who (mgR l a t) 183 .done) (hL : Lay w l P T G) :
    Calls Try.prog 214 #[.pointer (some ⟨x, 0, none⟩), .int .u64 v] w fun e w' => (∃ r, e = .returned r) ∧ Pend w' x who (mgR l a t) 183 .done ∧ Kept [x] w w' := by
  have hR := hL.2
  unfold Right at hR
  have n1 : IntKind.u64.wrap T = T := by rw [IntKind.wrap_u64]; omega
  have d1 : decide (v < T) = false := decide_eq_false hv
  have hc0 := cfg_field1
  have y1 := hp.idle.rest 0
  simp only [mgR, Nat.zero_add, List.getElem?_cons_zero] at y1
  have HP := hid (And.intro hp hL)
  clear hp hL hR
  go_enter Try.func214, Try.ntmps214
  go_wp2_with fail
  refine (config_run l P T G w HP.out.2).mono ?_
  rintro e w1 ⟨rfl, hb⟩
  have HI := hid (And.intro (HP.out.1.quiet hb) (Kept.of_below hb [x]))
  clear hb HP
  go_wp2
  go_returns
  exact ⟨⟨_, rfl⟩, HI.out.1, HI.out.2⟩
theorem mg_new_run (l : Nat) (P T G who : Int)  (w : World) (hL : Lay w l P T G) :
    Calls Try.prog 67 #[.pointer (some ⟨l, 0, none⟩), .int .i64 who] w fun e w' => e = .returned (.pointer (some ⟨w.heap.size, 0, none⟩)) ∧ Pend w' w.heap.size who (mgR l 0 (-1)) 183 (.load (wordN 11) 170) ∧ Below w.heap.size w w' := by
  have h0 : FlAt (w.alloc (.cells (fl fl0 ++ mgR l 0 (-1)).toArray 183)) w.heap.size fl0 (mgR l 0 (-1)) 183 := Blk.new w _ _
  have hL0 := hL.quiet (below_one w (.cells (fl fl0 ++ mgR l 0 (-1)).toArray 183))
  have hlx : l ≠ w.heap.size := Nat.ne_of_lt hL.1.lt
  clear hL
  go_enter Try.func67, Try.ntmps67
  go_wp2_with fail
  refine (iof_run h0 who).mono ?_
  rintro e w1 ⟨rfl, hp, hK⟩
  have hL1 := hL0.kept hK (by simpa using hlx)
  have hlow : Below w.heap.size w w1 := (below_one _ _).trans (hK.below (by simp) (by simp))
  have HI := hid (MI.start hp hL1).drew
  clear h0 hL0 hp hL1 hK
  go_wp2_with fail
  refine wp_region_T 7 (fun w' => MI w1 w' w.heap.size who (mgR l 0 (-1)) 183 l P T G) (fun w' => Pend w' w.heap.size who (mgR l 0 (-1)) 183 (.load (wordN 11) 170) ∧ Kept [w.heap.size] w1 w') (by kernel_rfl) (by kernel_rfl) rfl (by kernel_rfl) HI.out ?_
  clear HI
  (repeat (first | (apply walkD_pure; rfl; rfl; (intro _; go_simp; first | done | rfl); (intro K hK; go_simp; refine hK _ ?_; clear hK K)) | (apply walkD_skip; rfl; rfl; (intro K hK; go_simp; refine hK _ ?_; clear hK K)) | (apply walkD_read1 [false] (by kernel_rfl); rfl; rfl; (intro w' hD; (have y0 := hD.pend.idle.rest 0; have y1 := hD.pend.idle.rest 1; have y2 := hD.pend.idle.rest 2; simp only [mgR, Nat.reduceAdd, Nat.zero_add, List.getElem?_cons_zero, List.getElem?_cons_succ] at y0 y1 y2); go_simp; rfl); (intro K hK; go_simp; refine hK _ ?_; clear hK K)) | (apply walkD_call1 [false] (by kernel_rfl); rfl; (intro _; go_simp; first | rfl | exact ⟨rfl, rfl⟩); (intro w' hD; first | (go_at_call 165; refine (proc_run _ _ _ _ _ _ _ hD.lay).mono ?_; rintro e w2 ⟨rfl, hb⟩; exact ⟨rfl, hD.quiet hb⟩) | (go_at_call 137; refine (thread_run _ _ _ _ _ _ _ hD.lay).mono ?_; rintro e w2 ⟨rfl, hb⟩; exact ⟨rfl, hD.quiet hb⟩) | (go_at_call 185; refine (ring_run _ _ _ _ _ _ (by assumption) _ hD.lay).mono ?_; rintro e w2 ⟨rfl, hb⟩; exact ⟨rfl, hD.quiet hb⟩) | (go_at_call 183; refine (g_run _ _ _ _ _ _ _ hD.lay).mono ?_; rintro e w2 ⟨rfl, hb⟩; exact ⟨rfl, hD.quiet hb⟩) | (go_at_call 168; refine (word_run _ 0 0 0 _ _).mono ?_; rintro e w2 ⟨rfl, rfl⟩; exact ⟨rfl, hD⟩) | (go_at_call 164; refine (iload_run hD.pend.idle _ _).mono ?_; rintro e w2 ⟨rfl, hP, hK⟩; exact ⟨rfl, hP, hD.kept.trans hK (by intro i hi; exact .inl hi)⟩) | (go_at_call 146; refine (iadd_run hD.pend.idle _ _ _).mono ?_; rintro e w2 ⟨rfl, hP, hK⟩; exact ⟨rfl, hP, hD.kept.trans hK (by intro i hi; exact .inl hi)⟩) | (go_at_call 144; refine (istore_run hD.pend.idle _ _ _).mono ?_; rintro e w2 ⟨rfl, hP, hK⟩; exact ⟨rfl, hP, hD.kept.trans hK (by intro i hi; exact .inl hi)⟩) | (go_at_call 241; refine (iswap_run hD.pend.idle _ _ _ _).mono ?_; rintro e w2 ⟨rfl, hP, hK⟩; exact ⟨rfl, hP, hD.kept.trans hK (by intro i hi; exact .inl hi)⟩)); (intro K hK; go_simp; refine hK _ ?_; clear hK K))))
  rintro w2 ⟨h1, h2⟩
  go_wp2
  go_ret
  exact ⟨rfl, h1, hlow.trans (h2.below (by simp) hlow.size)⟩
theorem mg_goes (l x : Nat) (P T G who : Int) (hT : 0 ≤ T ∧ T ≤ 1000) : Goes (mgM l P T) l x P T G who := by
  refine ⟨by show ∀ T ∈ ownT 183, _; decide, by show 183 ≠ _ ∧ 183 ≠ _ ∧ 183 ≠ _; decide, ?_, ?_, ?_, ?_⟩
  · intro st hok
    cases st with
    | mid a b => exact hok.2
    | mk a => exact hok
    | h => simp [mgM, mgNx, Nx.val]
    | sec a => simp [mgM, mgNx, Nx.val]
    | inc a => simp [mgM, mgNx, Nx.val]
    | more => simp [mgM, mgNx, Nx.val]
    | got a => simp [mgM, mgNx, Nx.val]
    | none => simp [mgM, mgNx, Nx.val]
  · intro st a hok ha
    cases st with
    | h =>
      show mgOk (if a = 0 then _ else _)
      split
      · trivial
      · exact ⟨by assumption, ha⟩
    | sec b => exact ⟨hok, ha⟩
    | mid b c => exact hok.1.2
    | inc b => exact hok
    | more =>
      show mgOk (if a < T then _ else _)
      split
      · exact ⟨by omega, by omega⟩
      · trivial
    | mk b => exact hok
    | got b => exact hok
    | none => trivial
  · intro st hst
    cases st with
    | h => exact enters_of Try.func170 (by kernel_rfl) rfl
    | sec a => exact enters_of Try.func215 (by kernel_rfl) rfl
    | mid a b => exact enters_of Try.func237 (by kernel_rfl) rfl
    | inc a => exact enters_of Try.func253 (by kernel_rfl) rfl
    | more => exact enters_of Try.func214 (by kernel_rfl) rfl
    | mk a => exact enters_of Try.func236 (by kernel_rfl) rfl
    | got a => exact absurd rfl hst
    | none => exact absurd rfl hst
  · intro st v w hst hok hv hp hL
    cases st with
    | h =>
      by_cases h : v = 0
      · subst h
        exact mg_first0_run x l P T G who 0 (-1) w hp hL
      · show Calls _ _ _ _ (fun e w' => _ ∧ Pend w' x who (mgRest l (if v = 0 then MgSt.more else MgSt.sec v)) _ (mgNx P T (if v = 0 then MgSt.more else MgSt.sec v)) ∧ _)
        rw [if_neg h]
        exact mg_first1_run x l P T G who 0 (-1) v w h hp hL
    | sec a => exact mg_second_run x l P T G who a (-1) v w hp hL
    | mid a b => exact mg_got_run x l P T G who a (-1) w hp hL
    | inc a => exact mg_ends_run x l P T G who a (nOf a) v w hp hL
    | more =>
      show Calls _ _ _ _ (fun e w' => _ ∧ Pend w' x who (mgRest l (if v < T then MgSt.mk (v + 1) else MgSt.none)) _ (mgNx P T (if v < T then MgSt.mk (v + 1) else MgSt.none)) ∧ _)
      by_cases h : v < T
      · rw [if_pos h]
        exact mg_more_yes x l P T G who 0 (-1) v w ⟨hv.1, h⟩ hp hL
      · rw [if_neg h]
        exact mg_more_no x l P T G who 0 (-1) v w h hp hL
    | mk a => exact mg_made_run x l P T G who a (-1) w hp hL
    | got a => exact absurd rfl hst
    | none => exact absurd rfl hst
theorem mgstep_run (lo l x m g : Nat) (P T G who : Int)  {st : _} {s : St} {w : World} (hgo : Goes (mgM l P T) l x P T G who) (hA : Mch.at_ (mgM l P T) lo l x P T G who w st) (hM : MemAt w m g s) (hc : s.clock < 1000000) (hbd : s.bad < 1000000) :
    Calls Try.prog 68 #[.pointer (some ⟨x, 0, none⟩), .pointer (some ⟨m, 0, none⟩)] w fun e w' => (∃ b, e = .returned (.bool b)) ∧ Mch.at_ (mgM l P T) lo l x P T G who w' (stepOf (Mch.sys (mgM l P T)) who st s).1 ∧ MemAt w' m g (stepOf (Mch.sys (mgM l P T)) who st s).2 ∧ KeptOwn (ownT 183) lo m g w w' := by
  obtain ⟨cs, hb⟩ := hA.1.blk
  have h2 := hA.2.1
  have H := hid (mch_fstep hgo hA hM hc hbd)
  have HK := hid (fun (w' : World) (hK : Kept [x, m, g] w w') => mch_kept (K := mgM l P T) h2 hb hK)
  clear hA hM hb hgo
  obtain ⟨q, hq⟩ : ∃ q, q = stepOf (Mch.sys (mgM l P T)) who st s := ⟨_, rfl⟩
  rw [← hq] at H ⊢
  obtain ⟨o, ho⟩ : ∃ o, o = (Mch.nx (mgM l P T) q.1).over := ⟨_, rfl⟩
  rw [← ho] at H
  clear hq ho
  go_enter Try.func68, Try.ntmps68
  go_wp2_with fail
  refine H.out.mono ?_
  rintro e w1 ⟨rfl, h1, h2, h3⟩
  have HX := hid (And.intro h1 (And.intro h2 (HK.out w1 h3)))
  clear h1 h2 h3
  go_wp2
  go_ret
  exact ⟨⟨_, rfl⟩, HX.out⟩
theorem mgdone_run {lo l x : Nat} {P T G who : Int}  {st : _} {w : World} (hA : Mch.at_ (mgM l P T) lo l x P T G who w st) :
    Calls Try.prog 70 #[.pointer (some ⟨x, 0, none⟩)] w fun e w' => e = .returned (.bool (Mch.nx (mgM l P T) st).over) ∧ w = w' := by
  have H := hid (pend_done hA.1)
  clear hA
  obtain ⟨o, ho⟩ : ∃ o, o = (Mch.nx (mgM l P T) st).over := ⟨_, rfl⟩
  rw [← ho] at H ⊢
  clear ho
  go_enter Try.func70, Try.ntmps70
  go_wp2_with fail
  refine H.out.mono ?_
  rintro e w1 ⟨rfl, rfl⟩
  go_wp2
  go_ret
  exact ⟨rfl, rfl⟩
theorem mgstep_nil (m : Option Addr) (w : World) : Calls Try.prog 68 #[.pointer none, .pointer m] w fun e w' => e = .returned (.bool true) ∧ w = w' := by
  go_enter Try.func68, Try.ntmps68
  go_wp2
  go_ret
  exact ⟨rfl, rfl⟩
theorem mgdone_nil (w : World) : Calls Try.prog 70 #[.pointer none] w fun e w' => e = .returned (.bool true) ∧ w = w' := by
  go_enter Try.func70, Try.ntmps70
  go_wp2
  go_ret
  exact ⟨rfl, rfl⟩
theorem mg_t_run {lo l x : Nat} {P T G who : Int} {st : MgSt} {w : World} (hA : Mch.at_ (mgM l P T) lo l x P T G who w st) :
    Calls Try.prog 69 #[.pointer (some ⟨x, 0, none⟩)] w fun e w' => e = .returned (.int .i64 st.t) ∧ w = w' := by
  have y2 := hA.1.idle.rest 2
  have e : (mgRest l st)[2]? = some (.int .i64 st.t) := by cases st <;> rfl
  rw [show (mgM l P T).rest st = mgRest l st from rfl, e] at y2
  simp only [Nat.reduceAdd] at y2
  obtain ⟨q, hq⟩ : ∃ q, q = st.t := ⟨_, rfl⟩
  rw [← hq] at y2 ⊢
  clear hA e hq
  go_enter Try.func69, Try.ntmps69
  go_wp2
  go_ret
  exact ⟨rfl, rfl⟩
theorem mg_t_nil (w : World) : Calls Try.prog 69 #[.pointer none] w fun e w' => e = .returned (.int .i64 (-1)) ∧ w = w' := by
  go_enter Try.func69, Try.ntmps69
  go_wp2
  go_ret
  exact ⟨rfl, rfl⟩
end Go.Proofs.Ytokpgbocomhpiaa.Idlem
