/- Looking at a ring: a machine by its states. -/
import Derived.Test.YtokpgbocomhpiaaMach
set_option maxRecDepth 100000
set_option maxHeartbeats 4000000
set_option linter.unusedVariables false
set_option linter.unusedSimpArgs false
namespace Go.Proofs.Ytokpgbocomhpiaa.Ring
open Go.RowKit Go.Shelf Go.Proofs.Ytokpgbocomhpiaa.TK Go.Proofs.Ytokpgbocomhpiaa.Flag Go.Proofs.Ytokpgbocomhpiaa.Words Go.Proofs.Ytokpgbocomhpiaa.Mem Go.Proofs.Ytokpgbocomhpiaa.Flow Go.Proofs.Ytokpgbocomhpiaa.Layout Go.Proofs.Ytokpgbocomhpiaa.Lock Go.Proofs.Ytokpgbocomhpiaa.Run Go.Proofs.Ytokpgbocomhpiaa.Sys Go.Proofs.Ytokpgbocomhpiaa.Mach
def pr (P p f : Int) : Int := placeN true 20 p P 264 f 8
def lkR (l : Nat) (p a b c : Int) (d : Bool) : List Value := [.pointer (some ⟨l, 0, none⟩), .int .i64 p, .int .u64 a, .int .u64 b, .int .u64 c, .bool d]
inductive LkSt
  | h
  | t (a : Int)
  | n (a b : Int)
  | a (a b c : Int)
  | done (a b c : Int) (d : Bool)
def lkNx (P p : Int) : LkSt → Nx
  | .h => .load (pr P p 1) 166
  | .t _ => .load (pr P p 2) 211
  | .n _ _ => .load (pr P p 3) 234
  | .a _ _ _ => .load (pr P p 2) 251
  | .done _ _ _ _ => .done
def lkRest (l : Nat) (p : Int) : LkSt → List Value
  | .h => lkR l p 0 0 0 false
  | .t a => lkR l p a 0 0 false
  | .n a b => lkR l p a b 0 false
  | .a a b c => lkR l p a b c false
  | .done a b c d => lkR l p a b c d
def emptyOf (a b c v : Int) : Bool := (v == b) && (a == b) && (c == 0)
def lkNext (st : LkSt) (v : Int) : LkSt :=
  match st with
  | .h => .t v
  | .t a => .n a v
  | .n a b => .a a b v
  | .a a b c => .done a b c (emptyOf a b c v)
  | .done a b c d => .done a b c d
def LkSt.empty : LkSt → Bool
  | .done _ _ _ d => d
  | _ => false
def lkM (l : Nat) (P p : Int) : Mch LkSt := ⟨179, lkNx P p, lkRest l p, lkNext, fun _ => True⟩
section
variable (x l : Nat) (P T G who p a b c v : Int) (d : Bool) (w : World)
theorem headed_run (hp : Pend w x who (lkR l p a b c d) 179 .done) (hL : Lay w l P T G) :
    Calls Try.prog 166 #[.pointer (some ⟨x, 0, none⟩), .int .u64 v] w fun e w' => (∃ r, e = .returned r) ∧ Pend w' x who (lkR l p v b c d) 179 (.load (pr P p 2) 211) ∧ Kept [x] w w' := by
  have HI := hid ((MI.start hp hL).put (by decide) 2 (.int .u64 v)).drew
  have hf := hp.idle.frozen
  (have y0 := hp.idle.rest 0; have y1 := hp.idle.rest 1; have y2 := hp.idle.rest 2; have y3 := hp.idle.rest 3; have y4 := hp.idle.rest 4; have y5 := hp.idle.rest 5; simp only [lkR, Nat.reduceAdd, Nat.zero_add, List.getElem?_cons_zero, List.getElem?_cons_succ] at y0 y1 y2 y3 y4 y5)
  clear hp hL
  go_enter Try.func166, Try.ntmps166
  go_wp2_with fail
  refine wp_region_T 14 (fun w' => MI w w' x who (lkR l p v b c d) 179 l P T G) (fun w' => Pend w' x who (lkR l p v b c d) 179 (.load (pr P p 2) 211) ∧ Kept [x] w w') (by kernel_rfl) (by kernel_rfl) rfl (by kernel_rfl) HI.out ?_
  clear HI y0 y1 y2 y3 y4 y5 hf
  (repeat (first | (apply walkD_pure; rfl; rfl; (intro _; go_simp; first | done | rfl); (intro K hK; go_simp; refine hK _ ?_; clear hK K)) | (apply walkD_skip; rfl; rfl; (intro K hK; go_simp; refine hK _ ?_; clear hK K)) | (apply walkD_read1 [false] (by kernel_rfl); rfl; rfl; (intro w' hD; (have y0 := hD.pend.idle.rest 0; have y1 := hD.pend.idle.rest 1; have y2 := hD.pend.idle.rest 2; have y3 := hD.pend.idle.rest 3; have y4 := hD.pend.idle.rest 4; have y5 := hD.pend.idle.rest 5; simp only [lkR, Nat.reduceAdd, Nat.zero_add, List.getElem?_cons_zero, List.getElem?_cons_succ] at y0 y1 y2 y3 y4 y5); go_simp; rfl); (intro K hK; go_simp; refine hK _ ?_; clear hK K)) | (apply walkD_call1 [false] (by kernel_rfl); rfl; (intro _; go_simp; first | rfl | exact ⟨rfl, rfl⟩); (intro w' hD; first | (go_at_call 165; refine (proc_run _ _ _ _ _ _ _ hD.lay).mono ?_; rintro e w2 ⟨rfl, hb⟩; exact ⟨rfl, hD.quiet hb⟩) | (go_at_call 137; refine (thread_run _ _ _ _ _ _ _ hD.lay).mono ?_; rintro e w2 ⟨rfl, hb⟩; exact ⟨rfl, hD.quiet hb⟩) | (go_at_call 185; refine (ring_run _ _ _ _ _ _ (by assumption) _ hD.lay).mono ?_; rintro e w2 ⟨rfl, hb⟩; exact ⟨rfl, hD.quiet hb⟩) | (go_at_call 183; refine (g_run _ _ _ _ _ _ _ hD.lay).mono ?_; rintro e w2 ⟨rfl, hb⟩; exact ⟨rfl, hD.quiet hb⟩) | (go_at_call 168; refine (word_run _ 0 0 0 _ _).mono ?_; rintro e w2 ⟨rfl, rfl⟩; exact ⟨rfl, hD⟩) | (go_at_call 164; refine (iload_run hD.pend.idle _ _).mono ?_; rintro e w2 ⟨rfl, hP, hK⟩; exact ⟨rfl, hP, hD.kept.trans hK (by intro i hi; exact .inl hi)⟩) | (go_at_call 146; refine (iadd_run hD.pend.idle _ _ _).mono ?_; rintro e w2 ⟨rfl, hP, hK⟩; exact ⟨rfl, hP, hD.kept.trans hK (by intro i hi; exact .inl hi)⟩) | (go_at_call 144; refine (istore_run hD.pend.idle _ _ _).mono ?_; rintro e w2 ⟨rfl, hP, hK⟩; exact ⟨rfl, hP, hD.kept.trans hK (by intro i hi; exact .inl hi)⟩) | (go_at_call 241; refine (iswap_run hD.pend.idle _ _ _ _).mono ?_; rintro e w2 ⟨rfl, hP, hK⟩; exact ⟨rfl, hP, hD.kept.trans hK (by intro i hi; exact .inl hi)⟩)); (intro K hK; go_simp; refine hK _ ?_; clear hK K))))
  (rintro w2 ⟨h1, h2⟩; go_wp2; go_returns; exact ⟨⟨_, rfl⟩, h1, h2⟩)
theorem tailed_run (hp : Pend w x who (lkR l p a b c d) 179 .done) (hL : Lay w l P T G) :
    Calls Try.prog 211 #[.pointer (some ⟨x, 0, none⟩), .int .u64 v] w fun e w' => (∃ r, e = .returned r) ∧ Pend w' x who (lkR l p a v c d) 179 (.load (pr P p 3) 234) ∧ Kept [x] w w' := by
  have HI := hid ((MI.start hp hL).put (by decide) 3 (.int .u64 v)).drew
  have hf := hp.idle.frozen
  (have y0 := hp.idle.rest 0; have y1 := hp.idle.rest 1; have y2 := hp.idle.rest 2; have y3 := hp.idle.rest 3; have y4 := hp.idle.rest 4; have y5 := hp.idle.rest 5; simp only [lkR, Nat.reduceAdd, Nat.zero_add, List.getElem?_cons_zero, List.getElem?_cons_succ] at y0 y1 y2 y3 y4 y5)
  clear hp hL
  go_enter Try.func211, Try.ntmps211
  go_wp2_with fail
  refine wp_region_T 14 (fun w' => MI w w' x who (lkR l p a v c d) 179 l P T G) (fun w' => Pend w' x who (lkR l p a v c d) 179 (.load (pr P p 3) 234) ∧ Kept [x] w w') (by kernel_rfl) (by kernel_rfl) rfl (by kernel_rfl) HI.out ?_
  clear HI y0 y1 y2 y3 y4 y5 hf
  (repeat (first | (apply walkD_pure; rfl; rfl; (intro _; go_simp; first | done | rfl); (intro K hK; go_simp; refine hK _ ?_; clear hK K)) | (apply walkD_skip; rfl; rfl; (intro K hK; go_simp; refine hK _ ?_; clear hK K)) | (apply walkD_read1 [false] (by kernel_rfl); rfl; rfl; (intro w' hD; (have y0 := hD.pend.idle.rest 0; have y1 := hD.pend.idle.rest 1; have y2 := hD.pend.idle.rest 2; have y3 := hD.pend.idle.rest 3; have y4 := hD.pend.idle.rest 4; have y5 := hD.pend.idle.rest 5; simp only [lkR, Nat.reduceAdd, Nat.zero_add, List.getElem?_cons_zero, List.getElem?_cons_succ] at y0 y1 y2 y3 y4 y5); go_simp; rfl); (intro K hK; go_simp; refine hK _ ?_; clear hK K)) | (apply walkD_call1 [false] (by kernel_rfl); rfl; (intro _; go_simp; first | rfl | exact ⟨rfl, rfl⟩); (intro w' hD; first | (go_at_call 165; refine (proc_run _ _ _ _ _ _ _ hD.lay).mono ?_; rintro e w2 ⟨rfl, hb⟩; exact ⟨rfl, hD.quiet hb⟩) | (go_at_call 137; refine (thread_run _ _ _ _ _ _ _ hD.lay).mono ?_; rintro e w2 ⟨rfl, hb⟩; exact ⟨rfl, hD.quiet hb⟩) | (go_at_call 185; refine (ring_run _ _ _ _ _ _ (by assumption) _ hD.lay).mono ?_; rintro e w2 ⟨rfl, hb⟩; exact ⟨rfl, hD.quiet hb⟩) | (go_at_call 183; refine (g_run _ _ _ _ _ _ _ hD.lay).mono ?_; rintro e w2 ⟨rfl, hb⟩; exact ⟨rfl, hD.quiet hb⟩) | (go_at_call 168; refine (word_run _ 0 0 0 _ _).mono ?_; rintro e w2 ⟨rfl, rfl⟩; exact ⟨rfl, hD⟩) | (go_at_call 164; refine (iload_run hD.pend.idle _ _).mono ?_; rintro e w2 ⟨rfl, hP, hK⟩; exact ⟨rfl, hP, hD.kept.trans hK (by intro i hi; exact .inl hi)⟩) | (go_at_call 146; refine (iadd_run hD.pend.idle _ _ _).mono ?_; rintro e w2 ⟨rfl, hP, hK⟩; exact ⟨rfl, hP, hD.kept.trans hK (by intro i hi; exact .inl hi)⟩) | (go_at_call 144; refine (istore_run hD.pend.idle _ _ _).mono ?_; rintro e w2 ⟨rfl, hP, hK⟩; exact ⟨rfl, hP, hD.kept.trans hK (by intro i hi; exact .inl hi)⟩) | (go_at_call 241; refine (iswap_run hD.pend.idle _ _ _ _).mono ?_; rintro e w2 ⟨rfl, hP, hK⟩; exact ⟨rfl, hP, hD.kept.trans hK (by intro i hi; exact .inl hi)⟩)); (intro K hK; go_simp; refine hK _ ?_; clear hK K))))
  (rintro w2 ⟨h1, h2⟩; go_wp2; go_returns; exact ⟨⟨_, rfl⟩, h1, h2⟩)
theorem nexted_run (hp : Pend w x who (lkR l p a b c d) 179 .done) (hL : Lay w l P T G) :
    Calls Try.prog 234 #[.pointer (some ⟨x, 0, none⟩), .int .u64 v] w fun e w' => (∃ r, e = .returned r) ∧ Pend w' x who (lkR l p a b v d) 179 (.load (pr P p 2) 251) ∧ Kept [x] w w' := by
  have HI := hid ((MI.start hp hL).put (by decide) 4 (.int .u64 v)).drew
  have hf := hp.idle.frozen
  (have y0 := hp.idle.rest 0; have y1 := hp.idle.rest 1; have y2 := hp.idle.rest 2; have y3 := hp.idle.rest 3; have y4 := hp.idle.rest 4; have y5 := hp.idle.rest 5; simp only [lkR, Nat.reduceAdd, Nat.zero_add, List.getElem?_cons_zero, List.getElem?_cons_succ] at y0 y1 y2 y3 y4 y5)
  clear hp hL
  go_enter Try.func234, Try.ntmps234
  go_wp2_with fail
  refine wp_region_T 14 (fun w' => MI w w' x who (lkR l p a b v d) 179 l P T G) (fun w' => Pend w' x who (lkR l p a b v d) 179 (.load (pr P p 2) 251) ∧ Kept [x] w w') (by kernel_rfl) (by kernel_rfl) rfl (by kernel_rfl) HI.out ?_
  clear HI y0 y1 y2 y3 y4 y5 hf
  (repeat (first | (apply walkD_pure; rfl; rfl; (intro _; go_simp; first | done | rfl); (intro K hK; go_simp; refine hK _ ?_; clear hK K)) | (apply walkD_skip; rfl; rfl; (intro K hK; go_simp; refine hK _ ?_; clear hK K)) | (apply walkD_read1 [false] (by kernel_rfl); rfl; rfl; (intro w' hD; (have y0 := hD.pend.idle.rest 0; have y1 := hD.pend.idle.rest 1; have y2 := hD.pend.idle.rest 2; have y3 := hD.pend.idle.rest 3; have y4 := hD.pend.idle.rest 4; have y5 := hD.pend.idle.rest 5; simp only [lkR, Nat.reduceAdd, Nat.zero_add, List.getElem?_cons_zero, List.getElem?_cons_succ] at y0 y1 y2 y3 y4 y5); go_simp; rfl); (intro K hK; go_simp; refine hK _ ?_; clear hK K)) | (apply walkD_call1 [false] (by kernel_rfl); rfl; (intro _; go_simp; first | rfl | exact ⟨rfl, rfl⟩); (intro w' hD; first | (go_at_call 165; refine (proc_run _ _ _ _ _ _ _ hD.lay).mono ?_; rintro e w2 ⟨rfl, hb⟩; exact ⟨rfl, hD.quiet hb⟩) | (go_at_call 137; refine (thread_run _ _ _ _ _ _ _ hD.lay).mono ?_; rintro e w2 ⟨rfl, hb⟩; exact ⟨rfl, hD.quiet hb⟩) | (go_at_call 185; refine (ring_run _ _ _ _ _ _ (by assumption) _ hD.lay).mono ?_; rintro e w2 ⟨rfl, hb⟩; exact ⟨rfl, hD.quiet hb⟩) | (go_at_call 183; refine (g_run _ _ _ _ _ _ _ hD.lay).mono ?_; rintro e w2 ⟨rfl, hb⟩; exact ⟨rfl, hD.quiet hb⟩) | (go_at_call 168; refine (word_run _ 0 0 0 _ _).mono ?_; rintro e w2 ⟨rfl, rfl⟩; exact ⟨rfl, hD⟩) | (go_at_call 164; refine (iload_run hD.pend.idle _ _).mono ?_; rintro e w2 ⟨rfl, hP, hK⟩; exact ⟨rfl, hP, hD.kept.trans hK (by intro i hi; exact .inl hi)⟩) | (go_at_call 146; refine (iadd_run hD.pend.idle _ _ _).mono ?_; rintro e w2 ⟨rfl, hP, hK⟩; exact ⟨rfl, hP, hD.kept.trans hK (by intro i hi; exact .inl hi)⟩) | (go_at_call 144; refine (istore_run hD.pend.idle _ _ _).mono ?_; rintro e w2 ⟨rfl, hP, hK⟩; exact ⟨rfl, hP, hD.kept.trans hK (by intro i hi; exact .inl hi)⟩) | (go_at_call 241; refine (iswap_run hD.pend.idle _ _ _ _).mono ?_; rintro e w2 ⟨rfl, hP, hK⟩; exact ⟨rfl, hP, hD.kept.trans hK (by intro i hi; exact .inl hi)⟩)); (intro K hK; go_simp; refine hK _ ?_; clear hK K))))
  (rintro w2 ⟨h1, h2⟩; go_wp2; go_returns; exact ⟨⟨_, rfl⟩, h1, h2⟩)
theorem again_run (hp : Pend w x who (lkR l p a b c d) 179 .done) (hL : Lay w l P T G) :
    Calls Try.prog 251 #[.pointer (some ⟨x, 0, none⟩), .int .u64 v] w fun e w' => (∃ r, e = .returned r) ∧ Pend w' x who (lkR l p a b c (emptyOf a b c v)) 179 .done ∧ Kept [x] w w' := by
  have HI := hid (MI.start hp hL).drew
  clear hp hL
  obtain ⟨q1, h1⟩ : ∃ q, (v == b) = q := ⟨_, rfl⟩
  obtain ⟨q2, h2⟩ : ∃ q, (a == b) = q := ⟨_, rfl⟩
  obtain ⟨q3, h3⟩ : ∃ q, (c == 0) = q := ⟨_, rfl⟩
  obtain ⟨q, hq⟩ : ∃ q, q = emptyOf a b c v := ⟨_, rfl⟩
  have HQ : Hid (q = (q1 && q2 && q3)) := by rw [hq]; unfold emptyOf; rw [h1, h2, h3]; exact rfl
  rw [← hq]
  clear hq
  cases q1 <;> cases q2 <;> cases q3 <;> (
    go_enter Try.func251, Try.ntmps251
    go_wp2_with fail
    refine wp_region_T 27 (fun w' => MI w w' x who (lkR l p a b c d) 179 l P T G) (fun w' => Pend w' x who (lkR l p a b c q) 179 .done ∧ Kept [x] w w') (by kernel_rfl) (by kernel_rfl) rfl (by kernel_rfl) HI.out ?_
    clear HI
    (repeat (first | (apply walkD_pure; rfl; rfl; (intro _; go_simp; first | done | rfl); (intro K hK; go_simp; refine hK _ ?_; clear hK K)) | (apply walkD_skip; rfl; rfl; (intro K hK; go_simp; refine hK _ ?_; clear hK K)) | (apply walkD_read1 [false] (by kernel_rfl); rfl; rfl; (intro w' hD; (have y0 := hD.pend.idle.rest 0; have y1 := hD.pend.idle.rest 1; have y2 := hD.pend.idle.rest 2; have y3 := hD.pend.idle.rest 3; have y4 := hD.pend.idle.rest 4; have y5 := hD.pend.idle.rest 5; simp only [lkR, Nat.reduceAdd, Nat.zero_add, List.getElem?_cons_zero, List.getElem?_cons_succ] at y0 y1 y2 y3 y4 y5); go_simp; rfl); (intro K hK; go_simp; refine hK _ ?_; clear hK K)) | (apply walkD_call1 [false] (by kernel_rfl); rfl; (intro _; go_simp; first | rfl | exact ⟨rfl, rfl⟩); (intro w' hD; first | (go_at_call 165; refine (proc_run _ _ _ _ _ _ _ hD.lay).mono ?_; rintro e w2 ⟨rfl, hb⟩; exact ⟨rfl, hD.quiet hb⟩) | (go_at_call 137; refine (thread_run _ _ _ _ _ _ _ hD.lay).mono ?_; rintro e w2 ⟨rfl, hb⟩; exact ⟨rfl, hD.quiet hb⟩) | (go_at_call 185; refine (ring_run _ _ _ _ _ _ (by assumption) _ hD.lay).mono ?_; rintro e w2 ⟨rfl, hb⟩; exact ⟨rfl, hD.quiet hb⟩) | (go_at_call 183; refine (g_run _ _ _ _ _ _ _ hD.lay).mono ?_; rintro e w2 ⟨rfl, hb⟩; exact ⟨rfl, hD.quiet hb⟩) | (go_at_call 168; refine (word_run _ 0 0 0 _ _).mono ?_; rintro e w2 ⟨rfl, rfl⟩; exact ⟨rfl, hD⟩) | (go_at_call 164; refine (iload_run hD.pend.idle _ _).mono ?_; rintro e w2 ⟨rfl, hP, hK⟩; exact ⟨rfl, hP, hD.kept.trans hK (by intro i hi; exact .inl hi)⟩) | (go_at_call 146; refine (iadd_run hD.pend.idle _ _ _).mono ?_; rintro e w2 ⟨rfl, hP, hK⟩; exact ⟨rfl, hP, hD.kept.trans hK (by intro i hi; exact .inl hi)⟩) | (go_at_call 144; refine (istore_run hD.pend.idle _ _ _).mono ?_; rintro e w2 ⟨rfl, hP, hK⟩; exact ⟨rfl, hP, hD.kept.trans hK (by intro i hi; exact .inl hi)⟩) | (go_at_call 241; refine (iswap_run hD.pend.idle _ _ _ _).mono ?_; rintro e w2 ⟨rfl, hP, hK⟩; exact ⟨rfl, hP, hD.kept.trans hK (by intro i hi; exact .inl hi)⟩)); (intro K hK; go_simp; refine hK _ ?_; clear hK K))))
    (apply walkD_turn1 (v := undef) [false] (by kernel_rfl); rfl; (intro w' hD; (have y0 := hD.pend.idle.rest 0; have y1 := hD.pend.idle.rest 1; have y2 := hD.pend.idle.rest 2; have y3 := hD.pend.idle.rest 3; have y4 := hD.pend.idle.rest 4; have y5 := hD.pend.idle.rest 5; simp only [lkR, Nat.reduceAdd, Nat.zero_add, List.getElem?_cons_zero, List.getElem?_cons_succ] at y0 y1 y2 y3 y4 y5); have yf := hD.pend.idle.frozen; unfold Go.Proofs.Ytokpgbocomhpiaa.Flag.opAt; go_simp; exact ⟨⟨by rw [HQ.out]; exact hD.pend.setD 5 _, hD.kept.set (.inl (by simp)) _⟩, rfl⟩); (intro K hK; go_simp; refine hK _ ?_; clear hK K))
    rintro w2 ⟨h1, h2⟩
    go_wp2
    go_returns
    exact ⟨⟨_, rfl⟩, h1, h2⟩)
theorem lknew_run (hL : Lay w l P T G) :
    Calls Try.prog 59 #[.pointer (some ⟨l, 0, none⟩), .int .i64 who, .int .i64 p] w fun e w' => e = .returned (.pointer (some ⟨w.heap.size, 0, none⟩)) ∧ Pend w' w.heap.size who (lkR l p 0 0 0 false) 179 (.load (pr P p 1) 166) ∧ Below w.heap.size w w' := by
  have h0 : FlAt (w.alloc (.cells (fl fl0 ++ lkR l p 0 0 0 false).toArray 179)) w.heap.size fl0 (lkR l p 0 0 0 false) 179 := Blk.new w _ _
  have hL0 := hL.quiet (below_one w (.cells (fl fl0 ++ lkR l p 0 0 0 false).toArray 179))
  have hlx : l ≠ w.heap.size := Nat.ne_of_lt hL.1.lt
  clear hL
  go_enter Try.func59, Try.ntmps59
  go_wp2_with fail
  refine (iof_run h0 who).mono ?_
  rintro e w1 ⟨rfl, hp, hK⟩
  have hL1 := hL0.kept hK (by simpa using hlx)
  have hlow : Below w.heap.size w w1 := (below_one _ _).trans (hK.below (by simp) (by simp))
  have HI := hid (MI.start hp hL1).drew
  clear h0 hL0 hp hL1 hK
  go_wp2_with fail
  refine wp_region_T 8 (fun w' => MI w1 w' w.heap.size who (lkR l p 0 0 0 false) 179 l P T G) (fun w' => Pend w' w.heap.size who (lkR l p 0 0 0 false) 179 (.load (pr P p 1) 166) ∧ Kept [w.heap.size] w1 w') (by kernel_rfl) (by kernel_rfl) rfl (by kernel_rfl) HI.out ?_
  clear HI
  (repeat (first | (apply walkD_pure; rfl; rfl; (intro _; go_simp; first | done | rfl); (intro K hK; go_simp; refine hK _ ?_; clear hK K)) | (apply walkD_skip; rfl; rfl; (intro K hK; go_simp; refine hK _ ?_; clear hK K)) | (apply walkD_read1 [false] (by kernel_rfl); rfl; rfl; (intro w' hD; (have y0 := hD.pend.idle.rest 0; have y1 := hD.pend.idle.rest 1; have y2 := hD.pend.idle.rest 2; have y3 := hD.pend.idle.rest 3; have y4 := hD.pend.idle.rest 4; have y5 := hD.pend.idle.rest 5; simp only [lkR, Nat.reduceAdd, Nat.zero_add, List.getElem?_cons_zero, List.getElem?_cons_succ] at y0 y1 y2 y3 y4 y5); go_simp; rfl); (intro K hK; go_simp; refine hK _ ?_; clear hK K)) | (apply walkD_call1 [false] (by kernel_rfl); rfl; (intro _; go_simp; first | rfl | exact ⟨rfl, rfl⟩); (intro w' hD; first | (go_at_call 165; refine (proc_run _ _ _ _ _ _ _ hD.lay).mono ?_; rintro e w2 ⟨rfl, hb⟩; exact ⟨rfl, hD.quiet hb⟩) | (go_at_call 137; refine (thread_run _ _ _ _ _ _ _ hD.lay).mono ?_; rintro e w2 ⟨rfl, hb⟩; exact ⟨rfl, hD.quiet hb⟩) | (go_at_call 185; refine (ring_run _ _ _ _ _ _ (by assumption) _ hD.lay).mono ?_; rintro e w2 ⟨rfl, hb⟩; exact ⟨rfl, hD.quiet hb⟩) | (go_at_call 183; refine (g_run _ _ _ _ _ _ _ hD.lay).mono ?_; rintro e w2 ⟨rfl, hb⟩; exact ⟨rfl, hD.quiet hb⟩) | (go_at_call 168; refine (word_run _ 0 0 0 _ _).mono ?_; rintro e w2 ⟨rfl, rfl⟩; exact ⟨rfl, hD⟩) | (go_at_call 164; refine (iload_run hD.pend.idle _ _).mono ?_; rintro e w2 ⟨rfl, hP, hK⟩; exact ⟨rfl, hP, hD.kept.trans hK (by intro i hi; exact .inl hi)⟩) | (go_at_call 146; refine (iadd_run hD.pend.idle _ _ _).mono ?_; rintro e w2 ⟨rfl, hP, hK⟩; exact ⟨rfl, hP, hD.kept.trans hK (by intro i hi; exact .inl hi)⟩) | (go_at_call 144; refine (istore_run hD.pend.idle _ _ _).mono ?_; rintro e w2 ⟨rfl, hP, hK⟩; exact ⟨rfl, hP, hD.kept.trans hK (by intro i hi; exact .inl hi)⟩) | (go_at_call 241; refine (iswap_run hD.pend.idle _ _ _ _).mono ?_; rintro e w2 ⟨rfl, hP, hK⟩; exact ⟨rfl, hP, hD.kept.trans hK (by intro i hi; exact .inl hi)⟩)); (intro K hK; go_simp; refine hK _ ?_; clear hK K))))
  rintro w2 ⟨h1, h2⟩
  go_wp2
  go_ret
  exact ⟨rfl, h1, hlow.trans (h2.below (by simp) hlow.size)⟩
end
theorem lk_goes (l x : Nat) (P p T G who : Int) : Goes (lkM l P p) l x P T G who := by
  refine ⟨by show ∀ T ∈ ownT 179, _; decide, by show 179 ≠ _ ∧ 179 ≠ _ ∧ 179 ≠ _; decide, ?_, fun _ _ _ _ => trivial, ?_, ?_⟩
  · intro st _
    cases st <;> simp [lkM, lkNx, Nx.val]
  · intro st hst
    cases st with
    | h => exact enters_of Try.func166 (by kernel_rfl) rfl
    | t a => exact enters_of Try.func211 (by kernel_rfl) rfl
    | n a b => exact enters_of Try.func234 (by kernel_rfl) rfl
    | a a b c => exact enters_of Try.func251 (by kernel_rfl) rfl
    | done a b c d => exact absurd rfl hst
  · intro st v w hst _ hv hp hL
    cases st with
    | h => exact headed_run x l P T G who p 0 0 0 v false w hp hL
    | t a => exact tailed_run x l P T G who p a 0 0 v false w hp hL
    | n a b => exact nexted_run x l P T G who p a b 0 v false w hp hL
    | a a b c => exact again_run x l P T G who p a b c v false w hp hL
    | done a b c d => exact absurd rfl hst
/-- A look in a world. -/
def LkAt (lo l x : Nat) (P p T G who : Int) : World → LkSt → Prop := (lkM l P p).at_ lo l x P T G who
theorem lk_mach (lo l x : Nat) (P p T G who : Int) : MachOf (LkAt lo l x P p T G who) (ownT 179) := mach_of (lk_goes l x P p T G who).own
section
variable (lo l x m g : Nat) (P p T G who : Int) (st : LkSt) (s : St) (w : World)
theorem lkstep_run (hA : LkAt lo l x P p T G who w st) (hM : MemAt w m g s) (hc : s.clock < 1000000) (hbd : s.bad < 1000000) :
    Calls Try.prog 63 #[.pointer (some ⟨x, 0, none⟩), .pointer (some ⟨m, 0, none⟩)] w fun e w' => e = .returned (.bool (lkNx P p (stepOf (lkM l P p).sys who st s).1).over) ∧ LkAt lo l x P p T G who w' (stepOf (lkM l P p).sys who st s).1 ∧ MemAt w' m g (stepOf (lkM l P p).sys who st s).2 ∧ KeptOwn (ownT 179) lo m g w w' := by
  obtain ⟨cs, hb⟩ := hA.1.blk
  have h2 := hA.2.1
  have H := hid (mch_fstep (lk_goes l x P p T G who) hA hM hc hbd)
  have HK := hid (fun (w' : World) (hK : Kept [x, m, g] w w') => mch_kept (K := lkM l P p) h2 hb hK)
  clear hA hM hb
  go_enter Try.func63, Try.ntmps63
  go_wp2_with fail
  refine H.out.mono ?_
  rintro e w1 ⟨rfl, h1, h2, h3⟩
  have HX := hid (And.intro h1 (And.intro h2 (HK.out w1 h3)))
  clear h1 h2 h3
  go_wp2
  go_ret
  exact ⟨rfl, HX.out⟩
theorem lkdone_run (hA : LkAt lo l x P p T G who w st) :
    Calls Try.prog 61 #[.pointer (some ⟨x, 0, none⟩)] w fun e w' => e = .returned (.bool (lkNx P p st).over) ∧ w = w' := by
  have H := hid (pend_done hA.1)
  clear hA
  go_enter Try.func61, Try.ntmps61
  go_wp2_with fail
  refine H.out.mono ?_
  rintro e w1 ⟨rfl, rfl⟩
  go_wp2
  go_ret
  exact ⟨rfl, rfl⟩
theorem lkempty_run (hA : LkAt lo l x P p T G who w st) :
    Calls Try.prog 62 #[.pointer (some ⟨x, 0, none⟩)] w fun e w' => e = .returned (.bool st.empty) ∧ w = w' := by
  have y5 := hA.1.idle.rest 5
  have e : (lkRest l p st)[5]? = some (.bool st.empty) := by cases st <;> rfl
  rw [show (lkM l P p).rest st = lkRest l p st from rfl, e] at y5
  simp only [Nat.reduceAdd] at y5
  obtain ⟨q, hq⟩ : ∃ q, q = st.empty := ⟨_, rfl⟩
  rw [← hq] at y5 ⊢
  clear hA e hq
  go_enter Try.func62, Try.ntmps62
  go_wp2
  go_ret
  exact ⟨rfl, rfl⟩
end
theorem lkstep_nil (m : Option Addr) (w : World) : Calls Try.prog 63 #[.pointer none, .pointer m] w fun e w' => e = .returned (.bool true) ∧ w = w' := by
  go_enter Try.func63, Try.ntmps63
  go_wp2
  go_ret
  exact ⟨rfl, rfl⟩
theorem lkdone_nil (w : World) : Calls Try.prog 61 #[.pointer none] w fun e w' => e = .returned (.bool true) ∧ w = w' := by
  go_enter Try.func61, Try.ntmps61
  go_wp2
  go_ret
  exact ⟨rfl, rfl⟩
theorem lkempty_nil (w : World) : Calls Try.prog 62 #[.pointer none] w fun e w' => e = .returned (.bool false) ∧ w = w' := by
  go_enter Try.func62, Try.ntmps62
  go_wp2
  go_ret
  exact ⟨rfl, rfl⟩
end Go.Proofs.Ytokpgbocomhpiaa.Ring
