/- Texts of mine, laid into one: Ring, RingB, Idlem, IdlemB, IdlemC, MapL. -/
import Derived.Test.YtlhnnggceebpjaaGreatBase5
import Derived.Maps.OwnOps
import Derived.Maps.Views
section
/- Looking at a ring: a machine by its states. -/
set_option maxRecDepth 100000
set_option maxHeartbeats 4000000
set_option linter.unusedVariables false
set_option linter.unusedSimpArgs false
namespace Go.Proofs.YtlhnnggceebpjaaGreat.Ring
open Go.RowKit Go.Shelf Go.Proofs.YtlhnnggceebpjaaGreat.TK Go.Proofs.YtlhnnggceebpjaaGreat.Flag Go.Proofs.YtlhnnggceebpjaaGreat.Words Go.Proofs.YtlhnnggceebpjaaGreat.Mem Go.Proofs.YtlhnnggceebpjaaGreat.Flow Go.Proofs.YtlhnnggceebpjaaGreat.Layout Go.Proofs.YtlhnnggceebpjaaGreat.Lock Go.Proofs.YtlhnnggceebpjaaGreat.Run Go.Proofs.YtlhnnggceebpjaaGreat.Sys Go.Proofs.YtlhnnggceebpjaaGreat.Mach
def pr (P p f : Int) : Int := placeN true 20 p P 264 f 8
def lkR (l : Nat) (p a b c : Int) (d : Bool) : List Value := [.pointer (some ⟨l, 0, none⟩), .int .i64 p, .int .u64 a, .int .u64 b, .int .u64 c, .bool d]
inductive LkSt
  | h
  | t (a : Int)
  | n (a b : Int)
  | a (a b c : Int)
  | done (a b c : Int) (d : Bool)
def lkNx (P p : Int) : LkSt → Nx
  | .h => .load (pr P p 1) 229
  | .t _ => .load (pr P p 2) 264
  | .n _ _ => .load (pr P p 3) 298
  | .a _ _ _ => .load (pr P p 2) 321
  | .done _ _ _ _ => .done
def lkRest (l : Nat) (p : Int) : LkSt → List Value
  | .h => lkR l p 0 0 0 false
  | .t a => lkR l p a 0 0 false
  | .n a b => lkR l p a b 0 false
  | .a a b c => lkR l p a b c false
  | .done a b c d => lkR l p a b c d
def emptyOf (a b c v : Int) : Bool := (v == b) && (a == b) && (c == 0)
def lkNext (st : LkSt) (v : Int) : LkSt :=
  match st with
  | .h => .t v
  | .t a => .n a v
  | .n a b => .a a b v
  | .a a b c => .done a b c (emptyOf a b c v)
  | .done a b c d => .done a b c d
def LkSt.empty : LkSt → Bool
  | .done _ _ _ d => d
  | _ => false
def lkM (l : Nat) (P p : Int) : Mch LkSt := ⟨270, lkNx P p, lkRest l p, lkNext, fun _ => True⟩
section
variable (x l : Nat) (P T G who p a b c v : Int) (d : Bool) (w : World)
theorem headed_run (hp : Pend w x who (lkR l p a b c d) 270 .done) (hL : Lay w l P T G) :
    Calls Tryz.prog 229 #[.pointer (some ⟨x, 0, none⟩), .int .u64 v] w fun e w' => (∃ r, e = .returned r) ∧ Pend w' x who (lkR l p v b c d) 270 (.load (pr P p 2) 264) ∧ Kept [x] w w' := by
  have HI := hid ((MI.start hp hL).put (by decide) 2 (.int .u64 v)).drew
  have hf := hp.idle.frozen
  (have y0 := hp.idle.rest 0; have y1 := hp.idle.rest 1; have y2 := hp.idle.rest 2; have y3 := hp.idle.rest 3; have y4 := hp.idle.rest 4; have y5 := hp.idle.rest 5; simp only [lkR, Nat.reduceAdd, Nat.zero_add, List.getElem?_cons_zero, List.getElem?_cons_succ] at y0 y1 y2 y3 y4 y5)
  clear hp hL
  go_enter Tryz.func229, Tryz.ntmps229
  go_wp2_with fail
  refine wp_region_T 14 (fun w' => MI w w' x who (lkR l p v b c d) 270 l P T G) (fun w' => Pend w' x who (lkR l p v b c d) 270 (.load (pr P p 2) 264) ∧ Kept [x] w w') (by kernel_rfl) (by kernel_rfl) rfl (by kernel_rfl) HI.out ?_
  clear HI y0 y1 y2 y3 y4 y5 hf
  (repeat (first | (apply walkD_pure; rfl; rfl; (intro _; go_simp; first | done | rfl); (intro K hK; go_simp; refine hK _ ?_; clear hK K)) | (apply walkD_skip; rfl; rfl; (intro K hK; go_simp; refine hK _ ?_; clear hK K)) | (apply walkD_read1 [false] (by kernel_rfl); rfl; rfl; (intro w' hD; (have y0 := hD.pend.idle.rest 0; have y1 := hD.pend.idle.rest 1; have y2 := hD.pend.idle.rest 2; have y3 := hD.pend.idle.rest 3; have y4 := hD.pend.idle.rest 4; have y5 := hD.pend.idle.rest 5; simp only [lkR, Nat.reduceAdd, Nat.zero_add, List.getElem?_cons_zero, List.getElem?_cons_succ] at y0 y1 y2 y3 y4 y5); go_simp; rfl); (intro K hK; go_simp; refine hK _ ?_; clear hK K)) | (apply walkD_call1 [false] (by kernel_rfl); rfl; (intro _; go_simp; first | rfl | exact ⟨rfl, rfl⟩); (intro w' hD; first | (go_at_call 25; refine (proc_run _ _ _ _ _ _ _ hD.lay).mono ?_; rintro e w2 ⟨rfl, hb⟩; exact ⟨rfl, hD.quiet hb⟩) | (go_at_call 76; refine (thread_run _ _ _ _ _ _ _ hD.lay).mono ?_; rintro e w2 ⟨rfl, hb⟩; exact ⟨rfl, hD.quiet hb⟩) | (go_at_call 255; refine (ring_run _ _ _ _ _ _ (by assumption) _ hD.lay).mono ?_; rintro e w2 ⟨rfl, hb⟩; exact ⟨rfl, hD.quiet hb⟩) | (go_at_call 168; refine (g_run _ _ _ _ _ _ _ hD.lay).mono ?_; rintro e w2 ⟨rfl, hb⟩; exact ⟨rfl, hD.quiet hb⟩) | (go_at_call 133; refine (word_run _ 0 0 0 _ _).mono ?_; rintro e w2 ⟨rfl, rfl⟩; exact ⟨rfl, hD⟩) | (go_at_call 183; refine (iload_run hD.pend.idle _ _).mono ?_; rintro e w2 ⟨rfl, hP, hK⟩; exact ⟨rfl, hP, hD.kept.trans hK (by intro i hi; exact .inl hi)⟩) | (go_at_call 132; refine (iadd_run hD.pend.idle _ _ _).mono ?_; rintro e w2 ⟨rfl, hP, hK⟩; exact ⟨rfl, hP, hD.kept.trans hK (by intro i hi; exact .inl hi)⟩) | (go_at_call 188; refine (istore_run hD.pend.idle _ _ _).mono ?_; rintro e w2 ⟨rfl, hP, hK⟩; exact ⟨rfl, hP, hD.kept.trans hK (by intro i hi; exact .inl hi)⟩) | (go_at_call 166; refine (iswap_run hD.pend.idle _ _ _ _).mono ?_; rintro e w2 ⟨rfl, hP, hK⟩; exact ⟨rfl, hP, hD.kept.trans hK (by intro i hi; exact .inl hi)⟩)); (intro K hK; go_simp; refine hK _ ?_; clear hK K))))
  (rintro w2 ⟨h1, h2⟩; go_wp2; go_returns; exact ⟨⟨_, rfl⟩, h1, h2⟩)
theorem tailed_run (hp : Pend w x who (lkR l p a b c d) 270 .done) (hL : Lay w l P T G) :
    Calls Tryz.prog 264 #[.pointer (some ⟨x, 0, none⟩), .int .u64 v] w fun e w' => (∃ r, e = .returned r) ∧ Pend w' x who (lkR l p a v c d) 270 (.load (pr P p 3) 298) ∧ Kept [x] w w' := by
  have HI := hid ((MI.start hp hL).put (by decide) 3 (.int .u64 v)).drew
  have hf := hp.idle.frozen
  (have y0 := hp.idle.rest 0; have y1 := hp.idle.rest 1; have y2 := hp.idle.rest 2; have y3 := hp.idle.rest 3; have y4 := hp.idle.rest 4; have y5 := hp.idle.rest 5; simp only [lkR, Nat.reduceAdd, Nat.zero_add, List.getElem?_cons_zero, List.getElem?_cons_succ] at y0 y1 y2 y3 y4 y5)
  clear hp hL
  go_enter Tryz.func264, Tryz.ntmps264
  go_wp2_with fail
  refine wp_region_T 14 (fun w' => MI w w' x who (lkR l p a v c d) 270 l P T G) (fun w' => Pend w' x who (lkR l p a v c d) 270 (.load (pr P p 3) 298) ∧ Kept [x] w w') (by kernel_rfl) (by kernel_rfl) rfl (by kernel_rfl) HI.out ?_
  clear HI y0 y1 y2 y3 y4 y5 hf
  (repeat (first | (apply walkD_pure; rfl; rfl; (intro _; go_simp; first | done | rfl); (intro K hK; go_simp; refine hK _ ?_; clear hK K)) | (apply walkD_skip; rfl; rfl; (intro K hK; go_simp; refine hK _ ?_; clear hK K)) | (apply walkD_read1 [false] (by kernel_rfl); rfl; rfl; (intro w' hD; (have y0 := hD.pend.idle.rest 0; have y1 := hD.pend.idle.rest 1; have y2 := hD.pend.idle.rest 2; have y3 := hD.pend.idle.rest 3; have y4 := hD.pend.idle.rest 4; have y5 := hD.pend.idle.rest 5; simp only [lkR, Nat.reduceAdd, Nat.zero_add, List.getElem?_cons_zero, List.getElem?_cons_succ] at y0 y1 y2 y3 y4 y5); go_simp; rfl); (intro K hK; go_simp; refine hK _ ?_; clear hK K)) | (apply walkD_call1 [false] (by kernel_rfl); rfl; (intro _; go_simp; first | rfl | exact ⟨rfl, rfl⟩); (intro w' hD; first | (go_at_call 25; refine (proc_run _ _ _ _ _ _ _ hD.lay).mono ?_; rintro e w2 ⟨rfl, hb⟩; exact ⟨rfl, hD.quiet hb⟩) | (go_at_call 76; refine (thread_run _ _ _ _ _ _ _ hD.lay).mono ?_; rintro e w2 ⟨rfl, hb⟩; exact ⟨rfl, hD.quiet hb⟩) | (go_at_call 255; refine (ring_run _ _ _ _ _ _ (by assumption) _ hD.lay).mono ?_; rintro e w2 ⟨rfl, hb⟩; exact ⟨rfl, hD.quiet hb⟩) | (go_at_call 168; refine (g_run _ _ _ _ _ _ _ hD.lay).mono ?_; rintro e w2 ⟨rfl, hb⟩; exact ⟨rfl, hD.quiet hb⟩) | (go_at_call 133; refine (word_run _ 0 0 0 _ _).mono ?_; rintro e w2 ⟨rfl, rfl⟩; exact ⟨rfl, hD⟩) | (go_at_call 183; refine (iload_run hD.pend.idle _ _).mono ?_; rintro e w2 ⟨rfl, hP, hK⟩; exact ⟨rfl, hP, hD.kept.trans hK (by intro i hi; exact .inl hi)⟩) | (go_at_call 132; refine (iadd_run hD.pend.idle _ _ _).mono ?_; rintro e w2 ⟨rfl, hP, hK⟩; exact ⟨rfl, hP, hD.kept.trans hK (by intro i hi; exact .inl hi)⟩) | (go_at_call 188; refine (istore_run hD.pend.idle _ _ _).mono ?_; rintro e w2 ⟨rfl, hP, hK⟩; exact ⟨rfl, hP, hD.kept.trans hK (by intro i hi; exact .inl hi)⟩) | (go_at_call 166; refine (iswap_run hD.pend.idle _ _ _ _).mono ?_; rintro e w2 ⟨rfl, hP, hK⟩; exact ⟨rfl, hP, hD.kept.trans hK (by intro i hi; exact .inl hi)⟩)); (intro K hK; go_simp; refine hK _ ?_; clear hK K))))
  (rintro w2 ⟨h1, h2⟩; go_wp2; go_returns; exact ⟨⟨_, rfl⟩, h1, h2⟩)
theorem nexted_run (hp : Pend w x who (lkR l p a b c d) 270 .done) (hL : Lay w l P T G) :
    Calls Tryz.prog 298 #[.pointer (some ⟨x, 0, none⟩), .int .u64 v] w fun e w' => (∃ r, e = .returned r) ∧ Pend w' x who (lkR l p a b v d) 270 (.load (pr P p 2) 321) ∧ Kept [x] w w' := by
  have HI := hid ((MI.start hp hL).put (by decide) 4 (.int .u64 v)).drew
  have hf := hp.idle.frozen
  (have y0 := hp.idle.rest 0; have y1 := hp.idle.rest 1; have y2 := hp.idle.rest 2; have y3 := hp.idle.rest 3; have y4 := hp.idle.rest 4; have y5 := hp.idle.rest 5; simp only [lkR, Nat.reduceAdd, Nat.zero_add, List.getElem?_cons_zero, List.getElem?_cons_succ] at y0 y1 y2 y3 y4 y5)
  clear hp hL
  go_enter Tryz.func298, Tryz.ntmps298
  go_wp2_with fail
  refine wp_region_T 14 (fun w' => MI w w' x who (lkR l p a b v d) 270 l P T G) (fun w' => Pend w' x who (lkR l p a b v d) 270 (.load (pr P p 2) 321) ∧ Kept [x] w w') (by kernel_rfl) (by kernel_rfl) rfl (by kernel_rfl) HI.out ?_
  clear HI y0 y1 y2 y3 y4 y5 hf
  (repeat (first | (apply walkD_pure; rfl; rfl; (intro _; go_simp; first | done | rfl); (intro K hK; go_simp; refine hK _ ?_; clear hK K)) | (apply walkD_skip; rfl; rfl; (intro K hK; go_simp; refine hK _ ?_; clear hK K)) | (apply walkD_read1 [false] (by kernel_rfl); rfl; rfl; (intro w' hD; (have y0 := hD.pend.idle.rest 0; have y1 := hD.pend.idle.rest 1; have y2 := hD.pend.idle.rest 2; have y3 := hD.pend.idle.rest 3; have y4 := hD.pend.idle.rest 4; have y5 := hD.pend.idle.rest 5; simp only [lkR, Nat.reduceAdd, Nat.zero_add, List.getElem?_cons_zero, List.getElem?_cons_succ] at y0 y1 y2 y3 y4 y5); go_simp; rfl); (intro K hK; go_simp; refine hK _ ?_; clear hK K)) | (apply walkD_call1 [false] (by kernel_rfl); rfl; (intro _; go_simp; first | rfl | exact ⟨rfl, rfl⟩); (intro w' hD; first | (go_at_call 25; refine (proc_run _ _ _ _ _ _ _ hD.lay).mono ?_; rintro e w2 ⟨rfl, hb⟩; exact ⟨rfl, hD.quiet hb⟩) | (go_at_call 76; refine (thread_run _ _ _ _ _ _ _ hD.lay).mono ?_; rintro e w2 ⟨rfl, hb⟩; exact ⟨rfl, hD.quiet hb⟩) | (go_at_call 255; refine (ring_run _ _ _ _ _ _ (by assumption) _ hD.lay).mono ?_; rintro e w2 ⟨rfl, hb⟩; exact ⟨rfl, hD.quiet hb⟩) | (go_at_call 168; refine (g_run _ _ _ _ _ _ _ hD.lay).mono ?_; rintro e w2 ⟨rfl, hb⟩; exact ⟨rfl, hD.quiet hb⟩) | (go_at_call 133; refine (word_run _ 0 0 0 _ _).mono ?_; rintro e w2 ⟨rfl, rfl⟩; exact ⟨rfl, hD⟩) | (go_at_call 183; refine (iload_run hD.pend.idle _ _).mono ?_; rintro e w2 ⟨rfl, hP, hK⟩; exact ⟨rfl, hP, hD.kept.trans hK (by intro i hi; exact .inl hi)⟩) | (go_at_call 132; refine (iadd_run hD.pend.idle _ _ _).mono ?_; rintro e w2 ⟨rfl, hP, hK⟩; exact ⟨rfl, hP, hD.kept.trans hK (by intro i hi; exact .inl hi)⟩) | (go_at_call 188; refine (istore_run hD.pend.idle _ _ _).mono ?_; rintro e w2 ⟨rfl, hP, hK⟩; exact ⟨rfl, hP, hD.kept.trans hK (by intro i hi; exact .inl hi)⟩) | (go_at_call 166; refine (iswap_run hD.pend.idle _ _ _ _).mono ?_; rintro e w2 ⟨rfl, hP, hK⟩; exact ⟨rfl, hP, hD.kept.trans hK (by intro i hi; exact .inl hi)⟩)); (intro K hK; go_simp; refine hK _ ?_; clear hK K))))
  (rintro w2 ⟨h1, h2⟩; go_wp2; go_returns; exact ⟨⟨_, rfl⟩, h1, h2⟩)
theorem again_run (hp : Pend w x who (lkR l p a b c d) 270 .done) (hL : Lay w l P T G) :
    Calls Tryz.prog 321 #[.pointer (some ⟨x, 0, none⟩), .int .u64 v] w fun e w' => (∃ r, e = .returned r) ∧ Pend w' x who (lkR l p a b c (emptyOf a b c v)) 270 .done ∧ Kept [x] w w' := by
  have HI := hid (MI.start hp hL).drew
  clear hp hL
  obtain ⟨q1, h1⟩ : ∃ q, (v == b) = q := ⟨_, rfl⟩
  obtain ⟨q2, h2⟩ : ∃ q, (a == b) = q := ⟨_, rfl⟩
  obtain ⟨q3, h3⟩ : ∃ q, (c == 0) = q := ⟨_, rfl⟩
  obtain ⟨q, hq⟩ : ∃ q, q = emptyOf a b c v := ⟨_, rfl⟩
  have HQ : Hid (q = (q1 && q2 && q3)) := by rw [hq]; unfold emptyOf; rw [h1, h2, h3]; exact rfl
  rw [← hq]
  clear hq
  cases q1 <;> cases q2 <;> cases q3 <;> (
    go_enter Tryz.func321, Tryz.ntmps321
    go_wp2_with fail
    refine wp_region_T 27 (fun w' => MI w w' x who (lkR l p a b c d) 270 l P T G) (fun w' => Pend w' x who (lkR l p a b c q) 270 .done ∧ Kept [x] w w') (by kernel_rfl) (by kernel_rfl) rfl (by kernel_rfl) HI.out ?_
    clear HI
    (repeat (first | (apply walkD_pure; rfl; rfl; (intro _; go_simp; first | done | rfl); (intro K hK; go_simp; refine hK _ ?_; clear hK K)) | (apply walkD_skip; rfl; rfl; (intro K hK; go_simp; refine hK _ ?_; clear hK K)) | (apply walkD_read1 [false] (by kernel_rfl); rfl; rfl; (intro w' hD; (have y0 := hD.pend.idle.rest 0; have y1 := hD.pend.idle.rest 1; have y2 := hD.pend.idle.rest 2; have y3 := hD.pend.idle.rest 3; have y4 := hD.pend.idle.rest 4; have y5 := hD.pend.idle.rest 5; simp only [lkR, Nat.reduceAdd, Nat.zero_add, List.getElem?_cons_zero, List.getElem?_cons_succ] at y0 y1 y2 y3 y4 y5); go_simp; rfl); (intro K hK; go_simp; refine hK _ ?_; clear hK K)) | (apply walkD_call1 [false] (by kernel_rfl); rfl; (intro _; go_simp; first | rfl | exact ⟨rfl, rfl⟩); (intro w' hD; first | (go_at_call 25; refine (proc_run _ _ _ _ _ _ _ hD.lay).mono ?_; rintro e w2 ⟨rfl, hb⟩; exact ⟨rfl, hD.quiet hb⟩) | (go_at_call 76; refine (thread_run _ _ _ _ _ _ _ hD.lay).mono ?_; rintro e w2 ⟨rfl, hb⟩; exact ⟨rfl, hD.quiet hb⟩) | (go_at_call 255; refine (ring_run _ _ _ _ _ _ (by assumption) _ hD.lay).mono ?_; rintro e w2 ⟨rfl, hb⟩; exact ⟨rfl, hD.quiet hb⟩) | (go_at_call 168; refine (g_run _ _ _ _ _ _ _ hD.lay).mono ?_; rintro e w2 ⟨rfl, hb⟩; exact ⟨rfl, hD.quiet hb⟩) | (go_at_call 133; refine (word_run _ 0 0 0 _ _).mono ?_; rintro e w2 ⟨rfl, rfl⟩; exact ⟨rfl, hD⟩) | (go_at_call 183; refine (iload_run hD.pend.idle _ _).mono ?_; rintro e w2 ⟨rfl, hP, hK⟩; exact ⟨rfl, hP, hD.kept.trans hK (by intro i hi; exact .inl hi)⟩) | (go_at_call 132; refine (iadd_run hD.pend.idle _ _ _).mono ?_; rintro e w2 ⟨rfl, hP, hK⟩; exact ⟨rfl, hP, hD.kept.trans hK (by intro i hi; exact .inl hi)⟩) | (go_at_call 188; refine (istore_run hD.pend.idle _ _ _).mono ?_; rintro e w2 ⟨rfl, hP, hK⟩; exact ⟨rfl, hP, hD.kept.trans hK (by intro i hi; exact .inl hi)⟩) | (go_at_call 166; refine (iswap_run hD.pend.idle _ _ _ _).mono ?_; rintro e w2 ⟨rfl, hP, hK⟩; exact ⟨rfl, hP, hD.kept.trans hK (by intro i hi; exact .inl hi)⟩)); (intro K hK; go_simp; refine hK _ ?_; clear hK K))))
    (apply walkD_turn1 (v := undef) [false] (by kernel_rfl); rfl; (intro w' hD; (have y0 := hD.pend.idle.rest 0; have y1 := hD.pend.idle.rest 1; have y2 := hD.pend.idle.rest 2; have y3 := hD.pend.idle.rest 3; have y4 := hD.pend.idle.rest 4; have y5 := hD.pend.idle.rest 5; simp only [lkR, Nat.reduceAdd, Nat.zero_add, List.getElem?_cons_zero, List.getElem?_cons_succ] at y0 y1 y2 y3 y4 y5); have yf := hD.pend.idle.frozen; unfold Go.Proofs.YtlhnnggceebpjaaGreat.Flag.opAt; go_simp; exact ⟨⟨by rw [HQ.out]; exact hD.pend.setD 5 _, hD.kept.set (.inl (by simp)) _⟩, rfl⟩); (intro K hK; go_simp; refine hK _ ?_; clear hK K))
    rintro w2 ⟨h1, h2⟩
    go_wp2
    go_returns
    exact ⟨⟨_, rfl⟩, h1, h2⟩)
theorem lknew_run (hL : Lay w l P T G) :
    Calls Tryz.prog 171 #[.pointer (some ⟨l, 0, none⟩), .int .i64 who, .int .i64 p] w fun e w' => e = .returned (.pointer (some ⟨w.heap.size, 0, none⟩)) ∧ Pend w' w.heap.size who (lkR l p 0 0 0 false) 270 (.load (pr P p 1) 229) ∧ Below w.heap.size w w' := by
  have h0 : FlAt (w.alloc (.cells (fl fl0 ++ lkR l p 0 0 0 false).toArray 270)) w.heap.size fl0 (lkR l p 0 0 0 false) 270 := Blk.new w _ _
  have hL0 := hL.quiet (below_one w (.cells (fl fl0 ++ lkR l p 0 0 0 false).toArray 270))
  have hlx : l ≠ w.heap.size := Nat.ne_of_lt hL.1.lt
  clear hL
  go_enter Tryz.func171, Tryz.ntmps171
  go_wp2_with fail
  refine (iof_run h0 who).mono ?_
  rintro e w1 ⟨rfl, hp, hK⟩
  have hL1 := hL0.kept hK (by simpa using hlx)
  have hlow : Below w.heap.size w w1 := (below_one _ _).trans (hK.below (by simp) (by simp))
  have HI := hid (MI.start hp hL1).drew
  clear h0 hL0 hp hL1 hK
  go_wp2_with fail
  refine wp_region_T 8 (fun w' => MI w1 w' w.heap.size who (lkR l p 0 0 0 false) 270 l P T G) (fun w' => Pend w' w.heap.size who (lkR l p 0 0 0 false) 270 (.load (pr P p 1) 229) ∧ Kept [w.heap.size] w1 w') (by kernel_rfl) (by kernel_rfl) rfl (by kernel_rfl) HI.out ?_
  clear HI
  (repeat (first | (apply walkD_pure; rfl; rfl; (intro _; go_simp; first | done | rfl); (intro K hK; go_simp; refine hK _ ?_; clear hK K)) | (apply walkD_skip; rfl; rfl; (intro K hK; go_simp; refine hK _ ?_; clear hK K)) | (apply walkD_read1 [false] (by kernel_rfl); rfl; rfl; (intro w' hD; (have y0 := hD.pend.idle.rest 0; have y1 := hD.pend.idle.rest 1; have y2 := hD.pend.idle.rest 2; have y3 := hD.pend.idle.rest 3; have y4 := hD.pend.idle.rest 4; have y5 := hD.pend.idle.rest 5; simp only [lkR, Nat.reduceAdd, Nat.zero_add, List.getElem?_cons_zero, List.getElem?_cons_succ] at y0 y1 y2 y3 y4 y5); go_simp; rfl); (intro K hK; go_simp; refine hK _ ?_; clear hK K)) | (apply walkD_call1 [false] (by kernel_rfl); rfl; (intro _; go_simp; first | rfl | exact ⟨rfl, rfl⟩); (intro w' hD; first | (go_at_call 25; refine (proc_run _ _ _ _ _ _ _ hD.lay).mono ?_; rintro e w2 ⟨rfl, hb⟩; exact ⟨rfl, hD.quiet hb⟩) | (go_at_call 76; refine (thread_run _ _ _ _ _ _ _ hD.lay).mono ?_; rintro e w2 ⟨rfl, hb⟩; exact ⟨rfl, hD.quiet hb⟩) | (go_at_call 255; refine (ring_run _ _ _ _ _ _ (by assumption) _ hD.lay).mono ?_; rintro e w2 ⟨rfl, hb⟩; exact ⟨rfl, hD.quiet hb⟩) | (go_at_call 168; refine (g_run _ _ _ _ _ _ _ hD.lay).mono ?_; rintro e w2 ⟨rfl, hb⟩; exact ⟨rfl, hD.quiet hb⟩) | (go_at_call 133; refine (word_run _ 0 0 0 _ _).mono ?_; rintro e w2 ⟨rfl, rfl⟩; exact ⟨rfl, hD⟩) | (go_at_call 183; refine (iload_run hD.pend.idle _ _).mono ?_; rintro e w2 ⟨rfl, hP, hK⟩; exact ⟨rfl, hP, hD.kept.trans hK (by intro i hi; exact .inl hi)⟩) | (go_at_call 132; refine (iadd_run hD.pend.idle _ _ _).mono ?_; rintro e w2 ⟨rfl, hP, hK⟩; exact ⟨rfl, hP, hD.kept.trans hK (by intro i hi; exact .inl hi)⟩) | (go_at_call 188; refine (istore_run hD.pend.idle _ _ _).mono ?_; rintro e w2 ⟨rfl, hP, hK⟩; exact ⟨rfl, hP, hD.kept.trans hK (by intro i hi; exact .inl hi)⟩) | (go_at_call 166; refine (iswap_run hD.pend.idle _ _ _ _).mono ?_; rintro e w2 ⟨rfl, hP, hK⟩; exact ⟨rfl, hP, hD.kept.trans hK (by intro i hi; exact .inl hi)⟩)); (intro K hK; go_simp; refine hK _ ?_; clear hK K))))
  rintro w2 ⟨h1, h2⟩
  go_wp2
  go_ret
  exact ⟨rfl, h1, hlow.trans (h2.below (by simp) hlow.size)⟩
end
theorem lk_goes (l x : Nat) (P p T G who : Int) : Goes (lkM l P p) l x P T G who := by
  refine ⟨by show ∀ T ∈ ownT 270, _; decide, by show 270 ≠ _ ∧ 270 ≠ _ ∧ 270 ≠ _; decide, ?_, fun _ _ _ _ => trivial, ?_, ?_⟩
  · intro st _
    cases st <;> simp [lkM, lkNx, Nx.val]
  · intro st hst
    cases st with
    | h => exact enters_of Tryz.func229 (by kernel_rfl) rfl
    | t a => exact enters_of Tryz.func264 (by kernel_rfl) rfl
    | n a b => exact enters_of Tryz.func298 (by kernel_rfl) rfl
    | a a b c => exact enters_of Tryz.func321 (by kernel_rfl) rfl
    | done a b c d => exact absurd rfl hst
  · intro st v w hst _ hv hp hL
    cases st with
    | h => exact headed_run x l P T G who p 0 0 0 v false w hp hL
    | t a => exact tailed_run x l P T G who p a 0 0 v false w hp hL
    | n a b => exact nexted_run x l P T G who p a b 0 v false w hp hL
    | a a b c => exact again_run x l P T G who p a b c v false w hp hL
    | done a b c d => exact absurd rfl hst
/-- A look in a world. -/
def LkAt (lo l x : Nat) (P p T G who : Int) : World → LkSt → Prop := (lkM l P p).at_ lo l x P T G who
theorem lk_mach (lo l x : Nat) (P p T G who : Int) : MachOf (LkAt lo l x P p T G who) (ownT 270) := mach_of (lk_goes l x P p T G who).own
section
variable (lo l x m g : Nat) (P p T G who : Int) (st : LkSt) (s : St) (w : World)
theorem lkstep_run (hA : LkAt lo l x P p T G who w st) (hM : MemAt w m g s) (hc : s.clock < 1000000) (hbd : s.bad < 1000000) :
    Calls Tryz.prog 435 #[.pointer (some ⟨x, 0, none⟩), .pointer (some ⟨m, 0, none⟩)] w fun e w' => e = .returned (.bool (lkNx P p (stepOf (lkM l P p).sys who st s).1).over) ∧ LkAt lo l x P p T G who w' (stepOf (lkM l P p).sys who st s).1 ∧ MemAt w' m g (stepOf (lkM l P p).sys who st s).2 ∧ KeptOwn (ownT 270) lo m g w w' := by
  obtain ⟨cs, hb⟩ := hA.1.blk
  have h2 := hA.2.1
  have H := hid (mch_fstep (lk_goes l x P p T G who) hA hM hc hbd)
  have HK := hid (fun (w' : World) (hK : Kept [x, m, g] w w') => mch_kept (K := lkM l P p) h2 hb hK)
  clear hA hM hb
  go_enter Tryz.func435, Tryz.ntmps435
  go_wp2_with fail
  refine H.out.mono ?_
  rintro e w1 ⟨rfl, h1, h2, h3⟩
  have HX := hid (And.intro h1 (And.intro h2 (HK.out w1 h3)))
  clear h1 h2 h3
  go_wp2
  go_ret
  exact ⟨rfl, HX.out⟩
theorem lkempty_run (hA : LkAt lo l x P p T G who w st) :
    Calls Tryz.prog 230 #[.pointer (some ⟨x, 0, none⟩)] w fun e w' => e = .returned (.bool st.empty) ∧ w = w' := by
  have y5 := hA.1.idle.rest 5
  have e : (lkRest l p st)[5]? = some (.bool st.empty) := by cases st <;> rfl
  rw [show (lkM l P p).rest st = lkRest l p st from rfl, e] at y5
  simp only [Nat.reduceAdd] at y5
  obtain ⟨q, hq⟩ : ∃ q, q = st.empty := ⟨_, rfl⟩
  rw [← hq] at y5 ⊢
  clear hA e hq
  go_enter Tryz.func230, Tryz.ntmps230
  go_wp2
  go_ret
  exact ⟨rfl, rfl⟩
end
theorem lkstep_nil (m : Option Addr) (w : World) : Calls Tryz.prog 435 #[.pointer none, .pointer m] w fun e w' => e = .returned (.bool true) ∧ w = w' := by
  go_enter Tryz.func435, Tryz.ntmps435
  go_wp2
  go_ret
  exact ⟨rfl, rfl⟩
theorem lkempty_nil (w : World) : Calls Tryz.prog 230 #[.pointer none] w fun e w' => e = .returned (.bool false) ∧ w = w' := by
  go_enter Tryz.func230, Tryz.ntmps230
  go_wp2
  go_ret
  exact ⟨rfl, rfl⟩
end Go.Proofs.YtlhnnggceebpjaaGreat.Ring
end

section
/- The document's look at a ring; how many lie between. -/
set_option maxRecDepth 100000
set_option maxHeartbeats 4000000
set_option linter.unusedVariables false
set_option linter.unusedSimpArgs false
namespace Go.Proofs.YtlhnnggceebpjaaGreat.Ring
open Go.RowKit Go.Shelf Go.Proofs.YtlhnnggceebpjaaGreat.TK Go.Proofs.YtlhnnggceebpjaaGreat.Flag Go.Proofs.YtlhnnggceebpjaaGreat.Words Go.Proofs.YtlhnnggceebpjaaGreat.Mem Go.Proofs.YtlhnnggceebpjaaGreat.Flow Go.Proofs.YtlhnnggceebpjaaGreat.Layout Go.Proofs.YtlhnnggceebpjaaGreat.Lock Go.Proofs.YtlhnnggceebpjaaGreat.Run Go.Proofs.YtlhnnggceebpjaaGreat.Sys Go.Proofs.YtlhnnggceebpjaaGreat.Mach Go.Proofs.YtlhnnggceebpjaaGreat.Doc Go.Proofs.YtlhnnggceebpjaaGreat.Ref05
def manyOf (h t : Int) : Int := (t % 4294967296 + 4294967296 - h % 4294967296) % 4294967296
theorem many_run (h t : Int) (w : World) (hh : 0 ≤ h ∧ h < 18446744073709551616) (ht : 0 ≤ t ∧ t < 18446744073709551616) :
    Calls Tryz.prog 215 #[.int .u64 h, .int .u64 t] w fun e w' => e = .returned (.int .u64 (manyOf h t)) ∧ w = w' := by
  have e1 : h.tmod 4294967296 = h % 4294967296 := Int.tmod_eq_emod_of_nonneg hh.1
  have e2 : t.tmod 4294967296 = t % 4294967296 := Int.tmod_eq_emod_of_nonneg ht.1
  have e3 : (t % 4294967296 + 4294967296 - h % 4294967296).tmod 4294967296 = manyOf h t := Int.tmod_eq_emod_of_nonneg (by omega)
  have e4 : (t % 4294967296 + 4294967296 - h % 4294967296) % 4294967296 = manyOf h t := rfl
  obtain ⟨mo, hmo⟩ : ∃ mo, mo = manyOf h t := ⟨_, rfl⟩
  rw [← hmo] at e3 e4 ⊢
  clear hmo
  obtain ⟨a, ha⟩ : ∃ a, a = h % 4294967296 := ⟨_, rfl⟩
  obtain ⟨b, hb⟩ : ∃ b, b = t % 4294967296 := ⟨_, rfl⟩
  have ra : 0 ≤ a ∧ a < 4294967296 := by omega
  have rb : 0 ≤ b ∧ b < 4294967296 := by omega
  rw [← ha] at e1 e3 e4
  rw [← hb] at e2 e3 e4
  have ha' := ha.symm
  have hb' := hb.symm
  have w1 : IntKind.u64.wrap (b + 4294967296) = b + 4294967296 := by rw [IntKind.wrap_u64]; omega
  have w2 : IntKind.u64.wrap (b + 4294967296 - a) = b + 4294967296 - a := by rw [IntKind.wrap_u64]; omega
  clear ha hb
  go_enter Tryz.func215, Tryz.ntmps215
  go_wp2
  go_ret
  exact ⟨rfl, rfl⟩
theorem rmany_run (h t : Int) (w : World) (hh : 0 ≤ h ∧ h < 18446744073709551616) (ht : 0 ≤ t ∧ t < 18446744073709551616) :
    Calls Tryz.prog 153 #[.int .u64 h, .int .u64 t] w fun e w' => e = .returned (.int .u64 (manyOf h t)) ∧ w = w' := by
  have e1 : h.tmod 4294967296 = h % 4294967296 := Int.tmod_eq_emod_of_nonneg hh.1
  have e2 : t.tmod 4294967296 = t % 4294967296 := Int.tmod_eq_emod_of_nonneg ht.1
  obtain ⟨a, ha⟩ : ∃ a, a = h % 4294967296 := ⟨_, rfl⟩
  obtain ⟨b, hb⟩ : ∃ b, b = t % 4294967296 := ⟨_, rfl⟩
  have ra : 0 ≤ a ∧ a < 4294967296 := by omega
  have rb : 0 ≤ b ∧ b < 4294967296 := by omega
  have HM := hid (show manyOf h t = (b + 4294967296 - a) % 4294967296 by unfold manyOf; rw [ha, hb])
  rw [HM.out]
  rw [← ha] at e1
  rw [← hb] at e2
  have ha' := ha.symm
  have hb' := hb.symm
  clear ha hb
  by_cases hl : b < a
  · have d : decide (b < a) = true := decide_eq_true hl
    have HR := hid (show (b + 4294967296 - a) % 4294967296 = b + 4294967296 - a by omega)
    have w1 : IntKind.u64.wrap (b + 4294967296) = b + 4294967296 := by rw [IntKind.wrap_u64]; omega
    have w2 : IntKind.u64.wrap (b + 4294967296 - a) = b + 4294967296 - a := by rw [IntKind.wrap_u64]; omega
    rw [HR.out]
    go_enter Tryz.func153, Tryz.ntmps153
    go_wp2
    go_ret
    exact ⟨rfl, rfl⟩
  · have d : decide (b < a) = false := decide_eq_false hl
    have HR := hid (show (b + 4294967296 - a) % 4294967296 = b - a by omega)
    have w1 : IntKind.u64.wrap (b - a) = b - a := by rw [IntKind.wrap_u64]; omega
    rw [HR.out]
    go_enter Tryz.func153, Tryz.ntmps153
    go_wp2
    go_ret
    exact ⟨rfl, rfl⟩
theorem rlook_run (l : Nat) (P T G p : Int) (B r : Nat) (v : Value) (a : RunSt) (got : List Int) (s0 : LkSt) (w : World) (h : RunAt w B r v a) (hg : Fits got a) (hs : a.stop = false → s0 = .h) (hP : 0 ≤ P ∧ P ≤ 1000) :
    Calls Tryz.prog 235 #[.pointer (some ⟨r, 0, none⟩), .agg #[.int .i64 P, .int .i64 T, .int .i64 G], .int .i64 p] w fun e w' => ∃ q b s1, e = .returned (.bool q) ∧ RunAt w' B r v b ∧ Kept [r] w w' ∧ Ran (lkM l P p).sys got s0 a s1 b ∧ Fits got b ∧ (b.stop = false → (lkM l P p).sys.want s1 = none ∧ q = s1.empty) ∧ (b.stop = true → q = false) := by
  have HI := hid (DI.start (M := (lkM l P p).sys) (P := P) (T := T) (G := G) h hg s0)
  have HP := hid hP
  have HS := hid hs
  obtain ⟨z0, z1, z2, z3⟩ := HI.out.cells
  clear h hg hs hP
  go_enter Tryz.func235, Tryz.ntmps235
  go_wp2_with fail
  (refine (procat_run P T G p _ _ HP.out (by omega)).mono ?_; rintro e w1 ⟨rfl, hb⟩; (have HI := hid (HI.out.quiet hb); clear hb; obtain ⟨z0, z1, z2, z3⟩ := HI.out.cells); go_wp2_with fail)
  refine (dl_run HI.out (pr P p 1) (fun h => by rw [HS.out h]; rfl)).mono ?_
  rintro e w2 ⟨b1, s1, x1, rfl, hI, ho1⟩
  have HI := hid hI
  have HO1 := hid ho1
  obtain ⟨z0, z1, z2, z3⟩ := HI.out.cells
  clear hI ho1
  go_wp2_with fail
  (refine (procat_run P T G p _ _ HP.out (by omega)).mono ?_; rintro e w1 ⟨rfl, hb⟩; (have HI := hid (HI.out.quiet hb); clear hb; obtain ⟨z0, z1, z2, z3⟩ := HI.out.cells); go_wp2_with fail)
  have e1 : b1.stop = false → s1 = .t x1 := fun h => by obtain ⟨h1, h2⟩ := HO1.out.1 h; rw [h2, HS.out h1]; rfl
  refine (dl_run HI.out (pr P p 2) (fun h => by rw [e1 h]; rfl)).mono ?_
  rintro e w3 ⟨b2, s2, x2, rfl, hI, ho2⟩
  have HI := hid hI
  have HO2 := hid (And.intro e1 ho2)
  obtain ⟨z0, z1, z2, z3⟩ := HI.out.cells
  clear hI ho2 e1
  go_wp2_with fail
  (refine (procat_run P T G p _ _ HP.out (by omega)).mono ?_; rintro e w1 ⟨rfl, hb⟩; (have HI := hid (HI.out.quiet hb); clear hb; obtain ⟨z0, z1, z2, z3⟩ := HI.out.cells); go_wp2_with fail)
  have e2 : b2.stop = false → s2 = .n x1 x2 := fun h => by obtain ⟨h1, h2⟩ := HO2.out.2.1 h; rw [h2, HO2.out.1 h1]; rfl
  refine (dl_run HI.out (pr P p 3) (fun h => by rw [e2 h]; rfl)).mono ?_
  rintro e w4 ⟨b3, s3, x3, rfl, hI, ho3⟩
  have HI := hid hI
  have HO3 := hid (And.intro e2 ho3)
  obtain ⟨z0, z1, z2, z3⟩ := HI.out.cells
  clear hI ho3 e2
  go_wp2_with fail
  (refine (procat_run P T G p _ _ HP.out (by omega)).mono ?_; rintro e w1 ⟨rfl, hb⟩; (have HI := hid (HI.out.quiet hb); clear hb; obtain ⟨z0, z1, z2, z3⟩ := HI.out.cells); go_wp2_with fail)
  have e3 : b3.stop = false → s3 = .a x1 x2 x3 := fun h => by obtain ⟨h1, h2⟩ := HO3.out.2.1 h; rw [h2, HO3.out.1 h1]; rfl
  refine (dl_run HI.out (pr P p 2) (fun h => by rw [e3 h]; rfl)).mono ?_
  rintro e w5 ⟨b4, s4, x4, rfl, hI, ho4⟩
  have e4 : b4.stop = false → s4 = .done x1 x2 x3 (emptyOf x1 x2 x3 x4) := fun h => by obtain ⟨h1, h2⟩ := ho4.1 h; rw [h2, e3 h1]; rfl
  have HI := hid hI
  have HO4 := hid e4
  obtain ⟨z0, z1, z2, z3⟩ := HI.out.cells
  obtain ⟨st, hst⟩ : ∃ st, st = b4.stop := ⟨_, rfl⟩
  rw [← hst] at z3 HO4
  have HST := hid hst
  clear hI ho4 e3 e4 hst
  obtain ⟨q1, h1⟩ : ∃ q, (x1 == x2) = q := ⟨_, rfl⟩
  obtain ⟨q2, h2⟩ : ∃ q, (x4 == x2) = q := ⟨_, rfl⟩
  obtain ⟨q3, h3⟩ : ∃ q, (x3 == 0) = q := ⟨_, rfl⟩
  cases st with
  | true =>
    go_wp2
    go_ret
    exact ⟨false, b4, s4, rfl, HI.out.run, HI.out.kept, HI.out.ran, HI.out.good, (fun h => by rw [← HST.out] at h; cases h), fun _ => rfl⟩
  | false =>
    have HE := hid (show emptyOf x1 x2 x3 x4 = (q2 && q1 && q3) by unfold emptyOf; rw [h1, h2, h3])
    cases q1 <;> cases q2 <;> cases q3 <;> (
      go_wp2
      go_ret
      exact ⟨_, b4, s4, rfl, HI.out.run, HI.out.kept, HI.out.ran, HI.out.good, (fun _ => by rw [HO4.out (by first | rfl | trivial)]; exact ⟨rfl, HE.out.symm⟩), (fun h => absurd (HST.out.trans h) (by simp))⟩)
/-- The words of a ring in which Head and Tail are alike. -/
theorem words0_run (l m g : Nat) (P T G p : Int) (s : St) (w : World) (hL : Lay w l P T G) (hM : MemAt w m g s) (h0 : manyOf (s.peek (pr P p 1)).1 (s.peek (pr P p 2)).1 = 0) (hr1 : 0 ≤ (s.peek (pr P p 1)).1 ∧ (s.peek (pr P p 1)).1 < 18446744073709551616) (hr2 : 0 ≤ (s.peek (pr P p 2)).1 ∧ (s.peek (pr P p 2)).1 < 18446744073709551616) :
    Calls Tryz.prog 214 #[.pointer (some ⟨l, 0, none⟩), .pointer (some ⟨m, 0, none⟩), .int .i64 p] w fun e w' => e = .returned (.tuple #[.slice none 0 0, .int .u64 (s.peek (pr P p 3)).1]) ∧ Below w.heap.size w w' := by
  have HI := hid (And.intro hL (And.intro hM (Below.refl w.heap.size w)))
  obtain ⟨p1, hp1⟩ : ∃ q, q = s.peek (pr P p 1) := ⟨_, rfl⟩
  obtain ⟨p2, hp2⟩ : ∃ q, q = s.peek (pr P p 2) := ⟨_, rfl⟩
  obtain ⟨p3, hp3⟩ : ∃ q, q = s.peek (pr P p 3) := ⟨_, rfl⟩
  rw [← hp1] at h0 hr1
  rw [← hp2] at h0 hr2
  rw [← hp3]
  have HP1 := hid hp1
  have HP2 := hid hp2
  have HP3 := hid hp3
  have H0 := hid h0
  have HR := hid (And.intro hr1 hr2)
  clear hL hM hp1 hp2 hp3 h0 hr1 hr2
  go_enter Tryz.func214, Tryz.ntmps214
  go_wp2_with (first | (go_at_call 25; refine (proc_run l P T G _ _ _ HI.out.1).mono ?_; rintro e w1 ⟨rfl, hb⟩; replace HI := hid (And.intro (HI.out.1.quiet hb) (And.intro (HI.out.2.1.quiet hb) (Below.then_ HI.out.2.2 hb))); clear hb) | (go_at_call 215; refine (many_run _ _ _ HR.out.1 HR.out.2).mono ?_; rintro e w1 ⟨rfl, rfl⟩; rw [H0.out]) | (go_at_call 24; refine (mpeek_run m g s _ _ HI.out.2.1).mono ?_; rintro e w1 ⟨rfl, rfl⟩; first | rw [show s.peek (placeN true 20 p P 264 1 8) = p1 from HP1.out.symm] | rw [show s.peek (placeN true 20 p P 264 2 8) = p2 from HP2.out.symm] | rw [show s.peek (placeN true 20 p P 264 3 8) = p3 from HP3.out.symm]))
  go_loopw [46, 14] (fun i o wr => i = .int .u64 0 ∧ o = .slice none 0 0 ∧ Below w.heap.size w wr) (fun _ _ _ => 0)
  case atStart => exact ⟨rfl, rfl, HI.out.2.2⟩
  case round =>
    clear HI
    obtain ⟨rfl, rfl, hlow⟩ := hrel
    go_wp2
    go_ret2
    exact ⟨rfl, hlow⟩
def s111 : St := fresh (layW (lenOf 1 1 1) [])
/-- A machine's and the memory's states behind n steps. -/
def after {σ : Type} (M : Rsys σ) (who : Int) (st : σ) (s : St) : Nat → σ × St
  | 0 => (st, s)
  | n + 1 => stepOf M who (after M who st s n).1 (after M who st s n).2
theorem step_clock {σ : Type} (M : Rsys σ) (who : Int) (st : σ) (s : St) : (stepOf M who st s).2.clock ≤ s.clock + 1 ∧ (stepOf M who st s).2.bad ≤ s.bad + 1 := by
  unfold stepOf
  split
  · exact ⟨by simp only; omega, by simp only; omega⟩
  · split
    · exact ⟨by simp only; omega, by simp only; omega⟩
    · exact acc_clock2 ..
theorem after_clock {σ : Type} (M : Rsys σ) (who : Int) (st : σ) (s : St) (n : Nat) : (after M who st s n).2.clock ≤ s.clock + n ∧ (after M who st s n).2.bad ≤ s.bad + n := by
  induction n with
  | zero => exact ⟨by simp [after], by simp [after]⟩
  | succ n ih =>
    have := step_clock M who (after M who st s n).1 (after M who st s n).2
    obtain ⟨i1, i2⟩ := ih
    exact ⟨by show (stepOf ..).2.clock ≤ _; omega, by show (stepOf ..).2.bad ≤ _; omega⟩
def lk4 : LkSt × St := after (lkM 0 1 0).sys 0 .h s111 4
theorem lk_l (l : Nat) (n : Nat) : after (lkM l 1 0).sys 0 .h s111 n = after (lkM 0 1 0).sys 0 .h s111 n := rfl
theorem ex_run : (lkNx 1 0 lk4.1).over = true ∧ lk4.1.empty = true ∧ lk4.2.clock = 4 ∧ lk4.2.peek (pr 1 0 1) = (0, true) ∧ lk4.2.peek (pr 1 0 2) = (0, true) ∧ lk4.2.peek (pr 1 0 3) = (0, true) := by
  refine ⟨?_, ?_, ?_, ?_, ?_, ?_⟩ <;> decide +kernel
theorem few111 : FewP 1 1 1 := by unfold FewP Right; omega
end Go.Proofs.YtlhnnggceebpjaaGreat.Ring
end

section
/- The threads' list: putting one on it, getting one: machines by their states. -/
set_option maxRecDepth 100000
set_option maxHeartbeats 4000000
set_option linter.unusedVariables false
set_option linter.unusedSimpArgs false
namespace Go.Proofs.YtlhnnggceebpjaaGreat.Idlem
open Go.RowKit Go.Shelf Go.Proofs.YtlhnnggceebpjaaGreat.TK Go.Proofs.YtlhnnggceebpjaaGreat.Flag Go.Proofs.YtlhnnggceebpjaaGreat.Words Go.Proofs.YtlhnnggceebpjaaGreat.Mem Go.Proofs.YtlhnnggceebpjaaGreat.Flow Go.Proofs.YtlhnnggceebpjaaGreat.Layout Go.Proofs.YtlhnnggceebpjaaGreat.Lock Go.Proofs.YtlhnnggceebpjaaGreat.Run Go.Proofs.YtlhnnggceebpjaaGreat.Sys Go.Proofs.YtlhnnggceebpjaaGreat.Mach Go.Proofs.YtlhnnggceebpjaaGreat.Ref05
def mpR (l : Nat) (t : Int) : List Value := [.pointer (some ⟨l, 0, none⟩), .int .i64 t]
inductive MpSt
  | h
  | k (a : Int)
  | s
  | i
  | done
def mpNx (P T t : Int) : MpSt → Nx
  | .h => .load (wordN 11) 313
  | .k a => .store (th P T t 2) a 337
  | .s => .store (wordN 11) (t + 1) 357
  | .i => .add (wordN 12) 1 377
  | .done => .done
def mpNext (st : MpSt) (v : Int) : MpSt :=
  match st with
  | .h => .k v
  | .k _ => .s
  | .s => .i
  | .i => .done
  | .done => .done
def mpOk : MpSt → Prop
  | .k a => 0 ≤ a ∧ a < 18446744073709551616
  | _ => True
def mpM (l : Nat) (P T t : Int) : Mch MpSt := ⟨328, mpNx P T t, fun _ => mpR l t, mpNext, mpOk⟩
theorem mp_first_run (x l : Nat) (P T G who : Int) (t v : Int) (w : World)  (hp : Pend w x who (mpR l t) 328 .done) (hL : Lay w l P T G) :
    Calls Tryz.prog 313 #[.pointer (some ⟨x, 0, none⟩), .int .u64 v] w fun e w' => (∃ r, e = .returned r) ∧ Pend w' x who (mpR l t) 328 (.store (th P T t 2) v 337) ∧ Kept [x] w w' := by
  have HI := hid (MI.start hp hL).drew
  have hf := hp.idle.frozen
  (have y0 := hp.idle.rest 0; have y1 := hp.idle.rest 1; simp only [mpR, Nat.reduceAdd, Nat.zero_add, List.getElem?_cons_zero, List.getElem?_cons_succ] at y0 y1)
  clear hp hL
  go_enter Tryz.func313, Tryz.ntmps313
  go_wp2_with fail
  refine wp_region_T 15 (fun w' => MI w w' x who (mpR l t) 328 l P T G) (fun w' => Pend w' x who (mpR l t) 328 (.store (th P T t 2) v 337) ∧ Kept [x] w w') (by kernel_rfl) (by kernel_rfl) rfl (by kernel_rfl) HI.out ?_
  clear HI
  (repeat (first | (apply walkD_pure; rfl; rfl; (intro _; go_simp; first | done | rfl); (intro K hK; go_simp; refine hK _ ?_; clear hK K)) | (apply walkD_skip; rfl; rfl; (intro K hK; go_simp; refine hK _ ?_; clear hK K)) | (apply walkD_read1 [false] (by kernel_rfl); rfl; rfl; (intro w' hD; (have y0 := hD.pend.idle.rest 0; have y1 := hD.pend.idle.rest 1; simp only [mpR, Nat.reduceAdd, Nat.zero_add, List.getElem?_cons_zero, List.getElem?_cons_succ] at y0 y1); go_simp; rfl); (intro K hK; go_simp; refine hK _ ?_; clear hK K)) | (apply walkD_call1 [false] (by kernel_rfl); rfl; (intro _; go_simp; first | rfl | exact ⟨rfl, rfl⟩); (intro w' hD; first | (go_at_call 25; refine (proc_run _ _ _ _ _ _ _ hD.lay).mono ?_; rintro e w2 ⟨rfl, hb⟩; exact ⟨rfl, hD.quiet hb⟩) | (go_at_call 76; refine (thread_run _ _ _ _ _ _ _ hD.lay).mono ?_; rintro e w2 ⟨rfl, hb⟩; exact ⟨rfl, hD.quiet hb⟩) | (go_at_call 255; refine (ring_run _ _ _ _ _ _ (by assumption) _ hD.lay).mono ?_; rintro e w2 ⟨rfl, hb⟩; exact ⟨rfl, hD.quiet hb⟩) | (go_at_call 168; refine (g_run _ _ _ _ _ _ _ hD.lay).mono ?_; rintro e w2 ⟨rfl, hb⟩; exact ⟨rfl, hD.quiet hb⟩) | (go_at_call 133; refine (word_run _ 0 0 0 _ _).mono ?_; rintro e w2 ⟨rfl, rfl⟩; exact ⟨rfl, hD⟩) | (go_at_call 183; refine (iload_run hD.pend.idle _ _).mono ?_; rintro e w2 ⟨rfl, hP, hK⟩; exact ⟨rfl, hP, hD.kept.trans hK (by intro i hi; exact .inl hi)⟩) | (go_at_call 132; refine (iadd_run hD.pend.idle _ _ _).mono ?_; rintro e w2 ⟨rfl, hP, hK⟩; exact ⟨rfl, hP, hD.kept.trans hK (by intro i hi; exact .inl hi)⟩) | (go_at_call 188; refine (istore_run hD.pend.idle _ _ _).mono ?_; rintro e w2 ⟨rfl, hP, hK⟩; exact ⟨rfl, hP, hD.kept.trans hK (by intro i hi; exact .inl hi)⟩) | (go_at_call 166; refine (iswap_run hD.pend.idle _ _ _ _).mono ?_; rintro e w2 ⟨rfl, hP, hK⟩; exact ⟨rfl, hP, hD.kept.trans hK (by intro i hi; exact .inl hi)⟩)); (intro K hK; go_simp; refine hK _ ?_; clear hK K))))
  (rintro w2 ⟨h1, h2⟩; go_wp2; go_returns; exact ⟨⟨_, rfl⟩, h1, h2⟩)
theorem mp_linked_run (x l : Nat) (P T G who : Int) (t : Int) (w : World) (ht : 0 ≤ t ∧ t ≤ 1000000) (hp : Pend w x who (mpR l t) 328 .done) (hL : Lay w l P T G) :
    Calls Tryz.prog 337 #[.pointer (some ⟨x, 0, none⟩)] w fun e w' => (∃ r, e = .returned r) ∧ Pend w' x who (mpR l t) 328 (.store (wordN 11) (t + 1) 357) ∧ Kept [x] w w' := by
  have n1 : IntKind.u64.wrap t = t := by rw [IntKind.wrap_u64]; omega
  have n2 : IntKind.u64.wrap (t + 1) = t + 1 := by rw [IntKind.wrap_u64]; omega
  have HI := hid (MI.start hp hL).drew
  have hf := hp.idle.frozen
  (have y0 := hp.idle.rest 0; have y1 := hp.idle.rest 1; simp only [mpR, Nat.reduceAdd, Nat.zero_add, List.getElem?_cons_zero, List.getElem?_cons_succ] at y0 y1)
  clear hp hL
  go_enter Tryz.func337, Tryz.ntmps337
  go_wp2_with fail
  refine wp_region_T 16 (fun w' => MI w w' x who (mpR l t) 328 l P T G) (fun w' => Pend w' x who (mpR l t) 328 (.store (wordN 11) (t + 1) 357) ∧ Kept [x] w w') (by kernel_rfl) (by kernel_rfl) rfl (by kernel_rfl) HI.out ?_
  clear HI
  (repeat (first | (apply walkD_pure; rfl; rfl; (intro _; go_simp; first | done | rfl); (intro K hK; go_simp; refine hK _ ?_; clear hK K)) | (apply walkD_skip; rfl; rfl; (intro K hK; go_simp; refine hK _ ?_; clear hK K)) | (apply walkD_read1 [false] (by kernel_rfl); rfl; rfl; (intro w' hD; (have y0 := hD.pend.idle.rest 0; have y1 := hD.pend.idle.rest 1; simp only [mpR, Nat.reduceAdd, Nat.zero_add, List.getElem?_cons_zero, List.getElem?_cons_succ] at y0 y1); go_simp; rfl); (intro K hK; go_simp; refine hK _ ?_; clear hK K)) | (apply walkD_call1 [false] (by kernel_rfl); rfl; (intro _; go_simp; first | rfl | exact ⟨rfl, rfl⟩); (intro w' hD; first | (go_at_call 25; refine (proc_run _ _ _ _ _ _ _ hD.lay).mono ?_; rintro e w2 ⟨rfl, hb⟩; exact ⟨rfl, hD.quiet hb⟩) | (go_at_call 76; refine (thread_run _ _ _ _ _ _ _ hD.lay).mono ?_; rintro e w2 ⟨rfl, hb⟩; exact ⟨rfl, hD.quiet hb⟩) | (go_at_call 255; refine (ring_run _ _ _ _ _ _ (by assumption) _ hD.lay).mono ?_; rintro e w2 ⟨rfl, hb⟩; exact ⟨rfl, hD.quiet hb⟩) | (go_at_call 168; refine (g_run _ _ _ _ _ _ _ hD.lay).mono ?_; rintro e w2 ⟨rfl, hb⟩; exact ⟨rfl, hD.quiet hb⟩) | (go_at_call 133; refine (word_run _ 0 0 0 _ _).mono ?_; rintro e w2 ⟨rfl, rfl⟩; exact ⟨rfl, hD⟩) | (go_at_call 183; refine (iload_run hD.pend.idle _ _).mono ?_; rintro e w2 ⟨rfl, hP, hK⟩; exact ⟨rfl, hP, hD.kept.trans hK (by intro i hi; exact .inl hi)⟩) | (go_at_call 132; refine (iadd_run hD.pend.idle _ _ _).mono ?_; rintro e w2 ⟨rfl, hP, hK⟩; exact ⟨rfl, hP, hD.kept.trans hK (by intro i hi; exact .inl hi)⟩) | (go_at_call 188; refine (istore_run hD.pend.idle _ _ _).mono ?_; rintro e w2 ⟨rfl, hP, hK⟩; exact ⟨rfl, hP, hD.kept.trans hK (by intro i hi; exact .inl hi)⟩) | (go_at_call 166; refine (iswap_run hD.pend.idle _ _ _ _).mono ?_; rintro e w2 ⟨rfl, hP, hK⟩; exact ⟨rfl, hP, hD.kept.trans hK (by intro i hi; exact .inl hi)⟩)); (intro K hK; go_simp; refine hK _ ?_; clear hK K))))
  (rintro w2 ⟨h1, h2⟩; go_wp2; go_returns; exact ⟨⟨_, rfl⟩, h1, h2⟩)
theorem mp_lies_run (x l : Nat) (P T G who : Int) (t : Int) (w : World)  (hp : Pend w x who (mpR l t) 328 .done) (hL : Lay w l P T G) :
    Calls Tryz.prog 357 #[.pointer (some ⟨x, 0, none⟩)] w fun e w' => (∃ r, e = .returned r) ∧ Pend w' x who (mpR l t) 328 (.add (wordN 12) 1 377) ∧ Kept [x] w w' := by
  have HI := hid (MI.start hp hL).drew
  have hf := hp.idle.frozen
  (have y0 := hp.idle.rest 0; have y1 := hp.idle.rest 1; simp only [mpR, Nat.reduceAdd, Nat.zero_add, List.getElem?_cons_zero, List.getElem?_cons_succ] at y0 y1)
  clear hp hL
  go_enter Tryz.func357, Tryz.ntmps357
  go_wp2_with fail
  refine wp_region_T 10 (fun w' => MI w w' x who (mpR l t) 328 l P T G) (fun w' => Pend w' x who (mpR l t) 328 (.add (wordN 12) 1 377) ∧ Kept [x] w w') (by kernel_rfl) (by kernel_rfl) rfl (by kernel_rfl) HI.out ?_
  clear HI
  (repeat (first | (apply walkD_pure; rfl; rfl; (intro _; go_simp; first | done | rfl); (intro K hK; go_simp; refine hK _ ?_; clear hK K)) | (apply walkD_skip; rfl; rfl; (intro K hK; go_simp; refine hK _ ?_; clear hK K)) | (apply walkD_read1 [false] (by kernel_rfl); rfl; rfl; (intro w' hD; (have y0 := hD.pend.idle.rest 0; have y1 := hD.pend.idle.rest 1; simp only [mpR, Nat.reduceAdd, Nat.zero_add, List.getElem?_cons_zero, List.getElem?_cons_succ] at y0 y1); go_simp; rfl); (intro K hK; go_simp; refine hK _ ?_; clear hK K)) | (apply walkD_call1 [false] (by kernel_rfl); rfl; (intro _; go_simp; first | rfl | exact ⟨rfl, rfl⟩); (intro w' hD; first | (go_at_call 25; refine (proc_run _ _ _ _ _ _ _ hD.lay).mono ?_; rintro e w2 ⟨rfl, hb⟩; exact ⟨rfl, hD.quiet hb⟩) | (go_at_call 76; refine (thread_run _ _ _ _ _ _ _ hD.lay).mono ?_; rintro e w2 ⟨rfl, hb⟩; exact ⟨rfl, hD.quiet hb⟩) | (go_at_call 255; refine (ring_run _ _ _ _ _ _ (by assumption) _ hD.lay).mono ?_; rintro e w2 ⟨rfl, hb⟩; exact ⟨rfl, hD.quiet hb⟩) | (go_at_call 168; refine (g_run _ _ _ _ _ _ _ hD.lay).mono ?_; rintro e w2 ⟨rfl, hb⟩; exact ⟨rfl, hD.quiet hb⟩) | (go_at_call 133; refine (word_run _ 0 0 0 _ _).mono ?_; rintro e w2 ⟨rfl, rfl⟩; exact ⟨rfl, hD⟩) | (go_at_call 183; refine (iload_run hD.pend.idle _ _).mono ?_; rintro e w2 ⟨rfl, hP, hK⟩; exact ⟨rfl, hP, hD.kept.trans hK (by intro i hi; exact .inl hi)⟩) | (go_at_call 132; refine (iadd_run hD.pend.idle _ _ _).mono ?_; rintro e w2 ⟨rfl, hP, hK⟩; exact ⟨rfl, hP, hD.kept.trans hK (by intro i hi; exact .inl hi)⟩) | (go_at_call 188; refine (istore_run hD.pend.idle _ _ _).mono ?_; rintro e w2 ⟨rfl, hP, hK⟩; exact ⟨rfl, hP, hD.kept.trans hK (by intro i hi; exact .inl hi)⟩) | (go_at_call 166; refine (iswap_run hD.pend.idle _ _ _ _).mono ?_; rintro e w2 ⟨rfl, hP, hK⟩; exact ⟨rfl, hP, hD.kept.trans hK (by intro i hi; exact .inl hi)⟩)); (intro K hK; go_simp; refine hK _ ?_; clear hK K))))
  (rintro w2 ⟨h1, h2⟩; go_wp2; go_returns; exact ⟨⟨_, rfl⟩, h1, h2⟩)
theorem mp_ends_run (x l : Nat) (P T G who : Int) (t v : Int) (w : World)  (hp : Pend w x who (mpR l t) 328 .done) (hL : Lay w l P T G) :
    Calls Tryz.prog 377 #[.pointer (some ⟨x, 0, none⟩), .int .u64 v] w fun e w' => (∃ r, e = .returned r) ∧ Pend w' x who (mpR l t) 328 (.done) ∧ Kept [x] w w' := by
  have HI := hid (MI.start hp hL)
  have hf := hp.idle.frozen
  (have y0 := hp.idle.rest 0; have y1 := hp.idle.rest 1; simp only [mpR, Nat.reduceAdd, Nat.zero_add, List.getElem?_cons_zero, List.getElem?_cons_succ] at y0 y1)
  clear hp hL
  go_enter Tryz.func377, Tryz.ntmps377
  go_wp2
  go_returns
  exact ⟨⟨_, rfl⟩, HI.out.pend, HI.out.kept⟩
theorem mp_new_run (l : Nat) (P T G who : Int) (t : Int) (w : World) (hL : Lay w l P T G) :
    Calls Tryz.prog 287 #[.pointer (some ⟨l, 0, none⟩), .int .i64 who, .int .i64 t] w fun e w' => e = .returned (.pointer (some ⟨w.heap.size, 0, none⟩)) ∧ Pend w' w.heap.size who (mpR l t) 328 (.load (wordN 11) 313) ∧ Below w.heap.size w w' := by
  have h0 : FlAt (w.alloc (.cells (fl fl0 ++ mpR l t).toArray 328)) w.heap.size fl0 (mpR l t) 328 := Blk.new w _ _
  have hL0 := hL.quiet (below_one w (.cells (fl fl0 ++ mpR l t).toArray 328))
  have hlx : l ≠ w.heap.size := Nat.ne_of_lt hL.1.lt
  clear hL
  go_enter Tryz.func287, Tryz.ntmps287
  go_wp2_with fail
  refine (iof_run h0 who).mono ?_
  rintro e w1 ⟨rfl, hp, hK⟩
  have hL1 := hL0.kept hK (by simpa using hlx)
  have hlow : Below w.heap.size w w1 := (below_one _ _).trans (hK.below (by simp) (by simp))
  have HI := hid (MI.start hp hL1).drew
  clear h0 hL0 hp hL1 hK
  go_wp2_with fail
  refine wp_region_T 7 (fun w' => MI w1 w' w.heap.size who (mpR l t) 328 l P T G) (fun w' => Pend w' w.heap.size who (mpR l t) 328 (.load (wordN 11) 313) ∧ Kept [w.heap.size] w1 w') (by kernel_rfl) (by kernel_rfl) rfl (by kernel_rfl) HI.out ?_
  clear HI
  (repeat (first | (apply walkD_pure; rfl; rfl; (intro _; go_simp; first | done | rfl); (intro K hK; go_simp; refine hK _ ?_; clear hK K)) | (apply walkD_skip; rfl; rfl; (intro K hK; go_simp; refine hK _ ?_; clear hK K)) | (apply walkD_read1 [false] (by kernel_rfl); rfl; rfl; (intro w' hD; (have y0 := hD.pend.idle.rest 0; have y1 := hD.pend.idle.rest 1; simp only [mpR, Nat.reduceAdd, Nat.zero_add, List.getElem?_cons_zero, List.getElem?_cons_succ] at y0 y1); go_simp; rfl); (intro K hK; go_simp; refine hK _ ?_; clear hK K)) | (apply walkD_call1 [false] (by kernel_rfl); rfl; (intro _; go_simp; first | rfl | exact ⟨rfl, rfl⟩); (intro w' hD; first | (go_at_call 25; refine (proc_run _ _ _ _ _ _ _ hD.lay).mono ?_; rintro e w2 ⟨rfl, hb⟩; exact ⟨rfl, hD.quiet hb⟩) | (go_at_call 76; refine (thread_run _ _ _ _ _ _ _ hD.lay).mono ?_; rintro e w2 ⟨rfl, hb⟩; exact ⟨rfl, hD.quiet hb⟩) | (go_at_call 255; refine (ring_run _ _ _ _ _ _ (by assumption) _ hD.lay).mono ?_; rintro e w2 ⟨rfl, hb⟩; exact ⟨rfl, hD.quiet hb⟩) | (go_at_call 168; refine (g_run _ _ _ _ _ _ _ hD.lay).mono ?_; rintro e w2 ⟨rfl, hb⟩; exact ⟨rfl, hD.quiet hb⟩) | (go_at_call 133; refine (word_run _ 0 0 0 _ _).mono ?_; rintro e w2 ⟨rfl, rfl⟩; exact ⟨rfl, hD⟩) | (go_at_call 183; refine (iload_run hD.pend.idle _ _).mono ?_; rintro e w2 ⟨rfl, hP, hK⟩; exact ⟨rfl, hP, hD.kept.trans hK (by intro i hi; exact .inl hi)⟩) | (go_at_call 132; refine (iadd_run hD.pend.idle _ _ _).mono ?_; rintro e w2 ⟨rfl, hP, hK⟩; exact ⟨rfl, hP, hD.kept.trans hK (by intro i hi; exact .inl hi)⟩) | (go_at_call 188; refine (istore_run hD.pend.idle _ _ _).mono ?_; rintro e w2 ⟨rfl, hP, hK⟩; exact ⟨rfl, hP, hD.kept.trans hK (by intro i hi; exact .inl hi)⟩) | (go_at_call 166; refine (iswap_run hD.pend.idle _ _ _ _).mono ?_; rintro e w2 ⟨rfl, hP, hK⟩; exact ⟨rfl, hP, hD.kept.trans hK (by intro i hi; exact .inl hi)⟩)); (intro K hK; go_simp; refine hK _ ?_; clear hK K))))
  rintro w2 ⟨h1, h2⟩
  go_wp2
  go_ret
  exact ⟨rfl, h1, hlow.trans (h2.below (by simp) hlow.size)⟩
theorem mp_goes (l x : Nat) (P T t G who : Int) (ht : 0 ≤ t ∧ t ≤ 1000000) : Goes (mpM l P T t) l x P T G who := by
  refine ⟨by show ∀ T ∈ ownT 328, _; decide, by show 328 ≠ _ ∧ 328 ≠ _ ∧ 328 ≠ _; decide, ?_, ?_, ?_, ?_⟩
  · intro st hok
    cases st with
    | k a => exact hok
    | s => simp [mpM, mpNx, Nx.val]; omega
    | h => simp [mpM, mpNx, Nx.val]
    | i => simp [mpM, mpNx, Nx.val]
    | done => simp [mpM, mpNx, Nx.val]
  · intro st a hok ha
    cases st <;> first | exact ha | trivial
  · intro st hst
    cases st with
    | h => exact enters_of Tryz.func313 (by kernel_rfl) rfl
    | k a => exact enters_of Tryz.func337 (by kernel_rfl) rfl
    | s => exact enters_of Tryz.func357 (by kernel_rfl) rfl
    | i => exact enters_of Tryz.func377 (by kernel_rfl) rfl
    | done => exact absurd rfl hst
  · intro st v w hst hok hv hp hL
    cases st with
    | h => exact mp_first_run x l P T G who t v w hp hL
    | k a => exact mp_linked_run x l P T G who t w ht hp hL
    | s => exact mp_lies_run x l P T G who t w hp hL
    | i => exact mp_ends_run x l P T G who t v w hp hL
    | done => exact absurd rfl hst
theorem mpstep_run (lo l x m g : Nat) (P T G who : Int) (t : Int) {st : _} {s : St} {w : World} (hgo : Goes (mpM l P T t) l x P T G who) (hA : Mch.at_ (mpM l P T t) lo l x P T G who w st) (hM : MemAt w m g s) (hc : s.clock < 1000000) (hbd : s.bad < 1000000) :
    Calls Tryz.prog 449 #[.pointer (some ⟨x, 0, none⟩), .pointer (some ⟨m, 0, none⟩)] w fun e w' => (∃ b, e = .returned (.bool b)) ∧ Mch.at_ (mpM l P T t) lo l x P T G who w' (stepOf (Mch.sys (mpM l P T t)) who st s).1 ∧ MemAt w' m g (stepOf (Mch.sys (mpM l P T t)) who st s).2 ∧ KeptOwn (ownT 328) lo m g w w' := by
  obtain ⟨cs, hb⟩ := hA.1.blk
  have h2 := hA.2.1
  have H := hid (mch_fstep hgo hA hM hc hbd)
  have HK := hid (fun (w' : World) (hK : Kept [x, m, g] w w') => mch_kept (K := mpM l P T t) h2 hb hK)
  clear hA hM hb hgo
  obtain ⟨q, hq⟩ : ∃ q, q = stepOf (Mch.sys (mpM l P T t)) who st s := ⟨_, rfl⟩
  rw [← hq] at H ⊢
  obtain ⟨o, ho⟩ : ∃ o, o = (Mch.nx (mpM l P T t) q.1).over := ⟨_, rfl⟩
  rw [← ho] at H
  clear hq ho
  go_enter Tryz.func449, Tryz.ntmps449
  go_wp2_with fail
  refine H.out.mono ?_
  rintro e w1 ⟨rfl, h1, h2, h3⟩
  have HX := hid (And.intro h1 (And.intro h2 (HK.out w1 h3)))
  clear h1 h2 h3
  go_wp2
  go_ret
  exact ⟨⟨_, rfl⟩, HX.out⟩
theorem mpstep_nil (m : Option Addr) (w : World) : Calls Tryz.prog 449 #[.pointer none, .pointer m] w fun e w' => e = .returned (.bool true) ∧ w = w' := by
  go_enter Tryz.func449, Tryz.ntmps449
  go_wp2
  go_ret
  exact ⟨rfl, rfl⟩
def mgR (l : Nat) (a t : Int) : List Value := [.pointer (some ⟨l, 0, none⟩), .int .u64 a, .int .i64 t]
/-- The number that a word tells of. -/
def nOf (a : Int) : Int := IntKind.i64.wrap (IntKind.i64.wrap a - 1)
inductive MgSt
  | h
  | sec (a : Int)
  | mid (a b : Int)
  | inc (a : Int)
  | more
  | mk (a : Int)
  | got (a : Int)
  | none
def mgNx (P T : Int) : MgSt → Nx
  | .h => .load (wordN 11) 342
  | .sec a => .load (th P T (nOf a) 2) 364
  | .mid _ b => .store (wordN 11) b 382
  | .inc _ => .add (wordN 12) 4294967295 393
  | .more => .load (wordN 15) 363
  | .mk a => .store (wordN 15) a 381
  | .got _ => .done
  | .none => .done
def mgRest (l : Nat) : MgSt → List Value
  | .h => mgR l 0 (-1)
  | .sec a => mgR l a (-1)
  | .mid a _ => mgR l a (-1)
  | .inc a => mgR l a (nOf a)
  | .more => mgR l 0 (-1)
  | .mk a => mgR l a (-1)
  | .got a => mgR l a (nOf a)
  | .none => mgR l 0 (-1)
def mgNext (T : Int) (st : MgSt) (v : Int) : MgSt :=
  match st with
  | .h => if v = 0 then .more else .sec v
  | .sec a => .mid a v
  | .mid a _ => .inc a
  | .inc a => .got a
  | .more => if v < T then .mk (v + 1) else .none
  | .mk a => .got a
  | .got a => .got a
  | .none => .none
def MgSt.t : MgSt → Int
  | .inc a => nOf a
  | .got a => nOf a
  | _ => -1
def mgOk : MgSt → Prop
  | .sec a => a ≠ 0 ∧ 0 ≤ a ∧ a < 18446744073709551616
  | .mid a b => (a ≠ 0 ∧ 0 ≤ a ∧ a < 18446744073709551616) ∧ 0 ≤ b ∧ b < 18446744073709551616
  | .inc a => 0 ≤ a ∧ a < 18446744073709551616
  | .mk a => 0 ≤ a ∧ a < 18446744073709551616
  | .got a => 0 ≤ a ∧ a < 18446744073709551616
  | _ => True
def mgM (l : Nat) (P T : Int) : Mch MgSt := ⟨333, mgNx P T, mgRest l, mgNext T, mgOk⟩
theorem mg_first0_run (x l : Nat) (P T G who : Int) (a t : Int) (w : World)  (hp : Pend w x who (mgR l a t) 333 .done) (hL : Lay w l P T G) :
    Calls Tryz.prog 342 #[.pointer (some ⟨x, 0, none⟩), .int .u64 0] w fun e w' => (∃ r, e = .returned r) ∧ Pend w' x who (mgR l 0 t) 333 (.load (wordN 15) 363) ∧ Kept [x] w w' := by
  have HI := hid ((MI.start hp hL).put (by decide) 1 (.int .u64 0)).drew
  have hf := hp.idle.frozen
  (have y0 := hp.idle.rest 0; have y1 := hp.idle.rest 1; have y2 := hp.idle.rest 2; simp only [mgR, Nat.reduceAdd, Nat.zero_add, List.getElem?_cons_zero, List.getElem?_cons_succ] at y0 y1 y2)
  clear hp hL
  go_enter Tryz.func342, Tryz.ntmps342
  go_wp2_with fail
  refine wp_region_T 10 (fun w' => MI w w' x who (mgR l 0 t) 333 l P T G) (fun w' => Pend w' x who (mgR l 0 t) 333 (.load (wordN 15) 363) ∧ Kept [x] w w') (by kernel_rfl) (by kernel_rfl) rfl (by kernel_rfl) HI.out ?_
  clear HI
  (repeat (first | (apply walkD_pure; rfl; rfl; (intro _; go_simp; first | done | rfl); (intro K hK; go_simp; refine hK _ ?_; clear hK K)) | (apply walkD_skip; rfl; rfl; (intro K hK; go_simp; refine hK _ ?_; clear hK K)) | (apply walkD_read1 [false] (by kernel_rfl); rfl; rfl; (intro w' hD; (have y0 := hD.pend.idle.rest 0; have y1 := hD.pend.idle.rest 1; have y2 := hD.pend.idle.rest 2; simp only [mgR, Nat.reduceAdd, Nat.zero_add, List.getElem?_cons_zero, List.getElem?_cons_succ] at y0 y1 y2); go_simp; rfl); (intro K hK; go_simp; refine hK _ ?_; clear hK K)) | (apply walkD_call1 [false] (by kernel_rfl); rfl; (intro _; go_simp; first | rfl | exact ⟨rfl, rfl⟩); (intro w' hD; first | (go_at_call 25; refine (proc_run _ _ _ _ _ _ _ hD.lay).mono ?_; rintro e w2 ⟨rfl, hb⟩; exact ⟨rfl, hD.quiet hb⟩) | (go_at_call 76; refine (thread_run _ _ _ _ _ _ _ hD.lay).mono ?_; rintro e w2 ⟨rfl, hb⟩; exact ⟨rfl, hD.quiet hb⟩) | (go_at_call 255; refine (ring_run _ _ _ _ _ _ (by assumption) _ hD.lay).mono ?_; rintro e w2 ⟨rfl, hb⟩; exact ⟨rfl, hD.quiet hb⟩) | (go_at_call 168; refine (g_run _ _ _ _ _ _ _ hD.lay).mono ?_; rintro e w2 ⟨rfl, hb⟩; exact ⟨rfl, hD.quiet hb⟩) | (go_at_call 133; refine (word_run _ 0 0 0 _ _).mono ?_; rintro e w2 ⟨rfl, rfl⟩; exact ⟨rfl, hD⟩) | (go_at_call 183; refine (iload_run hD.pend.idle _ _).mono ?_; rintro e w2 ⟨rfl, hP, hK⟩; exact ⟨rfl, hP, hD.kept.trans hK (by intro i hi; exact .inl hi)⟩) | (go_at_call 132; refine (iadd_run hD.pend.idle _ _ _).mono ?_; rintro e w2 ⟨rfl, hP, hK⟩; exact ⟨rfl, hP, hD.kept.trans hK (by intro i hi; exact .inl hi)⟩) | (go_at_call 188; refine (istore_run hD.pend.idle _ _ _).mono ?_; rintro e w2 ⟨rfl, hP, hK⟩; exact ⟨rfl, hP, hD.kept.trans hK (by intro i hi; exact .inl hi)⟩) | (go_at_call 166; refine (iswap_run hD.pend.idle _ _ _ _).mono ?_; rintro e w2 ⟨rfl, hP, hK⟩; exact ⟨rfl, hP, hD.kept.trans hK (by intro i hi; exact .inl hi)⟩)); (intro K hK; go_simp; refine hK _ ?_; clear hK K))))
  (rintro w2 ⟨h1, h2⟩; go_wp2; go_returns; exact ⟨⟨_, rfl⟩, h1, h2⟩)
theorem mg_first1_run (x l : Nat) (P T G who : Int) (a t v : Int) (w : World) (hv : v ≠ 0) (hp : Pend w x who (mgR l a t) 333 .done) (hL : Lay w l P T G) :
    Calls Tryz.prog 342 #[.pointer (some ⟨x, 0, none⟩), .int .u64 v] w fun e w' => (∃ r, e = .returned r) ∧ Pend w' x who (mgR l v t) 333 (.load (th P T (nOf v) 2) 364) ∧ Kept [x] w w' := by
  have h0 : ((v : Int) == 0) = false := by simp [hv]
  have n1 : IntKind.i64.wrap (IntKind.i64.wrap v - 1) = nOf v := rfl
  have n2 : wrap64 (wrap64 v - 1) = nOf v := by unfold nOf; simp only [IntWalk.i64_left]
  have HI := hid ((MI.start hp hL).put (by decide) 1 (.int .u64 v)).drew
  have hf := hp.idle.frozen
  (have y0 := hp.idle.rest 0; have y1 := hp.idle.rest 1; have y2 := hp.idle.rest 2; simp only [mgR, Nat.reduceAdd, Nat.zero_add, List.getElem?_cons_zero, List.getElem?_cons_succ] at y0 y1 y2)
  clear hp hL
  go_enter Tryz.func342, Tryz.ntmps342
  go_wp2_with fail
  refine wp_region_T 13 (fun w' => MI w w' x who (mgR l v t) 333 l P T G) (fun w' => Pend w' x who (mgR l v t) 333 (.load (th P T (nOf v) 2) 364) ∧ Kept [x] w w') (by kernel_rfl) (by kernel_rfl) rfl (by kernel_rfl) HI.out ?_
  clear HI
  (repeat (first | (apply walkD_pure; rfl; rfl; (intro _; go_simp; first | done | rfl); (intro K hK; go_simp; refine hK _ ?_; clear hK K)) | (apply walkD_skip; rfl; rfl; (intro K hK; go_simp; refine hK _ ?_; clear hK K)) | (apply walkD_read1 [false] (by kernel_rfl); rfl; rfl; (intro w' hD; (have y0 := hD.pend.idle.rest 0; have y1 := hD.pend.idle.rest 1; have y2 := hD.pend.idle.rest 2; simp only [mgR, Nat.reduceAdd, Nat.zero_add, List.getElem?_cons_zero, List.getElem?_cons_succ] at y0 y1 y2); go_simp; rfl); (intro K hK; go_simp; refine hK _ ?_; clear hK K)) | (apply walkD_call1 [false] (by kernel_rfl); rfl; (intro _; go_simp; first | rfl | exact ⟨rfl, rfl⟩); (intro w' hD; first | (go_at_call 25; refine (proc_run _ _ _ _ _ _ _ hD.lay).mono ?_; rintro e w2 ⟨rfl, hb⟩; exact ⟨rfl, hD.quiet hb⟩) | (go_at_call 76; refine (thread_run _ _ _ _ _ _ _ hD.lay).mono ?_; rintro e w2 ⟨rfl, hb⟩; exact ⟨rfl, hD.quiet hb⟩) | (go_at_call 255; refine (ring_run _ _ _ _ _ _ (by assumption) _ hD.lay).mono ?_; rintro e w2 ⟨rfl, hb⟩; exact ⟨rfl, hD.quiet hb⟩) | (go_at_call 168; refine (g_run _ _ _ _ _ _ _ hD.lay).mono ?_; rintro e w2 ⟨rfl, hb⟩; exact ⟨rfl, hD.quiet hb⟩) | (go_at_call 133; refine (word_run _ 0 0 0 _ _).mono ?_; rintro e w2 ⟨rfl, rfl⟩; exact ⟨rfl, hD⟩) | (go_at_call 183; refine (iload_run hD.pend.idle _ _).mono ?_; rintro e w2 ⟨rfl, hP, hK⟩; exact ⟨rfl, hP, hD.kept.trans hK (by intro i hi; exact .inl hi)⟩) | (go_at_call 132; refine (iadd_run hD.pend.idle _ _ _).mono ?_; rintro e w2 ⟨rfl, hP, hK⟩; exact ⟨rfl, hP, hD.kept.trans hK (by intro i hi; exact .inl hi)⟩) | (go_at_call 188; refine (istore_run hD.pend.idle _ _ _).mono ?_; rintro e w2 ⟨rfl, hP, hK⟩; exact ⟨rfl, hP, hD.kept.trans hK (by intro i hi; exact .inl hi)⟩) | (go_at_call 166; refine (iswap_run hD.pend.idle _ _ _ _).mono ?_; rintro e w2 ⟨rfl, hP, hK⟩; exact ⟨rfl, hP, hD.kept.trans hK (by intro i hi; exact .inl hi)⟩)); (intro K hK; go_simp; refine hK _ ?_; clear hK K))))
  (rintro w2 ⟨h1, h2⟩; go_wp2; go_returns; exact ⟨⟨_, rfl⟩, h1, h2⟩)
theorem mg_second_run (x l : Nat) (P T G who : Int) (a t v : Int) (w : World)  (hp : Pend w x who (mgR l a t) 333 .done) (hL : Lay w l P T G) :
    Calls Tryz.prog 364 #[.pointer (some ⟨x, 0, none⟩), .int .u64 v] w fun e w' => (∃ r, e = .returned r) ∧ Pend w' x who (mgR l a t) 333 (.store (wordN 11) v 382) ∧ Kept [x] w w' := by
  have HI := hid (MI.start hp hL).drew
  have hf := hp.idle.frozen
  (have y0 := hp.idle.rest 0; have y1 := hp.idle.rest 1; have y2 := hp.idle.rest 2; simp only [mgR, Nat.reduceAdd, Nat.zero_add, List.getElem?_cons_zero, List.getElem?_cons_succ] at y0 y1 y2)
  clear hp hL
  go_enter Tryz.func364, Tryz.ntmps364
  go_wp2_with fail
  refine wp_region_T 11 (fun w' => MI w w' x who (mgR l a t) 333 l P T G) (fun w' => Pend w' x who (mgR l a t) 333 (.store (wordN 11) v 382) ∧ Kept [x] w w') (by kernel_rfl) (by kernel_rfl) rfl (by kernel_rfl) HI.out ?_
  clear HI
  (repeat (first | (apply walkD_pure; rfl; rfl; (intro _; go_simp; first | done | rfl); (intro K hK; go_simp; refine hK _ ?_; clear hK K)) | (apply walkD_skip; rfl; rfl; (intro K hK; go_simp; refine hK _ ?_; clear hK K)) | (apply walkD_read1 [false] (by kernel_rfl); rfl; rfl; (intro w' hD; (have y0 := hD.pend.idle.rest 0; have y1 := hD.pend.idle.rest 1; have y2 := hD.pend.idle.rest 2; simp only [mgR, Nat.reduceAdd, Nat.zero_add, List.getElem?_cons_zero, List.getElem?_cons_succ] at y0 y1 y2); go_simp; rfl); (intro K hK; go_simp; refine hK _ ?_; clear hK K)) | (apply walkD_call1 [false] (by kernel_rfl); rfl; (intro _; go_simp; first | rfl | exact ⟨rfl, rfl⟩); (intro w' hD; first | (go_at_call 25; refine (proc_run _ _ _ _ _ _ _ hD.lay).mono ?_; rintro e w2 ⟨rfl, hb⟩; exact ⟨rfl, hD.quiet hb⟩) | (go_at_call 76; refine (thread_run _ _ _ _ _ _ _ hD.lay).mono ?_; rintro e w2 ⟨rfl, hb⟩; exact ⟨rfl, hD.quiet hb⟩) | (go_at_call 255; refine (ring_run _ _ _ _ _ _ (by assumption) _ hD.lay).mono ?_; rintro e w2 ⟨rfl, hb⟩; exact ⟨rfl, hD.quiet hb⟩) | (go_at_call 168; refine (g_run _ _ _ _ _ _ _ hD.lay).mono ?_; rintro e w2 ⟨rfl, hb⟩; exact ⟨rfl, hD.quiet hb⟩) | (go_at_call 133; refine (word_run _ 0 0 0 _ _).mono ?_; rintro e w2 ⟨rfl, rfl⟩; exact ⟨rfl, hD⟩) | (go_at_call 183; refine (iload_run hD.pend.idle _ _).mono ?_; rintro e w2 ⟨rfl, hP, hK⟩; exact ⟨rfl, hP, hD.kept.trans hK (by intro i hi; exact .inl hi)⟩) | (go_at_call 132; refine (iadd_run hD.pend.idle _ _ _).mono ?_; rintro e w2 ⟨rfl, hP, hK⟩; exact ⟨rfl, hP, hD.kept.trans hK (by intro i hi; exact .inl hi)⟩) | (go_at_call 188; refine (istore_run hD.pend.idle _ _ _).mono ?_; rintro e w2 ⟨rfl, hP, hK⟩; exact ⟨rfl, hP, hD.kept.trans hK (by intro i hi; exact .inl hi)⟩) | (go_at_call 166; refine (iswap_run hD.pend.idle _ _ _ _).mono ?_; rintro e w2 ⟨rfl, hP, hK⟩; exact ⟨rfl, hP, hD.kept.trans hK (by intro i hi; exact .inl hi)⟩)); (intro K hK; go_simp; refine hK _ ?_; clear hK K))))
  (rintro w2 ⟨h1, h2⟩; go_wp2; go_returns; exact ⟨⟨_, rfl⟩, h1, h2⟩)
theorem mg_got_run (x l : Nat) (P T G who : Int) (a t : Int) (w : World)  (hp : Pend w x who (mgR l a t) 333 .done) (hL : Lay w l P T G) :
    Calls Tryz.prog 382 #[.pointer (some ⟨x, 0, none⟩)] w fun e w' => (∃ r, e = .returned r) ∧ Pend w' x who (mgR l a (nOf a)) 333 (.add (wordN 12) 4294967295 393) ∧ Kept [x] w w' := by
  have n1 : IntKind.i64.wrap (IntKind.i64.wrap a - 1) = nOf a := rfl
  have n2 : wrap64 (wrap64 a - 1) = nOf a := by unfold nOf; simp only [IntWalk.i64_left]
  have HI := hid ((MI.start hp hL).put (by decide) 2 (.int .i64 (nOf a))).drew
  have hf := hp.idle.frozen
  (have y0 := hp.idle.rest 0; have y1 := hp.idle.rest 1; have y2 := hp.idle.rest 2; simp only [mgR, Nat.reduceAdd, Nat.zero_add, List.getElem?_cons_zero, List.getElem?_cons_succ] at y0 y1 y2)
  clear hp hL
  go_enter Tryz.func382, Tryz.ntmps382
  go_wp2_with fail
  refine wp_region_T 10 (fun w' => MI w w' x who (mgR l a (nOf a)) 333 l P T G) (fun w' => Pend w' x who (mgR l a (nOf a)) 333 (.add (wordN 12) 4294967295 393) ∧ Kept [x] w w') (by kernel_rfl) (by kernel_rfl) rfl (by kernel_rfl) HI.out ?_
  clear HI
  (repeat (first | (apply walkD_pure; rfl; rfl; (intro _; go_simp; first | done | rfl); (intro K hK; go_simp; refine hK _ ?_; clear hK K)) | (apply walkD_skip; rfl; rfl; (intro K hK; go_simp; refine hK _ ?_; clear hK K)) | (apply walkD_read1 [false] (by kernel_rfl); rfl; rfl; (intro w' hD; (have y0 := hD.pend.idle.rest 0; have y1 := hD.pend.idle.rest 1; have y2 := hD.pend.idle.rest 2; simp only [mgR, Nat.reduceAdd, Nat.zero_add, List.getElem?_cons_zero, List.getElem?_cons_succ] at y0 y1 y2); go_simp; rfl); (intro K hK; go_simp; refine hK _ ?_; clear hK K)) | (apply walkD_call1 [false] (by kernel_rfl); rfl; (intro _; go_simp; first | rfl | exact ⟨rfl, rfl⟩); (intro w' hD; first | (go_at_call 25; refine (proc_run _ _ _ _ _ _ _ hD.lay).mono ?_; rintro e w2 ⟨rfl, hb⟩; exact ⟨rfl, hD.quiet hb⟩) | (go_at_call 76; refine (thread_run _ _ _ _ _ _ _ hD.lay).mono ?_; rintro e w2 ⟨rfl, hb⟩; exact ⟨rfl, hD.quiet hb⟩) | (go_at_call 255; refine (ring_run _ _ _ _ _ _ (by assumption) _ hD.lay).mono ?_; rintro e w2 ⟨rfl, hb⟩; exact ⟨rfl, hD.quiet hb⟩) | (go_at_call 168; refine (g_run _ _ _ _ _ _ _ hD.lay).mono ?_; rintro e w2 ⟨rfl, hb⟩; exact ⟨rfl, hD.quiet hb⟩) | (go_at_call 133; refine (word_run _ 0 0 0 _ _).mono ?_; rintro e w2 ⟨rfl, rfl⟩; exact ⟨rfl, hD⟩) | (go_at_call 183; refine (iload_run hD.pend.idle _ _).mono ?_; rintro e w2 ⟨rfl, hP, hK⟩; exact ⟨rfl, hP, hD.kept.trans hK (by intro i hi; exact .inl hi)⟩) | (go_at_call 132; refine (iadd_run hD.pend.idle _ _ _).mono ?_; rintro e w2 ⟨rfl, hP, hK⟩; exact ⟨rfl, hP, hD.kept.trans hK (by intro i hi; exact .inl hi)⟩) | (go_at_call 188; refine (istore_run hD.pend.idle _ _ _).mono ?_; rintro e w2 ⟨rfl, hP, hK⟩; exact ⟨rfl, hP, hD.kept.trans hK (by intro i hi; exact .inl hi)⟩) | (go_at_call 166; refine (iswap_run hD.pend.idle _ _ _ _).mono ?_; rintro e w2 ⟨rfl, hP, hK⟩; exact ⟨rfl, hP, hD.kept.trans hK (by intro i hi; exact .inl hi)⟩)); (intro K hK; go_simp; refine hK _ ?_; clear hK K))))
  (rintro w2 ⟨h1, h2⟩; go_wp2; go_returns; exact ⟨⟨_, rfl⟩, h1, h2⟩)
theorem mg_made_run (x l : Nat) (P T G who : Int) (a t : Int) (w : World)  (hp : Pend w x who (mgR l a t) 333 .done) (hL : Lay w l P T G) :
    Calls Tryz.prog 381 #[.pointer (some ⟨x, 0, none⟩)] w fun e w' => (∃ r, e = .returned r) ∧ Pend w' x who (mgR l a (nOf a)) 333 (.done) ∧ Kept [x] w w' := by
  have n1 : IntKind.i64.wrap (IntKind.i64.wrap a - 1) = nOf a := rfl
  have n2 : wrap64 (wrap64 a - 1) = nOf a := by unfold nOf; simp only [IntWalk.i64_left]
  have HI := hid ((MI.start hp hL).put (by decide) 2 (.int .i64 (nOf a)))
  have hf := hp.idle.frozen
  (have y0 := hp.idle.rest 0; have y1 := hp.idle.rest 1; have y2 := hp.idle.rest 2; simp only [mgR, Nat.reduceAdd, Nat.zero_add, List.getElem?_cons_zero, List.getElem?_cons_succ] at y0 y1 y2)
  clear hp hL
  go_enter Tryz.func381, Tryz.ntmps381
  go_wp2
  go_returns
  exact ⟨⟨_, rfl⟩, HI.out.pend, HI.out.kept⟩
theorem mg_ends_run (x l : Nat) (P T G who : Int) (a t v : Int) (w : World)  (hp : Pend w x who (mgR l a t) 333 .done) (hL : Lay w l P T G) :
    Calls Tryz.prog 393 #[.pointer (some ⟨x, 0, none⟩), .int .u64 v] w fun e w' => (∃ r, e = .returned r) ∧ Pend w' x who (mgR l a t) 333 (.done) ∧ Kept [x] w w' := by
  have HI := hid (MI.start hp hL)
  have hf := hp.idle.frozen
  (have y0 := hp.idle.rest 0; have y1 := hp.idle.rest 1; have y2 := hp.idle.rest 2; simp only [mgR, Nat.reduceAdd, Nat.zero_add, List.getElem?_cons_zero, List.getElem?_cons_succ] at y0 y1 y2)
  clear hp hL
  go_enter Tryz.func393, Tryz.ntmps393
  go_wp2
  go_returns
  exact ⟨⟨_, rfl⟩, HI.out.pend, HI.out.kept⟩
theorem mg_more_yes (x l : Nat) (P T G who : Int) (a t v : Int) (w : World) (hv : 0 ≤ v ∧ v < T) (hp : Pend w x who (mgR l a t) 333 .done) (hL : Lay w l P T G) :
    Calls Tryz.prog 363 #[.pointer (some ⟨x, 0, none⟩), .int .u64 v] w fun e w' => (∃ r, e = .returned r) ∧ Pend w' x who (mgR l (v + 1) t) 333 (.store (wordN 15) (v + 1) 381) ∧ Kept [x] w w' := by
  have hR := hL.2
  unfold Right at hR
  have n1 : IntKind.u64.wrap T = T := by rw [IntKind.wrap_u64]; omega
  have n2 : IntKind.u64.wrap (v + 1) = v + 1 := by rw [IntKind.wrap_u64]; omega
  have d1 : decide (v < T) = true := decide_eq_true hv.2
  have hc0 := cfg_field1
  have y1 := hp.idle.rest 0
  simp only [mgR, Nat.zero_add, List.getElem?_cons_zero] at y1
  have HP := hid (And.intro hp hL)
  clear hp hL hR
  go_enter Tryz.func363, Tryz.ntmps363
  go_wp2_with fail
  refine (config_run l P T G w HP.out.2).mono ?_
  rintro e w1 ⟨rfl, hb⟩
  have HI0 : MI w w1 x who (mgR l a t) 333 l P T G := ⟨HP.out.1.quiet hb, HP.out.2.quiet hb, Kept.of_below hb _⟩
  have HI := hid (HI0.put (by decide) 1 (.int .u64 (v + 1))).drew
  have hf := HI0.pend.idle.frozen
  have hp := HI0.pend
  (have y0 := hp.idle.rest 0; have y1 := hp.idle.rest 1; have y2 := hp.idle.rest 2; simp only [mgR, Nat.reduceAdd, Nat.zero_add, List.getElem?_cons_zero, List.getElem?_cons_succ] at y0 y1 y2)
  clear hp HI0 hb HP
  go_wp2_with fail
  refine wp_region_T 12 (fun w' => MI w w' x who (mgR l (v + 1) t) 333 l P T G) (fun w' => Pend w' x who (mgR l (v + 1) t) 333 (.store (wordN 15) (v + 1) 381) ∧ Kept [x] w w') (by kernel_rfl) (by kernel_rfl) rfl (by kernel_rfl) HI.out ?_
  clear HI
  (repeat (first | (apply walkD_pure; rfl; rfl; (intro _; go_simp; first | done | rfl); (intro K hK; go_simp; refine hK _ ?_; clear hK K)) | (apply walkD_skip; rfl; rfl; (intro K hK; go_simp; refine hK _ ?_; clear hK K)) | (apply walkD_read1 [false] (by kernel_rfl); rfl; rfl; (intro w' hD; (have y0 := hD.pend.idle.rest 0; have y1 := hD.pend.idle.rest 1; have y2 := hD.pend.idle.rest 2; simp only [mgR, Nat.reduceAdd, Nat.zero_add, List.getElem?_cons_zero, List.getElem?_cons_succ] at y0 y1 y2); go_simp; rfl); (intro K hK; go_simp; refine hK _ ?_; clear hK K)) | (apply walkD_call1 [false] (by kernel_rfl); rfl; (intro _; go_simp; first | rfl | exact ⟨rfl, rfl⟩); (intro w' hD; first | (go_at_call 25; refine (proc_run _ _ _ _ _ _ _ hD.lay).mono ?_; rintro e w2 ⟨rfl, hb⟩; exact ⟨rfl, hD.quiet hb⟩) | (go_at_call 76; refine (thread_run _ _ _ _ _ _ _ hD.lay).mono ?_; rintro e w2 ⟨rfl, hb⟩; exact ⟨rfl, hD.quiet hb⟩) | (go_at_call 255; refine (ring_run _ _ _ _ _ _ (by assumption) _ hD.lay).mono ?_; rintro e w2 ⟨rfl, hb⟩; exact ⟨rfl, hD.quiet hb⟩) | (go_at_call 168; refine (g_run _ _ _ _ _ _ _ hD.lay).mono ?_; rintro e w2 ⟨rfl, hb⟩; exact ⟨rfl, hD.quiet hb⟩) | (go_at_call 133; refine (word_run _ 0 0 0 _ _).mono ?_; rintro e w2 ⟨rfl, rfl⟩; exact ⟨rfl, hD⟩) | (go_at_call 183; refine (iload_run hD.pend.idle _ _).mono ?_; rintro e w2 ⟨rfl, hP, hK⟩; exact ⟨rfl, hP, hD.kept.trans hK (by intro i hi; exact .inl hi)⟩) | (go_at_call 132; refine (iadd_run hD.pend.idle _ _ _).mono ?_; rintro e w2 ⟨rfl, hP, hK⟩; exact ⟨rfl, hP, hD.kept.trans hK (by intro i hi; exact .inl hi)⟩) | (go_at_call 188; refine (istore_run hD.pend.idle _ _ _).mono ?_; rintro e w2 ⟨rfl, hP, hK⟩; exact ⟨rfl, hP, hD.kept.trans hK (by intro i hi; exact .inl hi)⟩) | (go_at_call 166; refine (iswap_run hD.pend.idle _ _ _ _).mono ?_; rintro e w2 ⟨rfl, hP, hK⟩; exact ⟨rfl, hP, hD.kept.trans hK (by intro i hi; exact .inl hi)⟩)); (intro K hK; go_simp; refine hK _ ?_; clear hK K))))
  (rintro w2 ⟨h1, h2⟩; go_wp2; go_returns; exact ⟨⟨_, rfl⟩, h1, h2⟩)
theorem mg_more_no (x l : Nat) (P T G who : Int) (a t v : Int) (w : World) (hv : ¬ v < T) (hp : Pend w x who (mgR l a t) 333 .done) (hL : Lay w l P T G) :
    Calls Tryz.prog 363 #[.pointer (some ⟨x, 0, none⟩), .int .u64 v] w fun e w' => (∃ r, e = .returned r) ∧ Pend w' x who (mgR l a t) 333 .done ∧ Kept [x] w w' := by
  have hR := hL.2
  unfold Right at hR
  have n1 : IntKind.u64.wrap T = T := by rw [IntKind.wrap_u64]; omega
  have d1 : decide (v < T) = false := decide_eq_false hv
  have hc0 := cfg_field1
  have y1 := hp.idle.rest 0
  simp only [mgR, Nat.zero_add, List.getElem?_cons_zero] at y1
  have HP := hid (And.intro hp hL)
  clear hp hL hR
  go_enter Tryz.func363, Tryz.ntmps363
  go_wp2_with fail
  refine (config_run l P T G w HP.out.2).mono ?_
  rintro e w1 ⟨rfl, hb⟩
  have HI := hid (And.intro (HP.out.1.quiet hb) (Kept.of_below hb [x]))
  clear hb HP
  go_wp2
  go_returns
  exact ⟨⟨_, rfl⟩, HI.out.1, HI.out.2⟩
theorem mg_new_run (l : Nat) (P T G who : Int)  (w : World) (hL : Lay w l P T G) :
    Calls Tryz.prog 322 #[.pointer (some ⟨l, 0, none⟩), .int .i64 who] w fun e w' => e = .returned (.pointer (some ⟨w.heap.size, 0, none⟩)) ∧ Pend w' w.heap.size who (mgR l 0 (-1)) 333 (.load (wordN 11) 342) ∧ Below w.heap.size w w' := by
  have h0 : FlAt (w.alloc (.cells (fl fl0 ++ mgR l 0 (-1)).toArray 333)) w.heap.size fl0 (mgR l 0 (-1)) 333 := Blk.new w _ _
  have hL0 := hL.quiet (below_one w (.cells (fl fl0 ++ mgR l 0 (-1)).toArray 333))
  have hlx : l ≠ w.heap.size := Nat.ne_of_lt hL.1.lt
  clear hL
  go_enter Tryz.func322, Tryz.ntmps322
  go_wp2_with fail
  refine (iof_run h0 who).mono ?_
  rintro e w1 ⟨rfl, hp, hK⟩
  have hL1 := hL0.kept hK (by simpa using hlx)
  have hlow : Below w.heap.size w w1 := (below_one _ _).trans (hK.below (by simp) (by simp))
  have HI := hid (MI.start hp hL1).drew
  clear h0 hL0 hp hL1 hK
  go_wp2_with fail
  refine wp_region_T 7 (fun w' => MI w1 w' w.heap.size who (mgR l 0 (-1)) 333 l P T G) (fun w' => Pend w' w.heap.size who (mgR l 0 (-1)) 333 (.load (wordN 11) 342) ∧ Kept [w.heap.size] w1 w') (by kernel_rfl) (by kernel_rfl) rfl (by kernel_rfl) HI.out ?_
  clear HI
  (repeat (first | (apply walkD_pure; rfl; rfl; (intro _; go_simp; first | done | rfl); (intro K hK; go_simp; refine hK _ ?_; clear hK K)) | (apply walkD_skip; rfl; rfl; (intro K hK; go_simp; refine hK _ ?_; clear hK K)) | (apply walkD_read1 [false] (by kernel_rfl); rfl; rfl; (intro w' hD; (have y0 := hD.pend.idle.rest 0; have y1 := hD.pend.idle.rest 1; have y2 := hD.pend.idle.rest 2; simp only [mgR, Nat.reduceAdd, Nat.zero_add, List.getElem?_cons_zero, List.getElem?_cons_succ] at y0 y1 y2); go_simp; rfl); (intro K hK; go_simp; refine hK _ ?_; clear hK K)) | (apply walkD_call1 [false] (by kernel_rfl); rfl; (intro _; go_simp; first | rfl | exact ⟨rfl, rfl⟩); (intro w' hD; first | (go_at_call 25; refine (proc_run _ _ _ _ _ _ _ hD.lay).mono ?_; rintro e w2 ⟨rfl, hb⟩; exact ⟨rfl, hD.quiet hb⟩) | (go_at_call 76; refine (thread_run _ _ _ _ _ _ _ hD.lay).mono ?_; rintro e w2 ⟨rfl, hb⟩; exact ⟨rfl, hD.quiet hb⟩) | (go_at_call 255; refine (ring_run _ _ _ _ _ _ (by assumption) _ hD.lay).mono ?_; rintro e w2 ⟨rfl, hb⟩; exact ⟨rfl, hD.quiet hb⟩) | (go_at_call 168; refine (g_run _ _ _ _ _ _ _ hD.lay).mono ?_; rintro e w2 ⟨rfl, hb⟩; exact ⟨rfl, hD.quiet hb⟩) | (go_at_call 133; refine (word_run _ 0 0 0 _ _).mono ?_; rintro e w2 ⟨rfl, rfl⟩; exact ⟨rfl, hD⟩) | (go_at_call 183; refine (iload_run hD.pend.idle _ _).mono ?_; rintro e w2 ⟨rfl, hP, hK⟩; exact ⟨rfl, hP, hD.kept.trans hK (by intro i hi; exact .inl hi)⟩) | (go_at_call 132; refine (iadd_run hD.pend.idle _ _ _).mono ?_; rintro e w2 ⟨rfl, hP, hK⟩; exact ⟨rfl, hP, hD.kept.trans hK (by intro i hi; exact .inl hi)⟩) | (go_at_call 188; refine (istore_run hD.pend.idle _ _ _).mono ?_; rintro e w2 ⟨rfl, hP, hK⟩; exact ⟨rfl, hP, hD.kept.trans hK (by intro i hi; exact .inl hi)⟩) | (go_at_call 166; refine (iswap_run hD.pend.idle _ _ _ _).mono ?_; rintro e w2 ⟨rfl, hP, hK⟩; exact ⟨rfl, hP, hD.kept.trans hK (by intro i hi; exact .inl hi)⟩)); (intro K hK; go_simp; refine hK _ ?_; clear hK K))))
  rintro w2 ⟨h1, h2⟩
  go_wp2
  go_ret
  exact ⟨rfl, h1, hlow.trans (h2.below (by simp) hlow.size)⟩
theorem mg_goes (l x : Nat) (P T G who : Int) (hT : 0 ≤ T ∧ T ≤ 1000) : Goes (mgM l P T) l x P T G who := by
  refine ⟨by show ∀ T ∈ ownT 333, _; decide, by show 333 ≠ _ ∧ 333 ≠ _ ∧ 333 ≠ _; decide, ?_, ?_, ?_, ?_⟩
  · intro st hok
    cases st with
    | mid a b => exact hok.2
    | mk a => exact hok
    | h => simp [mgM, mgNx, Nx.val]
    | sec a => simp [mgM, mgNx, Nx.val]
    | inc a => simp [mgM, mgNx, Nx.val]
    | more => simp [mgM, mgNx, Nx.val]
    | got a => simp [mgM, mgNx, Nx.val]
    | none => simp [mgM, mgNx, Nx.val]
  · intro st a hok ha
    cases st with
    | h =>
      show mgOk (if a = 0 then _ else _)
      split
      · trivial
      · exact ⟨by assumption, ha⟩
    | sec b => exact ⟨hok, ha⟩
    | mid b c => exact hok.1.2
    | inc b => exact hok
    | more =>
      show mgOk (if a < T then _ else _)
      split
      · exact ⟨by omega, by omega⟩
      · trivial
    | mk b => exact hok
    | got b => exact hok
    | none => trivial
  · intro st hst
    cases st with
    | h => exact enters_of Tryz.func342 (by kernel_rfl) rfl
    | sec a => exact enters_of Tryz.func364 (by kernel_rfl) rfl
    | mid a b => exact enters_of Tryz.func382 (by kernel_rfl) rfl
    | inc a => exact enters_of Tryz.func393 (by kernel_rfl) rfl
    | more => exact enters_of Tryz.func363 (by kernel_rfl) rfl
    | mk a => exact enters_of Tryz.func381 (by kernel_rfl) rfl
    | got a => exact absurd rfl hst
    | none => exact absurd rfl hst
  · intro st v w hst hok hv hp hL
    cases st with
    | h =>
      by_cases h : v = 0
      · subst h
        exact mg_first0_run x l P T G who 0 (-1) w hp hL
      · show Calls _ _ _ _ (fun e w' => _ ∧ Pend w' x who (mgRest l (if v = 0 then MgSt.more else MgSt.sec v)) _ (mgNx P T (if v = 0 then MgSt.more else MgSt.sec v)) ∧ _)
        rw [if_neg h]
        exact mg_first1_run x l P T G who 0 (-1) v w h hp hL
    | sec a => exact mg_second_run x l P T G who a (-1) v w hp hL
    | mid a b => exact mg_got_run x l P T G who a (-1) w hp hL
    | inc a => exact mg_ends_run x l P T G who a (nOf a) v w hp hL
    | more =>
      show Calls _ _ _ _ (fun e w' => _ ∧ Pend w' x who (mgRest l (if v < T then MgSt.mk (v + 1) else MgSt.none)) _ (mgNx P T (if v < T then MgSt.mk (v + 1) else MgSt.none)) ∧ _)
      by_cases h : v < T
      · rw [if_pos h]
        exact mg_more_yes x l P T G who 0 (-1) v w ⟨hv.1, h⟩ hp hL
      · rw [if_neg h]
        exact mg_more_no x l P T G who 0 (-1) v w h hp hL
    | mk a => exact mg_made_run x l P T G who a (-1) w hp hL
    | got a => exact absurd rfl hst
    | none => exact absurd rfl hst
theorem mgstep_run (lo l x m g : Nat) (P T G who : Int)  {st : _} {s : St} {w : World} (hgo : Goes (mgM l P T) l x P T G who) (hA : Mch.at_ (mgM l P T) lo l x P T G who w st) (hM : MemAt w m g s) (hc : s.clock < 1000000) (hbd : s.bad < 1000000) :
    Calls Tryz.prog 446 #[.pointer (some ⟨x, 0, none⟩), .pointer (some ⟨m, 0, none⟩)] w fun e w' => (∃ b, e = .returned (.bool b)) ∧ Mch.at_ (mgM l P T) lo l x P T G who w' (stepOf (Mch.sys (mgM l P T)) who st s).1 ∧ MemAt w' m g (stepOf (Mch.sys (mgM l P T)) who st s).2 ∧ KeptOwn (ownT 333) lo m g w w' := by
  obtain ⟨cs, hb⟩ := hA.1.blk
  have h2 := hA.2.1
  have H := hid (mch_fstep hgo hA hM hc hbd)
  have HK := hid (fun (w' : World) (hK : Kept [x, m, g] w w') => mch_kept (K := mgM l P T) h2 hb hK)
  clear hA hM hb hgo
  obtain ⟨q, hq⟩ : ∃ q, q = stepOf (Mch.sys (mgM l P T)) who st s := ⟨_, rfl⟩
  rw [← hq] at H ⊢
  obtain ⟨o, ho⟩ : ∃ o, o = (Mch.nx (mgM l P T) q.1).over := ⟨_, rfl⟩
  rw [← ho] at H
  clear hq ho
  go_enter Tryz.func446, Tryz.ntmps446
  go_wp2_with fail
  refine H.out.mono ?_
  rintro e w1 ⟨rfl, h1, h2, h3⟩
  have HX := hid (And.intro h1 (And.intro h2 (HK.out w1 h3)))
  clear h1 h2 h3
  go_wp2
  go_ret
  exact ⟨⟨_, rfl⟩, HX.out⟩
theorem mgstep_nil (m : Option Addr) (w : World) : Calls Tryz.prog 446 #[.pointer none, .pointer m] w fun e w' => e = .returned (.bool true) ∧ w = w' := by
  go_enter Tryz.func446, Tryz.ntmps446
  go_wp2
  go_ret
  exact ⟨rfl, rfl⟩
theorem mg_t_run {lo l x : Nat} {P T G who : Int} {st : MgSt} {w : World} (hA : Mch.at_ (mgM l P T) lo l x P T G who w st) :
    Calls Tryz.prog 343 #[.pointer (some ⟨x, 0, none⟩)] w fun e w' => e = .returned (.int .i64 st.t) ∧ w = w' := by
  have y2 := hA.1.idle.rest 2
  have e : (mgRest l st)[2]? = some (.int .i64 st.t) := by cases st <;> rfl
  rw [show (mgM l P T).rest st = mgRest l st from rfl, e] at y2
  simp only [Nat.reduceAdd] at y2
  obtain ⟨q, hq⟩ : ∃ q, q = st.t := ⟨_, rfl⟩
  rw [← hq] at y2 ⊢
  clear hA e hq
  go_enter Tryz.func343, Tryz.ntmps343
  go_wp2
  go_ret
  exact ⟨rfl, rfl⟩
theorem mg_t_nil (w : World) : Calls Tryz.prog 343 #[.pointer none] w fun e w' => e = .returned (.int .i64 (-1)) ∧ w = w' := by
  go_enter Tryz.func343, Tryz.ntmps343
  go_wp2
  go_ret
  exact ⟨rfl, rfl⟩
end Go.Proofs.YtlhnnggceebpjaaGreat.Idlem
end

section
/- The document's list of threads; how many are to be had; the example. -/
set_option maxRecDepth 100000
set_option maxHeartbeats 4000000
set_option linter.unusedVariables false
set_option linter.unusedSimpArgs false
namespace Go.Proofs.YtlhnnggceebpjaaGreat.Idlem
open Go.RowKit Go.Shelf Go.Proofs.YtlhnnggceebpjaaGreat.TK Go.Proofs.YtlhnnggceebpjaaGreat.Flag Go.Proofs.YtlhnnggceebpjaaGreat.Read Go.Proofs.YtlhnnggceebpjaaGreat.Grow Go.Proofs.YtlhnnggceebpjaaGreat.Words Go.Proofs.YtlhnnggceebpjaaGreat.Mem Go.Proofs.YtlhnnggceebpjaaGreat.Flow Go.Proofs.YtlhnnggceebpjaaGreat.Layout Go.Proofs.YtlhnnggceebpjaaGreat.Lock Go.Proofs.YtlhnnggceebpjaaGreat.Run Go.Proofs.YtlhnnggceebpjaaGreat.Sys Go.Proofs.YtlhnnggceebpjaaGreat.Mach Go.Proofs.YtlhnnggceebpjaaGreat.Doc Go.Proofs.YtlhnnggceebpjaaGreat.Ref05
theorem w11 : wordN 11 = 11 := by decide
theorem w12 : wordN 12 = 12 := by decide
theorem w15 : wordN 15 = 15 := by decide
theorem rput18_run (l : Nat) (P T G t : Int) (B r : Nat) (v : Value) (a : RunSt) (got : List Int) (s0 : MpSt) (w : World) (h : RunAt w B r v a) (hg : Fits got a) (hs : a.stop = false → s0 = .h) (hP : (0 ≤ P ∧ P ≤ 1000) ∧ (0 ≤ t ∧ t ≤ 1000000) ∧ T ≤ 1000) :
    Calls Tryz.prog 148 #[.pointer (some ⟨r, 0, none⟩), .agg #[.int .i64 P, .int .i64 T, .int .i64 G], .int .i64 t] w fun e w' => e = .returned (.tuple #[]) ∧ ∃ b s1, RunAt w' B r v b ∧ Kept [r] w w' ∧ Ran (mpM l P T t).sys got s0 a s1 b ∧ Fits got b ∧ (b.stop = false → (mpM l P T t).sys.want s1 = none) := by
  have HI := hid (DI.start (M := (mpM l P T t).sys) (P := P) (T := T) (G := G) h hg s0)
  have HP := hid hP
  have HS := hid hs
  obtain ⟨z0, z1, z2, z3⟩ := HI.out.cells
  have n1 : IntKind.u64.wrap t = t := by rw [IntKind.wrap_u64]; omega
  have n2 : IntKind.u64.wrap (t + 1) = t + 1 := by rw [IntKind.wrap_u64]; omega
  clear h hg hs hP
  go_enter Tryz.func148, Tryz.ntmps148
  go_wp2_with fail
  refine (dl_run HI.out 11 (fun h => by rw [HS.out h, ← w11]; rfl)).mono ?_
  rintro e w2 ⟨b1, s1, x1, rfl, hI, ho1⟩
  have e1 : b1.stop = false → s1 = .k x1 := fun h => by obtain ⟨h1, h2⟩ := ho1.1 h; rw [h2, HS.out h1]; rfl
  (have HI := hid hI; obtain ⟨z0, z1, z2, z3⟩ := HI.out.cells; clear hI)
  go_wp2_with fail
  (refine (threadat_run P T G _ _ _ HP.out.1 HP.out.2.2 (by omega)).mono ?_; rintro e w1 ⟨rfl, hb⟩; (have HI := hid (HI.out.quiet hb); clear hb; obtain ⟨z0, z1, z2, z3⟩ := HI.out.cells))
  go_wp2_with fail
  refine (ds_run HI.out (th P T t 2) x1 (fun h => by rw [e1 h]; rfl)).mono ?_
  rintro e w3 ⟨rfl, b2, s2, x2, hI, ho2⟩
  have e2 : b2.stop = false → s2 = .s := fun h => by obtain ⟨h1, h2⟩ := ho2.1 h; rw [h2, e1 h1]; rfl
  (have HI := hid hI; obtain ⟨z0, z1, z2, z3⟩ := HI.out.cells; clear hI)
  go_wp2_with fail
  refine (ds_run HI.out 11 (t + 1) (fun h => by rw [e2 h, ← w11]; rfl)).mono ?_
  rintro e w4 ⟨rfl, b3, s3, x3, hI, ho3⟩
  have e3 : b3.stop = false → s3 = .i := fun h => by obtain ⟨h1, h2⟩ := ho3.1 h; rw [h2, e2 h1]; rfl
  (have HI := hid hI; obtain ⟨z0, z1, z2, z3⟩ := HI.out.cells; clear hI)
  go_wp2_with fail
  refine (da_run HI.out 12 1 (fun h => by rw [e3 h, ← w12]; rfl)).mono ?_
  rintro e w5 ⟨b4, s4, x4, rfl, hI, ho4⟩
  have e4 : b4.stop = false → s4 = .done := fun h => by obtain ⟨h1, h2⟩ := ho4.1 h; rw [h2, e3 h1]; rfl
  have HI := hid hI
  have HE := hid e4
  clear hI ho1 ho2 ho3 ho4 e1 e2 e3 e4
  go_wp2
  go_returns
  exact ⟨rfl, b4, s4, HI.out.run, HI.out.kept, HI.out.ran, HI.out.good, fun h => by rw [HE.out h]; rfl⟩
theorem nOf_succ (x : Int) (h : 0 ≤ x ∧ x < 1000000) : nOf (x + 1) = x := by
  unfold nOf
  rw [IntKind.wrap_i64, IntKind.wrap_i64]
  omega
theorem rget18_run (l : Nat) (P T G : Int) (B r : Nat) (v : Value) (a : RunSt) (got : List Int) (s0 : MgSt) (w : World) (h : RunAt w B r v a) (hg : Fits got a) (hs : a.stop = false → s0 = .h) (hP : (0 ≤ P ∧ P ≤ 1000) ∧ 1 ≤ T ∧ T ≤ 1000) :
    Calls Tryz.prog 271 #[.pointer (some ⟨r, 0, none⟩), .agg #[.int .i64 P, .int .i64 T, .int .i64 G]] w fun e w' => ∃ q b s1, e = .returned (.int .i64 q) ∧ RunAt w' B r v b ∧ Kept [r] w w' ∧ Ran (mgM l P T).sys got s0 a s1 b ∧ Fits got b ∧ (b.stop = false → (mgM l P T).sys.want s1 = none) ∧ (a.stop = false → q = s1.t) ∧ (a.stop = true → q = -1) := by
  have HI := hid (DI.start (M := (mgM l P T).sys) (P := P) (T := T) (G := G) h hg s0)
  have HP := hid (And.intro hP.1 (And.intro hP.2 hP.2.2))
  have HS := hid hs
  obtain ⟨z0, z1, z2, z3⟩ := HI.out.cells
  have n1 : IntKind.u64.wrap T = T := by rw [IntKind.wrap_u64]; omega
  have hT : 1 ≤ T ∧ T ≤ 1000 := hP.2
  clear h hg hs hP
  go_enter Tryz.func271, Tryz.ntmps271
  go_wp2_with fail
  refine (dl_run HI.out 11 (fun h => by rw [HS.out h, ← w11]; rfl)).mono ?_
  rintro e w2 ⟨b1, s1, x1, rfl, hI, ho1⟩
  (have HI := hid hI; obtain ⟨z0, z1, z2, z3⟩ := HI.out.cells; clear hI)
  by_cases hx : x1 = 0
  · subst hx
    have e1 : b1.stop = false → a.stop = false ∧ s1 = .more := fun h => by obtain ⟨h1, h2⟩ := ho1.1 h; refine ⟨h1, ?_⟩; rw [h2, HS.out h1]; rfl
    have f1 : a.stop = false → s1.t = -1 := fun h => by
      cases hb : b1.stop with
      | false => rw [(e1 hb).2]; rfl
      | true => rw [(ho1.2.2.1 hb).1, HS.out h]; rfl
    go_wp2_with fail
    refine (dl_run HI.out 15 (fun h => by rw [(e1 h).2, ← w15]; rfl)).mono ?_
    rintro e w3 ⟨b2, s2, x2, rfl, hI, ho2⟩
    (have HI := hid hI; obtain ⟨z0, z1, z2, z3⟩ := HI.out.cells; clear hI)
    by_cases hl : x2 < T
    · have d1 : decide (x2 < T) = true := decide_eq_true hl
      have hx2 := ho2.2.1
      have n2 : IntKind.u64.wrap (x2 + 1) = x2 + 1 := by rw [IntKind.wrap_u64]; omega
      have n3 : IntKind.i64.wrap x2 = x2 := by rw [IntKind.wrap_i64]; omega
      have e2 : b2.stop = false → a.stop = false ∧ s2 = .mk (x2 + 1) := fun h => by
        obtain ⟨h1, h2⟩ := ho2.1 h
        refine ⟨(e1 h1).1, ?_⟩
        rw [h2, (e1 h1).2]
        show (if x2 < T then _ else _) = _
        rw [if_pos hl]
      have f2 : a.stop = false → s2.t = -1 := fun h => by
        cases hb : b2.stop with
        | false => rw [(e2 hb).2]; rfl
        | true => rw [(ho2.2.2.1 hb).1]; exact f1 h
      go_wp2_with fail
      refine (ds_run HI.out 15 (x2 + 1) (fun h => by rw [(e2 h).2, ← w15]; rfl)).mono ?_
      rintro e w4 ⟨rfl, b3, s3, x3, hI, ho3⟩
      have e3 : b3.stop = false → a.stop = false ∧ s3 = .got (x2 + 1) := fun h => by obtain ⟨h1, h2⟩ := ho3.1 h; refine ⟨(e2 h1).1, ?_⟩; rw [h2, (e2 h1).2]; rfl
      have f3 : b3.stop = true → a.stop = false → s3.t = -1 := fun hb h => by rw [(ho3.2.2.1 hb).1]; exact f2 h
      have k3 : nOf (x2 + 1) = x2 := nOf_succ x2 (by omega)
      (have HI := hid hI; obtain ⟨z0, z1, z2, z3⟩ := HI.out.cells; clear hI)
      cases hb : b3.stop with
      | false =>
        rw [hb] at z3
        have HE := hid (And.intro (e3 hb) k3)
        clear ho1 ho2 ho3 e1 e2 e3 f1 f2 f3 k3 hb
        go_wp2
        go_ret
        exact ⟨x2, b3, s3, rfl, HI.out.run, HI.out.kept, HI.out.ran, HI.out.good, fun _ => by rw [HE.out.1.2]; rfl, fun _ => by rw [HE.out.1.2]; exact HE.out.2.symm, fun h => absurd (HE.out.1.1.symm.trans h) (by simp)⟩
      | true =>
        rw [hb] at z3
        have HE := hid (And.intro (f3 hb) hb)
        clear ho1 ho2 ho3 e1 e2 e3 f1 f2 f3 k3 hb
        go_wp2
        go_ret
        exact ⟨-1, b3, s3, rfl, HI.out.run, HI.out.kept, HI.out.ran, HI.out.good, fun h => absurd (HE.out.2.symm.trans h) (by simp), fun h => (HE.out.1 h).symm, fun _ => rfl⟩
    · have d1 : decide (x2 < T) = false := decide_eq_false hl
      have hb2 : b2.stop = false := by
        cases hb : b2.stop with
        | false => rfl
        | true => have := (ho2.2.2.1 hb).2; omega
      obtain ⟨h1, h2⟩ := ho2.1 hb2
      have HE := hid (show s2 = .none ∧ a.stop = false from ⟨by rw [h2, (e1 h1).2]; show (if x2 < T then _ else _) = _; rw [if_neg hl], (e1 h1).1⟩)
      clear ho1 ho2 e1 f1 hb2 h1 h2
      go_wp2
      go_ret
      exact ⟨-1, b2, s2, rfl, HI.out.run, HI.out.kept, HI.out.ran, HI.out.good, fun _ => by rw [HE.out.1]; rfl, fun _ => by rw [HE.out.1]; rfl, fun _ => rfl⟩
  · have hb1 : b1.stop = false := by
      cases hb : b1.stop with
      | false => rfl
      | true => exact absurd (ho1.2.2.1 hb).2 hx
    obtain ⟨ha, h2⟩ := ho1.1 hb1
    have e1 : s1 = .sec x1 := by
      rw [h2, HS.out ha]
      show (if x1 = 0 then _ else _) = _
      rw [if_neg hx]
    have q1 : ((x1 : Int) == 0) = false := by simp [hx]
    have q2 : ((x1 : Int) != 0) = true := by simp [hx]
    have m1 : IntKind.i64.wrap (IntKind.i64.wrap x1 - 1) = nOf x1 := rfl
    have m2 : wrap64 (wrap64 x1 - 1) = nOf x1 := by unfold nOf; simp only [IntWalk.i64_left]
    have HA := hid ha
    clear ho1 hx hb1 h2 ha
    go_wp2_with fail
    (refine (threadat_run P T G _ _ _ HP.out.1 HP.out.2.2 (by omega)).mono ?_; rintro e w1 ⟨rfl, hb⟩; (have HI := hid (HI.out.quiet hb); clear hb; obtain ⟨z0, z1, z2, z3⟩ := HI.out.cells))
    go_wp2_with fail
    refine (dl_run HI.out (th P T (nOf x1) 2) (fun h => by rw [e1]; rfl)).mono ?_
    rintro e w3 ⟨b2, s2, x2, rfl, hI, ho2⟩
    have e2 : b2.stop = false → s2 = .mid x1 x2 := fun h => by obtain ⟨h1, h2⟩ := ho2.1 h; rw [h2, e1]; rfl
    have f2 : s2.t = -1 := by
      cases hb : b2.stop with
      | false => rw [e2 hb]; rfl
      | true => rw [(ho2.2.2.1 hb).1, e1]; rfl
    (have HI := hid hI; obtain ⟨z0, z1, z2, z3⟩ := HI.out.cells; clear hI)
    go_wp2_with fail
    refine (ds_run HI.out 11 x2 (fun h => by rw [e2 h, ← w11]; rfl)).mono ?_
    rintro e w4 ⟨rfl, b3, s3, x3, hI, ho3⟩
    have e3 : b3.stop = false → s3 = .inc x1 := fun h => by obtain ⟨h1, h2⟩ := ho3.1 h; rw [h2, e2 h1]; rfl
    have f3 : b3.stop = true → s3.t = -1 := fun hb => by rw [(ho3.2.2.1 hb).1]; exact f2
    (have HI := hid hI; obtain ⟨z0, z1, z2, z3⟩ := HI.out.cells; clear hI)
    cases hb : b3.stop with
    | false =>
      rw [hb] at z3
      have HE3 := hid (And.intro hb (e3 hb))
      clear ho2 ho3 e1 e2 e3 f2 f3 hb
      go_wp2_with fail
      refine (da_run HI.out 12 4294967295 (fun h => by rw [HE3.out.2, ← w12]; rfl)).mono ?_
      rintro e w5 ⟨b4, s4, x4, rfl, hI, ho4⟩
      have HE4 := hid (show (b4.stop = false → s4 = .got x1) ∧ s4.t = nOf x1 by
        have e4 : b4.stop = false → s4 = .got x1 := fun h => by obtain ⟨h1, h2⟩ := ho4.1 h; rw [h2, HE3.out.2]; rfl
        refine ⟨e4, ?_⟩
        cases hb : b4.stop with
        | false => rw [e4 hb]; rfl
        | true => rw [(ho4.2.2.1 hb).1, HE3.out.2]; rfl)
      (have HI := hid hI; obtain ⟨z0, z1, z2, z3⟩ := HI.out.cells; clear hI)
      clear ho4
      go_wp2
      go_ret
      exact ⟨_, b4, s4, rfl, HI.out.run, HI.out.kept, HI.out.ran, HI.out.good, fun h => by rw [HE4.out.1 h]; rfl, fun _ => HE4.out.2.symm, fun h => absurd (HA.out.symm.trans h) (by simp)⟩
    | true =>
      rw [hb] at z3
      have HE3 := hid (And.intro hb (f3 hb))
      clear ho2 ho3 e1 e2 e3 f2 f3 hb
      go_wp2_with fail
      refine (da_run HI.out 12 4294967295 (fun h => absurd (HE3.out.1.symm.trans h) (by simp))).mono ?_
      rintro e w5 ⟨b4, s4, x4, rfl, hI, ho4⟩
      have HE4 := hid (show b4.stop = true ∧ s4.t = -1 by
        have e4 : b4.stop = true := by
          cases hb : b4.stop with
          | true => rfl
          | false => exact absurd (HE3.out.1.symm.trans (ho4.1 hb).1) (by simp)
        exact ⟨e4, by rw [(ho4.2.2.1 e4).1]; exact HE3.out.2⟩)
      (have HI := hid hI; obtain ⟨z0, z1, z2, z3⟩ := HI.out.cells; clear hI)
      clear ho4
      go_wp2
      go_ret
      exact ⟨_, b4, s4, rfl, HI.out.run, HI.out.kept, HI.out.ran, HI.out.good, fun h => absurd (HE4.out.1.symm.trans h) (by simp), fun _ => HE4.out.2.symm, fun h => absurd (HA.out.symm.trans h) (by simp)⟩
theorem peek_range {s : St} (hw : ∀ x ∈ s.ws, 0 ≤ x ∧ x < 18446744073709551616) (a : Int) : 0 ≤ (s.peek a).1 ∧ (s.peek a).1 < 18446744073709551616 := by
  unfold St.peek
  split
  · exact word_range hw a
  · simp
/-- How many threads are to be had. -/
def spareOf (T : Int) (s : St) : Int := if 2147483648 ≤ (s.peek (wordN 12)).1 ∨ 2147483648 ≤ (s.peek (wordN 15)).1 then 0 else T + (s.peek (wordN 12)).1 - (s.peek (wordN 15)).1
end Go.Proofs.YtlhnnggceebpjaaGreat.Idlem
end

section
/- The list of threads: the example. -/
set_option maxRecDepth 100000
set_option maxHeartbeats 4000000
set_option linter.unusedVariables false
set_option linter.unusedSimpArgs false
namespace Go.Proofs.YtlhnnggceebpjaaGreat.Idlem
open Go.RowKit Go.Shelf Go.Proofs.YtlhnnggceebpjaaGreat.TK Go.Proofs.YtlhnnggceebpjaaGreat.Flag Go.Proofs.YtlhnnggceebpjaaGreat.Read Go.Proofs.YtlhnnggceebpjaaGreat.Grow Go.Proofs.YtlhnnggceebpjaaGreat.Words Go.Proofs.YtlhnnggceebpjaaGreat.Mem Go.Proofs.YtlhnnggceebpjaaGreat.Flow Go.Proofs.YtlhnnggceebpjaaGreat.Layout Go.Proofs.YtlhnnggceebpjaaGreat.Lock Go.Proofs.YtlhnnggceebpjaaGreat.Run Go.Proofs.YtlhnnggceebpjaaGreat.Sys Go.Proofs.YtlhnnggceebpjaaGreat.Mach Go.Proofs.YtlhnnggceebpjaaGreat.Doc Go.Proofs.YtlhnnggceebpjaaGreat.Ref05
theorem same12_run (a b : Option Addr) (ca cb : Nat) (xs : List Int) (w : World) (ha : RowOf (encI .i64) 1 w a xs) (hb : RowOf (encI .i64) 1 w b xs) (hl : xs.length ≤ 1000000) :
    Calls Tryz.prog 47 #[.slice a xs.length ca, .slice b xs.length cb] w fun e w' => e = .returned (.bool true) ∧ Below w.heap.size w w' := by
  have HA := hid ha
  have HB := hid hb
  clear ha hb
  go_enter Tryz.func47, Tryz.ntmps47
  go_wp2_with fail
  go_loopw [5] (fun i wr => ∃ k : Nat, k ≤ xs.length ∧ i = .int .i64 (k : Int) ∧ Below w.heap.size w wr) (fun i _ => xs.length - (intOf i).toNat)
  case atStart => exact ⟨0, Nat.zero_le _, rfl, Below.refl _ _⟩
  case round =>
    obtain ⟨k, hk, rfl, hlow⟩ := hrel
    by_cases hlt : k < xs.length
    · obtain ⟨xa, rfl, h1⟩ := (HA.out.quiet hlow) k hlt
      obtain ⟨xb, rfl, h2⟩ := (HB.out.quiet hlow) k hlt
      have c1 := h1 0 _ rfl
      have c2 := h2 0 _ rfl
      rw [Nat.mul_one, Nat.add_zero] at c1 c2
      have hlt' : decide ((k : Int) < (xs.length : Int)) = true := decide_eq_true (by omega)
      obtain ⟨v, hv⟩ : ∃ v, v = xs[k] := ⟨_, rfl⟩
      rw [← hv] at c1 c2
      clear hv h1 h2
      obtain ⟨n, hn⟩ : ∃ n, n = xs.length := ⟨_, rfl⟩
      rw [← hn] at hl hk hlt hlt' ⊢
      clear hn HA HB
      have k0 : (0 : Int) ≤ (k : Int) := by omega
      have k1 : (k : Int) < (n : Int) := by omega
      go_wp2_with fail
      go_quiet (fail)
      go_wp2_with fail
      go_roundw
      case rel => exact ⟨k + 1, by omega, by go_num, below_drewN hlow _⟩
      case measure => simp [intOf]; omega
    · have hlt' : decide ((k : Int) < (xs.length : Int)) = false := decide_eq_false (by omega)
      go_wp2
      go_ret
      exact ⟨rfl, hlow⟩
end Go.Proofs.YtlhnnggceebpjaaGreat.Idlem
namespace Go.Proofs.YtlhnnggceebpjaaGreat.Mach
open Go.RowKit Go.Shelf Go.Proofs.YtlhnnggceebpjaaGreat.TK Go.Proofs.YtlhnnggceebpjaaGreat.Flag Go.Proofs.YtlhnnggceebpjaaGreat.Read Go.Proofs.YtlhnnggceebpjaaGreat.Grow Go.Proofs.YtlhnnggceebpjaaGreat.Words Go.Proofs.YtlhnnggceebpjaaGreat.Mem Go.Proofs.YtlhnnggceebpjaaGreat.Flow Go.Proofs.YtlhnnggceebpjaaGreat.Layout Go.Proofs.YtlhnnggceebpjaaGreat.Lock Go.Proofs.YtlhnnggceebpjaaGreat.Run Go.Proofs.YtlhnnggceebpjaaGreat.Sys
theorem keptOwn_grow {α : Type} {Own : List TypeId} {lo m g B size : Nat} {w w' : World} {T : TypeId} {enc : α → List Value} {v : Value} {xs : List α} (hK : KeptOwn Own lo m g w w') (hG : Grow w B T size enc v xs) (hm : m < B) (hg : g < B) (hT : T ∉ Own) : Grow w' B T size enc v xs := by
  obtain ⟨S, hK, hS⟩ := hK
  refine Grow.keptB hG hK ?_
  intro i hi
  rcases hS i hi with rfl | rfl | ⟨_, T', hT', cs', hb'⟩
  · exact own_low hG hm
  · exact own_low hG hg
  · exact own_type hG hb' (fun e => hT (by rw [e]; exact hT'))
theorem keptOwn_low {Own : List TypeId} {lo m g : Nat} {W w w' : World} (hK : KeptOwn Own lo m g w w') (hb : Below lo W w) (hm : lo ≤ m) (hg : lo ≤ g) (hl : lo ≤ w.heap.size) : Below lo W w' := by
  obtain ⟨S, hK, hS⟩ := hK
  refine below_kept hb hK ?_ hl
  intro i hi
  rcases hS i hi with rfl | rfl | ⟨h, _⟩
  · exact hm
  · exact hg
  · exact h
theorem keptOwn_size {Own : List TypeId} {lo m g : Nat} {w w' : World} (hK : KeptOwn Own lo m g w w') : w.heap.size ≤ w'.heap.size := by
  obtain ⟨S, hK, hS⟩ := hK
  exact hK.size
theorem infoI : Elem Tryz.prog 3 (.int .i64 0) 1 8 := by unfold Elem; kernel_rfl
theorem encN_len (x : Int) : (encI .i64 x).length = 1 := rfl
theorem encN_one (x : Int) : ∀ u ∈ encI .i64 x, u.oneCell' = true := by intro u hu; simp [encI] at hu; subst hu; rfl
end Go.Proofs.YtlhnnggceebpjaaGreat.Mach
namespace Go.Proofs.YtlhnnggceebpjaaGreat.Idlem
open Go.RowKit Go.Shelf Go.Proofs.YtlhnnggceebpjaaGreat.TK Go.Proofs.YtlhnnggceebpjaaGreat.Flag Go.Proofs.YtlhnnggceebpjaaGreat.Read Go.Proofs.YtlhnnggceebpjaaGreat.Grow Go.Proofs.YtlhnnggceebpjaaGreat.Words Go.Proofs.YtlhnnggceebpjaaGreat.Mem Go.Proofs.YtlhnnggceebpjaaGreat.Flow Go.Proofs.YtlhnnggceebpjaaGreat.Layout Go.Proofs.YtlhnnggceebpjaaGreat.Lock Go.Proofs.YtlhnnggceebpjaaGreat.Run Go.Proofs.YtlhnnggceebpjaaGreat.Sys Go.Proofs.YtlhnnggceebpjaaGreat.Mach Go.Proofs.YtlhnnggceebpjaaGreat.Doc Go.Proofs.YtlhnnggceebpjaaGreat.Ref05 Go.Proofs.YtlhnnggceebpjaaGreat.Ring
def s121 : St := fresh (layW (lenOf 1 2 1) [])
/-- The memory ahead of the get of round n. -/
def put4 (n : Nat) (s : St) : St := if n = 3 then (after (mpM 0 1 2 0).sys 0 .h s 4).2 else s
def aw : Nat → St × List Int
  | 0 => (s121, [])
  | n + 1 => ((after (mgM 0 1 2).sys 0 .h (put4 n (aw n).1) 4).2, (aw n).2 ++ [(after (mgM 0 1 2).sys 0 .h (put4 n (aw n).1) 4).1.t])
theorem few121 : FewP 1 2 1 := by unfold FewP Right; omega
theorem aw_all : (aw 4).2 = [0, 1, -1, 0] ∧ spareOf 2 (aw 4).1 = 0 := by
  refine ⟨?_, ?_⟩ <;> decide +kernel
theorem aw_clock : ∀ n, n < 5 → (aw n).1.clock ≤ 100 ∧ (aw n).1.bad ≤ 100 ∧ (aw n).2.length = n := by decide +kernel
end Go.Proofs.YtlhnnggceebpjaaGreat.Idlem
end

section
/- A list that is gone through by its links, and the numbers that were seen, in a map of the call's own. -/
set_option maxRecDepth 100000
set_option maxHeartbeats 4000000
set_option linter.unusedVariables false
set_option linter.unusedSimpArgs false
namespace Go.Proofs.YtlhnnggceebpjaaGreat.Grow
open Go.RowKit Go.Proofs.YtlhnnggceebpjaaGreat.TK Go.Proofs.YtlhnnggceebpjaaGreat.Read
variable {α : Type} {P : Program}
/-- As app_one; what is kept told as the kit tells it. -/
theorem app_oneG {w : World} {B : Nat} {T S : TypeId} {z : Value} {size bytes : Nat} {enc : α → List Value} {v : Value} {xs : List α} (x : α) {U : TypeId} {cs : Array Value}
    (hG : Grow w B T size enc v xs) (hE : Elem P T z size bytes) (hS : P.underlying S = some (.slice T)) (hzs : z.cells.size = size) (hsz : 0 < size) (hbz : bytes ≤ 1000)
    {ops : Array Oper} {rest : List Oper} {o : Oper} {a : Act} {Q : Exit → Act → World → Prop}
    (hgd : o.guard = none) (s x' : Operand) (ho : o.op = .call { callee := .builtin .append, args := #[s, x'], argTypes := #[S, S] }) (hs : a.eval s = v) (hx : a.eval x' = .slice (some ⟨w.heap.size, 0, none⟩) 1 1)
    (hc : cs.toList = enc x) (hl : (enc x).length = size) (h1 : ∀ u ∈ enc x, u.oneCell' = true) (hm : xs.length ≤ 1000000) (hB : B ≤ w.heap.size)
    (h : ∀ v' w', Grow w' B T size enc v' (xs ++ [x]) → w.grownBy w' v.ownBlock → wpList P ops Q rest (a.put o.dst v') w') :
    wpList P ops Q (o :: rest) a (w.alloc (.cells cs U)) := by
  obtain ⟨i0, hi, hz0, hz1, hz2⟩ := info_parts hE
  have hb1 : (xs.length + 1) * bytes ≤ 1000001 * 1000 := Nat.mul_le_mul (by omega) hbz
  refine wpList_append_own _ hgd s x' S ho B T i0 _ size bytes hS hi hz0 hz1 hz2 hzs hsz v xs.length (xs.flatMap enc) hs (World.ownsRow.alloc hG _) ⟨w.heap.size, 0, none⟩ 1 1 (enc x) hx (by rw [hl, Nat.one_mul]) ?_ h1 (by unfold maxLen; omega) (by omega) (by simp; omega) ?_
  · intro j u hj
    have hb : Blk (w.alloc (.cells cs U)) w.heap.size cs.toList U := by
      have := Blk.new w cs.toList U
      simpa using this
    have e1 : (⟨w.heap.size, 0, none⟩ : Addr).add j = ⟨w.heap.size, j, none⟩ := by unfold Addr.add; split <;> simp_all
    rw [e1, hb.cell j, hc]
    exact hj
  · intro v' w' hown hgrow _
    refine h v' w' ?_ ((World.grownBy_alloc _ _ _).trans hgrow)
    unfold Grow
    rw [List.length_append, List.flatMap_append]
    simpa using hown
end Go.Proofs.YtlhnnggceebpjaaGreat.Grow
namespace Go.Proofs.YtlhnnggceebpjaaGreat.MapL
open Go.RowKit Go.Shelf Go.Proofs.YtlhnnggceebpjaaGreat.TK Go.Proofs.YtlhnnggceebpjaaGreat.Flag Go.Proofs.YtlhnnggceebpjaaGreat.Read Go.Proofs.YtlhnnggceebpjaaGreat.Grow Go.Proofs.YtlhnnggceebpjaaGreat.Words Go.Proofs.YtlhnnggceebpjaaGreat.Mem Go.Proofs.YtlhnnggceebpjaaGreat.Layout Go.Proofs.YtlhnnggceebpjaaGreat.Mach
/-- The number that a word tells of. -/
def nOf (a : Int) : Int := IntKind.i64.wrap (IntKind.i64.wrap a - 1)
/-- What is told of a list: its numbers, and whether it is right; rd: what a link says, and whether it is there. -/
def wlk (rd : Int → Int × Bool) : Nat → Int → List Int → List Int × Bool
  | 0, x, out => (out, decide (x = 0))
  | f + 1, x, out => if x = 0 then (out, true) else if (rd (nOf x)).2 = false ∨ nOf x ∈ out then (out, false) else wlk rd f (rd (nOf x)).1 (out ++ [nOf x])
theorem wlk_zero (rd : Int → Int × Bool) (f : Nat) (out : List Int) : wlk rd f 0 out = (out, true) := by cases f <;> simp [wlk]
/-- Unlike numbers below N are at most N. -/
theorem pigeon : ∀ (N : Nat) (xs : List Int), xs.Nodup → (∀ t ∈ xs, 0 ≤ t ∧ t < (N : Int)) → xs.length ≤ N := by
  intro N
  induction N with
  | zero =>
    intro xs _ h
    cases xs with
    | nil => simp
    | cons a l => have := h a (by simp); omega
  | succ N ih =>
    intro xs hn h
    by_cases hm : (N : Int) ∈ xs
    · have h1 := ih (xs.erase (N : Int)) (hn.erase _) (by
        intro t ht
        have h2 := (hn.mem_erase_iff).1 ht
        have := h t h2.2
        have := h2.1
        omega)
      rw [List.length_erase_of_mem hm] at h1
      omega
    · have := ih xs hn (by
        intro t ht
        have h2 := h t ht
        have : t ≠ (N : Int) := fun e => hm (by rw [← e]; exact ht)
        omega)
      omega
theorem law : Go.Maps.Keyed Tryz.prog 3 := Go.Maps.int_keyed Tryz.underlying3
theorem zeroE (w : World) : (zeroValue 3).run Tryz.prog w = .ok (.int .i64 0) w := by kernel_rfl
/-- The map in block b has these numbers, each with 1. -/
def Seen (w : World) (b n : Nat) (out : List Int) : Prop := ∃ D : DataW Unit, w.ownsMap Tryz.prog 3 (plainElem Tryz.prog 3) b n D ∧ Go.Maps.IsMap D ∧ ∀ t, (Lit.int .i64 t).wf = true → D.atKey (.int .i64 t) (.lit (.int .i64 0)) = .lit (.int .i64 (if t ∈ out then 1 else 0))
theorem Seen.new (w : World) : Seen (w.alloc (.map #[] 0)) w.heap.size 0 [] := ⟨.map [], World.ownsMap_made _ _ _ _, Go.Maps.isMap_empty, fun t _ => rfl⟩
theorem Seen.quiet {w w' : World} {b n : Nat} {out : List Int} (h : Seen w b n out) (hb : Below w.heap.size w w') : Seen w' b n out := by
  obtain ⟨D, ⟨es, clock, h1, h2⟩, h3⟩ := h
  exact ⟨D, ⟨es, clock, (hb.block b (lt_of_block h1)).trans h1, h2⟩, h3⟩
theorem Seen.grown {w w' : World} {b n : Nat} {out : List Int} {row : Option Nat} (h : Seen w b n out) (hg : w.grownBy w' row) (hne : some b ≠ row) : Seen w' b n out := by
  obtain ⟨D, h1, h3⟩ := h
  exact ⟨D, h1.kept hg hne, h3⟩
theorem Seen.look {w : World} {b n : Nat} {out : List Int} (h : Seen w b n out) {t : Int} (ht : (Lit.int .i64 t).wf = true) : (Instr.lookup 205 (.map (some b)) (.int .i64 t) false).run Tryz.prog w = .ok (.int .i64 (if t ∈ out then 1 else 0)) w := by
  obtain ⟨D, h1, h2, h3⟩ := h
  obtain ⟨c, hrun, hat, _⟩ := h1.lookup_int law Tryz.underlying205 Tryz.underlying3 (zeroE _) (Go.Maps.keyOf_int_mk Tryz.underlying3 ht)
  rw [h3 t ht] at hat
  injection hat with hat
  injection hat with _ hat
  rw [hat]
  exact hrun
theorem Seen.put {w : World} {b n : Nat} {out : List Int} {t : Int} (ht : (Lit.int .i64 t).wf = true) {D : DataW Unit} (h2 : Go.Maps.IsMap D) (h3 : ∀ t, (Lit.int .i64 t).wf = true → D.atKey (.int .i64 t) (.lit (.int .i64 0)) = .lit (.int .i64 (if t ∈ out then 1 else 0))) (h1 : w.ownsMap Tryz.prog 3 (plainElem Tryz.prog 3) b (n + 1) (D.put (.int .i64 t) (.lit (.int .i64 1)))) : Seen w b (n + 1) (out ++ [t]) := by
  refine ⟨_, h1, h2.put _ _, ?_⟩
  intro u hu
  by_cases he : u = t
  · subst he
    rw [Go.Maps.atKey_put_same (k := .int .i64 u) h2 trivial]
    simp
  · rw [Go.Maps.atKey_put_other (by intro h; injection h with _ h; exact he h), h3 u hu]
    simp [he]
theorem wrap_wf (x : Int) : (Lit.int .i64 (IntKind.i64.wrap x)).wf = true := by
  rw [IntKind.wrap_i64]
  simp [Lit.wf, IntKind.min, IntKind.max, IntKind.signed, IntKind.bits]
  omega
theorem wlk_len (rd : Int → Int × Bool) : ∀ (f : Nat) (x : Int) (out : List Int), (wlk rd f x out).1.length ≤ out.length + f := by
  intro f
  induction f with
  | zero => intro x out; simp [wlk]
  | succ f ih =>
    intro x out
    unfold wlk
    split
    · simp
    · split
      · simp
      · have := ih (rd (nOf x)).1 (out ++ [nOf x])
        simp at this
        omega
/-- A slice's length. -/
def lenV : Value → Nat
  | .slice _ n _ => n
  | _ => 0
end Go.Proofs.YtlhnnggceebpjaaGreat.MapL
end
