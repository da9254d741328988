/- Getting a goroutine off a ring: a machine by its states. -/
import Derived.Test.YtokpgbocomhpiaaRingB
set_option maxRecDepth 100000
set_option maxHeartbeats 4000000
set_option linter.unusedVariables false
set_option linter.unusedSimpArgs false
namespace Go.Proofs.Ytokpgbocomhpiaa.Rget
open Go.RowKit Go.Shelf Go.Proofs.Ytokpgbocomhpiaa.TK Go.Proofs.Ytokpgbocomhpiaa.Flag Go.Proofs.Ytokpgbocomhpiaa.Words Go.Proofs.Ytokpgbocomhpiaa.Mem Go.Proofs.Ytokpgbocomhpiaa.Flow Go.Proofs.Ytokpgbocomhpiaa.Layout Go.Proofs.Ytokpgbocomhpiaa.Lock Go.Proofs.Ytokpgbocomhpiaa.Run Go.Proofs.Ytokpgbocomhpiaa.Sys Go.Proofs.Ytokpgbocomhpiaa.Mach Go.Proofs.Ytokpgbocomhpiaa.Ref05
/-- The number that a word tells of. -/
def nOf (a : Int) : Int := IntKind.i64.wrap (IntKind.i64.wrap a - 1)
def nextW (a : Int) : Int := IntKind.u64.wrap (a + 1) % 4294967296
def rtR (l : Nat) (p : Int) (fr : Bool) (a b g : Int) (i : Bool) : List Value := [.pointer (some ⟨l, 0, none⟩), .int .i64 p, .bool fr, .int .u64 a, .int .u64 b, .int .i64 g, .bool i]
inductive RtSt
  | ask (a b : Int)
  | sw (a b : Int)
  | look (a b : Int)
  | tl (a b : Int)
  | rd (a b : Int)
  | tk (a b : Int)
  | got (a b : Int) (i : Bool)
  | none (a b : Int)
def rtNx (P p : Int) : RtSt → Nx
  | .ask _ _ => .load (pr P p 3) 219
  | .sw _ b => .swap (pr P p 3) b 0 242
  | .look _ _ => .load (pr P p 1) 218
  | .tl _ _ => .load (pr P p 2) 240
  | .rd a _ => .load (rg P p a) 256
  | .tk a _ => .swap (pr P p 1) a (nextW a) 268
  | .got _ _ _ => .done
  | .none _ _ => .done
def rtRest (l : Nat) (p : Int) (fr : Bool) : RtSt → List Value
  | .ask a b => rtR l p fr a b (-1) false
  | .sw a b => rtR l p fr a b (-1) false
  | .look a b => rtR l p fr a b (-1) false
  | .tl a b => rtR l p fr a b (-1) false
  | .rd a b => rtR l p fr a b (-1) false
  | .tk a b => rtR l p fr a b (-1) false
  | .got a b i => rtR l p fr a b (nOf b) i
  | .none a b => rtR l p fr a b (-1) false
/-- The next one was none, or gone. -/
def missed (fr : Bool) (a b : Int) : RtSt := if fr then .none a b else .look a b
def rtNext (fr : Bool) (st : RtSt) (v : Int) : RtSt :=
  match st with
  | .ask a b => if v = 0 then missed fr a 0 else .sw a v
  | .sw a b => if v = 1 then .got a b (!fr) else missed fr a b
  | .look a b => .tl v b
  | .tl a b => if Ring.manyOf a v = 0 then (if fr then .ask a b else .none a b) else .rd a b
  | .rd a b => .tk a v
  | .tk a b => if v = 1 then .got a b false else .look a b
  | .got a b i => .got a b i
  | .none a b => .none a b
def RtSt.g : RtSt → Int
  | .got _ b _ => nOf b
  | _ => -1
def RtSt.i : RtSt → Bool
  | .got _ _ i => i
  | _ => false
def W64 (a : Int) : Prop := 0 ≤ a ∧ a < 18446744073709551616
def rtOk : RtSt → Prop
  | .ask a b => W64 a ∧ W64 b
  | .sw a b => W64 a ∧ W64 b
  | .look a b => W64 a ∧ W64 b
  | .tl a b => W64 a ∧ W64 b
  | .rd a b => W64 a ∧ W64 b
  | .tk a b => W64 a ∧ W64 b
  | .got a b _ => W64 a ∧ W64 b
  | .none a b => W64 a ∧ W64 b
def rtM (l : Nat) (P p : Int) (fr : Bool) : Mch RtSt := ⟨192, rtNx P p, rtRest l p fr, rtNext fr, rtOk⟩
theorem looks_run (x l : Nat) (P T G who : Int) (p a b g : Int) (fr i : Bool) (w : World)  (hp : Pend w x who (rtR l p fr a b g i) 192 .done) (hL : Lay w l P T G) :
    Calls Try.prog 175 #[.pointer (some ⟨x, 0, none⟩)] w fun e w' => (∃ r, e = .returned r) ∧ Pend w' x who (rtR l p fr a b g i) 192 (.load (pr P p 1) 218) ∧ Kept [x] w w' := by
  have HI := hid (MI.start hp hL).drew
  have hf := hp.idle.frozen
  (have y0 := hp.idle.rest 0; have y1 := hp.idle.rest 1; have y2 := hp.idle.rest 2; have y3 := hp.idle.rest 3; have y4 := hp.idle.rest 4; have y5 := hp.idle.rest 5; have y6 := hp.idle.rest 6; simp only [rtR, Nat.reduceAdd, Nat.zero_add, List.getElem?_cons_zero, List.getElem?_cons_succ] at y0 y1 y2 y3 y4 y5 y6)
  clear hp hL
  go_enter Try.func175, Try.ntmps175
  go_wp2_with fail
  refine wp_region_T 14 (fun w' => MI w w' x who (rtR l p fr a b g i) 192 l P T G) (fun w' => Pend w' x who (rtR l p fr a b g i) 192 (.load (pr P p 1) 218) ∧ Kept [x] w w') (by kernel_rfl) (by kernel_rfl) rfl (by kernel_rfl) HI.out ?_
  clear HI
  (repeat (first | (apply walkD_pure; rfl; rfl; (intro _; go_simp; first | done | rfl); (intro K hK; go_simp; refine hK _ ?_; clear hK K)) | (apply walkD_skip; rfl; rfl; (intro K hK; go_simp; refine hK _ ?_; clear hK K)) | (apply walkD_read1 [false] (by kernel_rfl); rfl; rfl; (intro w' hD; (have y0 := hD.pend.idle.rest 0; have y1 := hD.pend.idle.rest 1; have y2 := hD.pend.idle.rest 2; have y3 := hD.pend.idle.rest 3; have y4 := hD.pend.idle.rest 4; have y5 := hD.pend.idle.rest 5; have y6 := hD.pend.idle.rest 6; simp only [rtR, Nat.reduceAdd, Nat.zero_add, List.getElem?_cons_zero, List.getElem?_cons_succ] at y0 y1 y2 y3 y4 y5 y6); go_simp; rfl); (intro K hK; go_simp; refine hK _ ?_; clear hK K)) | (apply walkD_call1 [false] (by kernel_rfl); rfl; (intro _; go_simp; first | rfl | exact ⟨rfl, rfl⟩); (intro w' hD; first | (go_at_call 165; refine (proc_run _ _ _ _ _ _ _ hD.lay).mono ?_; rintro e w2 ⟨rfl, hb⟩; exact ⟨rfl, hD.quiet hb⟩) | (go_at_call 137; refine (thread_run _ _ _ _ _ _ _ hD.lay).mono ?_; rintro e w2 ⟨rfl, hb⟩; exact ⟨rfl, hD.quiet hb⟩) | (go_at_call 185; refine (ring_run _ _ _ _ _ _ (by assumption) _ hD.lay).mono ?_; rintro e w2 ⟨rfl, hb⟩; exact ⟨rfl, hD.quiet hb⟩) | (go_at_call 183; refine (g_run _ _ _ _ _ _ _ hD.lay).mono ?_; rintro e w2 ⟨rfl, hb⟩; exact ⟨rfl, hD.quiet hb⟩) | (go_at_call 168; refine (word_run _ 0 0 0 _ _).mono ?_; rintro e w2 ⟨rfl, rfl⟩; exact ⟨rfl, hD⟩) | (go_at_call 164; refine (iload_run hD.pend.idle _ _).mono ?_; rintro e w2 ⟨rfl, hP, hK⟩; exact ⟨rfl, hP, hD.kept.trans hK (by intro i hi; exact .inl hi)⟩) | (go_at_call 146; refine (iadd_run hD.pend.idle _ _ _).mono ?_; rintro e w2 ⟨rfl, hP, hK⟩; exact ⟨rfl, hP, hD.kept.trans hK (by intro i hi; exact .inl hi)⟩) | (go_at_call 144; refine (istore_run hD.pend.idle _ _ _).mono ?_; rintro e w2 ⟨rfl, hP, hK⟩; exact ⟨rfl, hP, hD.kept.trans hK (by intro i hi; exact .inl hi)⟩) | (go_at_call 241; refine (iswap_run hD.pend.idle _ _ _ _).mono ?_; rintro e w2 ⟨rfl, hP, hK⟩; exact ⟨rfl, hP, hD.kept.trans hK (by intro i hi; exact .inl hi)⟩)); (intro K hK; go_simp; refine hK _ ?_; clear hK K))))
  (rintro w2 ⟨h1, h2⟩; go_wp2; go_returns; exact ⟨⟨_, rfl⟩, h1, h2⟩)
theorem asks_run (x l : Nat) (P T G who : Int) (p a b g : Int) (fr i : Bool) (w : World)  (hp : Pend w x who (rtR l p fr a b g i) 192 .done) (hL : Lay w l P T G) :
    Calls Try.prog 176 #[.pointer (some ⟨x, 0, none⟩)] w fun e w' => (∃ r, e = .returned r) ∧ Pend w' x who (rtR l p fr a b g i) 192 (.load (pr P p 3) 219) ∧ Kept [x] w w' := by
  have HI := hid (MI.start hp hL).drew
  have hf := hp.idle.frozen
  (have y0 := hp.idle.rest 0; have y1 := hp.idle.rest 1; have y2 := hp.idle.rest 2; have y3 := hp.idle.rest 3; have y4 := hp.idle.rest 4; have y5 := hp.idle.rest 5; have y6 := hp.idle.rest 6; simp only [rtR, Nat.reduceAdd, Nat.zero_add, List.getElem?_cons_zero, List.getElem?_cons_succ] at y0 y1 y2 y3 y4 y5 y6)
  clear hp hL
  go_enter Try.func176, Try.ntmps176
  go_wp2_with fail
  refine wp_region_T 14 (fun w' => MI w w' x who (rtR l p fr a b g i) 192 l P T G) (fun w' => Pend w' x who (rtR l p fr a b g i) 192 (.load (pr P p 3) 219) ∧ Kept [x] w w') (by kernel_rfl) (by kernel_rfl) rfl (by kernel_rfl) HI.out ?_
  clear HI
  (repeat (first | (apply walkD_pure; rfl; rfl; (intro _; go_simp; first | done | rfl); (intro K hK; go_simp; refine hK _ ?_; clear hK K)) | (apply walkD_skip; rfl; rfl; (intro K hK; go_simp; refine hK _ ?_; clear hK K)) | (apply walkD_read1 [false] (by kernel_rfl); rfl; rfl; (intro w' hD; (have y0 := hD.pend.idle.rest 0; have y1 := hD.pend.idle.rest 1; have y2 := hD.pend.idle.rest 2; have y3 := hD.pend.idle.rest 3; have y4 := hD.pend.idle.rest 4; have y5 := hD.pend.idle.rest 5; have y6 := hD.pend.idle.rest 6; simp only [rtR, Nat.reduceAdd, Nat.zero_add, List.getElem?_cons_zero, List.getElem?_cons_succ] at y0 y1 y2 y3 y4 y5 y6); go_simp; rfl); (intro K hK; go_simp; refine hK _ ?_; clear hK K)) | (apply walkD_call1 [false] (by kernel_rfl); rfl; (intro _; go_simp; first | rfl | exact ⟨rfl, rfl⟩); (intro w' hD; first | (go_at_call 165; refine (proc_run _ _ _ _ _ _ _ hD.lay).mono ?_; rintro e w2 ⟨rfl, hb⟩; exact ⟨rfl, hD.quiet hb⟩) | (go_at_call 137; refine (thread_run _ _ _ _ _ _ _ hD.lay).mono ?_; rintro e w2 ⟨rfl, hb⟩; exact ⟨rfl, hD.quiet hb⟩) | (go_at_call 185; refine (ring_run _ _ _ _ _ _ (by assumption) _ hD.lay).mono ?_; rintro e w2 ⟨rfl, hb⟩; exact ⟨rfl, hD.quiet hb⟩) | (go_at_call 183; refine (g_run _ _ _ _ _ _ _ hD.lay).mono ?_; rintro e w2 ⟨rfl, hb⟩; exact ⟨rfl, hD.quiet hb⟩) | (go_at_call 168; refine (word_run _ 0 0 0 _ _).mono ?_; rintro e w2 ⟨rfl, rfl⟩; exact ⟨rfl, hD⟩) | (go_at_call 164; refine (iload_run hD.pend.idle _ _).mono ?_; rintro e w2 ⟨rfl, hP, hK⟩; exact ⟨rfl, hP, hD.kept.trans hK (by intro i hi; exact .inl hi)⟩) | (go_at_call 146; refine (iadd_run hD.pend.idle _ _ _).mono ?_; rintro e w2 ⟨rfl, hP, hK⟩; exact ⟨rfl, hP, hD.kept.trans hK (by intro i hi; exact .inl hi)⟩) | (go_at_call 144; refine (istore_run hD.pend.idle _ _ _).mono ?_; rintro e w2 ⟨rfl, hP, hK⟩; exact ⟨rfl, hP, hD.kept.trans hK (by intro i hi; exact .inl hi)⟩) | (go_at_call 241; refine (iswap_run hD.pend.idle _ _ _ _).mono ?_; rintro e w2 ⟨rfl, hP, hK⟩; exact ⟨rfl, hP, hD.kept.trans hK (by intro i hi; exact .inl hi)⟩)); (intro K hK; go_simp; refine hK _ ?_; clear hK K))))
  (rintro w2 ⟨h1, h2⟩; go_wp2; go_returns; exact ⟨⟨_, rfl⟩, h1, h2⟩)
theorem headed_run (x l : Nat) (P T G who : Int) (p a b g v : Int) (fr i : Bool) (w : World)  (hp : Pend w x who (rtR l p fr a b g i) 192 .done) (hL : Lay w l P T G) :
    Calls Try.prog 218 #[.pointer (some ⟨x, 0, none⟩), .int .u64 v] w fun e w' => (∃ r, e = .returned r) ∧ Pend w' x who (rtR l p fr v b g i) 192 (.load (pr P p 2) 240) ∧ Kept [x] w w' := by
  have HI := hid ((MI.start hp hL).put (by decide) 3 (.int .u64 v)).drew
  have hf := hp.idle.frozen
  (have y0 := hp.idle.rest 0; have y1 := hp.idle.rest 1; have y2 := hp.idle.rest 2; have y3 := hp.idle.rest 3; have y4 := hp.idle.rest 4; have y5 := hp.idle.rest 5; have y6 := hp.idle.rest 6; simp only [rtR, Nat.reduceAdd, Nat.zero_add, List.getElem?_cons_zero, List.getElem?_cons_succ] at y0 y1 y2 y3 y4 y5 y6)
  clear hp hL
  go_enter Try.func218, Try.ntmps218
  go_wp2_with fail
  refine wp_region_T 14 (fun w' => MI w w' x who (rtR l p fr v b g i) 192 l P T G) (fun w' => Pend w' x who (rtR l p fr v b g i) 192 (.load (pr P p 2) 240) ∧ Kept [x] w w') (by kernel_rfl) (by kernel_rfl) rfl (by kernel_rfl) HI.out ?_
  clear HI
  (repeat (first | (apply walkD_pure; rfl; rfl; (intro _; go_simp; first | done | rfl); (intro K hK; go_simp; refine hK _ ?_; clear hK K)) | (apply walkD_skip; rfl; rfl; (intro K hK; go_simp; refine hK _ ?_; clear hK K)) | (apply walkD_read1 [false] (by kernel_rfl); rfl; rfl; (intro w' hD; (have y0 := hD.pend.idle.rest 0; have y1 := hD.pend.idle.rest 1; have y2 := hD.pend.idle.rest 2; have y3 := hD.pend.idle.rest 3; have y4 := hD.pend.idle.rest 4; have y5 := hD.pend.idle.rest 5; have y6 := hD.pend.idle.rest 6; simp only [rtR, Nat.reduceAdd, Nat.zero_add, List.getElem?_cons_zero, List.getElem?_cons_succ] at y0 y1 y2 y3 y4 y5 y6); go_simp; rfl); (intro K hK; go_simp; refine hK _ ?_; clear hK K)) | (apply walkD_call1 [false] (by kernel_rfl); rfl; (intro _; go_simp; first | rfl | exact ⟨rfl, rfl⟩); (intro w' hD; first | (go_at_call 165; refine (proc_run _ _ _ _ _ _ _ hD.lay).mono ?_; rintro e w2 ⟨rfl, hb⟩; exact ⟨rfl, hD.quiet hb⟩) | (go_at_call 137; refine (thread_run _ _ _ _ _ _ _ hD.lay).mono ?_; rintro e w2 ⟨rfl, hb⟩; exact ⟨rfl, hD.quiet hb⟩) | (go_at_call 185; refine (ring_run _ _ _ _ _ _ (by assumption) _ hD.lay).mono ?_; rintro e w2 ⟨rfl, hb⟩; exact ⟨rfl, hD.quiet hb⟩) | (go_at_call 183; refine (g_run _ _ _ _ _ _ _ hD.lay).mono ?_; rintro e w2 ⟨rfl, hb⟩; exact ⟨rfl, hD.quiet hb⟩) | (go_at_call 168; refine (word_run _ 0 0 0 _ _).mono ?_; rintro e w2 ⟨rfl, rfl⟩; exact ⟨rfl, hD⟩) | (go_at_call 164; refine (iload_run hD.pend.idle _ _).mono ?_; rintro e w2 ⟨rfl, hP, hK⟩; exact ⟨rfl, hP, hD.kept.trans hK (by intro i hi; exact .inl hi)⟩) | (go_at_call 146; refine (iadd_run hD.pend.idle _ _ _).mono ?_; rintro e w2 ⟨rfl, hP, hK⟩; exact ⟨rfl, hP, hD.kept.trans hK (by intro i hi; exact .inl hi)⟩) | (go_at_call 144; refine (istore_run hD.pend.idle _ _ _).mono ?_; rintro e w2 ⟨rfl, hP, hK⟩; exact ⟨rfl, hP, hD.kept.trans hK (by intro i hi; exact .inl hi)⟩) | (go_at_call 241; refine (iswap_run hD.pend.idle _ _ _ _).mono ?_; rintro e w2 ⟨rfl, hP, hK⟩; exact ⟨rfl, hP, hD.kept.trans hK (by intro i hi; exact .inl hi)⟩)); (intro K hK; go_simp; refine hK _ ?_; clear hK K))))
  (rintro w2 ⟨h1, h2⟩; go_wp2; go_returns; exact ⟨⟨_, rfl⟩, h1, h2⟩)
theorem nexted1_run (x l : Nat) (P T G who : Int) (p a b g v : Int) (fr i : Bool) (w : World) (hv : v ≠ 0) (hp : Pend w x who (rtR l p fr a b g i) 192 .done) (hL : Lay w l P T G) :
    Calls Try.prog 219 #[.pointer (some ⟨x, 0, none⟩), .int .u64 v] w fun e w' => (∃ r, e = .returned r) ∧ Pend w' x who (rtR l p fr a v g i) 192 (.swap (pr P p 3) v 0 242) ∧ Kept [x] w w' := by
  have h0 : ((v : Int) == 0) = false := by simp [hv]
  have h1 : ((v : Int) != 0) = true := by simp [hv]
  have HI := hid ((MI.start hp hL).put (by decide) 4 (.int .u64 v)).drew
  have hf := hp.idle.frozen
  (have y0 := hp.idle.rest 0; have y1 := hp.idle.rest 1; have y2 := hp.idle.rest 2; have y3 := hp.idle.rest 3; have y4 := hp.idle.rest 4; have y5 := hp.idle.rest 5; have y6 := hp.idle.rest 6; simp only [rtR, Nat.reduceAdd, Nat.zero_add, List.getElem?_cons_zero, List.getElem?_cons_succ] at y0 y1 y2 y3 y4 y5 y6)
  clear hp hL
  go_enter Try.func219, Try.ntmps219
  go_wp2_with fail
  refine wp_region_T 15 (fun w' => MI w w' x who (rtR l p fr a v g i) 192 l P T G) (fun w' => Pend w' x who (rtR l p fr a v g i) 192 (.swap (pr P p 3) v 0 242) ∧ Kept [x] w w') (by kernel_rfl) (by kernel_rfl) rfl (by kernel_rfl) HI.out ?_
  clear HI
  (repeat (first | (apply walkD_pure; rfl; rfl; (intro _; go_simp; first | done | rfl); (intro K hK; go_simp; refine hK _ ?_; clear hK K)) | (apply walkD_skip; rfl; rfl; (intro K hK; go_simp; refine hK _ ?_; clear hK K)) | (apply walkD_read1 [false] (by kernel_rfl); rfl; rfl; (intro w' hD; (have y0 := hD.pend.idle.rest 0; have y1 := hD.pend.idle.rest 1; have y2 := hD.pend.idle.rest 2; have y3 := hD.pend.idle.rest 3; have y4 := hD.pend.idle.rest 4; have y5 := hD.pend.idle.rest 5; have y6 := hD.pend.idle.rest 6; simp only [rtR, Nat.reduceAdd, Nat.zero_add, List.getElem?_cons_zero, List.getElem?_cons_succ] at y0 y1 y2 y3 y4 y5 y6); go_simp; rfl); (intro K hK; go_simp; refine hK _ ?_; clear hK K)) | (apply walkD_call1 [false] (by kernel_rfl); rfl; (intro _; go_simp; first | rfl | exact ⟨rfl, rfl⟩); (intro w' hD; first | (go_at_call 165; refine (proc_run _ _ _ _ _ _ _ hD.lay).mono ?_; rintro e w2 ⟨rfl, hb⟩; exact ⟨rfl, hD.quiet hb⟩) | (go_at_call 137; refine (thread_run _ _ _ _ _ _ _ hD.lay).mono ?_; rintro e w2 ⟨rfl, hb⟩; exact ⟨rfl, hD.quiet hb⟩) | (go_at_call 185; refine (ring_run _ _ _ _ _ _ (by assumption) _ hD.lay).mono ?_; rintro e w2 ⟨rfl, hb⟩; exact ⟨rfl, hD.quiet hb⟩) | (go_at_call 183; refine (g_run _ _ _ _ _ _ _ hD.lay).mono ?_; rintro e w2 ⟨rfl, hb⟩; exact ⟨rfl, hD.quiet hb⟩) | (go_at_call 168; refine (word_run _ 0 0 0 _ _).mono ?_; rintro e w2 ⟨rfl, rfl⟩; exact ⟨rfl, hD⟩) | (go_at_call 164; refine (iload_run hD.pend.idle _ _).mono ?_; rintro e w2 ⟨rfl, hP, hK⟩; exact ⟨rfl, hP, hD.kept.trans hK (by intro i hi; exact .inl hi)⟩) | (go_at_call 146; refine (iadd_run hD.pend.idle _ _ _).mono ?_; rintro e w2 ⟨rfl, hP, hK⟩; exact ⟨rfl, hP, hD.kept.trans hK (by intro i hi; exact .inl hi)⟩) | (go_at_call 144; refine (istore_run hD.pend.idle _ _ _).mono ?_; rintro e w2 ⟨rfl, hP, hK⟩; exact ⟨rfl, hP, hD.kept.trans hK (by intro i hi; exact .inl hi)⟩) | (go_at_call 241; refine (iswap_run hD.pend.idle _ _ _ _).mono ?_; rintro e w2 ⟨rfl, hP, hK⟩; exact ⟨rfl, hP, hD.kept.trans hK (by intro i hi; exact .inl hi)⟩)); (intro K hK; go_simp; refine hK _ ?_; clear hK K))))
  (rintro w2 ⟨h1, h2⟩; go_wp2; go_returns; exact ⟨⟨_, rfl⟩, h1, h2⟩)
theorem nexted2_run (x l : Nat) (P T G who : Int) (p a b g : Int) (i : Bool) (w : World)  (hp : Pend w x who (rtR l p true a b g i) 192 .done) (hL : Lay w l P T G) :
    Calls Try.prog 219 #[.pointer (some ⟨x, 0, none⟩), .int .u64 0] w fun e w' => (∃ r, e = .returned r) ∧ Pend w' x who (rtR l p true a 0 g i) 192 (.done) ∧ Kept [x] w w' := by
  have HI := hid ((MI.start hp hL).put (by decide) 4 (.int .u64 0))
  have hf := hp.idle.frozen
  (have y0 := hp.idle.rest 0; have y1 := hp.idle.rest 1; have y2 := hp.idle.rest 2; have y3 := hp.idle.rest 3; have y4 := hp.idle.rest 4; have y5 := hp.idle.rest 5; have y6 := hp.idle.rest 6; simp only [rtR, Nat.reduceAdd, Nat.zero_add, List.getElem?_cons_zero, List.getElem?_cons_succ] at y0 y1 y2 y3 y4 y5 y6)
  clear hp hL
  go_enter Try.func219, Try.ntmps219
  go_wp2
  go_returns
  exact ⟨⟨_, rfl⟩, HI.out.pend, HI.out.kept⟩
theorem first_run (x l : Nat) (P T G who : Int) (p a b g v : Int) (fr i : Bool) (w : World)  (hp : Pend w x who (rtR l p fr a b g i) 192 .done) (hL : Lay w l P T G) :
    Calls Try.prog 256 #[.pointer (some ⟨x, 0, none⟩), .int .u64 v] w fun e w' => (∃ r, e = .returned r) ∧ Pend w' x who (rtR l p fr a v g i) 192 (.swap (pr P p 1) a (nextW a) 268) ∧ Kept [x] w w' := by
  have n1 : IntKind.u64.wrap (a + 1) % 4294967296 = nextW a := rfl
  have n2 : (IntKind.u64.wrap (a + 1)).tmod 4294967296 = nextW a := Int.tmod_eq_emod_of_nonneg (by rw [IntKind.wrap_u64]; omega)
  have n3 : 0 ≤ IntKind.u64.wrap (a + 1) := by rw [IntKind.wrap_u64]; omega
  have HI := hid ((MI.start hp hL).put (by decide) 4 (.int .u64 v)).drew
  have hf := hp.idle.frozen
  (have y0 := hp.idle.rest 0; have y1 := hp.idle.rest 1; have y2 := hp.idle.rest 2; have y3 := hp.idle.rest 3; have y4 := hp.idle.rest 4; have y5 := hp.idle.rest 5; have y6 := hp.idle.rest 6; simp only [rtR, Nat.reduceAdd, Nat.zero_add, List.getElem?_cons_zero, List.getElem?_cons_succ] at y0 y1 y2 y3 y4 y5 y6)
  clear hp hL
  go_enter Try.func256, Try.ntmps256
  go_wp2_with fail
  refine wp_region_T 24 (fun w' => MI w w' x who (rtR l p fr a v g i) 192 l P T G) (fun w' => Pend w' x who (rtR l p fr a v g i) 192 (.swap (pr P p 1) a (nextW a) 268) ∧ Kept [x] w w') (by kernel_rfl) (by kernel_rfl) rfl (by kernel_rfl) HI.out ?_
  clear HI
  (repeat (first | (apply walkD_pure; rfl; rfl; (intro _; go_simp; first | done | rfl); (intro K hK; go_simp; refine hK _ ?_; clear hK K)) | (apply walkD_skip; rfl; rfl; (intro K hK; go_simp; refine hK _ ?_; clear hK K)) | (apply walkD_read1 [false] (by kernel_rfl); rfl; rfl; (intro w' hD; (have y0 := hD.pend.idle.rest 0; have y1 := hD.pend.idle.rest 1; have y2 := hD.pend.idle.rest 2; have y3 := hD.pend.idle.rest 3; have y4 := hD.pend.idle.rest 4; have y5 := hD.pend.idle.rest 5; have y6 := hD.pend.idle.rest 6; simp only [rtR, Nat.reduceAdd, Nat.zero_add, List.getElem?_cons_zero, List.getElem?_cons_succ] at y0 y1 y2 y3 y4 y5 y6); go_simp; rfl); (intro K hK; go_simp; refine hK _ ?_; clear hK K)) | (apply walkD_call1 [false] (by kernel_rfl); rfl; (intro _; go_simp; first | rfl | exact ⟨rfl, rfl⟩); (intro w' hD; first | (go_at_call 165; refine (proc_run _ _ _ _ _ _ _ hD.lay).mono ?_; rintro e w2 ⟨rfl, hb⟩; exact ⟨rfl, hD.quiet hb⟩) | (go_at_call 137; refine (thread_run _ _ _ _ _ _ _ hD.lay).mono ?_; rintro e w2 ⟨rfl, hb⟩; exact ⟨rfl, hD.quiet hb⟩) | (go_at_call 185; refine (ring_run _ _ _ _ _ _ (by assumption) _ hD.lay).mono ?_; rintro e w2 ⟨rfl, hb⟩; exact ⟨rfl, hD.quiet hb⟩) | (go_at_call 183; refine (g_run _ _ _ _ _ _ _ hD.lay).mono ?_; rintro e w2 ⟨rfl, hb⟩; exact ⟨rfl, hD.quiet hb⟩) | (go_at_call 168; refine (word_run _ 0 0 0 _ _).mono ?_; rintro e w2 ⟨rfl, rfl⟩; exact ⟨rfl, hD⟩) | (go_at_call 164; refine (iload_run hD.pend.idle _ _).mono ?_; rintro e w2 ⟨rfl, hP, hK⟩; exact ⟨rfl, hP, hD.kept.trans hK (by intro i hi; exact .inl hi)⟩) | (go_at_call 146; refine (iadd_run hD.pend.idle _ _ _).mono ?_; rintro e w2 ⟨rfl, hP, hK⟩; exact ⟨rfl, hP, hD.kept.trans hK (by intro i hi; exact .inl hi)⟩) | (go_at_call 144; refine (istore_run hD.pend.idle _ _ _).mono ?_; rintro e w2 ⟨rfl, hP, hK⟩; exact ⟨rfl, hP, hD.kept.trans hK (by intro i hi; exact .inl hi)⟩) | (go_at_call 241; refine (iswap_run hD.pend.idle _ _ _ _).mono ?_; rintro e w2 ⟨rfl, hP, hK⟩; exact ⟨rfl, hP, hD.kept.trans hK (by intro i hi; exact .inl hi)⟩)); (intro K hK; go_simp; refine hK _ ?_; clear hK K))))
  (rintro w2 ⟨h1, h2⟩; go_wp2; go_returns; exact ⟨⟨_, rfl⟩, h1, h2⟩)
theorem has_run (x l : Nat) (P T G who : Int) (p a b g : Int) (fr i j : Bool) (w : World)  (hp : Pend w x who (rtR l p fr a b g i) 192 .done) (hL : Lay w l P T G) :
    Calls Try.prog 258 #[.pointer (some ⟨x, 0, none⟩), .bool j] w fun e w' => (∃ r, e = .returned r) ∧ Pend w' x who (rtR l p fr a b (nOf b) j) 192 (.done) ∧ Kept [x] w w' := by
  have n1 : IntKind.i64.wrap (IntKind.i64.wrap b - 1) = nOf b := rfl
  have n2 : wrap64 (wrap64 b - 1) = nOf b := by unfold nOf; simp only [IntWalk.i64_left]
  have HI := hid (((MI.start hp hL).put (by decide) 5 (.int .i64 (nOf b))).put (by decide) 6 (.bool j))
  have hf := hp.idle.frozen
  (have y0 := hp.idle.rest 0; have y1 := hp.idle.rest 1; have y2 := hp.idle.rest 2; have y3 := hp.idle.rest 3; have y4 := hp.idle.rest 4; have y5 := hp.idle.rest 5; have y6 := hp.idle.rest 6; simp only [rtR, Nat.reduceAdd, Nat.zero_add, List.getElem?_cons_zero, List.getElem?_cons_succ] at y0 y1 y2 y3 y4 y5 y6)
  clear hp hL
  go_enter Try.func258, Try.ntmps258
  go_wp2
  go_returns
  exact ⟨⟨_, rfl⟩, HI.out.pend, HI.out.kept⟩
theorem tailed1_run (x l : Nat) (P T G who : Int) (p a b g v : Int) (fr i : Bool) (w : World) (hv : Ring.manyOf a v ≠ 0) (ha : W64 a) (hw : W64 v) (hp : Pend w x who (rtR l p fr a b g i) 192 .done) (hL : Lay w l P T G) :
    Calls Try.prog 240 #[.pointer (some ⟨x, 0, none⟩), .int .u64 v] w fun e w' => (∃ r, e = .returned r) ∧ Pend w' x who (rtR l p fr a b g i) 192 (.load (rg P p a) 256) ∧ Kept [x] w w' := by
  have HM := hid (fun w => Ring.many_run a v w ha hw)
  have hm : 0 ≤ Ring.manyOf a v := by unfold Ring.manyOf; omega
  obtain ⟨mo, hmo⟩ : ∃ mo, mo = Ring.manyOf a v := ⟨_, rfl⟩
  rw [← hmo] at HM hv hm
  have d1 : decide (0 < mo) = true := decide_eq_true (by omega)
  have HI := hid (MI.start hp hL).drew
  have hf := hp.idle.frozen
  (have y0 := hp.idle.rest 0; have y1 := hp.idle.rest 1; have y2 := hp.idle.rest 2; have y3 := hp.idle.rest 3; have y4 := hp.idle.rest 4; have y5 := hp.idle.rest 5; have y6 := hp.idle.rest 6; simp only [rtR, Nat.reduceAdd, Nat.zero_add, List.getElem?_cons_zero, List.getElem?_cons_succ] at y0 y1 y2 y3 y4 y5 y6)
  have ha' := hid ha
  clear hp hL hmo hv hm ha hw
  go_enter Try.func240, Try.ntmps240
  go_wp2_with fail
  refine (HM.out _).mono ?_
  rintro e w1 ⟨rfl, rfl⟩
  go_wp2_with fail
  refine wp_region_T 18 (fun w' => MI w w' x who (rtR l p fr a b g i) 192 l P T G) (fun w' => Pend w' x who (rtR l p fr a b g i) 192 (.load (rg P p a) 256) ∧ Kept [x] w w') (by kernel_rfl) (by kernel_rfl) rfl (by kernel_rfl) HI.out ?_
  clear HI
  have ha : 0 ≤ a ∧ a < 18446744073709551616 := ha'.out
  (repeat (first | (apply walkD_pure; rfl; rfl; (intro _; go_simp; first | done | rfl); (intro K hK; go_simp; refine hK _ ?_; clear hK K)) | (apply walkD_skip; rfl; rfl; (intro K hK; go_simp; refine hK _ ?_; clear hK K)) | (apply walkD_read1 [false] (by kernel_rfl); rfl; rfl; (intro w' hD; (have y0 := hD.pend.idle.rest 0; have y1 := hD.pend.idle.rest 1; have y2 := hD.pend.idle.rest 2; have y3 := hD.pend.idle.rest 3; have y4 := hD.pend.idle.rest 4; have y5 := hD.pend.idle.rest 5; have y6 := hD.pend.idle.rest 6; simp only [rtR, Nat.reduceAdd, Nat.zero_add, List.getElem?_cons_zero, List.getElem?_cons_succ] at y0 y1 y2 y3 y4 y5 y6); go_simp; rfl); (intro K hK; go_simp; refine hK _ ?_; clear hK K)) | (apply walkD_call1 [false] (by kernel_rfl); rfl; (intro _; go_simp; first | rfl | exact ⟨rfl, rfl⟩); (intro w' hD; first | (go_at_call 165; refine (proc_run _ _ _ _ _ _ _ hD.lay).mono ?_; rintro e w2 ⟨rfl, hb⟩; exact ⟨rfl, hD.quiet hb⟩) | (go_at_call 137; refine (thread_run _ _ _ _ _ _ _ hD.lay).mono ?_; rintro e w2 ⟨rfl, hb⟩; exact ⟨rfl, hD.quiet hb⟩) | (go_at_call 185; refine (ring_run _ _ _ _ _ _ (by assumption) _ hD.lay).mono ?_; rintro e w2 ⟨rfl, hb⟩; exact ⟨rfl, hD.quiet hb⟩) | (go_at_call 183; refine (g_run _ _ _ _ _ _ _ hD.lay).mono ?_; rintro e w2 ⟨rfl, hb⟩; exact ⟨rfl, hD.quiet hb⟩) | (go_at_call 168; refine (word_run _ 0 0 0 _ _).mono ?_; rintro e w2 ⟨rfl, rfl⟩; exact ⟨rfl, hD⟩) | (go_at_call 164; refine (iload_run hD.pend.idle _ _).mono ?_; rintro e w2 ⟨rfl, hP, hK⟩; exact ⟨rfl, hP, hD.kept.trans hK (by intro i hi; exact .inl hi)⟩) | (go_at_call 146; refine (iadd_run hD.pend.idle _ _ _).mono ?_; rintro e w2 ⟨rfl, hP, hK⟩; exact ⟨rfl, hP, hD.kept.trans hK (by intro i hi; exact .inl hi)⟩) | (go_at_call 144; refine (istore_run hD.pend.idle _ _ _).mono ?_; rintro e w2 ⟨rfl, hP, hK⟩; exact ⟨rfl, hP, hD.kept.trans hK (by intro i hi; exact .inl hi)⟩) | (go_at_call 241; refine (iswap_run hD.pend.idle _ _ _ _).mono ?_; rintro e w2 ⟨rfl, hP, hK⟩; exact ⟨rfl, hP, hD.kept.trans hK (by intro i hi; exact .inl hi)⟩)); (intro K hK; go_simp; refine hK _ ?_; clear hK K))))
  (rintro w2 ⟨h1, h2⟩; go_wp2; go_returns; exact ⟨⟨_, rfl⟩, h1, h2⟩)
theorem tailed2_run (x l : Nat) (P T G who : Int) (p a b g v : Int) (i : Bool) (w : World) (hv : Ring.manyOf a v = 0) (ha : W64 a) (hw : W64 v) (hp : Pend w x who (rtR l p true a b g i) 192 .done) (hL : Lay w l P T G) :
    Calls Try.prog 240 #[.pointer (some ⟨x, 0, none⟩), .int .u64 v] w fun e w' => (∃ r, e = .returned r) ∧ Pend w' x who (rtR l p true a b g i) 192 (.load (pr P p 3) 219) ∧ Kept [x] w w' := by
  have HM := hid (fun w => Ring.many_run a v w ha hw)
  rw [hv] at HM
  have HP := hid (And.intro hp hL)
  have hf := hp.idle.frozen
  (have y0 := hp.idle.rest 0; have y1 := hp.idle.rest 1; have y2 := hp.idle.rest 2; have y3 := hp.idle.rest 3; have y4 := hp.idle.rest 4; have y5 := hp.idle.rest 5; have y6 := hp.idle.rest 6; simp only [rtR, Nat.reduceAdd, Nat.zero_add, List.getElem?_cons_zero, List.getElem?_cons_succ] at y0 y1 y2 y3 y4 y5 y6)
  clear hp hL ha hw hv
  go_enter Try.func240, Try.ntmps240
  go_wp2_with fail
  refine (HM.out _).mono ?_
  rintro e w1 ⟨rfl, rfl⟩
  go_wp2_with fail
  refine (asks_run x l P T G who p a b g true i _ HP.out.1 HP.out.2).mono ?_
  rintro e w2 ⟨⟨r, rfl⟩, h1, h2⟩
  go_wp2
  go_returns
  exact ⟨⟨_, rfl⟩, h1, h2⟩
theorem tailed3_run (x l : Nat) (P T G who : Int) (p a b g v : Int) (i : Bool) (w : World) (hv : Ring.manyOf a v = 0) (ha : W64 a) (hw : W64 v) (hp : Pend w x who (rtR l p false a b g i) 192 .done) (hL : Lay w l P T G) :
    Calls Try.prog 240 #[.pointer (some ⟨x, 0, none⟩), .int .u64 v] w fun e w' => (∃ r, e = .returned r) ∧ Pend w' x who (rtR l p false a b g i) 192 .done ∧ Kept [x] w w' := by
  have HM := hid (fun w => Ring.many_run a v w ha hw)
  rw [hv] at HM
  have HP := hid (And.intro hp hL)
  have hf := hp.idle.frozen
  (have y0 := hp.idle.rest 0; have y1 := hp.idle.rest 1; have y2 := hp.idle.rest 2; have y3 := hp.idle.rest 3; have y4 := hp.idle.rest 4; have y5 := hp.idle.rest 5; have y6 := hp.idle.rest 6; simp only [rtR, Nat.reduceAdd, Nat.zero_add, List.getElem?_cons_zero, List.getElem?_cons_succ] at y0 y1 y2 y3 y4 y5 y6)
  clear hp hL ha hw hv
  go_enter Try.func240, Try.ntmps240
  go_wp2_with fail
  refine (HM.out _).mono ?_
  rintro e w1 ⟨rfl, rfl⟩
  go_wp2
  go_returns
  exact ⟨⟨_, rfl⟩, HP.out.1, Kept.refl _ _⟩
theorem nexted3_run (x l : Nat) (P T G who : Int) (p a b g : Int) (i : Bool) (w : World) (hp : Pend w x who (rtR l p false a b g i) 192 .done) (hL : Lay w l P T G) :
    Calls Try.prog 219 #[.pointer (some ⟨x, 0, none⟩), .int .u64 0] w fun e w' => (∃ r, e = .returned r) ∧ Pend w' x who (rtR l p false a 0 g i) 192 (.load (pr P p 1) 218) ∧ Kept [x] w w' := by
  have HI := hid ((MI.start hp hL).put (by decide) 4 (.int .u64 0))
  have hf := hp.idle.frozen
  (have y0 := hp.idle.rest 0; have y1 := hp.idle.rest 1; have y2 := hp.idle.rest 2; have y3 := hp.idle.rest 3; have y4 := hp.idle.rest 4; have y5 := hp.idle.rest 5; have y6 := hp.idle.rest 6; simp only [rtR, Nat.reduceAdd, Nat.zero_add, List.getElem?_cons_zero, List.getElem?_cons_succ] at y0 y1 y2 y3 y4 y5 y6)
  clear hp hL
  go_enter Try.func219, Try.ntmps219
  go_wp2_with fail
  refine (looks_run x l P T G who p a 0 g false i _ HI.out.pend HI.out.lay).mono ?_
  rintro e w2 ⟨⟨r, rfl⟩, h1, h2⟩
  go_wp2
  go_returns
  exact ⟨⟨_, rfl⟩, h1, HI.out.kept.trans h2 (by intro i hi; exact .inl hi)⟩
theorem swapped1_run (x l : Nat) (P T G who : Int) (p a b g : Int) (fr i : Bool) (w : World) (hp : Pend w x who (rtR l p fr a b g i) 192 .done) (hL : Lay w l P T G) :
    Calls Try.prog 242 #[.pointer (some ⟨x, 0, none⟩), .bool true] w fun e w' => (∃ r, e = .returned r) ∧ Pend w' x who (rtR l p fr a b (nOf b) (!fr)) 192 .done ∧ Kept [x] w w' := by
  have HP := hid (And.intro hp hL)
  have hf := hp.idle.frozen
  (have y0 := hp.idle.rest 0; have y1 := hp.idle.rest 1; have y2 := hp.idle.rest 2; have y3 := hp.idle.rest 3; have y4 := hp.idle.rest 4; have y5 := hp.idle.rest 5; have y6 := hp.idle.rest 6; simp only [rtR, Nat.reduceAdd, Nat.zero_add, List.getElem?_cons_zero, List.getElem?_cons_succ] at y0 y1 y2 y3 y4 y5 y6)
  clear hp hL
  cases fr <;> (
    go_enter Try.func242, Try.ntmps242
    go_wp2_with fail
    refine (has_run x l P T G who p a b g _ i _ _ HP.out.1 HP.out.2).mono ?_
    rintro e w2 ⟨⟨r, rfl⟩, h1, h2⟩
    go_wp2
    go_returns
    exact ⟨⟨_, rfl⟩, h1, h2⟩)
theorem swapped2_run (x l : Nat) (P T G who : Int) (p a b g : Int) (i : Bool) (w : World) (hp : Pend w x who (rtR l p false a b g i) 192 .done) (hL : Lay w l P T G) :
    Calls Try.prog 242 #[.pointer (some ⟨x, 0, none⟩), .bool false] w fun e w' => (∃ r, e = .returned r) ∧ Pend w' x who (rtR l p false a b g i) 192 (.load (pr P p 1) 218) ∧ Kept [x] w w' := by
  have HP := hid (And.intro hp hL)
  have hf := hp.idle.frozen
  (have y0 := hp.idle.rest 0; have y1 := hp.idle.rest 1; have y2 := hp.idle.rest 2; have y3 := hp.idle.rest 3; have y4 := hp.idle.rest 4; have y5 := hp.idle.rest 5; have y6 := hp.idle.rest 6; simp only [rtR, Nat.reduceAdd, Nat.zero_add, List.getElem?_cons_zero, List.getElem?_cons_succ] at y0 y1 y2 y3 y4 y5 y6)
  clear hp hL
  go_enter Try.func242, Try.ntmps242
  go_wp2_with fail
  refine (looks_run x l P T G who p a b g false i _ HP.out.1 HP.out.2).mono ?_
  rintro e w2 ⟨⟨r, rfl⟩, h1, h2⟩
  go_wp2
  go_returns
  exact ⟨⟨_, rfl⟩, h1, h2⟩
theorem swapped3_run (x l : Nat) (P T G who : Int) (p a b g : Int) (i : Bool) (w : World) (hp : Pend w x who (rtR l p true a b g i) 192 .done) (hL : Lay w l P T G) :
    Calls Try.prog 242 #[.pointer (some ⟨x, 0, none⟩), .bool false] w fun e w' => (∃ r, e = .returned r) ∧ Pend w' x who (rtR l p true a b g i) 192 .done ∧ Kept [x] w w' := by
  have HP := hid (And.intro hp hL)
  have hf := hp.idle.frozen
  (have y0 := hp.idle.rest 0; have y1 := hp.idle.rest 1; have y2 := hp.idle.rest 2; have y3 := hp.idle.rest 3; have y4 := hp.idle.rest 4; have y5 := hp.idle.rest 5; have y6 := hp.idle.rest 6; simp only [rtR, Nat.reduceAdd, Nat.zero_add, List.getElem?_cons_zero, List.getElem?_cons_succ] at y0 y1 y2 y3 y4 y5 y6)
  clear hp hL
  go_enter Try.func242, Try.ntmps242
  go_wp2
  go_returns
  exact ⟨⟨_, rfl⟩, HP.out.1, Kept.refl _ _⟩
theorem taken1_run (x l : Nat) (P T G who : Int) (p a b g : Int) (fr i : Bool) (w : World) (hp : Pend w x who (rtR l p fr a b g i) 192 .done) (hL : Lay w l P T G) :
    Calls Try.prog 268 #[.pointer (some ⟨x, 0, none⟩), .bool true] w fun e w' => (∃ r, e = .returned r) ∧ Pend w' x who (rtR l p fr a b (nOf b) false) 192 .done ∧ Kept [x] w w' := by
  have HP := hid (And.intro hp hL)
  clear hp hL
  go_enter Try.func268, Try.ntmps268
  go_wp2_with fail
  refine (has_run x l P T G who p a b g fr i false _ HP.out.1 HP.out.2).mono ?_
  rintro e w2 ⟨⟨r, rfl⟩, h1, h2⟩
  go_wp2
  go_returns
  exact ⟨⟨_, rfl⟩, h1, h2⟩
theorem taken2_run (x l : Nat) (P T G who : Int) (p a b g : Int) (fr i : Bool) (w : World) (hp : Pend w x who (rtR l p fr a b g i) 192 .done) (hL : Lay w l P T G) :
    Calls Try.prog 268 #[.pointer (some ⟨x, 0, none⟩), .bool false] w fun e w' => (∃ r, e = .returned r) ∧ Pend w' x who (rtR l p fr a b g i) 192 (.load (pr P p 1) 218) ∧ Kept [x] w w' := by
  have HP := hid (And.intro hp hL)
  clear hp hL
  go_enter Try.func268, Try.ntmps268
  go_wp2_with fail
  refine (looks_run x l P T G who p a b g fr i _ HP.out.1 HP.out.2).mono ?_
  rintro e w2 ⟨⟨r, rfl⟩, h1, h2⟩
  go_wp2
  go_returns
  exact ⟨⟨_, rfl⟩, h1, h2⟩
def rt0 (fr : Bool) : RtSt := if fr then .look 0 0 else .ask 0 0
theorem rtnew_run (l : Nat) (P T G who : Int) (p : Int) (fr : Bool) (w : World) (hL : Lay w l P T G) :
    Calls Try.prog 86 #[.pointer (some ⟨l, 0, none⟩), .int .i64 who, .int .i64 p, .bool fr] w fun e w' => e = .returned (.pointer (some ⟨w.heap.size, 0, none⟩)) ∧ Pend w' w.heap.size who (rtRest l p fr (rt0 fr)) 192 (rtNx P p (rt0 fr)) ∧ Below w.heap.size w w' := by
  have h0 : FlAt (w.alloc (.cells (fl fl0 ++ rtR l p fr 0 0 (-1) false).toArray 192)) w.heap.size fl0 (rtR l p fr 0 0 (-1) false) 192 := Blk.new w _ _
  have hL0 := hL.quiet (below_one w (.cells (fl fl0 ++ rtR l p fr 0 0 (-1) false).toArray 192))
  have hlx : l ≠ w.heap.size := Nat.ne_of_lt hL.1.lt
  clear hL
  cases fr with
  | true =>
    go_enter Try.func86, Try.ntmps86
    go_wp2_with fail
    refine (iof_run h0 who).mono ?_
    rintro e w1 ⟨rfl, hp, hK⟩
    have hL1 := hL0.kept hK (by simpa using hlx)
    have hlow : Below w.heap.size w w1 := (below_one _ _).trans (hK.below (by simp) (by simp))
    clear h0 hL0 hK
    go_wp2_with fail
    refine (looks_run _ l P T G who p 0 0 (-1) true false _ hp hL1).mono ?_
    rintro e w2 ⟨⟨r, rfl⟩, h1, h2⟩
    go_wp2
    go_ret
    exact ⟨rfl, h1, hlow.trans (h2.below (by simp) hlow.size)⟩
  | false =>
    go_enter Try.func86, Try.ntmps86
    go_wp2_with fail
    refine (iof_run h0 who).mono ?_
    rintro e w1 ⟨rfl, hp, hK⟩
    have hL1 := hL0.kept hK (by simpa using hlx)
    have hlow : Below w.heap.size w w1 := (below_one _ _).trans (hK.below (by simp) (by simp))
    clear h0 hL0 hK
    go_wp2_with fail
    refine (asks_run _ l P T G who p 0 0 (-1) false false _ hp hL1).mono ?_
    rintro e w2 ⟨⟨r, rfl⟩, h1, h2⟩
    go_wp2
    go_ret
    exact ⟨rfl, h1, hlow.trans (h2.below (by simp) hlow.size)⟩
theorem rt_goes (l x : Nat) (P p T G who : Int) (fr : Bool) : Goes (rtM l P p fr) l x P T G who := by
  refine ⟨by show ∀ T ∈ ownT 192, _; decide, by show 192 ≠ _ ∧ 192 ≠ _ ∧ 192 ≠ _; decide, ?_, ?_, ?_, ?_⟩
  · intro st hok
    cases st with
    | tk a b => show 0 ≤ nextW a ∧ nextW a < _; unfold nextW; rw [IntKind.wrap_u64]; omega
    | ask a b => simp [rtM, rtNx, Nx.val]
    | sw a b => simp [rtM, rtNx, Nx.val]
    | look a b => simp [rtM, rtNx, Nx.val]
    | tl a b => simp [rtM, rtNx, Nx.val]
    | rd a b => simp [rtM, rtNx, Nx.val]
    | got a b i => simp [rtM, rtNx, Nx.val]
    | none a b => simp [rtM, rtNx, Nx.val]
  · intro st v hok hv
    have h0 : W64 0 := ⟨by omega, by omega⟩
    cases st with
    | ask a b =>
      show rtOk (if v = 0 then missed fr a 0 else _)
      split
      · unfold missed; split <;> exact ⟨hok.1, h0⟩
      · exact ⟨hok.1, hv⟩
    | sw a b =>
      show rtOk (if v = 1 then _ else missed fr a b)
      split
      · exact hok
      · unfold missed; split <;> exact hok
    | look a b => exact ⟨hv, hok.2⟩
    | tl a b =>
      show rtOk (if _ then (if fr then _ else _) else _)
      split
      · split <;> exact hok
      · exact hok
    | rd a b => exact ⟨hok.1, hv⟩
    | tk a b =>
      show rtOk (if v = 1 then _ else _)
      split <;> exact hok
    | got a b i => exact hok
    | none a b => exact hok
  · intro st hst
    cases st with
    | ask a b => exact enters_of Try.func219 (by kernel_rfl) rfl
    | sw a b => exact enters_of Try.func242 (by kernel_rfl) rfl
    | look a b => exact enters_of Try.func218 (by kernel_rfl) rfl
    | tl a b => exact enters_of Try.func240 (by kernel_rfl) rfl
    | rd a b => exact enters_of Try.func256 (by kernel_rfl) rfl
    | tk a b => exact enters_of Try.func268 (by kernel_rfl) rfl
    | got a b i => exact absurd rfl hst
    | none a b => exact absurd rfl hst
  · intro st v w hst hok hv hp hL
    have key : ∀ (F : Nat) (av : Array Value) (st' : RtSt), rtNext fr st v = st' → Calls Try.prog F av w (fun e w' => (∃ r, e = .returned r) ∧ Pend w' x who (rtRest l p fr st') 192 (rtNx P p st') ∧ Kept [x] w w') → Calls Try.prog F av w fun e w' => (∃ r, e = .returned r) ∧ Pend w' x who ((rtM l P p fr).rest ((rtM l P p fr).next st v)) (rtM l P p fr).T ((rtM l P p fr).nx ((rtM l P p fr).next st v)) ∧ Kept [x] w w' := by
      intro F av st' he h
      rw [show (rtM l P p fr).next st v = st' from he]
      exact h
    cases st with
    | ask a b =>
      by_cases h : v = 0
      · subst h
        refine key _ _ (missed fr a 0) (by simp [rtNext]) ?_
        cases fr with
        | true => exact nexted2_run x l P T G who p a b (-1) false w hp hL
        | false => exact nexted3_run x l P T G who p a b (-1) false w hp hL
      · refine key _ _ (.sw a v) (if_neg h) ?_
        exact nexted1_run x l P T G who p a b (-1) v fr false w h hp hL
    | sw a b =>
      by_cases h : v = 1
      · subst h
        refine key _ _ (.got a b (!fr)) (by simp [rtNext]) ?_
        exact swapped1_run x l P T G who p a b (-1) fr false w hp hL
      · refine key _ _ (missed fr a b) (if_neg h) ?_
        have hb : ((v : Int) == 1) = false := by simpa using h
        show Calls _ _ #[_, .bool (v == 1)] _ _
        rw [hb]
        cases fr with
        | true => exact swapped3_run x l P T G who p a b (-1) false w hp hL
        | false => exact swapped2_run x l P T G who p a b (-1) false w hp hL
    | look a b => exact key _ _ (.tl v b) rfl (headed_run x l P T G who p a b (-1) v fr false w hp hL)
    | tl a b =>
      by_cases h : Ring.manyOf a v = 0
      · cases fr with
        | true => exact key _ _ (.ask a b) (by show (if _ then (if _ then _ else _) else _) = _; rw [if_pos h, if_pos rfl]) (tailed2_run x l P T G who p a b (-1) v false w h hok.1 hv hp hL)
        | false => exact key _ _ (.none a b) (by show (if _ then (if _ then _ else _) else _) = _; rw [if_pos h]; rfl) (tailed3_run x l P T G who p a b (-1) v false w h hok.1 hv hp hL)
      · exact key _ _ (.rd a b) (if_neg h) (tailed1_run x l P T G who p a b (-1) v fr false w h hok.1 hv hp hL)
    | rd a b => exact key _ _ (.tk a v) rfl (first_run x l P T G who p a b (-1) v fr false w hp hL)
    | tk a b =>
      by_cases h : v = 1
      · subst h
        exact key _ _ (.got a b false) (by simp [rtNext]) (taken1_run x l P T G who p a b (-1) fr false w hp hL)
      · refine key _ _ (.look a b) (if_neg h) ?_
        have hb : ((v : Int) == 1) = false := by simpa using h
        show Calls _ _ #[_, .bool (v == 1)] _ _
        rw [hb]
        exact taken2_run x l P T G who p a b (-1) fr false w hp hL
    | got a b i => exact absurd rfl hst
    | none a b => exact absurd rfl hst
theorem rtstep_run (lo l x m g : Nat) (P T G who : Int) (p : Int) (fr : Bool) {st : _} {s : St} {w : World} (hgo : Goes (rtM l P p fr) l x P T G who) (hA : Mch.at_ (rtM l P p fr) lo l x P T G who w st) (hM : MemAt w m g s) (hc : s.clock < 1000000) (hbd : s.bad < 1000000) :
    Calls Try.prog 91 #[.pointer (some ⟨x, 0, none⟩), .pointer (some ⟨m, 0, none⟩)] w fun e w' => (∃ b, e = .returned (.bool b)) ∧ Mch.at_ (rtM l P p fr) lo l x P T G who w' (stepOf (Mch.sys (rtM l P p fr)) who st s).1 ∧ MemAt w' m g (stepOf (Mch.sys (rtM l P p fr)) who st s).2 ∧ KeptOwn (ownT 192) lo m g w w' := by
  obtain ⟨cs, hb⟩ := hA.1.blk
  have h2 := hA.2.1
  have H := hid (mch_fstep hgo hA hM hc hbd)
  have HK := hid (fun (w' : World) (hK : Kept [x, m, g] w w') => mch_kept (K := rtM l P p fr) h2 hb hK)
  clear hA hM hb hgo
  obtain ⟨q, hq⟩ : ∃ q, q = stepOf (Mch.sys (rtM l P p fr)) who st s := ⟨_, rfl⟩
  rw [← hq] at H ⊢
  obtain ⟨o, ho⟩ : ∃ o, o = (Mch.nx (rtM l P p fr) q.1).over := ⟨_, rfl⟩
  rw [← ho] at H
  clear hq ho
  go_enter Try.func91, Try.ntmps91
  go_wp2_with fail
  refine H.out.mono ?_
  rintro e w1 ⟨rfl, h1, h2, h3⟩
  have HX := hid (And.intro h1 (And.intro h2 (HK.out w1 h3)))
  clear h1 h2 h3
  go_wp2
  go_ret
  exact ⟨⟨_, rfl⟩, HX.out⟩
theorem rtdone_run {lo l x : Nat} {P T G who : Int} (p : Int) (fr : Bool) {st : _} {w : World} (hA : Mch.at_ (rtM l P p fr) lo l x P T G who w st) :
    Calls Try.prog 88 #[.pointer (some ⟨x, 0, none⟩)] w fun e w' => e = .returned (.bool (Mch.nx (rtM l P p fr) st).over) ∧ w = w' := by
  have H := hid (pend_done hA.1)
  clear hA
  obtain ⟨o, ho⟩ : ∃ o, o = (Mch.nx (rtM l P p fr) st).over := ⟨_, rfl⟩
  rw [← ho] at H ⊢
  clear ho
  go_enter Try.func88, Try.ntmps88
  go_wp2_with fail
  refine H.out.mono ?_
  rintro e w1 ⟨rfl, rfl⟩
  go_wp2
  go_ret
  exact ⟨rfl, rfl⟩
theorem rtstep_nil (m : Option Addr) (w : World) : Calls Try.prog 91 #[.pointer none, .pointer m] w fun e w' => e = .returned (.bool true) ∧ w = w' := by
  go_enter Try.func91, Try.ntmps91
  go_wp2
  go_ret
  exact ⟨rfl, rfl⟩
theorem rtdone_nil (w : World) : Calls Try.prog 88 #[.pointer none] w fun e w' => e = .returned (.bool true) ∧ w = w' := by
  go_enter Try.func88, Try.ntmps88
  go_wp2
  go_ret
  exact ⟨rfl, rfl⟩
theorem rtg_run {lo l x : Nat} {P p T G who : Int} {fr : Bool} {st : RtSt} {w : World} (hA : Mch.at_ (rtM l P p fr) lo l x P T G who w st) :
    Calls Try.prog 89 #[.pointer (some ⟨x, 0, none⟩)] w fun e w' => e = .returned (.int .i64 st.g) ∧ w = w' := by
  have y5 := hA.1.idle.rest 5
  have e : (rtRest l p fr st)[5]? = some (.int .i64 st.g) := by cases st <;> rfl
  rw [show (rtM l P p fr).rest st = rtRest l p fr st from rfl, e] at y5
  simp only [Nat.reduceAdd] at y5
  obtain ⟨q, hq⟩ : ∃ q, q = st.g := ⟨_, rfl⟩
  rw [← hq] at y5 ⊢
  clear hA e hq
  go_enter Try.func89, Try.ntmps89
  go_wp2
  go_ret
  exact ⟨rfl, rfl⟩
theorem rtinh_run {lo l x : Nat} {P p T G who : Int} {fr : Bool} {st : RtSt} {w : World} (hA : Mch.at_ (rtM l P p fr) lo l x P T G who w st) :
    Calls Try.prog 90 #[.pointer (some ⟨x, 0, none⟩)] w fun e w' => e = .returned (.bool st.i) ∧ w = w' := by
  have y6 := hA.1.idle.rest 6
  have e : (rtRest l p fr st)[6]? = some (.bool st.i) := by cases st <;> rfl
  rw [show (rtM l P p fr).rest st = rtRest l p fr st from rfl, e] at y6
  simp only [Nat.reduceAdd] at y6
  obtain ⟨q, hq⟩ : ∃ q, q = st.i := ⟨_, rfl⟩
  rw [← hq] at y6 ⊢
  clear hA e hq
  go_enter Try.func90, Try.ntmps90
  go_wp2
  go_ret
  exact ⟨rfl, rfl⟩
theorem rtg_nil (w : World) : Calls Try.prog 89 #[.pointer none] w fun e w' => e = .returned (.int .i64 (-1)) ∧ w = w' := by
  go_enter Try.func89, Try.ntmps89
  go_wp2
  go_ret
  exact ⟨rfl, rfl⟩
theorem rtinh_nil (w : World) : Calls Try.prog 90 #[.pointer none] w fun e w' => e = .returned (.bool false) ∧ w = w' := by
  go_enter Try.func90, Try.ntmps90
  go_wp2
  go_ret
  exact ⟨rfl, rfl⟩
end Go.Proofs.Ytokpgbocomhpiaa.Rget
