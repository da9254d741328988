/- Goroutines that are had and given back: machines that run others. -/
import Derived.Test.YtncmajflakkibaaLockN
import Derived.Test.YtncmajflakkibaaBase5
set_option maxRecDepth 100000
set_option maxHeartbeats 4000000
set_option linter.unusedVariables false
set_option linter.unusedSimpArgs false
namespace Go.Proofs.Ytncmajflakkibaa.Gfree
open Go.RowKit Go.Shelf Go.Proofs.Ytncmajflakkibaa.TK Go.Proofs.Ytncmajflakkibaa.Flag Go.Proofs.Ytncmajflakkibaa.Words Go.Proofs.Ytncmajflakkibaa.Mem Go.Proofs.Ytncmajflakkibaa.Flow Go.Proofs.Ytncmajflakkibaa.Layout Go.Proofs.Ytncmajflakkibaa.Lock Go.Proofs.Ytncmajflakkibaa.Run Go.Proofs.Ytncmajflakkibaa.Sys Go.Proofs.Ytncmajflakkibaa.Mach Go.Proofs.Ytncmajflakkibaa.Ref05
def nOf (a : Int) : Int := IntKind.i64.wrap (IntKind.i64.wrap a - 1)
def ggR (l : Nat) (wd g : Int) : List Value := [.pointer (some ⟨l, 0, none⟩), .int .u64 wd, .int .i64 g]
inductive GgSt
  | acq (s : AcqSt)
  | f
  | n (w : Int)
  | st (w n : Int)
  | m
  | sg (n : Int)
  | rel (w g : Int) (s : RlSt)
  | done (w g : Int)
def ggWd : GgSt → Int
  | .n w => w
  | .st w _ => w
  | .sg n => n
  | .rel w _ _ => w
  | .done w _ => w
  | _ => 0
def ggG : GgSt → Int
  | .rel _ g _ => g
  | .done _ g => g
  | _ => -1
def aqY (who : Int) : Rsys AcqSt := (aqM 0 1 who).sys
def rlY : Rsys RlSt := (rlM 0 1).sys
def ggNext (P T G who : Int) (st : GgSt) (a : Int) : GgSt :=
  match st with
  | .acq s => runs (aqY who) (fun _ => .f) .acq (aqNext s a)
  | .f => if a = 0 then .m else .n a
  | .n w => .st w a
  | .st w _ => .rel w (nOf w) .puts
  | .m => if a < G then .sg (a + 1) else .rel 0 (-1) .puts
  | .sg n => .rel n (nOf n) .puts
  | .rel w g s => runs rlY (fun _ => .done w g) (.rel w g) (rlNext s a)
  | .done w g => .done w g
def ggOwn (P T G who : Int) : GgSt → Nx
  | .f => .load (wordN 16) 143
  | .n w => .load (gg P T G (nOf w) 1) 168
  | .st _ n => .store (wordN 16) n 180
  | .m => .load (wordN 17) 167
  | .sg n => .store (wordN 17) n 180
  | _ => .done
def ggWant (P T G who : Int) : GgSt → Option Wnt
  | .acq s => (aqY who).want s
  | .rel _ _ s => rlY.want s
  | st => (ggOwn P T G who st).want
def ggY (P T G who : Int) : Rsys GgSt := ⟨ggWant P T G who, ggNext P T G who⟩
def ggOk (G : Int) : GgSt → Prop
  | .n w => Rng w
  | .st w n => Rng w ∧ Rng n
  | .sg n => 0 ≤ n ∧ n ≤ G
  | _ => True
def ggM (lo l : Nat) (P T G who : Int) : Mch2 GgSt Nat :=
  ⟨147, [147, 125, 123], fun st y => match st with
    | .acq s => .sub (aqS lo l 1 P T G who) y s 100
    | .rel _ _ s => .sub (rlS lo l 1 P T G who) y s 187
    | st => .own (ggOwn P T G who st),
   fun st _ => ggR l (ggWd st) (ggG st), fun _ _ _ => True, fun _ => [], ggY P T G who, ggOk G⟩
theorem gg_locked_run (x l : Nat) (P T G who : Int) (wd g : Int) (w : World)  (hp : Pend w x who (ggR l wd g) 147 .done) (hL : Lay w l P T G) :
    Calls Try.prog 100 #[.pointer (some ⟨x, 0, none⟩)] w fun e w' => (∃ r, e = .returned r) ∧ Pend w' x who (ggR l wd g) 147 (.load (wordN 16) 143) ∧ Kept [x] w w' := by
  have HI := hid (MI.start hp hL).drew
  have hf := hp.idle.frozen
  (have y0 := hp.idle.rest 0; have y1 := hp.idle.rest 1; have y2 := hp.idle.rest 2; simp only [ggR, Nat.reduceAdd, Nat.zero_add, List.getElem?_cons_zero, List.getElem?_cons_succ] at y0 y1 y2)
  clear hp hL
  go_enter Try.func100, Try.ntmps100
  go_wp2_with fail
  refine wp_region_T 10 (fun w' => MI w w' x who (ggR l wd g) 147 l P T G) (fun w' => Pend w' x who (ggR l wd g) 147 (.load (wordN 16) 143) ∧ Kept [x] w w') (by kernel_rfl) (by kernel_rfl) rfl (by kernel_rfl) HI.out ?_
  clear HI
  (repeat (first | (apply walkD_pure; rfl; rfl; (intro _; go_simp; first | done | rfl); (intro K hK; go_simp; refine hK _ ?_; clear hK K)) | (apply walkD_skip; rfl; rfl; (intro K hK; go_simp; refine hK _ ?_; clear hK K)) | (apply walkD_read1 [false] (by kernel_rfl); rfl; rfl; (intro w' hD; (have y0 := hD.pend.idle.rest 0; have y1 := hD.pend.idle.rest 1; have y2 := hD.pend.idle.rest 2; simp only [ggR, Nat.reduceAdd, Nat.zero_add, List.getElem?_cons_zero, List.getElem?_cons_succ] at y0 y1 y2); go_simp; rfl); (intro K hK; go_simp; refine hK _ ?_; clear hK K)) | (apply walkD_call1 [false] (by kernel_rfl); rfl; (intro _; go_simp; first | rfl | exact ⟨rfl, rfl⟩); (intro w' hD; first | (go_at_call 98; refine (proc_run _ _ _ _ _ _ _ hD.lay).mono ?_; rintro e w2 ⟨rfl, hb⟩; exact ⟨rfl, hD.quiet hb⟩) | (go_at_call 135; refine (thread_run _ _ _ _ _ _ _ hD.lay).mono ?_; rintro e w2 ⟨rfl, hb⟩; exact ⟨rfl, hD.quiet hb⟩) | (go_at_call 172; refine (ring_run _ _ _ _ _ _ (by assumption) _ hD.lay).mono ?_; rintro e w2 ⟨rfl, hb⟩; exact ⟨rfl, hD.quiet hb⟩) | (go_at_call 102; refine (g_run _ _ _ _ _ _ _ hD.lay).mono ?_; rintro e w2 ⟨rfl, hb⟩; exact ⟨rfl, hD.quiet hb⟩) | (go_at_call 92; refine (word_run _ 0 0 0 _ _).mono ?_; rintro e w2 ⟨rfl, rfl⟩; exact ⟨rfl, hD⟩) | (go_at_call 91; refine (iload_run hD.pend.idle _ _).mono ?_; rintro e w2 ⟨rfl, hP, hK⟩; exact ⟨rfl, hP, hD.kept.trans hK (by intro i hi; exact .inl hi)⟩) | (go_at_call 84; refine (iadd_run hD.pend.idle _ _ _).mono ?_; rintro e w2 ⟨rfl, hP, hK⟩; exact ⟨rfl, hP, hD.kept.trans hK (by intro i hi; exact .inl hi)⟩) | (go_at_call 88; refine (istore_run hD.pend.idle _ _ _).mono ?_; rintro e w2 ⟨rfl, hP, hK⟩; exact ⟨rfl, hP, hD.kept.trans hK (by intro i hi; exact .inl hi)⟩)); (intro K hK; go_simp; refine hK _ ?_; clear hK K))))
  (rintro w2 ⟨h1, h2⟩; go_wp2; go_returns; exact ⟨⟨_, rfl⟩, h1, h2⟩)
theorem gg_first0_run (x l : Nat) (P T G who : Int) (wd g : Int) (w : World)  (hp : Pend w x who (ggR l wd g) 147 .done) (hL : Lay w l P T G) :
    Calls Try.prog 143 #[.pointer (some ⟨x, 0, none⟩), .int .u64 0] w fun e w' => (∃ r, e = .returned r) ∧ Pend w' x who (ggR l wd g) 147 (.load (wordN 17) 167) ∧ Kept [x] w w' := by
  have HI := hid (MI.start hp hL).drew
  have hf := hp.idle.frozen
  (have y0 := hp.idle.rest 0; have y1 := hp.idle.rest 1; have y2 := hp.idle.rest 2; simp only [ggR, Nat.reduceAdd, Nat.zero_add, List.getElem?_cons_zero, List.getElem?_cons_succ] at y0 y1 y2)
  clear hp hL
  go_enter Try.func143, Try.ntmps143
  go_wp2_with fail
  refine wp_region_T 10 (fun w' => MI w w' x who (ggR l wd g) 147 l P T G) (fun w' => Pend w' x who (ggR l wd g) 147 (.load (wordN 17) 167) ∧ Kept [x] w w') (by kernel_rfl) (by kernel_rfl) rfl (by kernel_rfl) HI.out ?_
  clear HI
  (repeat (first | (apply walkD_pure; rfl; rfl; (intro _; go_simp; first | done | rfl); (intro K hK; go_simp; refine hK _ ?_; clear hK K)) | (apply walkD_skip; rfl; rfl; (intro K hK; go_simp; refine hK _ ?_; clear hK K)) | (apply walkD_read1 [false] (by kernel_rfl); rfl; rfl; (intro w' hD; (have y0 := hD.pend.idle.rest 0; have y1 := hD.pend.idle.rest 1; have y2 := hD.pend.idle.rest 2; simp only [ggR, Nat.reduceAdd, Nat.zero_add, List.getElem?_cons_zero, List.getElem?_cons_succ] at y0 y1 y2); go_simp; rfl); (intro K hK; go_simp; refine hK _ ?_; clear hK K)) | (apply walkD_call1 [false] (by kernel_rfl); rfl; (intro _; go_simp; first | rfl | exact ⟨rfl, rfl⟩); (intro w' hD; first | (go_at_call 98; refine (proc_run _ _ _ _ _ _ _ hD.lay).mono ?_; rintro e w2 ⟨rfl, hb⟩; exact ⟨rfl, hD.quiet hb⟩) | (go_at_call 135; refine (thread_run _ _ _ _ _ _ _ hD.lay).mono ?_; rintro e w2 ⟨rfl, hb⟩; exact ⟨rfl, hD.quiet hb⟩) | (go_at_call 172; refine (ring_run _ _ _ _ _ _ (by assumption) _ hD.lay).mono ?_; rintro e w2 ⟨rfl, hb⟩; exact ⟨rfl, hD.quiet hb⟩) | (go_at_call 102; refine (g_run _ _ _ _ _ _ _ hD.lay).mono ?_; rintro e w2 ⟨rfl, hb⟩; exact ⟨rfl, hD.quiet hb⟩) | (go_at_call 92; refine (word_run _ 0 0 0 _ _).mono ?_; rintro e w2 ⟨rfl, rfl⟩; exact ⟨rfl, hD⟩) | (go_at_call 91; refine (iload_run hD.pend.idle _ _).mono ?_; rintro e w2 ⟨rfl, hP, hK⟩; exact ⟨rfl, hP, hD.kept.trans hK (by intro i hi; exact .inl hi)⟩) | (go_at_call 84; refine (iadd_run hD.pend.idle _ _ _).mono ?_; rintro e w2 ⟨rfl, hP, hK⟩; exact ⟨rfl, hP, hD.kept.trans hK (by intro i hi; exact .inl hi)⟩) | (go_at_call 88; refine (istore_run hD.pend.idle _ _ _).mono ?_; rintro e w2 ⟨rfl, hP, hK⟩; exact ⟨rfl, hP, hD.kept.trans hK (by intro i hi; exact .inl hi)⟩)); (intro K hK; go_simp; refine hK _ ?_; clear hK K))))
  (rintro w2 ⟨h1, h2⟩; go_wp2; go_returns; exact ⟨⟨_, rfl⟩, h1, h2⟩)
theorem gg_first1_run (x l : Nat) (P T G who : Int) (wd g v : Int) (w : World) (hz : v ≠ 0) (hp : Pend w x who (ggR l wd g) 147 .done) (hL : Lay w l P T G) :
    Calls Try.prog 143 #[.pointer (some ⟨x, 0, none⟩), .int .u64 v] w fun e w' => (∃ r, e = .returned r) ∧ Pend w' x who (ggR l v g) 147 (.load (gg P T G (nOf v) 1) 168) ∧ Kept [x] w w' := by
  have q1 : ((v : Int) == 0) = false := by simpa using hz
  have m1 : IntKind.i64.wrap (IntKind.i64.wrap v - 1) = nOf v := rfl
  have m2 : wrap64 (wrap64 v - 1) = nOf v := by unfold nOf; simp only [IntWalk.i64_left]
  have HI := hid ((MI.start hp hL).put (by decide) 1 (.int .u64 v)).drew
  have hf := hp.idle.frozen
  (have y0 := hp.idle.rest 0; have y1 := hp.idle.rest 1; have y2 := hp.idle.rest 2; simp only [ggR, Nat.reduceAdd, Nat.zero_add, List.getElem?_cons_zero, List.getElem?_cons_succ] at y0 y1 y2)
  clear hp hL
  go_enter Try.func143, Try.ntmps143
  go_wp2_with fail
  refine wp_region_T 13 (fun w' => MI w w' x who (ggR l v g) 147 l P T G) (fun w' => Pend w' x who (ggR l v g) 147 (.load (gg P T G (nOf v) 1) 168) ∧ Kept [x] w w') (by kernel_rfl) (by kernel_rfl) rfl (by kernel_rfl) HI.out ?_
  clear HI
  (repeat (first | (apply walkD_pure; rfl; rfl; (intro _; go_simp; first | done | rfl); (intro K hK; go_simp; refine hK _ ?_; clear hK K)) | (apply walkD_skip; rfl; rfl; (intro K hK; go_simp; refine hK _ ?_; clear hK K)) | (apply walkD_read1 [false] (by kernel_rfl); rfl; rfl; (intro w' hD; (have y0 := hD.pend.idle.rest 0; have y1 := hD.pend.idle.rest 1; have y2 := hD.pend.idle.rest 2; simp only [ggR, Nat.reduceAdd, Nat.zero_add, List.getElem?_cons_zero, List.getElem?_cons_succ] at y0 y1 y2); go_simp; rfl); (intro K hK; go_simp; refine hK _ ?_; clear hK K)) | (apply walkD_call1 [false] (by kernel_rfl); rfl; (intro _; go_simp; first | rfl | exact ⟨rfl, rfl⟩); (intro w' hD; first | (go_at_call 98; refine (proc_run _ _ _ _ _ _ _ hD.lay).mono ?_; rintro e w2 ⟨rfl, hb⟩; exact ⟨rfl, hD.quiet hb⟩) | (go_at_call 135; refine (thread_run _ _ _ _ _ _ _ hD.lay).mono ?_; rintro e w2 ⟨rfl, hb⟩; exact ⟨rfl, hD.quiet hb⟩) | (go_at_call 172; refine (ring_run _ _ _ _ _ _ (by assumption) _ hD.lay).mono ?_; rintro e w2 ⟨rfl, hb⟩; exact ⟨rfl, hD.quiet hb⟩) | (go_at_call 102; refine (g_run _ _ _ _ _ _ _ hD.lay).mono ?_; rintro e w2 ⟨rfl, hb⟩; exact ⟨rfl, hD.quiet hb⟩) | (go_at_call 92; refine (word_run _ 0 0 0 _ _).mono ?_; rintro e w2 ⟨rfl, rfl⟩; exact ⟨rfl, hD⟩) | (go_at_call 91; refine (iload_run hD.pend.idle _ _).mono ?_; rintro e w2 ⟨rfl, hP, hK⟩; exact ⟨rfl, hP, hD.kept.trans hK (by intro i hi; exact .inl hi)⟩) | (go_at_call 84; refine (iadd_run hD.pend.idle _ _ _).mono ?_; rintro e w2 ⟨rfl, hP, hK⟩; exact ⟨rfl, hP, hD.kept.trans hK (by intro i hi; exact .inl hi)⟩) | (go_at_call 88; refine (istore_run hD.pend.idle _ _ _).mono ?_; rintro e w2 ⟨rfl, hP, hK⟩; exact ⟨rfl, hP, hD.kept.trans hK (by intro i hi; exact .inl hi)⟩)); (intro K hK; go_simp; refine hK _ ?_; clear hK K))))
  (rintro w2 ⟨h1, h2⟩; go_wp2; go_returns; exact ⟨⟨_, rfl⟩, h1, h2⟩)
theorem gg_next_run (x l : Nat) (P T G who : Int) (wd g v : Int) (w : World)  (hp : Pend w x who (ggR l wd g) 147 .done) (hL : Lay w l P T G) :
    Calls Try.prog 168 #[.pointer (some ⟨x, 0, none⟩), .int .u64 v] w fun e w' => (∃ r, e = .returned r) ∧ Pend w' x who (ggR l wd g) 147 (.store (wordN 16) v 180) ∧ Kept [x] w w' := by
  have HI := hid (MI.start hp hL).drew
  have hf := hp.idle.frozen
  (have y0 := hp.idle.rest 0; have y1 := hp.idle.rest 1; have y2 := hp.idle.rest 2; simp only [ggR, Nat.reduceAdd, Nat.zero_add, List.getElem?_cons_zero, List.getElem?_cons_succ] at y0 y1 y2)
  clear hp hL
  go_enter Try.func168, Try.ntmps168
  go_wp2_with fail
  refine wp_region_T 11 (fun w' => MI w w' x who (ggR l wd g) 147 l P T G) (fun w' => Pend w' x who (ggR l wd g) 147 (.store (wordN 16) v 180) ∧ Kept [x] w w') (by kernel_rfl) (by kernel_rfl) rfl (by kernel_rfl) HI.out ?_
  clear HI
  (repeat (first | (apply walkD_pure; rfl; rfl; (intro _; go_simp; first | done | rfl); (intro K hK; go_simp; refine hK _ ?_; clear hK K)) | (apply walkD_skip; rfl; rfl; (intro K hK; go_simp; refine hK _ ?_; clear hK K)) | (apply walkD_read1 [false] (by kernel_rfl); rfl; rfl; (intro w' hD; (have y0 := hD.pend.idle.rest 0; have y1 := hD.pend.idle.rest 1; have y2 := hD.pend.idle.rest 2; simp only [ggR, Nat.reduceAdd, Nat.zero_add, List.getElem?_cons_zero, List.getElem?_cons_succ] at y0 y1 y2); go_simp; rfl); (intro K hK; go_simp; refine hK _ ?_; clear hK K)) | (apply walkD_call1 [false] (by kernel_rfl); rfl; (intro _; go_simp; first | rfl | exact ⟨rfl, rfl⟩); (intro w' hD; first | (go_at_call 98; refine (proc_run _ _ _ _ _ _ _ hD.lay).mono ?_; rintro e w2 ⟨rfl, hb⟩; exact ⟨rfl, hD.quiet hb⟩) | (go_at_call 135; refine (thread_run _ _ _ _ _ _ _ hD.lay).mono ?_; rintro e w2 ⟨rfl, hb⟩; exact ⟨rfl, hD.quiet hb⟩) | (go_at_call 172; refine (ring_run _ _ _ _ _ _ (by assumption) _ hD.lay).mono ?_; rintro e w2 ⟨rfl, hb⟩; exact ⟨rfl, hD.quiet hb⟩) | (go_at_call 102; refine (g_run _ _ _ _ _ _ _ hD.lay).mono ?_; rintro e w2 ⟨rfl, hb⟩; exact ⟨rfl, hD.quiet hb⟩) | (go_at_call 92; refine (word_run _ 0 0 0 _ _).mono ?_; rintro e w2 ⟨rfl, rfl⟩; exact ⟨rfl, hD⟩) | (go_at_call 91; refine (iload_run hD.pend.idle _ _).mono ?_; rintro e w2 ⟨rfl, hP, hK⟩; exact ⟨rfl, hP, hD.kept.trans hK (by intro i hi; exact .inl hi)⟩) | (go_at_call 84; refine (iadd_run hD.pend.idle _ _ _).mono ?_; rintro e w2 ⟨rfl, hP, hK⟩; exact ⟨rfl, hP, hD.kept.trans hK (by intro i hi; exact .inl hi)⟩) | (go_at_call 88; refine (istore_run hD.pend.idle _ _ _).mono ?_; rintro e w2 ⟨rfl, hP, hK⟩; exact ⟨rfl, hP, hD.kept.trans hK (by intro i hi; exact .inl hi)⟩)); (intro K hK; go_simp; refine hK _ ?_; clear hK K))))
  (rintro w2 ⟨h1, h2⟩; go_wp2; go_returns; exact ⟨⟨_, rfl⟩, h1, h2⟩)
theorem gg_leaves_run (x l lo : Nat) (P T G who : Int) (wd g : Int) (w : World)  (hlo : lo ≤ w.heap.size) (hp : Pend w x who (ggR l wd g) 147 .done) (hL : Lay w l P T G) :
    Calls Try.prog 179 #[.pointer (some ⟨x, 0, none⟩)] w fun e w' => (∃ r, e = .returned r) ∧ (∃ y, Pend2 w' x who (ggR l wd g) 147 (.sub (rlS lo l 1 P T G who) y .puts 187)) ∧ Kept [x] w w' := by
  have SW := hid (show (rlS lo l 1 P T G who).sys.want .puts ≠ none by exact fun h => by cases h)
  have HI0 := hid (MI.start hp hL)
  have HI := hid (MI.drewS (N := w.heap.size) HI0.out (by first | rfl | simp))
  clear HI0
  have hf := hp.idle.frozen
  (have y0 := hp.idle.rest 0; have y1 := hp.idle.rest 1; have y2 := hp.idle.rest 2; simp only [ggR, Nat.reduceAdd, Nat.zero_add, List.getElem?_cons_zero, List.getElem?_cons_succ] at y0 y1 y2)
  clear hp hL
  go_enter Try.func179, Try.ntmps179
  go_wp2_with fail
  refine wp_region_D [11, 15] (tcl2 (fun w' => MI w w' x who (ggR l wd g) 147 l P T G ∧ w'.heap.size = w.heap.size) (fun w' => MI w w' x who (ggR l wd g) 147 l P T G ∧ (rlS lo l 1 P T G who).at_ w' w.heap.size .puts) (fun w' => Pend2 w' x who (ggR l wd g) 147 (.sub (rlS lo l 1 P T G who) w.heap.size .puts 187) ∧ Kept [x] w w')) (by kernel_rfl) (by kernel_rfl) rfl (by kernel_rfl) HI.out ?_
  clear HI
  repeat (first | (apply walkD_pure; rfl; rfl; (intro _; go_simp; first | done | rfl); (intro K hK; go_simp; refine hK _ ?_; clear hK K)) | (apply walkD_skip; rfl; rfl; (intro K hK; go_simp; refine hK _ ?_; clear hK K)) | (apply walkD_read1 [false, false] (by kernel_rfl); rfl; rfl; (intro w' hD; (have y0 := hD.1.pend.idle.rest 0; have y1 := hD.1.pend.idle.rest 1; have y2 := hD.1.pend.idle.rest 2; simp only [ggR, Nat.reduceAdd, Nat.zero_add, List.getElem?_cons_zero, List.getElem?_cons_succ] at y0 y1 y2); go_simp; rfl); (intro K hK; go_simp; refine hK _ ?_; clear hK K)) | (apply walkD_call1 [false, false] (by kernel_rfl); rfl; (intro _; go_simp; first | rfl | exact ⟨rfl, rfl⟩); (intro w' hD; first | (go_at_call 159; refine (ifwho_run hD.1.pend).mono ?_; rintro e w2 ⟨rfl, rfl⟩; exact ⟨rfl, hD⟩) | (go_at_call 20; have q := rl_made lo l 1 P T G who w' hD.1.lay (by rw [hD.2]; exact hlo); rw [hD.2] at q; refine q.mono ?_; rintro e w2 ⟨rfl, hA, hb⟩; exact ⟨rfl, hD.1.quiet (by rw [hD.2]; exact hb), hA⟩)); (intro K hK; go_simp; refine hK _ ?_; clear hK K)) | (apply walkD_call1 [true, false] (by kernel_rfl); rfl; (intro _; go_simp; first | rfl | exact ⟨rfl, rfl⟩); (intro w' hD; go_at_call 99; refine (irun_run (S := rlS lo l 1 P T G who) (rl_sub lo l 1 P T G who) hD.1.pend hD.2 SW.out (of_decide_eq_true rfl)).mono ?_; rintro e w2 ⟨rfl, h1, h2, h3⟩; exact ⟨rfl, ⟨h1, h2, SW.out⟩, hD.1.kept.trans h3 (by intro i hi; exact .inl hi)⟩); (intro K hK; go_simp; refine hK _ ?_; clear hK K)))
  rintro w2 ⟨h1, h2⟩
  go_wp2
  go_returns
  exact ⟨⟨_, rfl⟩, ⟨_, h1⟩, h2⟩
theorem gg_new_run (l lo : Nat) (P T G who : Int)  (w : World) (hw : 0 ≤ who ∧ who ≤ 1000) (hlo : lo ≤ w.heap.size) (hL : Lay w l P T G) :
    Calls Try.prog 41 #[.pointer (some ⟨l, 0, none⟩), .int .i64 who] w fun e w' => e = .returned (.pointer (some ⟨w.heap.size, 0, none⟩)) ∧ (∃ y, Pend2 w' w.heap.size who (ggR l 0 (-1)) 147 (.sub (aqS lo l 1 P T G who) y .ask 100)) ∧ Below w.heap.size w w' := by
  have h0 : FlAt (w.alloc (.cells (fl fl0 ++ ggR l 0 (-1)).toArray 147)) w.heap.size fl0 (ggR l 0 (-1)) 147 := Blk.new w _ _
  have hL0 := hL.quiet (below_one w (.cells (fl fl0 ++ ggR l 0 (-1)).toArray 147))
  have hlx : l ≠ w.heap.size := Nat.ne_of_lt hL.1.lt
  clear hL
  have SW := hid (show (aqS lo l 1 P T G who).sys.want .ask ≠ none by exact fun h => by cases h)
  go_enter Try.func41, Try.ntmps41
  go_wp2_with fail
  refine (iof_run h0 who).mono ?_
  rintro e wB ⟨rfl, hp, hK⟩
  have hL1 := hL0.kept hK (by simpa using hlx)
  have hlow : Below w.heap.size w wB := (below_one _ _).trans (hK.below (by simp) (by simp))
  have hlo := Nat.le_trans hlo hlow.size
  clear h0 hL0 hK
  obtain ⟨x0, hx0⟩ : ∃ x0, x0 = w.heap.size := ⟨_, rfl⟩
  rw [← hx0] at hp hlow ⊢
  have HX0 := hid hx0
  clear hx0
  have HI := hid (MI.drewS (N := wB.heap.size) (MI.start hp hL1) rfl)
  clear hp hL1
  go_wp2_with fail
  refine wp_region_D [5, 9] (tcl2 (fun w' => MI wB w' x0 who (ggR l 0 (-1)) 147 l P T G ∧ w'.heap.size = wB.heap.size) (fun w' => MI wB w' x0 who (ggR l 0 (-1)) 147 l P T G ∧ (aqS lo l 1 P T G who).at_ w' wB.heap.size .ask) (fun w' => Pend2 w' x0 who (ggR l 0 (-1)) 147 (.sub (aqS lo l 1 P T G who) wB.heap.size .ask 100) ∧ Kept [x0] wB w')) (by kernel_rfl) (by kernel_rfl) rfl (by kernel_rfl) HI.out ?_
  clear HI
  repeat (first | (apply walkD_pure; rfl; rfl; (intro _; go_simp; first | done | rfl); (intro K hK; go_simp; refine hK _ ?_; clear hK K)) | (apply walkD_skip; rfl; rfl; (intro K hK; go_simp; refine hK _ ?_; clear hK K)) | (apply walkD_read1 [false, false] (by kernel_rfl); rfl; rfl; (intro w' hD; (have y0 := hD.1.pend.idle.rest 0; have y1 := hD.1.pend.idle.rest 1; have y2 := hD.1.pend.idle.rest 2; simp only [ggR, Nat.reduceAdd, Nat.zero_add, List.getElem?_cons_zero, List.getElem?_cons_succ] at y0 y1 y2); go_simp; rfl); (intro K hK; go_simp; refine hK _ ?_; clear hK K)) | (apply walkD_call1 [false, false] (by kernel_rfl); rfl; (intro _; go_simp; first | rfl | exact ⟨rfl, rfl⟩); (intro w' hD; first | (go_at_call 159; refine (ifwho_run hD.1.pend).mono ?_; rintro e w2 ⟨rfl, rfl⟩; exact ⟨rfl, hD⟩) | (go_at_call 15; have q := aq_made lo l 1 P T G who w' hD.1.lay (by rw [hD.2]; exact hlo); rw [hD.2] at q; refine q.mono ?_; rintro e w2 ⟨rfl, hA, hb⟩; exact ⟨rfl, hD.1.quiet (by rw [hD.2]; exact hb), hA⟩)); (intro K hK; go_simp; refine hK _ ?_; clear hK K)) | (apply walkD_call1 [true, false] (by kernel_rfl); rfl; (intro _; go_simp; first | rfl | exact ⟨rfl, rfl⟩); (intro w' hD; go_at_call 99; refine (irun_run (S := aqS lo l 1 P T G who) (aq_sub lo l 1 P T G who hw) hD.1.pend hD.2 SW.out (of_decide_eq_true rfl)).mono ?_; rintro e w2 ⟨rfl, h1, h2, h3⟩; exact ⟨rfl, ⟨h1, h2, SW.out⟩, hD.1.kept.trans h3 (by intro i hi; exact .inl hi)⟩); (intro K hK; go_simp; refine hK _ ?_; clear hK K)))
  rintro w2 ⟨h1, h2⟩
  go_wp2
  obtain rfl := HX0.out
  go_ret
  exact ⟨rfl, ⟨_, h1⟩, hlow.trans (h2.below (by simp) hlow.size)⟩
theorem gg_thruD : ThruD 50 := by
  intro x o w H
  have H := hid H
  go_enter Try.func50, Try.ntmps50
  go_wp2_with fail
  refine H.out.mono ?_
  rintro e w1 ⟨rfl, rfl⟩
  go_wp2
  go_ret
  exact ⟨rfl, rfl⟩
theorem ggstep_nil (m : Option Addr) (w : World) : Calls Try.prog 42 #[.pointer none, .pointer m] w fun e w' => e = .returned (.bool true) ∧ w = w' := by
  go_enter Try.func42, Try.ntmps42
  go_wp2
  go_ret
  exact ⟨rfl, rfl⟩
theorem ggdone_nil (w : World) : Calls Try.prog 50 #[.pointer none] w fun e w' => e = .returned (.bool true) ∧ w = w' := by
  go_enter Try.func50, Try.ntmps50
  go_wp2
  go_ret
  exact ⟨rfl, rfl⟩
theorem gg_step : StepOf 65 42 := ⟨fun y w => rfl, enters_of Try.func42 (by kernel_rfl) rfl⟩
theorem gg_quiet : NoSleeper 65 := fun y w => run_typeAssert_lacksB Try.underlying187 (by kernel_rfl) (by kernel_rfl) _ _ w
theorem gg_thru : Thru 42 := by
  intro x m o w R H
  have H := hid H
  go_enter Try.func42, Try.ntmps42
  go_wp2_with fail
  refine H.out.mono ?_
  rintro e w1 ⟨rfl, h1⟩
  have HX := hid h1
  clear h1
  go_wp2
  go_ret
  exact ⟨rfl, HX.out⟩
theorem gg_taken_run (x l lo : Nat) (P T G who : Int) (wd g : Int) (w : World) (hlo : lo ≤ w.heap.size) (hp : Pend w x who (ggR l wd g) 147 .done) (hL : Lay w l P T G) :
    Calls Try.prog 180 #[.pointer (some ⟨x, 0, none⟩)] w fun e w' => (∃ r, e = .returned r) ∧ (∃ y, Pend2 w' x who (ggR l wd (nOf wd)) 147 (.sub (rlS lo l 1 P T G who) y .puts 187)) ∧ Kept [x] w w' := by
  have n1 : IntKind.i64.wrap (IntKind.i64.wrap wd - 1) = nOf wd := rfl
  have n2 : wrap64 (wrap64 wd - 1) = nOf wd := by unfold nOf; simp only [IntWalk.i64_left]
  have HI := hid ((MI.start hp hL).put (by decide) 2 (.int .i64 (nOf wd)))
  have hf := hp.idle.frozen
  (have y0 := hp.idle.rest 0; have y1 := hp.idle.rest 1; have y2 := hp.idle.rest 2; simp only [ggR, Nat.reduceAdd, Nat.zero_add, List.getElem?_cons_zero, List.getElem?_cons_succ] at y0 y1 y2)
  clear hp hL
  go_enter Try.func180, Try.ntmps180
  go_wp2_with fail
  refine (gg_leaves_run x l lo P T G who wd (nOf wd) _ (by simpa using hlo) HI.out.pend HI.out.lay).mono ?_
  rintro e w2 ⟨⟨r, rfl⟩, hy, hK⟩
  have HX := hid (And.intro hy (HI.out.kept.trans hK (by intro i hi; exact .inl hi)))
  clear HI hy hK
  go_wp2
  go_returns
  exact ⟨⟨_, rfl⟩, HX.out⟩
theorem gg_more_yes (x l : Nat) (P T G who : Int) (wd g v : Int) (w : World) (hv : 0 ≤ v ∧ v < G) (hp : Pend w x who (ggR l wd g) 147 .done) (hL : Lay w l P T G) :
    Calls Try.prog 167 #[.pointer (some ⟨x, 0, none⟩), .int .u64 v] w fun e w' => (∃ r, e = .returned r) ∧ Pend w' x who (ggR l (v + 1) g) 147 (.store (wordN 17) (v + 1) 180) ∧ Kept [x] w w' := by
  have hR := hL.2
  unfold Right at hR
  have n1 : IntKind.u64.wrap G = G := by rw [IntKind.wrap_u64]; omega
  have n2 : IntKind.u64.wrap (v + 1) = v + 1 := by rw [IntKind.wrap_u64]; omega
  have d1 : decide (G ≤ v) = false := decide_eq_false (by omega)
  have hc0 := cfg_field2
  have y1 := hp.idle.rest 0
  simp only [ggR, Nat.zero_add, List.getElem?_cons_zero] at y1
  have HP := hid (And.intro hp hL)
  clear hp hL hR
  go_enter Try.func167, Try.ntmps167
  go_wp2_with fail
  refine (config_run l P T G w HP.out.2).mono ?_
  rintro e w1 ⟨rfl, hb⟩
  have HI0 : MI w w1 x who (ggR l wd g) 147 l P T G := ⟨HP.out.1.quiet hb, HP.out.2.quiet hb, Kept.of_below hb _⟩
  have HI := hid (HI0.put (by decide) 1 (.int .u64 (v + 1))).drew
  have hf := HI0.pend.idle.frozen
  have hp := HI0.pend
  (have y0 := hp.idle.rest 0; have y1 := hp.idle.rest 1; have y2 := hp.idle.rest 2; simp only [ggR, Nat.reduceAdd, Nat.zero_add, List.getElem?_cons_zero, List.getElem?_cons_succ] at y0 y1 y2)
  clear hp HI0 hb HP
  go_wp2_with fail
  refine wp_region_T 12 (fun w' => MI w w' x who (ggR l (v + 1) g) 147 l P T G) (fun w' => Pend w' x who (ggR l (v + 1) g) 147 (.store (wordN 17) (v + 1) 180) ∧ Kept [x] w w') (by kernel_rfl) (by kernel_rfl) rfl (by kernel_rfl) HI.out ?_
  clear HI
  (repeat (first | (apply walkD_pure; rfl; rfl; (intro _; go_simp; first | done | rfl); (intro K hK; go_simp; refine hK _ ?_; clear hK K)) | (apply walkD_skip; rfl; rfl; (intro K hK; go_simp; refine hK _ ?_; clear hK K)) | (apply walkD_read1 [false] (by kernel_rfl); rfl; rfl; (intro w' hD; (have y0 := hD.pend.idle.rest 0; have y1 := hD.pend.idle.rest 1; have y2 := hD.pend.idle.rest 2; simp only [ggR, Nat.reduceAdd, Nat.zero_add, List.getElem?_cons_zero, List.getElem?_cons_succ] at y0 y1 y2); go_simp; rfl); (intro K hK; go_simp; refine hK _ ?_; clear hK K)) | (apply walkD_call1 [false] (by kernel_rfl); rfl; (intro _; go_simp; first | rfl | exact ⟨rfl, rfl⟩); (intro w' hD; first | (go_at_call 98; refine (proc_run _ _ _ _ _ _ _ hD.lay).mono ?_; rintro e w2 ⟨rfl, hb⟩; exact ⟨rfl, hD.quiet hb⟩) | (go_at_call 135; refine (thread_run _ _ _ _ _ _ _ hD.lay).mono ?_; rintro e w2 ⟨rfl, hb⟩; exact ⟨rfl, hD.quiet hb⟩) | (go_at_call 172; refine (ring_run _ _ _ _ _ _ (by assumption) _ hD.lay).mono ?_; rintro e w2 ⟨rfl, hb⟩; exact ⟨rfl, hD.quiet hb⟩) | (go_at_call 102; refine (g_run _ _ _ _ _ _ _ hD.lay).mono ?_; rintro e w2 ⟨rfl, hb⟩; exact ⟨rfl, hD.quiet hb⟩) | (go_at_call 92; refine (word_run _ 0 0 0 _ _).mono ?_; rintro e w2 ⟨rfl, rfl⟩; exact ⟨rfl, hD⟩) | (go_at_call 91; refine (iload_run hD.pend.idle _ _).mono ?_; rintro e w2 ⟨rfl, hP, hK⟩; exact ⟨rfl, hP, hD.kept.trans hK (by intro i hi; exact .inl hi)⟩) | (go_at_call 84; refine (iadd_run hD.pend.idle _ _ _).mono ?_; rintro e w2 ⟨rfl, hP, hK⟩; exact ⟨rfl, hP, hD.kept.trans hK (by intro i hi; exact .inl hi)⟩) | (go_at_call 88; refine (istore_run hD.pend.idle _ _ _).mono ?_; rintro e w2 ⟨rfl, hP, hK⟩; exact ⟨rfl, hP, hD.kept.trans hK (by intro i hi; exact .inl hi)⟩)); (intro K hK; go_simp; refine hK _ ?_; clear hK K))))
  (rintro w2 ⟨h1, h2⟩; go_wp2; go_returns; exact ⟨⟨_, rfl⟩, h1, h2⟩)
theorem gg_more_no (x l lo : Nat) (P T G who : Int) (wd g v : Int) (w : World) (hv : ¬ v < G) (hlo : lo ≤ w.heap.size) (hp : Pend w x who (ggR l wd g) 147 .done) (hL : Lay w l P T G) :
    Calls Try.prog 167 #[.pointer (some ⟨x, 0, none⟩), .int .u64 v] w fun e w' => (∃ r, e = .returned r) ∧ (∃ y, Pend2 w' x who (ggR l wd g) 147 (.sub (rlS lo l 1 P T G who) y .puts 187)) ∧ Kept [x] w w' := by
  have hR := hL.2
  unfold Right at hR
  have n1 : IntKind.u64.wrap G = G := by rw [IntKind.wrap_u64]; omega
  have d1 : decide (G ≤ v) = true := decide_eq_true (by omega)
  have hc0 := cfg_field2
  have y1 := hp.idle.rest 0
  simp only [ggR, Nat.zero_add, List.getElem?_cons_zero] at y1
  have HP := hid (And.intro hp hL)
  clear hp hL hR
  go_enter Try.func167, Try.ntmps167
  go_wp2_with fail
  refine (config_run l P T G w HP.out.2).mono ?_
  rintro e w1 ⟨rfl, hb⟩
  have HI := hid (And.intro (HP.out.1.quiet hb) (And.intro (HP.out.2.quiet hb) (And.intro (Kept.of_below hb [x]) (Nat.le_trans hlo hb.size))))
  clear hb HP
  go_wp2_with fail
  refine (gg_leaves_run x l lo P T G who wd g _ HI.out.2.2.2 HI.out.1 HI.out.2.1).mono ?_
  rintro e w2 ⟨⟨r, rfl⟩, hy, hK⟩
  have HX := hid (And.intro hy (HI.out.2.2.1.trans hK (by intro i hi; exact .inl hi)))
  clear HI hy hK
  go_wp2
  go_returns
  exact ⟨⟨_, rfl⟩, HX.out⟩
theorem gg_ends_run (x : Value) (w : World) : Calls Try.prog 187 #[x] w fun e w' => (∃ r, e = .returned r) ∧ w = w' := by
  go_enter Try.func187, Try.ntmps187
  go_wp2
  go_returns
  exact ⟨⟨_, rfl⟩, rfl⟩
theorem gg_own (lo l : Nat) (P T G who : Int) : ∀ Ty ∈ rdT (ggM lo l P T G who).wr, Ty ∉ theirs := by
  show ∀ Ty ∈ rdT [147, 125, 123], Ty ∉ theirs
  decide
theorem gg_goes (lo l x : Nat) (P T G who : Int) (hw : 0 ≤ who ∧ who ≤ 1000) (hG : 0 ≤ G ∧ G ≤ 100000) : Goes2 (ggM lo l P T G who) lo l x P T G who := by
  refine ⟨gg_own lo l P T G who, by simp [ggM], by show 1 ∉ [147, 125, 123] ∧ 999999 ∉ [147, 125, 123] ∧ 172 ∉ [147, 125, 123]; decide, fun st T hT => absurd (show T ∈ [] from hT) (by simp), ?_, ?_, fun _ _ _ _ _ _ _ _ => trivial, ?_⟩
  · intro st a hok ha
    show ggOk G (ggNext P T G who st a)
    have ha' := ha
    obtain ⟨a0, a1⟩ := ha
    cases st with
    | acq s => unfold ggNext runs; simp only; split <;> trivial
    | f => unfold ggNext; simp only; split; trivial; exact ha'
    | n w => exact ⟨hok, ha'⟩
    | st w n => trivial
    | m => unfold ggNext; simp only; split; exact ⟨by omega, by omega⟩; trivial
    | sg n => trivial
    | rel w g s => unfold ggNext runs; simp only; split <;> trivial
    | done w g => trivial
  · intro st e
    cases st <;> rfl
  · intro st e hok
    cases st with
    | acq s =>
      refine ⟨aq_sub lo l 1 P T G who hw, ?_, enters_of Try.func100 (by kernel_rfl) rfl, ?_⟩
      · show ∀ T ∈ [125], T ∈ [147, 125, 123] ∧ T ≠ 147 ∧ T ∉ []
        decide
      intro a ha
      refine ⟨?_, ?_⟩
      · intro hn
        have e1 : ggNext P T G who (.acq s) a = .acq (aqNext s a) := runs_on (M := aqY who) (k := fun _ => GgSt.f) (emb := GgSt.acq) (s := aqNext s a) hn
        refine ⟨?_, ?_, fun _ _ => trivial⟩
        · show (ggM lo l P T G who).nx (ggNext P T G who (.acq s) a) e = _
          rw [e1]; rfl
        · show (ggM lo l P T G who).rest (ggNext P T G who (.acq s) a) e = _
          rw [e1]; rfl
      · intro hn w hlo hp hA hi hL
        have e1 : ggNext P T G who (.acq s) a = .f := runs_off (M := aqY who) (k := fun _ => GgSt.f) (emb := GgSt.acq) (s := aqNext s a) hn
        refine (gg_locked_run x l P T G who 0 (-1) w hp hL).mono ?_
        rintro e2 w' ⟨he, h1, h2⟩
        refine ⟨he, ⟨e, ?_⟩, h2⟩
        show (ggM lo l P T G who).is_ x who w' (ggNext P T G who (.acq s) a) e
        rw [e1]
        exact ⟨h1, trivial⟩
    | f =>
      refine .inr ⟨⟨by show (0 : Int) ≤ 0; omega, by show (0 : Int) < _; omega⟩, enters_of Try.func143 (by kernel_rfl) rfl, ?_⟩
      intro a w ha hlo hp hi hL
      by_cases hz : a = 0
      · subst hz
        refine (gg_first0_run x l P T G who 0 (-1) w hp hL).mono ?_
        rintro e2 w' ⟨he, h1, h2⟩
        exact ⟨he, ⟨e, h1, trivial⟩, h2⟩
      · have e1 : ggNext P T G who .f a = .n a := if_neg hz
        refine (gg_first1_run x l P T G who 0 (-1) a w hz hp hL).mono ?_
        rintro e2 w' ⟨he, h1, h2⟩
        refine ⟨he, ⟨e, ?_⟩, h2⟩
        show (ggM lo l P T G who).is_ x who w' (ggNext P T G who .f a) e
        rw [e1]
        exact ⟨h1, trivial⟩
    | n w1 =>
      refine .inr ⟨⟨by show (0 : Int) ≤ 0; omega, by show (0 : Int) < _; omega⟩, enters_of Try.func168 (by kernel_rfl) rfl, ?_⟩
      intro a w ha hlo hp hi hL
      refine (gg_next_run x l P T G who w1 (-1) a w hp hL).mono ?_
      rintro e2 w' ⟨he, h1, h2⟩
      exact ⟨he, ⟨e, h1, trivial⟩, h2⟩
    | st w1 n =>
      refine .inr ⟨hok.2, enters_of Try.func180 (by kernel_rfl) rfl, ?_⟩
      intro a w ha hlo hp hi hL
      refine (gg_taken_run x l lo P T G who w1 (-1) w hlo hp hL).mono ?_
      rintro e2 w' ⟨he, ⟨y, h1⟩, h2⟩
      exact ⟨he, ⟨y, h1, trivial⟩, h2⟩
    | m =>
      refine .inr ⟨⟨by show (0 : Int) ≤ 0; omega, by show (0 : Int) < _; omega⟩, enters_of Try.func167 (by kernel_rfl) rfl, ?_⟩
      intro a w ha hlo hp hi hL
      by_cases hz : a < G
      · have e1 : ggNext P T G who .m a = .sg (a + 1) := if_pos hz
        refine (gg_more_yes x l P T G who 0 (-1) a w ⟨ha.1, hz⟩ hp hL).mono ?_
        rintro e2 w' ⟨he, h1, h2⟩
        refine ⟨he, ⟨e, ?_⟩, h2⟩
        show (ggM lo l P T G who).is_ x who w' (ggNext P T G who .m a) e
        rw [e1]
        exact ⟨h1, trivial⟩
      · have e1 : ggNext P T G who .m a = .rel 0 (-1) .puts := if_neg hz
        refine (gg_more_no x l lo P T G who 0 (-1) a w hz hlo hp hL).mono ?_
        rintro e2 w' ⟨he, ⟨y, h1⟩, h2⟩
        refine ⟨he, ⟨y, ?_⟩, h2⟩
        show (ggM lo l P T G who).is_ x who w' (ggNext P T G who .m a) y
        rw [e1]
        exact ⟨h1, trivial⟩
    | sg n =>
      refine .inr ⟨?_, enters_of Try.func180 (by kernel_rfl) rfl, ?_⟩
      · have h1 : 0 ≤ n ∧ n ≤ G := hok
        exact ⟨h1.1, by show n < _; omega⟩
      intro a w ha hlo hp hi hL
      refine (gg_taken_run x l lo P T G who n (-1) w hlo hp hL).mono ?_
      rintro e2 w' ⟨he, ⟨y, h1⟩, h2⟩
      exact ⟨he, ⟨y, h1, trivial⟩, h2⟩
    | rel w1 g1 s =>
      refine ⟨rl_sub lo l 1 P T G who, ?_, enters_of Try.func187 (by kernel_rfl) rfl, ?_⟩
      · show ∀ T ∈ [123], T ∈ [147, 125, 123] ∧ T ≠ 147 ∧ T ∉ []
        decide
      intro a ha
      refine ⟨?_, ?_⟩
      · intro hn
        have e1 : ggNext P T G who (.rel w1 g1 s) a = .rel w1 g1 (rlNext s a) := runs_on (M := rlY) (k := fun _ => GgSt.done w1 g1) (emb := GgSt.rel w1 g1) (s := rlNext s a) hn
        refine ⟨?_, ?_, fun _ _ => trivial⟩
        · show (ggM lo l P T G who).nx (ggNext P T G who (.rel w1 g1 s) a) e = _
          rw [e1]; rfl
        · show (ggM lo l P T G who).rest (ggNext P T G who (.rel w1 g1 s) a) e = _
          rw [e1]; rfl
      · intro hn w hlo hp hA hi hL
        have e1 : ggNext P T G who (.rel w1 g1 s) a = .done w1 g1 := runs_off (M := rlY) (k := fun _ => GgSt.done w1 g1) (emb := GgSt.rel w1 g1) (s := rlNext s a) hn
        refine (gg_ends_run _ w).mono ?_
        rintro e2 w' ⟨he, rfl⟩
        refine ⟨he, ⟨e, ?_⟩, Kept.refl _ _⟩
        show (ggM lo l P T G who).is_ x who w (ggNext P T G who (.rel w1 g1 s) a) e
        rw [e1]
        exact ⟨hp, trivial⟩
    | done w1 g1 => exact .inl rfl
theorem gg_made (l lo : Nat) (P T G who : Int) (w : World) (hw : 0 ≤ who ∧ who ≤ 1000) (hlo : lo ≤ w.heap.size) (hL : Lay w l P T G) :
    Calls Try.prog 41 #[.pointer (some ⟨l, 0, none⟩), .int .i64 who] w fun e w' => e = .returned (.pointer (some ⟨w.heap.size, 0, none⟩)) ∧ (∃ y, (ggM lo l P T G who).is_ w.heap.size who w' (.acq .ask) y) ∧ Below w.heap.size w w' := by
  refine (gg_new_run l lo P T G who w hw hlo hL).mono ?_
  rintro e w' ⟨rfl, ⟨y, h1⟩, h2⟩
  exact ⟨rfl, ⟨y, h1, trivial⟩, h2⟩
theorem gg_g_run {lo l x : Nat} {P T G who : Int} {st : GgSt} {w : World} (hA : (ggM lo l P T G who).at_ lo l x P T G who w st) :
    Calls Try.prog 43 #[.pointer (some ⟨x, 0, none⟩)] w fun e w' => e = .returned (.int .i64 (ggG st)) ∧ w = w' := by
  obtain ⟨⟨y, hp, _⟩, _⟩ := hA
  have y2 := hp.rest_ 2
  simp only [ggM, ggR, Nat.reduceAdd, List.getElem?_cons_zero, List.getElem?_cons_succ] at y2
  clear hp
  go_enter Try.func43, Try.ntmps43
  go_wp2
  go_ret
  exact ⟨rfl, rfl⟩
theorem gg_g_nil (w : World) : Calls Try.prog 43 #[.pointer none] w fun e w' => e = .returned (.int .i64 (-1)) ∧ w = w' := by
  go_enter Try.func43, Try.ntmps43
  go_wp2
  go_ret
  exact ⟨rfl, rfl⟩
def gpR (l : Nat) (g : Int) : List Value := [.pointer (some ⟨l, 0, none⟩), .int .i64 g]
inductive GpSt
  | acq (s : AcqSt)
  | f
  | ln (w : Int)
  | ly
  | rel (s : RlSt)
  | done
def gpNext (who : Int) (st : GpSt) (a : Int) : GpSt :=
  match st with
  | .acq s => runs (aqY who) (fun _ => .f) .acq (aqNext s a)
  | .f => .ln a
  | .ln _ => .ly
  | .ly => .rel .puts
  | .rel s => runs rlY (fun _ => .done) .rel (rlNext s a)
  | .done => .done
def gpOwn (P T G g : Int) : GpSt → Nx
  | .f => .load (wordN 16) 144
  | .ln w => .store (gg P T G g 1) w 169
  | .ly => .store (wordN 16) (g + 1) 181
  | _ => .done
def gpWant (P T G who g : Int) : GpSt → Option Wnt
  | .acq s => (aqY who).want s
  | .rel s => rlY.want s
  | st => (gpOwn P T G g st).want
def gpY (P T G who g : Int) : Rsys GpSt := ⟨gpWant P T G who g, gpNext who⟩
def gpOk : GpSt → Prop
  | .ln w => Rng w
  | _ => True
def gpM (lo l : Nat) (P T G who g : Int) : Mch2 GpSt Nat :=
  ⟨145, [145, 125, 123], fun st y => match st with
    | .acq s => .sub (aqS lo l 1 P T G who) y s 101
    | .rel s => .sub (rlS lo l 1 P T G who) y s 188
    | st => .own (gpOwn P T G g st),
   fun _ _ => gpR l g, fun _ _ _ => True, fun _ => [], gpY P T G who g, gpOk⟩
theorem gp_locked_run (x l : Nat) (P T G who : Int) (g : Int) (w : World)  (hp : Pend w x who (gpR l g) 145 .done) (hL : Lay w l P T G) :
    Calls Try.prog 101 #[.pointer (some ⟨x, 0, none⟩)] w fun e w' => (∃ r, e = .returned r) ∧ Pend w' x who (gpR l g) 145 (.load (wordN 16) 144) ∧ Kept [x] w w' := by
  have HI := hid (MI.start hp hL).drew
  have hf := hp.idle.frozen
  (have y0 := hp.idle.rest 0; have y1 := hp.idle.rest 1; simp only [gpR, Nat.reduceAdd, Nat.zero_add, List.getElem?_cons_zero, List.getElem?_cons_succ] at y0 y1)
  clear hp hL
  go_enter Try.func101, Try.ntmps101
  go_wp2_with fail
  refine wp_region_T 10 (fun w' => MI w w' x who (gpR l g) 145 l P T G) (fun w' => Pend w' x who (gpR l g) 145 (.load (wordN 16) 144) ∧ Kept [x] w w') (by kernel_rfl) (by kernel_rfl) rfl (by kernel_rfl) HI.out ?_
  clear HI
  (repeat (first | (apply walkD_pure; rfl; rfl; (intro _; go_simp; first | done | rfl); (intro K hK; go_simp; refine hK _ ?_; clear hK K)) | (apply walkD_skip; rfl; rfl; (intro K hK; go_simp; refine hK _ ?_; clear hK K)) | (apply walkD_read1 [false] (by kernel_rfl); rfl; rfl; (intro w' hD; (have y0 := hD.pend.idle.rest 0; have y1 := hD.pend.idle.rest 1; simp only [gpR, Nat.reduceAdd, Nat.zero_add, List.getElem?_cons_zero, List.getElem?_cons_succ] at y0 y1); go_simp; rfl); (intro K hK; go_simp; refine hK _ ?_; clear hK K)) | (apply walkD_call1 [false] (by kernel_rfl); rfl; (intro _; go_simp; first | rfl | exact ⟨rfl, rfl⟩); (intro w' hD; first | (go_at_call 98; refine (proc_run _ _ _ _ _ _ _ hD.lay).mono ?_; rintro e w2 ⟨rfl, hb⟩; exact ⟨rfl, hD.quiet hb⟩) | (go_at_call 135; refine (thread_run _ _ _ _ _ _ _ hD.lay).mono ?_; rintro e w2 ⟨rfl, hb⟩; exact ⟨rfl, hD.quiet hb⟩) | (go_at_call 172; refine (ring_run _ _ _ _ _ _ (by assumption) _ hD.lay).mono ?_; rintro e w2 ⟨rfl, hb⟩; exact ⟨rfl, hD.quiet hb⟩) | (go_at_call 102; refine (g_run _ _ _ _ _ _ _ hD.lay).mono ?_; rintro e w2 ⟨rfl, hb⟩; exact ⟨rfl, hD.quiet hb⟩) | (go_at_call 92; refine (word_run _ 0 0 0 _ _).mono ?_; rintro e w2 ⟨rfl, rfl⟩; exact ⟨rfl, hD⟩) | (go_at_call 91; refine (iload_run hD.pend.idle _ _).mono ?_; rintro e w2 ⟨rfl, hP, hK⟩; exact ⟨rfl, hP, hD.kept.trans hK (by intro i hi; exact .inl hi)⟩) | (go_at_call 84; refine (iadd_run hD.pend.idle _ _ _).mono ?_; rintro e w2 ⟨rfl, hP, hK⟩; exact ⟨rfl, hP, hD.kept.trans hK (by intro i hi; exact .inl hi)⟩) | (go_at_call 88; refine (istore_run hD.pend.idle _ _ _).mono ?_; rintro e w2 ⟨rfl, hP, hK⟩; exact ⟨rfl, hP, hD.kept.trans hK (by intro i hi; exact .inl hi)⟩)); (intro K hK; go_simp; refine hK _ ?_; clear hK K))))
  (rintro w2 ⟨h1, h2⟩; go_wp2; go_returns; exact ⟨⟨_, rfl⟩, h1, h2⟩)
theorem gp_first_run (x l : Nat) (P T G who : Int) (g v : Int) (w : World)  (hp : Pend w x who (gpR l g) 145 .done) (hL : Lay w l P T G) :
    Calls Try.prog 144 #[.pointer (some ⟨x, 0, none⟩), .int .u64 v] w fun e w' => (∃ r, e = .returned r) ∧ Pend w' x who (gpR l g) 145 (.store (gg P T G g 1) v 169) ∧ Kept [x] w w' := by
  have HI := hid (MI.start hp hL).drew
  have hf := hp.idle.frozen
  (have y0 := hp.idle.rest 0; have y1 := hp.idle.rest 1; simp only [gpR, Nat.reduceAdd, Nat.zero_add, List.getElem?_cons_zero, List.getElem?_cons_succ] at y0 y1)
  clear hp hL
  go_enter Try.func144, Try.ntmps144
  go_wp2_with fail
  refine wp_region_T 15 (fun w' => MI w w' x who (gpR l g) 145 l P T G) (fun w' => Pend w' x who (gpR l g) 145 (.store (gg P T G g 1) v 169) ∧ Kept [x] w w') (by kernel_rfl) (by kernel_rfl) rfl (by kernel_rfl) HI.out ?_
  clear HI
  (repeat (first | (apply walkD_pure; rfl; rfl; (intro _; go_simp; first | done | rfl); (intro K hK; go_simp; refine hK _ ?_; clear hK K)) | (apply walkD_skip; rfl; rfl; (intro K hK; go_simp; refine hK _ ?_; clear hK K)) | (apply walkD_read1 [false] (by kernel_rfl); rfl; rfl; (intro w' hD; (have y0 := hD.pend.idle.rest 0; have y1 := hD.pend.idle.rest 1; simp only [gpR, Nat.reduceAdd, Nat.zero_add, List.getElem?_cons_zero, List.getElem?_cons_succ] at y0 y1); go_simp; rfl); (intro K hK; go_simp; refine hK _ ?_; clear hK K)) | (apply walkD_call1 [false] (by kernel_rfl); rfl; (intro _; go_simp; first | rfl | exact ⟨rfl, rfl⟩); (intro w' hD; first | (go_at_call 98; refine (proc_run _ _ _ _ _ _ _ hD.lay).mono ?_; rintro e w2 ⟨rfl, hb⟩; exact ⟨rfl, hD.quiet hb⟩) | (go_at_call 135; refine (thread_run _ _ _ _ _ _ _ hD.lay).mono ?_; rintro e w2 ⟨rfl, hb⟩; exact ⟨rfl, hD.quiet hb⟩) | (go_at_call 172; refine (ring_run _ _ _ _ _ _ (by assumption) _ hD.lay).mono ?_; rintro e w2 ⟨rfl, hb⟩; exact ⟨rfl, hD.quiet hb⟩) | (go_at_call 102; refine (g_run _ _ _ _ _ _ _ hD.lay).mono ?_; rintro e w2 ⟨rfl, hb⟩; exact ⟨rfl, hD.quiet hb⟩) | (go_at_call 92; refine (word_run _ 0 0 0 _ _).mono ?_; rintro e w2 ⟨rfl, rfl⟩; exact ⟨rfl, hD⟩) | (go_at_call 91; refine (iload_run hD.pend.idle _ _).mono ?_; rintro e w2 ⟨rfl, hP, hK⟩; exact ⟨rfl, hP, hD.kept.trans hK (by intro i hi; exact .inl hi)⟩) | (go_at_call 84; refine (iadd_run hD.pend.idle _ _ _).mono ?_; rintro e w2 ⟨rfl, hP, hK⟩; exact ⟨rfl, hP, hD.kept.trans hK (by intro i hi; exact .inl hi)⟩) | (go_at_call 88; refine (istore_run hD.pend.idle _ _ _).mono ?_; rintro e w2 ⟨rfl, hP, hK⟩; exact ⟨rfl, hP, hD.kept.trans hK (by intro i hi; exact .inl hi)⟩)); (intro K hK; go_simp; refine hK _ ?_; clear hK K))))
  (rintro w2 ⟨h1, h2⟩; go_wp2; go_returns; exact ⟨⟨_, rfl⟩, h1, h2⟩)
theorem gp_linked_run (x l : Nat) (P T G who : Int) (g : Int) (w : World) (hg : 0 ≤ g ∧ g ≤ 100000) (hp : Pend w x who (gpR l g) 145 .done) (hL : Lay w l P T G) :
    Calls Try.prog 169 #[.pointer (some ⟨x, 0, none⟩)] w fun e w' => (∃ r, e = .returned r) ∧ Pend w' x who (gpR l g) 145 (.store (wordN 16) (g + 1) 181) ∧ Kept [x] w w' := by
  have n1 : IntKind.u64.wrap g = g := by rw [IntKind.wrap_u64]; omega
  have n2 : IntKind.u64.wrap (g + 1) = g + 1 := by rw [IntKind.wrap_u64]; omega
  have HI := hid (MI.start hp hL).drew
  have hf := hp.idle.frozen
  (have y0 := hp.idle.rest 0; have y1 := hp.idle.rest 1; simp only [gpR, Nat.reduceAdd, Nat.zero_add, List.getElem?_cons_zero, List.getElem?_cons_succ] at y0 y1)
  clear hp hL
  go_enter Try.func169, Try.ntmps169
  go_wp2_with fail
  refine wp_region_T 16 (fun w' => MI w w' x who (gpR l g) 145 l P T G) (fun w' => Pend w' x who (gpR l g) 145 (.store (wordN 16) (g + 1) 181) ∧ Kept [x] w w') (by kernel_rfl) (by kernel_rfl) rfl (by kernel_rfl) HI.out ?_
  clear HI
  (repeat (first | (apply walkD_pure; rfl; rfl; (intro _; go_simp; first | done | rfl); (intro K hK; go_simp; refine hK _ ?_; clear hK K)) | (apply walkD_skip; rfl; rfl; (intro K hK; go_simp; refine hK _ ?_; clear hK K)) | (apply walkD_read1 [false] (by kernel_rfl); rfl; rfl; (intro w' hD; (have y0 := hD.pend.idle.rest 0; have y1 := hD.pend.idle.rest 1; simp only [gpR, Nat.reduceAdd, Nat.zero_add, List.getElem?_cons_zero, List.getElem?_cons_succ] at y0 y1); go_simp; rfl); (intro K hK; go_simp; refine hK _ ?_; clear hK K)) | (apply walkD_call1 [false] (by kernel_rfl); rfl; (intro _; go_simp; first | rfl | exact ⟨rfl, rfl⟩); (intro w' hD; first | (go_at_call 98; refine (proc_run _ _ _ _ _ _ _ hD.lay).mono ?_; rintro e w2 ⟨rfl, hb⟩; exact ⟨rfl, hD.quiet hb⟩) | (go_at_call 135; refine (thread_run _ _ _ _ _ _ _ hD.lay).mono ?_; rintro e w2 ⟨rfl, hb⟩; exact ⟨rfl, hD.quiet hb⟩) | (go_at_call 172; refine (ring_run _ _ _ _ _ _ (by assumption) _ hD.lay).mono ?_; rintro e w2 ⟨rfl, hb⟩; exact ⟨rfl, hD.quiet hb⟩) | (go_at_call 102; refine (g_run _ _ _ _ _ _ _ hD.lay).mono ?_; rintro e w2 ⟨rfl, hb⟩; exact ⟨rfl, hD.quiet hb⟩) | (go_at_call 92; refine (word_run _ 0 0 0 _ _).mono ?_; rintro e w2 ⟨rfl, rfl⟩; exact ⟨rfl, hD⟩) | (go_at_call 91; refine (iload_run hD.pend.idle _ _).mono ?_; rintro e w2 ⟨rfl, hP, hK⟩; exact ⟨rfl, hP, hD.kept.trans hK (by intro i hi; exact .inl hi)⟩) | (go_at_call 84; refine (iadd_run hD.pend.idle _ _ _).mono ?_; rintro e w2 ⟨rfl, hP, hK⟩; exact ⟨rfl, hP, hD.kept.trans hK (by intro i hi; exact .inl hi)⟩) | (go_at_call 88; refine (istore_run hD.pend.idle _ _ _).mono ?_; rintro e w2 ⟨rfl, hP, hK⟩; exact ⟨rfl, hP, hD.kept.trans hK (by intro i hi; exact .inl hi)⟩)); (intro K hK; go_simp; refine hK _ ?_; clear hK K))))
  (rintro w2 ⟨h1, h2⟩; go_wp2; go_returns; exact ⟨⟨_, rfl⟩, h1, h2⟩)
theorem gp_laid_run (x l lo : Nat) (P T G who : Int) (g : Int) (w : World)  (hlo : lo ≤ w.heap.size) (hp : Pend w x who (gpR l g) 145 .done) (hL : Lay w l P T G) :
    Calls Try.prog 181 #[.pointer (some ⟨x, 0, none⟩)] w fun e w' => (∃ r, e = .returned r) ∧ (∃ y, Pend2 w' x who (gpR l g) 145 (.sub (rlS lo l 1 P T G who) y .puts 188)) ∧ Kept [x] w w' := by
  have SW := hid (show (rlS lo l 1 P T G who).sys.want .puts ≠ none by exact fun h => by cases h)
  have HI0 := hid (MI.start hp hL)
  have HI := hid (MI.drewS (N := w.heap.size) HI0.out (by first | rfl | simp))
  clear HI0
  have hf := hp.idle.frozen
  (have y0 := hp.idle.rest 0; have y1 := hp.idle.rest 1; simp only [gpR, Nat.reduceAdd, Nat.zero_add, List.getElem?_cons_zero, List.getElem?_cons_succ] at y0 y1)
  clear hp hL
  go_enter Try.func181, Try.ntmps181
  go_wp2_with fail
  refine wp_region_D [11, 15] (tcl2 (fun w' => MI w w' x who (gpR l g) 145 l P T G ∧ w'.heap.size = w.heap.size) (fun w' => MI w w' x who (gpR l g) 145 l P T G ∧ (rlS lo l 1 P T G who).at_ w' w.heap.size .puts) (fun w' => Pend2 w' x who (gpR l g) 145 (.sub (rlS lo l 1 P T G who) w.heap.size .puts 188) ∧ Kept [x] w w')) (by kernel_rfl) (by kernel_rfl) rfl (by kernel_rfl) HI.out ?_
  clear HI
  repeat (first | (apply walkD_pure; rfl; rfl; (intro _; go_simp; first | done | rfl); (intro K hK; go_simp; refine hK _ ?_; clear hK K)) | (apply walkD_skip; rfl; rfl; (intro K hK; go_simp; refine hK _ ?_; clear hK K)) | (apply walkD_read1 [false, false] (by kernel_rfl); rfl; rfl; (intro w' hD; (have y0 := hD.1.pend.idle.rest 0; have y1 := hD.1.pend.idle.rest 1; simp only [gpR, Nat.reduceAdd, Nat.zero_add, List.getElem?_cons_zero, List.getElem?_cons_succ] at y0 y1); go_simp; rfl); (intro K hK; go_simp; refine hK _ ?_; clear hK K)) | (apply walkD_call1 [false, false] (by kernel_rfl); rfl; (intro _; go_simp; first | rfl | exact ⟨rfl, rfl⟩); (intro w' hD; first | (go_at_call 159; refine (ifwho_run hD.1.pend).mono ?_; rintro e w2 ⟨rfl, rfl⟩; exact ⟨rfl, hD⟩) | (go_at_call 20; have q := rl_made lo l 1 P T G who w' hD.1.lay (by rw [hD.2]; exact hlo); rw [hD.2] at q; refine q.mono ?_; rintro e w2 ⟨rfl, hA, hb⟩; exact ⟨rfl, hD.1.quiet (by rw [hD.2]; exact hb), hA⟩)); (intro K hK; go_simp; refine hK _ ?_; clear hK K)) | (apply walkD_call1 [true, false] (by kernel_rfl); rfl; (intro _; go_simp; first | rfl | exact ⟨rfl, rfl⟩); (intro w' hD; go_at_call 99; refine (irun_run (S := rlS lo l 1 P T G who) (rl_sub lo l 1 P T G who) hD.1.pend hD.2 SW.out (of_decide_eq_true rfl)).mono ?_; rintro e w2 ⟨rfl, h1, h2, h3⟩; exact ⟨rfl, ⟨h1, h2, SW.out⟩, hD.1.kept.trans h3 (by intro i hi; exact .inl hi)⟩); (intro K hK; go_simp; refine hK _ ?_; clear hK K)))
  rintro w2 ⟨h1, h2⟩
  go_wp2
  go_returns
  exact ⟨⟨_, rfl⟩, ⟨_, h1⟩, h2⟩
theorem gp_new_run (l lo : Nat) (P T G who : Int) (g : Int) (w : World) (hw : 0 ≤ who ∧ who ≤ 1000) (hlo : lo ≤ w.heap.size) (hL : Lay w l P T G) :
    Calls Try.prog 44 #[.pointer (some ⟨l, 0, none⟩), .int .i64 who, .int .i64 g] w fun e w' => e = .returned (.pointer (some ⟨w.heap.size, 0, none⟩)) ∧ (∃ y, Pend2 w' w.heap.size who (gpR l g) 145 (.sub (aqS lo l 1 P T G who) y .ask 101)) ∧ Below w.heap.size w w' := by
  have h0 : FlAt (w.alloc (.cells (fl fl0 ++ gpR l g).toArray 145)) w.heap.size fl0 (gpR l g) 145 := Blk.new w _ _
  have hL0 := hL.quiet (below_one w (.cells (fl fl0 ++ gpR l g).toArray 145))
  have hlx : l ≠ w.heap.size := Nat.ne_of_lt hL.1.lt
  clear hL
  have SW := hid (show (aqS lo l 1 P T G who).sys.want .ask ≠ none by exact fun h => by cases h)
  go_enter Try.func44, Try.ntmps44
  go_wp2_with fail
  refine (iof_run h0 who).mono ?_
  rintro e wB ⟨rfl, hp, hK⟩
  have hL1 := hL0.kept hK (by simpa using hlx)
  have hlow : Below w.heap.size w wB := (below_one _ _).trans (hK.below (by simp) (by simp))
  have hlo := Nat.le_trans hlo hlow.size
  clear h0 hL0 hK
  obtain ⟨x0, hx0⟩ : ∃ x0, x0 = w.heap.size := ⟨_, rfl⟩
  rw [← hx0] at hp hlow ⊢
  have HX0 := hid hx0
  clear hx0
  have HI := hid (MI.drewS (N := wB.heap.size) (MI.start hp hL1) rfl)
  clear hp hL1
  go_wp2_with fail
  refine wp_region_D [5, 9] (tcl2 (fun w' => MI wB w' x0 who (gpR l g) 145 l P T G ∧ w'.heap.size = wB.heap.size) (fun w' => MI wB w' x0 who (gpR l g) 145 l P T G ∧ (aqS lo l 1 P T G who).at_ w' wB.heap.size .ask) (fun w' => Pend2 w' x0 who (gpR l g) 145 (.sub (aqS lo l 1 P T G who) wB.heap.size .ask 101) ∧ Kept [x0] wB w')) (by kernel_rfl) (by kernel_rfl) rfl (by kernel_rfl) HI.out ?_
  clear HI
  repeat (first | (apply walkD_pure; rfl; rfl; (intro _; go_simp; first | done | rfl); (intro K hK; go_simp; refine hK _ ?_; clear hK K)) | (apply walkD_skip; rfl; rfl; (intro K hK; go_simp; refine hK _ ?_; clear hK K)) | (apply walkD_read1 [false, false] (by kernel_rfl); rfl; rfl; (intro w' hD; (have y0 := hD.1.pend.idle.rest 0; have y1 := hD.1.pend.idle.rest 1; simp only [gpR, Nat.reduceAdd, Nat.zero_add, List.getElem?_cons_zero, List.getElem?_cons_succ] at y0 y1); go_simp; rfl); (intro K hK; go_simp; refine hK _ ?_; clear hK K)) | (apply walkD_call1 [false, false] (by kernel_rfl); rfl; (intro _; go_simp; first | rfl | exact ⟨rfl, rfl⟩); (intro w' hD; first | (go_at_call 159; refine (ifwho_run hD.1.pend).mono ?_; rintro e w2 ⟨rfl, rfl⟩; exact ⟨rfl, hD⟩) | (go_at_call 15; have q := aq_made lo l 1 P T G who w' hD.1.lay (by rw [hD.2]; exact hlo); rw [hD.2] at q; refine q.mono ?_; rintro e w2 ⟨rfl, hA, hb⟩; exact ⟨rfl, hD.1.quiet (by rw [hD.2]; exact hb), hA⟩)); (intro K hK; go_simp; refine hK _ ?_; clear hK K)) | (apply walkD_call1 [true, false] (by kernel_rfl); rfl; (intro _; go_simp; first | rfl | exact ⟨rfl, rfl⟩); (intro w' hD; go_at_call 99; refine (irun_run (S := aqS lo l 1 P T G who) (aq_sub lo l 1 P T G who hw) hD.1.pend hD.2 SW.out (of_decide_eq_true rfl)).mono ?_; rintro e w2 ⟨rfl, h1, h2, h3⟩; exact ⟨rfl, ⟨h1, h2, SW.out⟩, hD.1.kept.trans h3 (by intro i hi; exact .inl hi)⟩); (intro K hK; go_simp; refine hK _ ?_; clear hK K)))
  rintro w2 ⟨h1, h2⟩
  go_wp2
  obtain rfl := HX0.out
  go_ret
  exact ⟨rfl, ⟨_, h1⟩, hlow.trans (h2.below (by simp) hlow.size)⟩
theorem gp_thruD : ThruD 40 := by
  intro x o w H
  have H := hid H
  go_enter Try.func40, Try.ntmps40
  go_wp2_with fail
  refine H.out.mono ?_
  rintro e w1 ⟨rfl, rfl⟩
  go_wp2
  go_ret
  exact ⟨rfl, rfl⟩
theorem gpstep_nil (m : Option Addr) (w : World) : Calls Try.prog 45 #[.pointer none, .pointer m] w fun e w' => e = .returned (.bool true) ∧ w = w' := by
  go_enter Try.func45, Try.ntmps45
  go_wp2
  go_ret
  exact ⟨rfl, rfl⟩
theorem gpdone_nil (w : World) : Calls Try.prog 40 #[.pointer none] w fun e w' => e = .returned (.bool true) ∧ w = w' := by
  go_enter Try.func40, Try.ntmps40
  go_wp2
  go_ret
  exact ⟨rfl, rfl⟩
theorem gp_step : StepOf 66 45 := ⟨fun y w => rfl, enters_of Try.func45 (by kernel_rfl) rfl⟩
theorem gp_quiet : NoSleeper 66 := fun y w => run_typeAssert_lacksB Try.underlying187 (by kernel_rfl) (by kernel_rfl) _ _ w
theorem gp_thru : Thru 45 := by
  intro x m o w R H
  have H := hid H
  go_enter Try.func45, Try.ntmps45
  go_wp2_with fail
  refine H.out.mono ?_
  rintro e w1 ⟨rfl, h1⟩
  have HX := hid h1
  clear h1
  go_wp2
  go_ret
  exact ⟨rfl, HX.out⟩
theorem gp_ends_run (x : Value) (w : World) : Calls Try.prog 188 #[x] w fun e w' => (∃ r, e = .returned r) ∧ w = w' := by
  go_enter Try.func188, Try.ntmps188
  go_wp2
  go_returns
  exact ⟨⟨_, rfl⟩, rfl⟩
theorem gp_own (lo l : Nat) (P T G who g : Int) : ∀ Ty ∈ rdT (gpM lo l P T G who g).wr, Ty ∉ theirs := by
  show ∀ Ty ∈ rdT [145, 125, 123], Ty ∉ theirs
  decide
theorem gp_goes (lo l x : Nat) (P T G who g : Int) (hw : 0 ≤ who ∧ who ≤ 1000) (hg : 0 ≤ g ∧ g ≤ 100000) : Goes2 (gpM lo l P T G who g) lo l x P T G who := by
  refine ⟨gp_own lo l P T G who g, by simp [gpM], by show 1 ∉ [145, 125, 123] ∧ 999999 ∉ [145, 125, 123] ∧ 172 ∉ [145, 125, 123]; decide, fun st T hT => absurd (show T ∈ [] from hT) (by simp), ?_, ?_, fun _ _ _ _ _ _ _ _ => trivial, ?_⟩
  · intro st a hok ha
    show gpOk (gpNext who st a)
    cases st with
    | acq s => unfold gpNext runs; simp only; split <;> trivial
    | f => exact ha
    | ln w => trivial
    | ly => trivial
    | rel s => unfold gpNext runs; simp only; split <;> trivial
    | done => trivial
  · intro st e
    cases st <;> rfl
  · intro st e hok
    cases st with
    | acq s =>
      refine ⟨aq_sub lo l 1 P T G who hw, ?_, enters_of Try.func101 (by kernel_rfl) rfl, ?_⟩
      · show ∀ T ∈ [125], T ∈ [145, 125, 123] ∧ T ≠ 145 ∧ T ∉ []
        decide
      intro a ha
      refine ⟨?_, ?_⟩
      · intro hn
        have e1 : gpNext who (.acq s) a = .acq (aqNext s a) := runs_on (M := aqY who) (k := fun _ => GpSt.f) (emb := GpSt.acq) (s := aqNext s a) hn
        refine ⟨?_, ?_, fun _ _ => trivial⟩
        · show (gpM lo l P T G who g).nx (gpNext who (.acq s) a) e = _
          rw [e1]; rfl
        · rfl
      · intro hn w hlo hp hA hi hL
        have e1 : gpNext who (.acq s) a = .f := runs_off (M := aqY who) (k := fun _ => GpSt.f) (emb := GpSt.acq) (s := aqNext s a) hn
        refine (gp_locked_run x l P T G who g w hp hL).mono ?_
        rintro e2 w' ⟨he, h1, h2⟩
        refine ⟨he, ⟨e, ?_⟩, h2⟩
        show (gpM lo l P T G who g).is_ x who w' (gpNext who (.acq s) a) e
        rw [e1]
        exact ⟨h1, trivial⟩
    | f =>
      refine .inr ⟨⟨by show (0 : Int) ≤ 0; omega, by show (0 : Int) < _; omega⟩, enters_of Try.func144 (by kernel_rfl) rfl, ?_⟩
      intro a w ha hlo hp hi hL
      refine (gp_first_run x l P T G who g a w hp hL).mono ?_
      rintro e2 w' ⟨he, h1, h2⟩
      exact ⟨he, ⟨e, h1, trivial⟩, h2⟩
    | ln w1 =>
      refine .inr ⟨hok, enters_of Try.func169 (by kernel_rfl) rfl, ?_⟩
      intro a w ha hlo hp hi hL
      refine (gp_linked_run x l P T G who g w hg hp hL).mono ?_
      rintro e2 w' ⟨he, h1, h2⟩
      exact ⟨he, ⟨e, h1, trivial⟩, h2⟩
    | ly =>
      refine .inr ⟨⟨by show 0 ≤ g + 1; omega, by show g + 1 < _; omega⟩, enters_of Try.func181 (by kernel_rfl) rfl, ?_⟩
      intro a w ha hlo hp hi hL
      refine (gp_laid_run x l lo P T G who g w hlo hp hL).mono ?_
      rintro e2 w' ⟨he, ⟨y, h1⟩, h2⟩
      exact ⟨he, ⟨y, h1, trivial⟩, h2⟩
    | rel s =>
      refine ⟨rl_sub lo l 1 P T G who, ?_, enters_of Try.func188 (by kernel_rfl) rfl, ?_⟩
      · show ∀ T ∈ [123], T ∈ [145, 125, 123] ∧ T ≠ 145 ∧ T ∉ []
        decide
      intro a ha
      refine ⟨?_, ?_⟩
      · intro hn
        have e1 : gpNext who (.rel s) a = .rel (rlNext s a) := runs_on (M := rlY) (k := fun _ => GpSt.done) (emb := GpSt.rel) (s := rlNext s a) hn
        refine ⟨?_, ?_, fun _ _ => trivial⟩
        · show (gpM lo l P T G who g).nx (gpNext who (.rel s) a) e = _
          rw [e1]; rfl
        · rfl
      · intro hn w hlo hp hA hi hL
        have e1 : gpNext who (.rel s) a = .done := runs_off (M := rlY) (k := fun _ => GpSt.done) (emb := GpSt.rel) (s := rlNext s a) hn
        refine (gp_ends_run _ w).mono ?_
        rintro e2 w' ⟨he, rfl⟩
        refine ⟨he, ⟨e, ?_⟩, Kept.refl _ _⟩
        show (gpM lo l P T G who g).is_ x who w (gpNext who (.rel s) a) e
        rw [e1]
        exact ⟨hp, trivial⟩
    | done => exact .inl rfl
theorem gp_made (l lo : Nat) (P T G who g : Int) (w : World) (hw : 0 ≤ who ∧ who ≤ 1000) (hlo : lo ≤ w.heap.size) (hL : Lay w l P T G) :
    Calls Try.prog 44 #[.pointer (some ⟨l, 0, none⟩), .int .i64 who, .int .i64 g] w fun e w' => e = .returned (.pointer (some ⟨w.heap.size, 0, none⟩)) ∧ (∃ y, (gpM lo l P T G who g).is_ w.heap.size who w' (.acq .ask) y) ∧ Below w.heap.size w w' := by
  refine (gp_new_run l lo P T G who g w hw hlo hL).mono ?_
  rintro e w' ⟨rfl, ⟨y, h1⟩, h2⟩
  exact ⟨rfl, ⟨y, h1, trivial⟩, h2⟩
end Go.Proofs.Ytncmajflakkibaa.Gfree
