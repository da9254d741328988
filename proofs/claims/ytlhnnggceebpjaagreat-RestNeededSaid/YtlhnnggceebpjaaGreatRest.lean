/- How a thread comes to rest: a nap, counting in, the whole of it. -/
import Derived.Test.YtlhnnggceebpjaaGreatSubZ
import Derived.Test.YtlhnnggceebpjaaGreatWaker
import Derived.Test.YtlhnnggceebpjaaGreatWakeWordsW
import Derived.Test.YtlhnnggceebpjaaGreatBase6
set_option maxRecDepth 100000
set_option maxHeartbeats 4000000
set_option linter.unusedVariables false
set_option linter.unusedSimpArgs false
namespace Go.Proofs.YtlhnnggceebpjaaGreat.Rest
open Go.RowKit Go.Shelf Go.Proofs.YtlhnnggceebpjaaGreat.TK Go.Proofs.YtlhnnggceebpjaaGreat.Flag Go.Proofs.YtlhnnggceebpjaaGreat.Read Go.Proofs.YtlhnnggceebpjaaGreat.Words Go.Proofs.YtlhnnggceebpjaaGreat.Mem Go.Proofs.YtlhnnggceebpjaaGreat.Flow Go.Proofs.YtlhnnggceebpjaaGreat.Layout Go.Proofs.YtlhnnggceebpjaaGreat.Lock Go.Proofs.YtlhnnggceebpjaaGreat.Run Go.Proofs.YtlhnnggceebpjaaGreat.Sys Go.Proofs.YtlhnnggceebpjaaGreat.Mach Go.Proofs.YtlhnnggceebpjaaGreat.Ref05 Go.Proofs.YtlhnnggceebpjaaGreat.Subs Go.Proofs.YtlhnnggceebpjaaGreat.Wake Go.Proofs.YtlhnnggceebpjaaGreat.Note
theorem sl_step : StepOf 197 432 := ⟨fun y w => rfl, enters_of Tryz.func432 (by kernel_rfl) rfl⟩
theorem sl_thru : Thru 432 := by
  intro x m o w R H
  have H := hid (nm_thru x m o R w (hid H))
  go_enter Tryz.func432, Tryz.ntmps432
  go_wp2_with fail
  refine H.out.mono ?_
  rintro e w1 ⟨rfl, h1⟩
  have HX := hid h1
  clear h1
  go_wp2
  go_ret
  exact ⟨rfl, HX.out⟩
theorem sl_thruA : ThruA 431 := by
  intro x m o w H
  have H := hid H
  go_enter Tryz.func431, Tryz.ntmps431
  go_wp2_with fail
  refine H.out.mono ?_
  rintro e w1 ⟨rfl, rfl⟩
  go_wp2
  go_ret
  exact ⟨rfl, rfl⟩
theorem sl_asl_nil (m : Option Addr) (w : World) : Calls Tryz.prog 431 #[.pointer none, .pointer m] w fun e w' => e = .returned (.bool false) ∧ w = w' := by
  go_enter Tryz.func431, Tryz.ntmps431
  go_wp2
  go_ret
  exact ⟨rfl, rfl⟩
theorem sl_snooze : Snooze 197 431 := ⟨fun y w => run_typeAssert_hasB Tryz.underlying265 (by kernel_rfl) _ _ w, fun y w => rfl, enters_of Tryz.func431 (by kernel_rfl) rfl⟩
def slS (lo l : Nat) (a P T G who : Int) : Subm SlSt := ⟨197, 432, [263], fun w y st => NAt lo l y P T G a who w st, slSys a⟩
theorem sl_sub (lo l : Nat) (a P T G who : Int) : SubOkZ (slS lo l a P T G who) lo who := by
  refine ⟨sl_step, ?_, ?_, by show ∀ T ∈ rdT [263], T ∉ theirs; decide, ?_, ?_, ?_, ?_⟩
  · intro w y st m mg s hA hM
    have h := nasleep_run y m mg a who st s w hA.1 hM
    rw [sl_asleep] at h
    exact .inr ⟨_, sl_snooze, h⟩
  · rintro w y st ⟨h1, h2, h3⟩
    obtain ⟨f, hf, _⟩ := h1.fl
    exact ⟨h2, 263, by simp [slS], _, hf⟩
  · intro w w' y st Z hA hk hZ
    exact (n_mach lo l y P T G a who).kept w w' st Z hA hk (fun i hi T hT => hZ i hi T (by show T ∈ rdT [263]; simp only [slOwn, List.mem_cons, List.not_mem_nil, or_false] at hT; rcases hT with rfl | rfl | rfl <;> decide))
  · intro w y st W hA h
    exact sl_ok a st W h
  · intro w y st hA
    have H : Calls Tryz.prog 127 #[.pointer (some ⟨y, 0, none⟩), .pointer none] w fun e w' => e = .returned (.bool ((slSys a).want st).isNone) ∧ w = w' := by
      obtain ⟨f, h1, _, h3, h4, _⟩ := hA.1.fl
      have := fstep_nil y f _ _ w h1 h4
      rw [h3, sl_over a] at this
      exact this
    exact sl_thru y none _ w (fun w' => w = w') H
  · intro w y st m mg s hA hM hc hbd
    obtain ⟨h1, h2, h3⟩ := hA
    obtain ⟨f, hf, _⟩ := h1.fl
    show Calls _ _ _ w fun e w' => e = .returned (.bool ((slSys a).want (stepOf (slSys a) who st s).1).isNone) ∧ NAt lo l y P T G a who w' (stepOf (slSys a) who st s).1 ∧ MemAt w' m mg (stepOf (slSys a) who st s).2 ∧ KeptOwn [263] lo m mg w w'
    rw [sl_stepOf]
    refine (nstep_run y m mg a who st s w h1 hM hc hbd).mono ?_
    rintro e w1 ⟨rfl, hA1, hM1, hK1⟩
    have n1 : l ≠ y := Blk.ne h3.1 hf (by decide)
    have n2 := hM.neT h3.1 (by decide)
    have n3 := hM.neG h3.1 (by decide)
    exact ⟨by rw [sl_over a], ⟨hA1, h2, h3.kept hK1 (by simp [n1, n2, n3])⟩, hM1, keptOwn_of hK1 hf (by simp) h2⟩
theorem sl_made (lo l : Nat) (P T G who : Int) (w : World) (hL : Lay w l P T G) (hlo : lo ≤ w.heap.size) :
    Calls Tryz.prog 158 #[.pointer (some ⟨l, 0, none⟩), .int .i64 who] w fun e w' => e = .returned (.pointer (some ⟨w.heap.size, 0, none⟩)) ∧ (slS lo l (th P T who 0) P T G who).at_ w' w.heap.size (.waits false) ∧ Below w.heap.size w w' := by
  refine (nnew_run l P T G who w hL).mono ?_
  rintro e w' ⟨rfl, h1, h2⟩
  exact ⟨rfl, ⟨h1, hlo, hL.quiet h2⟩, h2⟩
/-- A nap. -/
def npR (l : Nat) (a p : Int) (sp : Bool) : List Value := [.pointer (some ⟨l, 0, none⟩), .int .u64 a, .int .i64 p, .bool sp]
inductive NpSt
  | sl (s : SlSt)
  | gv
  | z (a : Int)
  | st (a : Int)
  | fin (a : Int)
def npNext (P T who : Int) (st : NpSt) (a : Int) : NpSt :=
  match st with
  | .sl s => runs (slSys (th P T who 0)) (fun _ => .gv) .sl (slNext s a)
  | .gv => .z a
  | .z b => .st b
  | .st b => .fin b
  | .fin b => .fin b
def npOwn (P T who : Int) : NpSt → Nx
  | .gv => .load (th P T who 1) 223
  | .z _ => .store (th P T who 1) 0 259
  | .st a => .store (pr P (gvP a) 0) 1 293
  | _ => .done
def npWant (P T who : Int) : NpSt → Option Wnt
  | .sl s => (slSys (th P T who 0)).want s
  | st => (npOwn P T who st).want
def npY (P T who : Int) : Rsys NpSt := ⟨npWant P T who, npNext P T who⟩
def npP : NpSt → Int
  | .st a => gvP a
  | .fin a => gvP a
  | _ => -1
def npS : NpSt → Bool
  | .st a => gvS a
  | .fin a => gvS a
  | _ => false
def npRest (l : Nat) (st : NpSt) : List Value :=
  match st with
  | .z a => npR l a (-1) false
  | .st a => npR l a (gvP a) (gvS a)
  | .fin a => npR l a (gvP a) (gvS a)
  | _ => npR l 0 (-1) false
def npOk : NpSt → Prop
  | .z a => Rng a
  | _ => True
def npM (lo l : Nat) (P T G who : Int) : Mch2 NpSt Nat :=
  ⟨196, [196, 263], fun st e => match st with
    | .sl s => .sub (slS lo l (th P T who 0) P T G who) e s 159
    | st => .own (npOwn P T who st),
   fun st _ => npRest l st, fun _ _ _ => True, fun _ => [], npY P T who, npOk⟩
theorem np_new_run (l lo : Nat) (P T G who : Int)  (w : World)  (hlo : lo ≤ w.heap.size) (hL : Lay w l P T G) :
    Calls Tryz.prog 50 #[.pointer (some ⟨l, 0, none⟩), .int .i64 who] w fun e w' => e = .returned (.pointer (some ⟨w.heap.size, 0, none⟩)) ∧ (∃ y, Pend2 w' w.heap.size who (npR l 0 (-1) false) 196 (.sub (slS lo l (th P T who 0) P T G who) y (.waits false) 159)) ∧ Below w.heap.size w w' := by
  have h0 : FlAt (w.alloc (.cells (fl fl0 ++ npR l 0 (-1) false).toArray 196)) w.heap.size fl0 (npR l 0 (-1) false) 196 := Blk.new w _ _
  have hL0 := hL.quiet (below_one w (.cells (fl fl0 ++ npR l 0 (-1) false).toArray 196))
  have hlx : l ≠ w.heap.size := Nat.ne_of_lt hL.1.lt
  clear hL
  have SW := hid (show (slS lo l (th P T who 0) P T G who).sys.want (.waits false) ≠ none by exact fun h => by cases h)
  go_enter Tryz.func50, Tryz.ntmps50
  go_wp2_with fail
  refine (iof_run h0 who).mono ?_
  rintro e wB ⟨rfl, hp, hK⟩
  have hL1 := hL0.kept hK (by simpa using hlx)
  have hlow : Below w.heap.size w wB := (below_one _ _).trans (hK.below (by simp) (by simp))
  have hlo := Nat.le_trans hlo hlow.size
  clear h0 hL0 hK
  obtain ⟨x0, hx0⟩ : ∃ x0, x0 = w.heap.size := ⟨_, rfl⟩
  rw [← hx0] at hp hlow ⊢
  have HX0 := hid hx0
  clear hx0
  have HI := hid (MI.drewS (N := wB.heap.size) (MI.start hp hL1) rfl)
  clear hp hL1
  go_wp2_with fail
  refine wp_region_D [5, 9] (tcl2 (fun w' => MI wB w' x0 who (npR l 0 (-1) false) 196 l P T G ∧ w'.heap.size = wB.heap.size) (fun w' => MI wB w' x0 who (npR l 0 (-1) false) 196 l P T G ∧ (slS lo l (th P T who 0) P T G who).at_ w' wB.heap.size (.waits false)) (fun w' => Pend2 w' x0 who (npR l 0 (-1) false) 196 (.sub (slS lo l (th P T who 0) P T G who) wB.heap.size (.waits false) 159) ∧ Kept [x0] wB w')) (by kernel_rfl) (by kernel_rfl) rfl (by kernel_rfl) HI.out ?_
  clear HI
  repeat (first | (apply walkD_pure; rfl; rfl; (intro _; go_simp; first | done | rfl); (intro K hK; go_simp; refine hK _ ?_; clear hK K)) | (apply walkD_skip; rfl; rfl; (intro K hK; go_simp; refine hK _ ?_; clear hK K)) | (apply walkD_read1 [false, false] (by kernel_rfl); rfl; rfl; (intro w' hD; (have y0 := hD.1.pend.idle.rest 0; have y1 := hD.1.pend.idle.rest 1; have y2 := hD.1.pend.idle.rest 2; have y3 := hD.1.pend.idle.rest 3; simp only [npR, Nat.reduceAdd, Nat.zero_add, List.getElem?_cons_zero, List.getElem?_cons_succ] at y0 y1 y2 y3); go_simp; rfl); (intro K hK; go_simp; refine hK _ ?_; clear hK K)) | (apply walkD_call1 [false, false] (by kernel_rfl); rfl; (intro _; go_simp; first | rfl | exact ⟨rfl, rfl⟩); (intro w' hD; first | (go_at_call 222; refine (ifwho_run hD.1.pend).mono ?_; rintro e w2 ⟨rfl, rfl⟩; exact ⟨rfl, hD⟩) | (go_at_call 158; have q := sl_made lo l P T G who w' hD.1.lay (by rw [hD.2]; exact hlo); rw [hD.2] at q; refine q.mono ?_; rintro e w2 ⟨rfl, hA, hb⟩; exact ⟨rfl, hD.1.quiet (by rw [hD.2]; exact hb), hA⟩)); (intro K hK; go_simp; refine hK _ ?_; clear hK K)) | (apply walkD_call1 [true, false] (by kernel_rfl); rfl; (intro _; go_simp; first | rfl | exact ⟨rfl, rfl⟩); (intro w' hD; go_at_call 124; refine (irunZ_run (S := slS lo l (th P T who 0) P T G who) (sl_sub lo l (th P T who 0) P T G who) hD.1.pend hD.2 SW.out (of_decide_eq_true rfl)).mono ?_; rintro e w2 ⟨rfl, h1, h2, h3⟩; exact ⟨rfl, ⟨h1, h2, SW.out⟩, hD.1.kept.trans h3 (by intro i hi; exact .inl hi)⟩); (intro K hK; go_simp; refine hK _ ?_; clear hK K)))
  rintro w2 ⟨h1, h2⟩
  go_wp2
  obtain rfl := HX0.out
  go_ret
  exact ⟨rfl, ⟨_, h1⟩, hlow.trans (h2.below (by simp) hlow.size)⟩
theorem np_woken_run (x l : Nat) (P T G who : Int) (a p : Int) (sp : Bool) (w : World)  (hp : Pend w x who (npR l a p sp) 196 .done) (hL : Lay w l P T G) :
    Calls Tryz.prog 159 #[.pointer (some ⟨x, 0, none⟩)] w fun e w' => (∃ r, e = .returned r) ∧ Pend w' x who (npR l a p sp) 196 (.load (th P T who 1) 223) ∧ Kept [x] w w' := by
  have HI := hid (MI.start hp hL).drew
  have hf := hp.idle.frozen
  (have y0 := hp.idle.rest 0; have y1 := hp.idle.rest 1; have y2 := hp.idle.rest 2; have y3 := hp.idle.rest 3; simp only [npR, Nat.reduceAdd, Nat.zero_add, List.getElem?_cons_zero, List.getElem?_cons_succ] at y0 y1 y2 y3)
  clear hp hL
  go_enter Tryz.func159, Tryz.ntmps159
  go_wp2_with fail
  refine wp_region_T 14 (fun w' => MI w w' x who (npR l a p sp) 196 l P T G) (fun w' => Pend w' x who (npR l a p sp) 196 (.load (th P T who 1) 223) ∧ Kept [x] w w') (by kernel_rfl) (by kernel_rfl) rfl (by kernel_rfl) HI.out ?_
  clear HI
  (repeat (first | (apply walkD_pure; rfl; rfl; (intro _; go_simp; first | done | rfl); (intro K hK; go_simp; refine hK _ ?_; clear hK K)) | (apply walkD_skip; rfl; rfl; (intro K hK; go_simp; refine hK _ ?_; clear hK K)) | (apply walkD_read1 [false] (by kernel_rfl); rfl; rfl; (intro w' hD; (have y0 := hD.pend.idle.rest 0; have y1 := hD.pend.idle.rest 1; have y2 := hD.pend.idle.rest 2; have y3 := hD.pend.idle.rest 3; simp only [npR, Nat.reduceAdd, Nat.zero_add, List.getElem?_cons_zero, List.getElem?_cons_succ] at y0 y1 y2 y3); go_simp; rfl); (intro K hK; go_simp; refine hK _ ?_; clear hK K)) | (apply walkD_call1 [false] (by kernel_rfl); rfl; (intro _; go_simp; first | rfl | exact ⟨rfl, rfl⟩); (intro w' hD; first | (go_at_call 222; refine (ifwho_run hD.pend).mono ?_; rintro e w2 ⟨rfl, rfl⟩; exact ⟨rfl, hD⟩) | (go_at_call 25; refine (proc_run _ _ _ _ _ _ _ hD.lay).mono ?_; rintro e w2 ⟨rfl, hb⟩; exact ⟨rfl, hD.quiet hb⟩) | (go_at_call 76; refine (thread_run _ _ _ _ _ _ _ hD.lay).mono ?_; rintro e w2 ⟨rfl, hb⟩; exact ⟨rfl, hD.quiet hb⟩) | (go_at_call 255; refine (ring_run _ _ _ _ _ _ (by assumption) _ hD.lay).mono ?_; rintro e w2 ⟨rfl, hb⟩; exact ⟨rfl, hD.quiet hb⟩) | (go_at_call 168; refine (g_run _ _ _ _ _ _ _ hD.lay).mono ?_; rintro e w2 ⟨rfl, hb⟩; exact ⟨rfl, hD.quiet hb⟩) | (go_at_call 133; refine (word_run _ 0 0 0 _ _).mono ?_; rintro e w2 ⟨rfl, rfl⟩; exact ⟨rfl, hD⟩) | (go_at_call 183; refine (iload_run hD.pend.idle _ _).mono ?_; rintro e w2 ⟨rfl, hP, hK⟩; exact ⟨rfl, hP, hD.kept.trans hK (by intro i hi; exact .inl hi)⟩) | (go_at_call 132; refine (iadd_run hD.pend.idle _ _ _).mono ?_; rintro e w2 ⟨rfl, hP, hK⟩; exact ⟨rfl, hP, hD.kept.trans hK (by intro i hi; exact .inl hi)⟩) | (go_at_call 188; refine (istore_run hD.pend.idle _ _ _).mono ?_; rintro e w2 ⟨rfl, hP, hK⟩; exact ⟨rfl, hP, hD.kept.trans hK (by intro i hi; exact .inl hi)⟩) | (go_at_call 166; refine (iswap_run hD.pend.idle _ _ _ _).mono ?_; rintro e w2 ⟨rfl, hP, hK⟩; exact ⟨rfl, hP, hD.kept.trans hK (by intro i hi; exact .inl hi)⟩)); (intro K hK; go_simp; refine hK _ ?_; clear hK K))))
  (rintro w2 ⟨h1, h2⟩; go_wp2; go_returns; exact ⟨⟨_, rfl⟩, h1, h2⟩)
theorem np_given_run (x l : Nat) (P T G who : Int) (a p v : Int) (sp : Bool) (w : World)  (hp : Pend w x who (npR l a p sp) 196 .done) (hL : Lay w l P T G) :
    Calls Tryz.prog 223 #[.pointer (some ⟨x, 0, none⟩), .int .u64 v] w fun e w' => (∃ r, e = .returned r) ∧ Pend w' x who (npR l v p sp) 196 (.store (th P T who 1) 0 259) ∧ Kept [x] w w' := by
  have HI := hid ((MI.start hp hL).put (by decide) 1 (.int .u64 v)).drew
  have hf := hp.idle.frozen
  (have y0 := hp.idle.rest 0; have y1 := hp.idle.rest 1; have y2 := hp.idle.rest 2; have y3 := hp.idle.rest 3; simp only [npR, Nat.reduceAdd, Nat.zero_add, List.getElem?_cons_zero, List.getElem?_cons_succ] at y0 y1 y2 y3)
  clear hp hL
  go_enter Tryz.func223, Tryz.ntmps223
  go_wp2_with fail
  refine wp_region_T 14 (fun w' => MI w w' x who (npR l v p sp) 196 l P T G) (fun w' => Pend w' x who (npR l v p sp) 196 (.store (th P T who 1) 0 259) ∧ Kept [x] w w') (by kernel_rfl) (by kernel_rfl) rfl (by kernel_rfl) HI.out ?_
  clear HI
  (repeat (first | (apply walkD_pure; rfl; rfl; (intro _; go_simp; first | done | rfl); (intro K hK; go_simp; refine hK _ ?_; clear hK K)) | (apply walkD_skip; rfl; rfl; (intro K hK; go_simp; refine hK _ ?_; clear hK K)) | (apply walkD_read1 [false] (by kernel_rfl); rfl; rfl; (intro w' hD; (have y0 := hD.pend.idle.rest 0; have y1 := hD.pend.idle.rest 1; have y2 := hD.pend.idle.rest 2; have y3 := hD.pend.idle.rest 3; simp only [npR, Nat.reduceAdd, Nat.zero_add, List.getElem?_cons_zero, List.getElem?_cons_succ] at y0 y1 y2 y3); go_simp; rfl); (intro K hK; go_simp; refine hK _ ?_; clear hK K)) | (apply walkD_call1 [false] (by kernel_rfl); rfl; (intro _; go_simp; first | rfl | exact ⟨rfl, rfl⟩); (intro w' hD; first | (go_at_call 222; refine (ifwho_run hD.pend).mono ?_; rintro e w2 ⟨rfl, rfl⟩; exact ⟨rfl, hD⟩) | (go_at_call 25; refine (proc_run _ _ _ _ _ _ _ hD.lay).mono ?_; rintro e w2 ⟨rfl, hb⟩; exact ⟨rfl, hD.quiet hb⟩) | (go_at_call 76; refine (thread_run _ _ _ _ _ _ _ hD.lay).mono ?_; rintro e w2 ⟨rfl, hb⟩; exact ⟨rfl, hD.quiet hb⟩) | (go_at_call 255; refine (ring_run _ _ _ _ _ _ (by assumption) _ hD.lay).mono ?_; rintro e w2 ⟨rfl, hb⟩; exact ⟨rfl, hD.quiet hb⟩) | (go_at_call 168; refine (g_run _ _ _ _ _ _ _ hD.lay).mono ?_; rintro e w2 ⟨rfl, hb⟩; exact ⟨rfl, hD.quiet hb⟩) | (go_at_call 133; refine (word_run _ 0 0 0 _ _).mono ?_; rintro e w2 ⟨rfl, rfl⟩; exact ⟨rfl, hD⟩) | (go_at_call 183; refine (iload_run hD.pend.idle _ _).mono ?_; rintro e w2 ⟨rfl, hP, hK⟩; exact ⟨rfl, hP, hD.kept.trans hK (by intro i hi; exact .inl hi)⟩) | (go_at_call 132; refine (iadd_run hD.pend.idle _ _ _).mono ?_; rintro e w2 ⟨rfl, hP, hK⟩; exact ⟨rfl, hP, hD.kept.trans hK (by intro i hi; exact .inl hi)⟩) | (go_at_call 188; refine (istore_run hD.pend.idle _ _ _).mono ?_; rintro e w2 ⟨rfl, hP, hK⟩; exact ⟨rfl, hP, hD.kept.trans hK (by intro i hi; exact .inl hi)⟩) | (go_at_call 166; refine (iswap_run hD.pend.idle _ _ _ _).mono ?_; rintro e w2 ⟨rfl, hP, hK⟩; exact ⟨rfl, hP, hD.kept.trans hK (by intro i hi; exact .inl hi)⟩)); (intro K hK; go_simp; refine hK _ ?_; clear hK K))))
  (rintro w2 ⟨h1, h2⟩; go_wp2; go_returns; exact ⟨⟨_, rfl⟩, h1, h2⟩)
theorem np_taken_run (x l : Nat) (P T G who : Int) (a p : Int) (sp : Bool) (w : World) (hv : Rng a) (hp : Pend w x who (npR l a p sp) 196 .done) (hL : Lay w l P T G) :
    Calls Tryz.prog 259 #[.pointer (some ⟨x, 0, none⟩)] w fun e w' => (∃ r, e = .returned r) ∧ Pend w' x who (npR l a (gvP a) (gvS a)) 196 (.store (pr P (gvP a) 0) 1 293) ∧ Kept [x] w w' := by
  have HGV := hid (fun w => given_run a hv w)
  have HI := hid (((MI.start hp hL).put (by decide) 2 (.int .i64 (gvP a))).put (by decide) 3 (.bool (gvS a))).drew
  have hf := hp.idle.frozen
  (have y0 := hp.idle.rest 0; have y1 := hp.idle.rest 1; have y2 := hp.idle.rest 2; have y3 := hp.idle.rest 3; simp only [npR, Nat.reduceAdd, Nat.zero_add, List.getElem?_cons_zero, List.getElem?_cons_succ] at y0 y1 y2 y3)
  clear hp hL
  go_enter Tryz.func259, Tryz.ntmps259
  go_wp2_with (go_at_call 77; refine (HGV.out _).mono ?_; rintro e w1 ⟨rfl, rfl⟩)
  refine wp_region_T 14 (fun w' => MI w w' x who (npR l a (gvP a) (gvS a)) 196 l P T G) (fun w' => Pend w' x who (npR l a (gvP a) (gvS a)) 196 (.store (pr P (gvP a) 0) 1 293) ∧ Kept [x] w w') (by kernel_rfl) (by kernel_rfl) rfl (by kernel_rfl) HI.out ?_
  clear HI
  (repeat (first | (apply walkD_pure; rfl; rfl; (intro _; go_simp; first | done | rfl); (intro K hK; go_simp; refine hK _ ?_; clear hK K)) | (apply walkD_skip; rfl; rfl; (intro K hK; go_simp; refine hK _ ?_; clear hK K)) | (apply walkD_read1 [false] (by kernel_rfl); rfl; rfl; (intro w' hD; (have y0 := hD.pend.idle.rest 0; have y1 := hD.pend.idle.rest 1; have y2 := hD.pend.idle.rest 2; have y3 := hD.pend.idle.rest 3; simp only [npR, Nat.reduceAdd, Nat.zero_add, List.getElem?_cons_zero, List.getElem?_cons_succ] at y0 y1 y2 y3); go_simp; rfl); (intro K hK; go_simp; refine hK _ ?_; clear hK K)) | (apply walkD_call1 [false] (by kernel_rfl); rfl; (intro _; go_simp; first | rfl | exact ⟨rfl, rfl⟩); (intro w' hD; first | (go_at_call 222; refine (ifwho_run hD.pend).mono ?_; rintro e w2 ⟨rfl, rfl⟩; exact ⟨rfl, hD⟩) | (go_at_call 25; refine (proc_run _ _ _ _ _ _ _ hD.lay).mono ?_; rintro e w2 ⟨rfl, hb⟩; exact ⟨rfl, hD.quiet hb⟩) | (go_at_call 76; refine (thread_run _ _ _ _ _ _ _ hD.lay).mono ?_; rintro e w2 ⟨rfl, hb⟩; exact ⟨rfl, hD.quiet hb⟩) | (go_at_call 255; refine (ring_run _ _ _ _ _ _ (by assumption) _ hD.lay).mono ?_; rintro e w2 ⟨rfl, hb⟩; exact ⟨rfl, hD.quiet hb⟩) | (go_at_call 168; refine (g_run _ _ _ _ _ _ _ hD.lay).mono ?_; rintro e w2 ⟨rfl, hb⟩; exact ⟨rfl, hD.quiet hb⟩) | (go_at_call 133; refine (word_run _ 0 0 0 _ _).mono ?_; rintro e w2 ⟨rfl, rfl⟩; exact ⟨rfl, hD⟩) | (go_at_call 183; refine (iload_run hD.pend.idle _ _).mono ?_; rintro e w2 ⟨rfl, hP, hK⟩; exact ⟨rfl, hP, hD.kept.trans hK (by intro i hi; exact .inl hi)⟩) | (go_at_call 132; refine (iadd_run hD.pend.idle _ _ _).mono ?_; rintro e w2 ⟨rfl, hP, hK⟩; exact ⟨rfl, hP, hD.kept.trans hK (by intro i hi; exact .inl hi)⟩) | (go_at_call 188; refine (istore_run hD.pend.idle _ _ _).mono ?_; rintro e w2 ⟨rfl, hP, hK⟩; exact ⟨rfl, hP, hD.kept.trans hK (by intro i hi; exact .inl hi)⟩) | (go_at_call 166; refine (iswap_run hD.pend.idle _ _ _ _).mono ?_; rintro e w2 ⟨rfl, hP, hK⟩; exact ⟨rfl, hP, hD.kept.trans hK (by intro i hi; exact .inl hi)⟩)); (intro K hK; go_simp; refine hK _ ?_; clear hK K))))
  (rintro w2 ⟨h1, h2⟩; go_wp2; go_returns; exact ⟨⟨_, rfl⟩, h1, h2⟩)
theorem np_thruD : ThruD 52 := by
  intro x o w H
  have H := hid H
  go_enter Tryz.func52, Tryz.ntmps52
  go_wp2_with fail
  refine H.out.mono ?_
  rintro e w1 ⟨rfl, rfl⟩
  go_wp2
  go_ret
  exact ⟨rfl, rfl⟩
theorem npstep_nil (m : Option Addr) (w : World) : Calls Tryz.prog 56 #[.pointer none, .pointer m] w fun e w' => e = .returned (.bool true) ∧ w = w' := by
  go_enter Tryz.func56, Tryz.ntmps56
  go_wp2
  go_ret
  exact ⟨rfl, rfl⟩
theorem npdone_nil (w : World) : Calls Tryz.prog 52 #[.pointer none] w fun e w' => e = .returned (.bool true) ∧ w = w' := by
  go_enter Tryz.func52, Tryz.ntmps52
  go_wp2
  go_ret
  exact ⟨rfl, rfl⟩
theorem np_step : StepOf 81 56 := ⟨fun y w => rfl, enters_of Tryz.func56 (by kernel_rfl) rfl⟩
theorem np_thru : Thru 56 := by
  intro x m o w R H
  have H := hid H
  go_enter Tryz.func56, Tryz.ntmps56
  go_wp2_with fail
  refine H.out.mono ?_
  rintro e w1 ⟨rfl, h1⟩
  have HX := hid h1
  clear h1
  go_wp2
  go_ret
  exact ⟨rfl, HX.out⟩
theorem np_thruA : ThruA 55 := by
  intro x m o w H
  have H := hid H
  go_enter Tryz.func55, Tryz.ntmps55
  go_wp2_with fail
  refine H.out.mono ?_
  rintro e w1 ⟨rfl, rfl⟩
  go_wp2
  go_ret
  exact ⟨rfl, rfl⟩
theorem np_asl_nil (m : Option Addr) (w : World) : Calls Tryz.prog 55 #[.pointer none, .pointer m] w fun e w' => e = .returned (.bool false) ∧ w = w' := by
  go_enter Tryz.func55, Tryz.ntmps55
  go_wp2
  go_ret
  exact ⟨rfl, rfl⟩
theorem np_snooze : Snooze 81 55 := ⟨fun y w => run_typeAssert_hasB Tryz.underlying265 (by kernel_rfl) _ _ w, fun y w => rfl, enters_of Tryz.func55 (by kernel_rfl) rfl⟩
theorem np_ends_run (x : Nat) (who : Int) (rest : List Value) (T : TypeId) (w : World) (hp : Pend w x who rest T .done) : Calls Tryz.prog 293 #[.pointer (some ⟨x, 0, none⟩)] w fun e w' => (∃ r, e = .returned r) ∧ Pend w' x who rest T .done ∧ Kept [x] w w' := by
  have HP := hid hp
  clear hp
  go_enter Tryz.func293, Tryz.ntmps293
  go_wp2
  go_returns
  exact ⟨⟨_, rfl⟩, HP.out, Kept.refl _ _⟩
theorem np_own (lo l : Nat) (P T G who : Int) : ∀ Ty ∈ rdT (npM lo l P T G who).wr, Ty ∉ theirs := by
  show ∀ Ty ∈ rdT [196, 263], Ty ∉ theirs
  decide
theorem np_goes (lo l x : Nat) (P T G who : Int) : GoesZ (npM lo l P T G who) lo l x P T G who := by
  refine ⟨np_own lo l P T G who, by simp [npM], by show 1 ∉ [196, 263] ∧ 204 ∉ [196, 263] ∧ 214 ∉ [196, 263]; decide, ?_, ?_, ?_, ?_, ?_⟩
  · intro st T hT
    exact absurd (show T ∈ [] from hT) (by simp)
  · intro st a hok ha
    show npOk (npNext P T who st a)
    cases st with
    | sl s => unfold npNext runs; simp only; split <;> trivial
    | gv => exact ha
    | _ => trivial
  · intro st e
    cases st <;> rfl
  · intro st e w w' Z hi hk hZ
    trivial
  · intro st e hok
    cases st with
    | sl s =>
      refine ⟨sl_sub lo l (th P T who 0) P T G who, ?_, enters_of Tryz.func159 (by kernel_rfl) rfl, ?_⟩
      · show ∀ T ∈ [263], T ∈ [196, 263] ∧ T ≠ 196 ∧ T ∉ []
        decide
      intro a ha
      refine ⟨?_, ?_⟩
      · intro hn
        have e1 : npNext P T who (.sl s) a = NpSt.sl (slNext s a) := runs_on (M := slSys (th P T who 0)) (k := (fun _ => NpSt.gv)) (emb := NpSt.sl) (s := (slNext s a)) hn
        refine ⟨?_, ?_, fun _ h => ?_⟩
        · show (npM lo l P T G who).nx (npNext P T who (.sl s) a) e = _
          rw [e1]; rfl
        · show (npM lo l P T G who).rest (npNext P T who (.sl s) a) e = _
          rw [e1]; rfl
        · show (npM lo l P T G who).inv (npNext P T who (.sl s) a) e _
          rw [e1]; first | trivial | exact h
      · intro hn w hlo hp hA hi hL
        have e0 : npNext P T who (.sl s) a = ((fun _ => NpSt.gv)) (slNext s a) := runs_off (M := slSys (th P T who 0)) (k := (fun _ => NpSt.gv)) (emb := NpSt.sl) (s := (slNext s a)) hn
        have e1 := e0
        refine (np_woken_run x l P T G who 0 (-1) false w hp hL).mono ?_
        rintro e3 w' ⟨he, h1, h2⟩
        refine ⟨he, ⟨e, ?_⟩, h2⟩
        show (npM lo l P T G who).is_ x who w' (npNext P T who (.sl s) a) e
        rw [e1]
        exact ⟨h1, trivial⟩
    | gv =>
      refine .inr ⟨by show (0 : Int) ≤ 0 ∧ (0 : Int) < 18446744073709551616; omega, enters_of Tryz.func223 (by kernel_rfl) rfl, ?_⟩
      intro a w ha hlo hp hi hL
      refine (np_given_run x l P T G who 0 (-1) a false w hp hL).mono ?_
      rintro e3 w' ⟨he, h1, h2⟩
      exact ⟨he, ⟨e, h1, trivial⟩, h2⟩
    | z b =>
      refine .inr ⟨by show (0 : Int) ≤ 0 ∧ (0 : Int) < 18446744073709551616; omega, enters_of Tryz.func259 (by kernel_rfl) rfl, ?_⟩
      intro a w ha hlo hp hi hL
      refine (np_taken_run x l P T G who b (-1) false w hok hp hL).mono ?_
      rintro e3 w' ⟨he, h1, h2⟩
      exact ⟨he, ⟨e, h1, trivial⟩, h2⟩
    | st b =>
      refine .inr ⟨by show (0 : Int) ≤ 1 ∧ (1 : Int) < 18446744073709551616; omega, enters_of Tryz.func293 (by kernel_rfl) rfl, ?_⟩
      intro a w ha hlo hp hi hL
      refine (np_ends_run x who _ _ w hp).mono ?_
      rintro e3 w' ⟨he, h1, h2⟩
      exact ⟨he, ⟨e, h1, trivial⟩, h2⟩
    | fin b => exact .inl rfl
def npS_ (lo l : Nat) (P T G who : Int) : Subm NpSt := (npM lo l P T G who).sub 81 56 lo l P T G who
theorem np_sub (lo l : Nat) (P T G who : Int) : SubOkZ (npS_ lo l P T G who) lo who := mz_sub np_step np_snooze np_thru np_thruA (fun y _ => np_goes lo l y P T G who) (np_own lo l P T G who)
theorem np_made (lo l : Nat) (P T G who : Int) (w : World) (hL : Lay w l P T G) (hlo : lo ≤ w.heap.size) :
    Calls Tryz.prog 50 #[.pointer (some ⟨l, 0, none⟩), .int .i64 who] w fun e w' => e = .returned (.pointer (some ⟨w.heap.size, 0, none⟩)) ∧ (npS_ lo l P T G who).at_ w' w.heap.size (.sl (.waits false)) ∧ Below w.heap.size w w' := by
  refine (np_new_run l lo P T G who w hlo hL).mono ?_
  rintro e w' ⟨rfl, ⟨y, h1⟩, h2⟩
  exact ⟨rfl, ⟨⟨y, h1, trivial⟩, hlo, hL.quiet h2, trivial⟩, h2⟩
/-- Counting in. -/
inductive SnSt
  | a
  | b
  | done
def snNext : SnSt → Int → SnSt
  | .a, _ => .b
  | .b, _ => .done
  | .done, _ => .done
def snNx : SnSt → Nx
  | .a => .add (wordN 13) 1 134
  | .b => .store (wordN 14) 0 207
  | .done => .done
def snC : SnSt → Bool
  | .a => false
  | _ => true
def snR (l : Nat) (c : Bool) : List Value := [.pointer (some ⟨l, 0, none⟩), .bool c]
def snM (l : Nat) : Mch SnSt := ⟨170, snNx, fun st => snR l (snC st), snNext, fun _ => True⟩
theorem sn_new_run (l : Nat) (P T G who : Int)  (w : World) (hL : Lay w l P T G) :
    Calls Tryz.prog 29 #[.pointer (some ⟨l, 0, none⟩), .int .i64 who] w fun e w' => e = .returned (.pointer (some ⟨w.heap.size, 0, none⟩)) ∧ Pend w' w.heap.size who (snR l false) 170 (.add (wordN 13) 1 134) ∧ Below w.heap.size w w' := by
  have h0 : FlAt (w.alloc (.cells (fl fl0 ++ snR l false).toArray 170)) w.heap.size fl0 (snR l false) 170 := Blk.new w _ _
  have hL0 := hL.quiet (below_one w (.cells (fl fl0 ++ snR l false).toArray 170))
  have hlx : l ≠ w.heap.size := Nat.ne_of_lt hL.1.lt
  clear hL
  go_enter Tryz.func29, Tryz.ntmps29
  go_wp2_with fail
  refine (iof_run h0 who).mono ?_
  rintro e w1 ⟨rfl, hp, hK⟩
  have hL1 := hL0.kept hK (by simpa using hlx)
  have hlow : Below w.heap.size w w1 := (below_one _ _).trans (hK.below (by simp) (by simp))
  have HI := hid (MI.start hp hL1).drew
  clear h0 hL0 hp hL1 hK
  go_wp2_with fail
  refine wp_region_T 7 (fun w' => MI w1 w' w.heap.size who (snR l false) 170 l P T G) (fun w' => Pend w' w.heap.size who (snR l false) 170 (.add (wordN 13) 1 134) ∧ Kept [w.heap.size] w1 w') (by kernel_rfl) (by kernel_rfl) rfl (by kernel_rfl) HI.out ?_
  clear HI
  (repeat (first | (apply walkD_pure; rfl; rfl; (intro _; go_simp; first | done | rfl); (intro K hK; go_simp; refine hK _ ?_; clear hK K)) | (apply walkD_skip; rfl; rfl; (intro K hK; go_simp; refine hK _ ?_; clear hK K)) | (apply walkD_read1 [false] (by kernel_rfl); rfl; rfl; (intro w' hD; (have y0 := hD.pend.idle.rest 0; have y1 := hD.pend.idle.rest 1; simp only [snR, Nat.reduceAdd, Nat.zero_add, List.getElem?_cons_zero, List.getElem?_cons_succ] at y0 y1); go_simp; rfl); (intro K hK; go_simp; refine hK _ ?_; clear hK K)) | (apply walkD_call1 [false] (by kernel_rfl); rfl; (intro _; go_simp; first | rfl | exact ⟨rfl, rfl⟩); (intro w' hD; first | (fail) | (go_at_call 25; refine (proc_run _ _ _ _ _ _ _ hD.lay).mono ?_; rintro e w2 ⟨rfl, hb⟩; exact ⟨rfl, hD.quiet hb⟩) | (go_at_call 76; refine (thread_run _ _ _ _ _ _ _ hD.lay).mono ?_; rintro e w2 ⟨rfl, hb⟩; exact ⟨rfl, hD.quiet hb⟩) | (go_at_call 255; refine (ring_run _ _ _ _ _ _ (by assumption) _ hD.lay).mono ?_; rintro e w2 ⟨rfl, hb⟩; exact ⟨rfl, hD.quiet hb⟩) | (go_at_call 168; refine (g_run _ _ _ _ _ _ _ hD.lay).mono ?_; rintro e w2 ⟨rfl, hb⟩; exact ⟨rfl, hD.quiet hb⟩) | (go_at_call 133; refine (word_run _ 0 0 0 _ _).mono ?_; rintro e w2 ⟨rfl, rfl⟩; exact ⟨rfl, hD⟩) | (go_at_call 183; refine (iload_run hD.pend.idle _ _).mono ?_; rintro e w2 ⟨rfl, hP, hK⟩; exact ⟨rfl, hP, hD.kept.trans hK (by intro i hi; exact .inl hi)⟩) | (go_at_call 132; refine (iadd_run hD.pend.idle _ _ _).mono ?_; rintro e w2 ⟨rfl, hP, hK⟩; exact ⟨rfl, hP, hD.kept.trans hK (by intro i hi; exact .inl hi)⟩) | (go_at_call 188; refine (istore_run hD.pend.idle _ _ _).mono ?_; rintro e w2 ⟨rfl, hP, hK⟩; exact ⟨rfl, hP, hD.kept.trans hK (by intro i hi; exact .inl hi)⟩) | (go_at_call 166; refine (iswap_run hD.pend.idle _ _ _ _).mono ?_; rintro e w2 ⟨rfl, hP, hK⟩; exact ⟨rfl, hP, hD.kept.trans hK (by intro i hi; exact .inl hi)⟩)); (intro K hK; go_simp; refine hK _ ?_; clear hK K))))
  rintro w2 ⟨h1, h2⟩
  go_wp2
  go_ret
  exact ⟨rfl, h1, hlow.trans (h2.below (by simp) hlow.size)⟩
theorem sn_counted_run (x l : Nat) (P T G who : Int) (v : Int) (w : World)  (hp : Pend w x who (snR l false) 170 .done) (hL : Lay w l P T G) :
    Calls Tryz.prog 134 #[.pointer (some ⟨x, 0, none⟩), .int .u64 v] w fun e w' => (∃ r, e = .returned r) ∧ Pend w' x who (snR l true) 170 (.store (wordN 14) 0 207) ∧ Kept [x] w w' := by
  have HI := hid ((MI.start hp hL).put (by decide) 1 (.bool true)).drew
  have hf := hp.idle.frozen
  (have y0 := hp.idle.rest 0; have y1 := hp.idle.rest 1; simp only [snR, Nat.reduceAdd, Nat.zero_add, List.getElem?_cons_zero, List.getElem?_cons_succ] at y0 y1)
  clear hp hL
  go_enter Tryz.func134, Tryz.ntmps134
  go_wp2_with fail
  refine wp_region_T 10 (fun w' => MI w w' x who (snR l true) 170 l P T G) (fun w' => Pend w' x who (snR l true) 170 (.store (wordN 14) 0 207) ∧ Kept [x] w w') (by kernel_rfl) (by kernel_rfl) rfl (by kernel_rfl) HI.out ?_
  clear HI
  (repeat (first | (apply walkD_pure; rfl; rfl; (intro _; go_simp; first | done | rfl); (intro K hK; go_simp; refine hK _ ?_; clear hK K)) | (apply walkD_skip; rfl; rfl; (intro K hK; go_simp; refine hK _ ?_; clear hK K)) | (apply walkD_read1 [false] (by kernel_rfl); rfl; rfl; (intro w' hD; (have y0 := hD.pend.idle.rest 0; have y1 := hD.pend.idle.rest 1; simp only [snR, Nat.reduceAdd, Nat.zero_add, List.getElem?_cons_zero, List.getElem?_cons_succ] at y0 y1); go_simp; rfl); (intro K hK; go_simp; refine hK _ ?_; clear hK K)) | (apply walkD_call1 [false] (by kernel_rfl); rfl; (intro _; go_simp; first | rfl | exact ⟨rfl, rfl⟩); (intro w' hD; first | (fail) | (go_at_call 25; refine (proc_run _ _ _ _ _ _ _ hD.lay).mono ?_; rintro e w2 ⟨rfl, hb⟩; exact ⟨rfl, hD.quiet hb⟩) | (go_at_call 76; refine (thread_run _ _ _ _ _ _ _ hD.lay).mono ?_; rintro e w2 ⟨rfl, hb⟩; exact ⟨rfl, hD.quiet hb⟩) | (go_at_call 255; refine (ring_run _ _ _ _ _ _ (by assumption) _ hD.lay).mono ?_; rintro e w2 ⟨rfl, hb⟩; exact ⟨rfl, hD.quiet hb⟩) | (go_at_call 168; refine (g_run _ _ _ _ _ _ _ hD.lay).mono ?_; rintro e w2 ⟨rfl, hb⟩; exact ⟨rfl, hD.quiet hb⟩) | (go_at_call 133; refine (word_run _ 0 0 0 _ _).mono ?_; rintro e w2 ⟨rfl, rfl⟩; exact ⟨rfl, hD⟩) | (go_at_call 183; refine (iload_run hD.pend.idle _ _).mono ?_; rintro e w2 ⟨rfl, hP, hK⟩; exact ⟨rfl, hP, hD.kept.trans hK (by intro i hi; exact .inl hi)⟩) | (go_at_call 132; refine (iadd_run hD.pend.idle _ _ _).mono ?_; rintro e w2 ⟨rfl, hP, hK⟩; exact ⟨rfl, hP, hD.kept.trans hK (by intro i hi; exact .inl hi)⟩) | (go_at_call 188; refine (istore_run hD.pend.idle _ _ _).mono ?_; rintro e w2 ⟨rfl, hP, hK⟩; exact ⟨rfl, hP, hD.kept.trans hK (by intro i hi; exact .inl hi)⟩) | (go_at_call 166; refine (iswap_run hD.pend.idle _ _ _ _).mono ?_; rintro e w2 ⟨rfl, hP, hK⟩; exact ⟨rfl, hP, hD.kept.trans hK (by intro i hi; exact .inl hi)⟩)); (intro K hK; go_simp; refine hK _ ?_; clear hK K))))
  (rintro w2 ⟨h1, h2⟩; go_wp2; go_returns; exact ⟨⟨_, rfl⟩, h1, h2⟩)
theorem sn_step : StepOf 45 35 := ⟨fun y w => rfl, enters_of Tryz.func35 (by kernel_rfl) rfl⟩
theorem sn_quiet : NoSleeper 45 := fun y w => run_typeAssert_lacksB Tryz.underlying265 (by kernel_rfl) (by kernel_rfl) _ _ w
theorem sn_thru : Thru 35 := by
  intro x m o w R H
  have H := hid H
  go_enter Tryz.func35, Tryz.ntmps35
  go_wp2_with fail
  refine H.out.mono ?_
  rintro e w1 ⟨rfl, h1⟩
  have HX := hid h1
  clear h1
  go_wp2
  go_ret
  exact ⟨rfl, HX.out⟩
theorem sn_ends_run (x : Nat) (who : Int) (rest : List Value) (T : TypeId) (w : World) (hp : Pend w x who rest T .done) : Calls Tryz.prog 207 #[.pointer (some ⟨x, 0, none⟩)] w fun e w' => (∃ r, e = .returned r) ∧ Pend w' x who rest T .done ∧ Kept [x] w w' := by
  have HP := hid hp
  clear hp
  go_enter Tryz.func207, Tryz.ntmps207
  go_wp2
  go_returns
  exact ⟨⟨_, rfl⟩, HP.out, Kept.refl _ _⟩
theorem sn_goes (l x : Nat) (P T G who : Int) : Goes (snM l) l x P T G who := by
  refine ⟨by show ∀ T ∈ ownT 170, _; decide, by show 170 ≠ _ ∧ 170 ≠ _ ∧ 170 ≠ _; decide, ?_, ?_, ?_, ?_⟩
  · intro st hok
    cases st <;> simp [snM, snNx, Nx.val]
  · intro st a hok ha
    trivial
  · intro st hst
    cases st with
    | a => exact enters_of Tryz.func134 (by kernel_rfl) rfl
    | b => exact enters_of Tryz.func207 (by kernel_rfl) rfl
    | done => exact absurd rfl hst
  · intro st v w hst hok hv hpe hL
    cases st with
    | a => exact sn_counted_run x l P T G who v w hpe hL
    | b => exact sn_ends_run x who _ _ w hpe
    | done => exact absurd rfl hst
theorem snstep_run (lo l x m g : Nat) (P T G who : Int)  {st : _} {s : St} {w : World} (hgo : Goes (snM l) l x P T G who) (hA : Mch.at_ (snM l) lo l x P T G who w st) (hM : MemAt w m g s) (hc : s.clock < 1000000) (hbd : s.bad < 1000000) :
    Calls Tryz.prog 35 #[.pointer (some ⟨x, 0, none⟩), .pointer (some ⟨m, 0, none⟩)] w fun e w' => (∃ b, e = .returned (.bool b)) ∧ Mch.at_ (snM l) lo l x P T G who w' (stepOf (Mch.sys (snM l)) who st s).1 ∧ MemAt w' m g (stepOf (Mch.sys (snM l)) who st s).2 ∧ KeptOwn (ownT 170) lo m g w w' := by
  obtain ⟨cs, hb⟩ := hA.1.blk
  have h2 := hA.2.1
  have H := hid (mch_fstep hgo hA hM hc hbd)
  have HK := hid (fun (w' : World) (hK : Kept [x, m, g] w w') => mch_kept (K := snM l) h2 hb hK)
  clear hA hM hb hgo
  obtain ⟨q, hq⟩ : ∃ q, q = stepOf (Mch.sys (snM l)) who st s := ⟨_, rfl⟩
  rw [← hq] at H ⊢
  obtain ⟨o, ho⟩ : ∃ o, o = (Mch.nx (snM l) q.1).over := ⟨_, rfl⟩
  rw [← ho] at H
  clear hq ho
  go_enter Tryz.func35, Tryz.ntmps35
  go_wp2_with fail
  refine H.out.mono ?_
  rintro e w1 ⟨rfl, h1, h2, h3⟩
  have HX := hid (And.intro h1 (And.intro h2 (HK.out w1 h3)))
  clear h1 h2 h3
  go_wp2
  go_ret
  exact ⟨⟨_, rfl⟩, HX.out⟩
theorem sndone_run {lo l x : Nat} {P T G who : Int}  {st : _} {w : World} (hA : Mch.at_ (snM l) lo l x P T G who w st) :
    Calls Tryz.prog 32 #[.pointer (some ⟨x, 0, none⟩)] w fun e w' => e = .returned (.bool (Mch.nx (snM l) st).over) ∧ w = w' := by
  have H := hid (pend_done hA.1)
  clear hA
  obtain ⟨o, ho⟩ : ∃ o, o = (Mch.nx (snM l) st).over := ⟨_, rfl⟩
  rw [← ho] at H ⊢
  clear ho
  go_enter Tryz.func32, Tryz.ntmps32
  go_wp2_with fail
  refine H.out.mono ?_
  rintro e w1 ⟨rfl, rfl⟩
  go_wp2
  go_ret
  exact ⟨rfl, rfl⟩
theorem snstep_nil (m : Option Addr) (w : World) : Calls Tryz.prog 35 #[.pointer none, .pointer m] w fun e w' => e = .returned (.bool true) ∧ w = w' := by
  go_enter Tryz.func35, Tryz.ntmps35
  go_wp2
  go_ret
  exact ⟨rfl, rfl⟩
theorem sndone_nil (w : World) : Calls Tryz.prog 32 #[.pointer none] w fun e w' => e = .returned (.bool true) ∧ w = w' := by
  go_enter Tryz.func32, Tryz.ntmps32
  go_wp2
  go_ret
  exact ⟨rfl, rfl⟩
def snS (lo l : Nat) (P T G who : Int) : Subm SnSt := (snM l).sub 45 35 lo l P T G who
theorem sn_sub (lo l : Nat) (P T G who : Int) : SubOk (snS lo l P T G who) lo who := mch_sub sn_step sn_quiet sn_thru (fun y => sn_goes l y P T G who)
theorem sn_made (lo l : Nat) (P T G who : Int) (w : World) (hL : Lay w l P T G) (hlo : lo ≤ w.heap.size) :
    Calls Tryz.prog 29 #[.pointer (some ⟨l, 0, none⟩), .int .i64 who] w fun e w' => e = .returned (.pointer (some ⟨w.heap.size, 0, none⟩)) ∧ (snS lo l P T G who).at_ w' w.heap.size .a ∧ Below w.heap.size w w' := by
  refine (sn_new_run l P T G who w hL).mono ?_
  rintro e w' ⟨rfl, h1, h2⟩
  exact ⟨rfl, ⟨h1, hlo, hL.quiet h2, trivial⟩, h2⟩
theorem sn_c_run {lo l x : Nat} {P T G who : Int} {st : SnSt} {w : World} (hA : Mch.at_ (snM l) lo l x P T G who w st) :
    Calls Tryz.prog 33 #[.pointer (some ⟨x, 0, none⟩)] w fun e w' => e = .returned (.bool (snC st)) ∧ w = w' := by
  have y2 := hA.1.idle.rest 1
  have e1 : w.cell? ⟨x, 10, none⟩ = some (.bool (snC st)) := y2
  obtain ⟨z, hz⟩ : ∃ z, z = snC st := ⟨_, rfl⟩
  rw [← hz] at e1 ⊢
  clear hA y2 hz
  cases z with
  | true => go_enter Tryz.func33, Tryz.ntmps33; go_wp2; go_ret; exact ⟨rfl, rfl⟩
  | false => go_enter Tryz.func33, Tryz.ntmps33; go_wp2; go_ret; exact ⟨rfl, rfl⟩
theorem sn_c_nil (w : World) : Calls Tryz.prog 33 #[.pointer none] w fun e w' => e = .returned (.bool false) ∧ w = w' := by
  go_enter Tryz.func33, Tryz.ntmps33
  go_wp2
  go_ret
  exact ⟨rfl, rfl⟩
theorem np_p_run {lo l x : Nat} {P T G who : Int} {st : NpSt} {w : World} (hA : (npM lo l P T G who).at_ lo l x P T G who w st) :
    Calls Tryz.prog 53 #[.pointer (some ⟨x, 0, none⟩)] w fun e w' => e = .returned (.int .i64 (npP st)) ∧ w = w' := by
  obtain ⟨⟨e, hp, hi⟩, _⟩ := hA
  have y5 := hp.rest_ 2
  have e1 : w.cell? ⟨x, 11, none⟩ = some (.int .i64 (npP st)) := by
    simp only [Nat.reduceAdd] at y5
    rw [y5]
    cases st <;> rfl
  obtain ⟨q, hq⟩ : ∃ q, q = npP st := ⟨_, rfl⟩
  rw [← hq] at e1 ⊢
  clear hp hi hq y5
  go_enter Tryz.func53, Tryz.ntmps53
  go_wp2
  go_ret
  exact ⟨rfl, rfl⟩
theorem np_s_run {lo l x : Nat} {P T G who : Int} {st : NpSt} {w : World} (hA : (npM lo l P T G who).at_ lo l x P T G who w st) :
    Calls Tryz.prog 54 #[.pointer (some ⟨x, 0, none⟩)] w fun e w' => e = .returned (.bool (npS st)) ∧ w = w' := by
  obtain ⟨⟨e, hp, hi⟩, _⟩ := hA
  have y5 := hp.rest_ 3
  have e1 : w.cell? ⟨x, 12, none⟩ = some (.bool (npS st)) := by
    simp only [Nat.reduceAdd] at y5
    rw [y5]
    cases st <;> rfl
  obtain ⟨q, hq⟩ : ∃ q, q = npS st := ⟨_, rfl⟩
  rw [← hq] at e1 ⊢
  clear hp hi hq y5
  cases q with
  | true => go_enter Tryz.func54, Tryz.ntmps54; go_wp2; go_ret; exact ⟨rfl, rfl⟩
  | false => go_enter Tryz.func54, Tryz.ntmps54; go_wp2; go_ret; exact ⟨rfl, rfl⟩
theorem np_p_nil (w : World) : Calls Tryz.prog 53 #[.pointer none] w fun e w' => e = .returned (.int .i64 (-1)) ∧ w = w' := by
  go_enter Tryz.func53, Tryz.ntmps53
  go_wp2
  go_ret
  exact ⟨rfl, rfl⟩
theorem np_s_nil (w : World) : Calls Tryz.prog 54 #[.pointer none] w fun e w' => e = .returned (.bool false) ∧ w = w' := by
  go_enter Tryz.func54, Tryz.ntmps54
  go_wp2
  go_ret
  exact ⟨rfl, rfl⟩
theorem np_thruD' : ThruD 52 := np_thruD
end Go.Proofs.YtlhnnggceebpjaaGreat.Rest
