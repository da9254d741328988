/- Some thread is woken: a machine that runs others. -/
import Derived.Test.YtlhnnggceebpjaaGreatWake
set_option maxRecDepth 100000
set_option maxHeartbeats 4000000
set_option linter.unusedVariables false
set_option linter.unusedSimpArgs false
namespace Go.Proofs.YtlhnnggceebpjaaGreat.Wake
open Go.RowKit Go.Shelf Go.Proofs.YtlhnnggceebpjaaGreat.TK Go.Proofs.YtlhnnggceebpjaaGreat.Flag Go.Proofs.YtlhnnggceebpjaaGreat.Words Go.Proofs.YtlhnnggceebpjaaGreat.Mem Go.Proofs.YtlhnnggceebpjaaGreat.Flow Go.Proofs.YtlhnnggceebpjaaGreat.Layout Go.Proofs.YtlhnnggceebpjaaGreat.Lock Go.Proofs.YtlhnnggceebpjaaGreat.Run Go.Proofs.YtlhnnggceebpjaaGreat.Sys Go.Proofs.YtlhnnggceebpjaaGreat.Mach Go.Proofs.YtlhnnggceebpjaaGreat.Ref05 Go.Proofs.YtlhnnggceebpjaaGreat.Subs
theorem sub_kept1 {σ : Type} {S : Subm σ} {lo : Nat} {who0 who : Int} {w w' : World} {x y : Nat} {rest : List Value} {T : TypeId} {n : Nx} {st : σ} (hS : SubOk S lo who0) (hA : S.at_ w y st) (hp : Pend w x who rest T n) (hT : T ∉ rdT S.wr) (hk : Kept [x] w w') : S.at_ w' y st := by
  refine hS.kept hA hk ?_
  intro i hi
  simp at hi
  subst hi
  obtain ⟨cs, hb⟩ := hp.blk
  exact not_of hb hT
def wrR (l : Nat) (gp sp : Value) (c : Bool) : List Value := [.pointer (some ⟨l, 0, none⟩), gp, sp, .bool c]
inductive WrSt
  | ask
  | sw
  | none
  | acq (s : AcqSt)
  | get (s : Idlep.PgSt)
  | st (p : Int) (s : StSt)
  | cnt (q : Idlep.PgSt)
  | nd (q : Idlep.PgSt)
  | rel (q : Idlep.PgSt) (s : RlSt)
  | fin1 (p : Int) (s : StSt)
  | fin2 (q : Idlep.PgSt)
def pgY (P : Int) : Rsys Idlep.PgSt := (Idlep.pgM 0 P).sys
def wrGot (s : Idlep.PgSt) : WrSt := if s.p = -1 then .cnt s else .st s.p (.get .h)
def wrNext (P T who : Int) (st : WrSt) (a : Int) : WrSt :=
  match st with
  | .ask => if a = 0 then .sw else .none
  | .sw => if a = 1 then .acq .ask else .none
  | .none => .none
  | .acq s => runs (aq0 who) (fun _ => .get .h) .acq (aqNext s a)
  | .get s => runs (pgY P) wrGot .get (Idlep.pgNext s a)
  | .st p s => runs (stY P T p true false) (.fin1 p) (.st p) (stNext P T p true false s a)
  | .cnt q => .nd q
  | .nd q => .rel q .puts
  | .rel q s => runs rl0 (fun _ => .fin2 q) (.rel q) (rlNext s a)
  | .fin1 p s => .fin1 p s
  | .fin2 q => .fin2 q
def wrOwn : WrSt → Nx
  | .ask => .load (wordN 13) 306
  | .sw => .swap (wordN 13) 0 1 329
  | .cnt _ => .add (wordN 13) 4294967295 389
  | .nd _ => .store (wordN 14) 1 397
  | _ => .done
def wrWant (P T who : Int) : WrSt → Option Wnt
  | .acq s => (aq0 who).want s
  | .get s => (pgY P).want s
  | .st p s => (stY P T p true false).want s
  | .rel _ s => rl0.want s
  | st => (wrOwn st).want
def wrY (P T who : Int) : Rsys WrSt := ⟨wrWant P T who, wrNext P T who⟩
def wrH : WrSt → Int
  | .get s => s.p
  | .st p s => stH p s
  | .cnt q => q.p
  | .nd q => q.p
  | .rel q _ => q.p
  | .fin1 p s => stH p s
  | .fin2 q => q.p
  | _ => -1
def wrC : WrSt → Bool
  | .acq _ => true
  | .get _ => true
  | .cnt _ => true
  | _ => false
def wrRest (l : Nat) (st : WrSt) (e : Nat × Nat) : List Value :=
  match st with
  | .ask => wrR l (.pointer none) (.pointer none) false
  | .sw => wrR l (.pointer none) (.pointer none) false
  | .none => wrR l (.pointer none) (.pointer none) false
  | .acq _ => wrR l (.pointer none) (.pointer none) true
  | .get _ => wrR l (.pointer (some ⟨e.1, 0, none⟩)) (.pointer none) true
  | .st _ _ => wrR l (.pointer (some ⟨e.2, 0, none⟩)) (.pointer (some ⟨e.1, 0, none⟩)) false
  | .cnt _ => wrR l (.pointer (some ⟨e.2, 0, none⟩)) (.pointer none) true
  | .nd _ => wrR l (.pointer (some ⟨e.2, 0, none⟩)) (.pointer none) false
  | .rel _ _ => wrR l (.pointer (some ⟨e.2, 0, none⟩)) (.pointer none) false
  | .fin1 _ _ => wrR l (.pointer (some ⟨e.2, 0, none⟩)) (.pointer (some ⟨e.1, 0, none⟩)) false
  | .fin2 _ => wrR l (.pointer (some ⟨e.2, 0, none⟩)) (.pointer none) false
def wrInv (lo l : Nat) (P T G who : Int) (st : WrSt) (e : Nat × Nat) (w : World) : Prop :=
  match st with
  | .cnt q => (pgS lo l P T G who).at_ w e.2 q
  | .nd q => (pgS lo l P T G who).at_ w e.2 q
  | .rel q _ => (pgS lo l P T G who).at_ w e.2 q
  | .fin2 q => (pgS lo l P T G who).at_ w e.2 q
  | .fin1 p s => (stS lo l P T G who p true false).at_ w e.1 s
  | _ => True
def wrInvT : WrSt → List TypeId
  | .cnt _ => rdT [250]
  | .nd _ => rdT [250]
  | .rel _ _ => rdT [250]
  | .fin2 _ => rdT [250]
  | .fin1 _ _ => rdT [274, 333, 331, 339, 276]
  | _ => []
def wrM (lo l : Nat) (P T G who : Int) : Mch2 WrSt (Nat × Nat) :=
  ⟨284, [284, 247, 250, 331, 274, 333, 339, 276], fun st e => match st with
    | .acq s => .sub (aqS lo l 0 P T G who) e.1 s 351
    | .get s => .sub (pgS lo l P T G who) e.1 s 373
    | .st p s => .sub (stS lo l P T G who p true false) e.1 s 390
    | .rel _ s => .sub (rlS lo l 0 P T G who) e.1 s 390
    | st => .own (wrOwn st),
   wrRest l, wrInv lo l P T G who, wrInvT, wrY P T who, fun _ => True⟩
theorem wr_new_run (l : Nat) (P T G who : Int)  (w : World) (hL : Lay w l P T G) :
    Calls Tryz.prog 275 #[.pointer (some ⟨l, 0, none⟩), .int .i64 who] w fun e w' => e = .returned (.pointer (some ⟨w.heap.size, 0, none⟩)) ∧ Pend w' w.heap.size who (wrR l (.pointer none) (.pointer none) false) 284 (.load (wordN 13) 306) ∧ Below w.heap.size w w' := by
  have h0 : FlAt (w.alloc (.cells (fl fl0 ++ wrR l (.pointer none) (.pointer none) false).toArray 284)) w.heap.size fl0 (wrR l (.pointer none) (.pointer none) false) 284 := Blk.new w _ _
  have hL0 := hL.quiet (below_one w (.cells (fl fl0 ++ wrR l (.pointer none) (.pointer none) false).toArray 284))
  have hlx : l ≠ w.heap.size := Nat.ne_of_lt hL.1.lt
  clear hL
  go_enter Tryz.func275, Tryz.ntmps275
  go_wp2_with fail
  refine (iof_run h0 who).mono ?_
  rintro e w1 ⟨rfl, hp, hK⟩
  have hL1 := hL0.kept hK (by simpa using hlx)
  have hlow : Below w.heap.size w w1 := (below_one _ _).trans (hK.below (by simp) (by simp))
  have HI := hid (MI.start hp hL1).drew
  clear h0 hL0 hp hL1 hK
  go_wp2_with fail
  refine wp_region_T 7 (fun w' => MI w1 w' w.heap.size who (wrR l (.pointer none) (.pointer none) false) 284 l P T G) (fun w' => Pend w' w.heap.size who (wrR l (.pointer none) (.pointer none) false) 284 (.load (wordN 13) 306) ∧ Kept [w.heap.size] w1 w') (by kernel_rfl) (by kernel_rfl) rfl (by kernel_rfl) HI.out ?_
  clear HI
  (repeat (first | (apply walkD_pure; rfl; rfl; (intro _; go_simp; first | done | rfl); (intro K hK; go_simp; refine hK _ ?_; clear hK K)) | (apply walkD_skip; rfl; rfl; (intro K hK; go_simp; refine hK _ ?_; clear hK K)) | (apply walkD_read1 [false] (by kernel_rfl); rfl; rfl; (intro w' hD; (have y0 := hD.pend.idle.rest 0; have y1 := hD.pend.idle.rest 1; have y2 := hD.pend.idle.rest 2; have y3 := hD.pend.idle.rest 3; simp only [wrR, Nat.reduceAdd, Nat.zero_add, List.getElem?_cons_zero, List.getElem?_cons_succ] at y0 y1 y2 y3); go_simp; rfl); (intro K hK; go_simp; refine hK _ ?_; clear hK K)) | (apply walkD_call1 [false] (by kernel_rfl); rfl; (intro _; go_simp; first | rfl | exact ⟨rfl, rfl⟩); (intro w' hD; first | (go_at_call 25; refine (proc_run _ _ _ _ _ _ _ hD.lay).mono ?_; rintro e w2 ⟨rfl, hb⟩; exact ⟨rfl, hD.quiet hb⟩) | (go_at_call 76; refine (thread_run _ _ _ _ _ _ _ hD.lay).mono ?_; rintro e w2 ⟨rfl, hb⟩; exact ⟨rfl, hD.quiet hb⟩) | (go_at_call 255; refine (ring_run _ _ _ _ _ _ (by assumption) _ hD.lay).mono ?_; rintro e w2 ⟨rfl, hb⟩; exact ⟨rfl, hD.quiet hb⟩) | (go_at_call 168; refine (g_run _ _ _ _ _ _ _ hD.lay).mono ?_; rintro e w2 ⟨rfl, hb⟩; exact ⟨rfl, hD.quiet hb⟩) | (go_at_call 133; refine (word_run _ 0 0 0 _ _).mono ?_; rintro e w2 ⟨rfl, rfl⟩; exact ⟨rfl, hD⟩) | (go_at_call 183; refine (iload_run hD.pend.idle _ _).mono ?_; rintro e w2 ⟨rfl, hP, hK⟩; exact ⟨rfl, hP, hD.kept.trans hK (by intro i hi; exact .inl hi)⟩) | (go_at_call 132; refine (iadd_run hD.pend.idle _ _ _).mono ?_; rintro e w2 ⟨rfl, hP, hK⟩; exact ⟨rfl, hP, hD.kept.trans hK (by intro i hi; exact .inl hi)⟩) | (go_at_call 188; refine (istore_run hD.pend.idle _ _ _).mono ?_; rintro e w2 ⟨rfl, hP, hK⟩; exact ⟨rfl, hP, hD.kept.trans hK (by intro i hi; exact .inl hi)⟩) | (go_at_call 166; refine (iswap_run hD.pend.idle _ _ _ _).mono ?_; rintro e w2 ⟨rfl, hP, hK⟩; exact ⟨rfl, hP, hD.kept.trans hK (by intro i hi; exact .inl hi)⟩)); (intro K hK; go_simp; refine hK _ ?_; clear hK K))))
  rintro w2 ⟨h1, h2⟩
  go_wp2
  go_ret
  exact ⟨rfl, h1, hlow.trans (h2.below (by simp) hlow.size)⟩
theorem wr_asked0_run (x l : Nat) (P T G who : Int)  (w : World)  (hp : Pend w x who (wrR l (.pointer none) (.pointer none) false) 284 .done) (hL : Lay w l P T G) :
    Calls Tryz.prog 306 #[.pointer (some ⟨x, 0, none⟩), .int .u64 0] w fun e w' => (∃ r, e = .returned r) ∧ Pend w' x who (wrR l (.pointer none) (.pointer none) false) 284 (.swap (wordN 13) 0 1 329) ∧ Kept [x] w w' := by
  have HI := hid (MI.start hp hL).drew
  have hf := hp.idle.frozen
  (have y0 := hp.idle.rest 0; have y1 := hp.idle.rest 1; have y2 := hp.idle.rest 2; have y3 := hp.idle.rest 3; simp only [wrR, Nat.reduceAdd, Nat.zero_add, List.getElem?_cons_zero, List.getElem?_cons_succ] at y0 y1 y2 y3)
  clear hp hL
  go_enter Tryz.func306, Tryz.ntmps306
  go_wp2_with fail
  refine wp_region_T 10 (fun w' => MI w w' x who (wrR l (.pointer none) (.pointer none) false) 284 l P T G) (fun w' => Pend w' x who (wrR l (.pointer none) (.pointer none) false) 284 (.swap (wordN 13) 0 1 329) ∧ Kept [x] w w') (by kernel_rfl) (by kernel_rfl) rfl (by kernel_rfl) HI.out ?_
  clear HI
  (repeat (first | (apply walkD_pure; rfl; rfl; (intro _; go_simp; first | done | rfl); (intro K hK; go_simp; refine hK _ ?_; clear hK K)) | (apply walkD_skip; rfl; rfl; (intro K hK; go_simp; refine hK _ ?_; clear hK K)) | (apply walkD_read1 [false] (by kernel_rfl); rfl; rfl; (intro w' hD; (have y0 := hD.pend.idle.rest 0; have y1 := hD.pend.idle.rest 1; have y2 := hD.pend.idle.rest 2; have y3 := hD.pend.idle.rest 3; simp only [wrR, Nat.reduceAdd, Nat.zero_add, List.getElem?_cons_zero, List.getElem?_cons_succ] at y0 y1 y2 y3); go_simp; rfl); (intro K hK; go_simp; refine hK _ ?_; clear hK K)) | (apply walkD_call1 [false] (by kernel_rfl); rfl; (intro _; go_simp; first | rfl | exact ⟨rfl, rfl⟩); (intro w' hD; first | (go_at_call 25; refine (proc_run _ _ _ _ _ _ _ hD.lay).mono ?_; rintro e w2 ⟨rfl, hb⟩; exact ⟨rfl, hD.quiet hb⟩) | (go_at_call 76; refine (thread_run _ _ _ _ _ _ _ hD.lay).mono ?_; rintro e w2 ⟨rfl, hb⟩; exact ⟨rfl, hD.quiet hb⟩) | (go_at_call 255; refine (ring_run _ _ _ _ _ _ (by assumption) _ hD.lay).mono ?_; rintro e w2 ⟨rfl, hb⟩; exact ⟨rfl, hD.quiet hb⟩) | (go_at_call 168; refine (g_run _ _ _ _ _ _ _ hD.lay).mono ?_; rintro e w2 ⟨rfl, hb⟩; exact ⟨rfl, hD.quiet hb⟩) | (go_at_call 133; refine (word_run _ 0 0 0 _ _).mono ?_; rintro e w2 ⟨rfl, rfl⟩; exact ⟨rfl, hD⟩) | (go_at_call 183; refine (iload_run hD.pend.idle _ _).mono ?_; rintro e w2 ⟨rfl, hP, hK⟩; exact ⟨rfl, hP, hD.kept.trans hK (by intro i hi; exact .inl hi)⟩) | (go_at_call 132; refine (iadd_run hD.pend.idle _ _ _).mono ?_; rintro e w2 ⟨rfl, hP, hK⟩; exact ⟨rfl, hP, hD.kept.trans hK (by intro i hi; exact .inl hi)⟩) | (go_at_call 188; refine (istore_run hD.pend.idle _ _ _).mono ?_; rintro e w2 ⟨rfl, hP, hK⟩; exact ⟨rfl, hP, hD.kept.trans hK (by intro i hi; exact .inl hi)⟩) | (go_at_call 166; refine (iswap_run hD.pend.idle _ _ _ _).mono ?_; rintro e w2 ⟨rfl, hP, hK⟩; exact ⟨rfl, hP, hD.kept.trans hK (by intro i hi; exact .inl hi)⟩)); (intro K hK; go_simp; refine hK _ ?_; clear hK K))))
  (rintro w2 ⟨h1, h2⟩; go_wp2; go_returns; exact ⟨⟨_, rfl⟩, h1, h2⟩)
theorem wr_asked1_run (x l : Nat) (P T G who : Int) (v : Int) (w : World) (hv : v ≠ 0) (hp : Pend w x who (wrR l (.pointer none) (.pointer none) false) 284 .done) (hL : Lay w l P T G) :
    Calls Tryz.prog 306 #[.pointer (some ⟨x, 0, none⟩), .int .u64 v] w fun e w' => (∃ r, e = .returned r) ∧ Pend w' x who (wrR l (.pointer none) (.pointer none) false) 284 (.done) ∧ Kept [x] w w' := by
  have h0 : ((v : Int) == 0) = false := by simp [hv]
  have HI := hid (MI.start hp hL)
  have hf := hp.idle.frozen
  (have y0 := hp.idle.rest 0; have y1 := hp.idle.rest 1; have y2 := hp.idle.rest 2; have y3 := hp.idle.rest 3; simp only [wrR, Nat.reduceAdd, Nat.zero_add, List.getElem?_cons_zero, List.getElem?_cons_succ] at y0 y1 y2 y3)
  clear hp hL
  go_enter Tryz.func306, Tryz.ntmps306
  go_wp2
  go_returns
  exact ⟨⟨_, rfl⟩, HI.out.pend, HI.out.kept⟩
theorem wr_swapped0_run (x l : Nat) (P T G who : Int)  (w : World)  (hp : Pend w x who (wrR l (.pointer none) (.pointer none) false) 284 .done) (hL : Lay w l P T G) :
    Calls Tryz.prog 329 #[.pointer (some ⟨x, 0, none⟩), .bool false] w fun e w' => (∃ r, e = .returned r) ∧ Pend w' x who (wrR l (.pointer none) (.pointer none) false) 284 (.done) ∧ Kept [x] w w' := by
  have HI := hid (MI.start hp hL)
  have hf := hp.idle.frozen
  (have y0 := hp.idle.rest 0; have y1 := hp.idle.rest 1; have y2 := hp.idle.rest 2; have y3 := hp.idle.rest 3; simp only [wrR, Nat.reduceAdd, Nat.zero_add, List.getElem?_cons_zero, List.getElem?_cons_succ] at y0 y1 y2 y3)
  clear hp hL
  go_enter Tryz.func329, Tryz.ntmps329
  go_wp2
  go_returns
  exact ⟨⟨_, rfl⟩, HI.out.pend, HI.out.kept⟩
theorem wr_swapped1_run (x l lo : Nat) (P T G who : Int)  (w : World) (hw : 0 ≤ who ∧ who ≤ 1000) (hlo : lo ≤ w.heap.size) (hp : Pend w x who (wrR l (.pointer none) (.pointer none) false) 284 .done) (hL : Lay w l P T G) :
    Calls Tryz.prog 329 #[.pointer (some ⟨x, 0, none⟩), .bool true] w fun e w' => (∃ r, e = .returned r) ∧ (∃ y, Pend2 w' x who (wrR l (.pointer none) (.pointer none) true) 284 (.sub (aqS lo l 0 P T G who) y .ask 351)) ∧ Kept [x] w w' := by
  have SW := hid (show (aqS lo l 0 P T G who).sys.want .ask ≠ none by exact fun h => by cases h)
  have HI0 := hid ((MI.start hp hL).put (by decide) 3 (.bool true))
  have HI := hid (MI.drewS (N := w.heap.size) HI0.out (by first | rfl | simp))
  clear HI0
  have hf := hp.idle.frozen
  (have y0 := hp.idle.rest 0; have y1 := hp.idle.rest 1; have y2 := hp.idle.rest 2; have y3 := hp.idle.rest 3; simp only [wrR, Nat.reduceAdd, Nat.zero_add, List.getElem?_cons_zero, List.getElem?_cons_succ] at y0 y1 y2 y3)
  clear hp hL
  go_enter Tryz.func329, Tryz.ntmps329
  go_wp2_with fail
  refine wp_region_D [11, 15] (tcl2 (fun w' => MI w w' x who (wrR l (.pointer none) (.pointer none) true) 284 l P T G ∧ w'.heap.size = w.heap.size) (fun w' => MI w w' x who (wrR l (.pointer none) (.pointer none) true) 284 l P T G ∧ (aqS lo l 0 P T G who).at_ w' w.heap.size .ask) (fun w' => Pend2 w' x who (wrR l (.pointer none) (.pointer none) true) 284 (.sub (aqS lo l 0 P T G who) w.heap.size .ask 351) ∧ Kept [x] w w')) (by kernel_rfl) (by kernel_rfl) rfl (by kernel_rfl) HI.out ?_
  clear HI
  repeat (first | (apply walkD_pure; rfl; rfl; (intro _; go_simp; first | done | rfl); (intro K hK; go_simp; refine hK _ ?_; clear hK K)) | (apply walkD_skip; rfl; rfl; (intro K hK; go_simp; refine hK _ ?_; clear hK K)) | (apply walkD_read1 [false, false] (by kernel_rfl); rfl; rfl; (intro w' hD; (have y0 := hD.1.pend.idle.rest 0; have y1 := hD.1.pend.idle.rest 1; have y2 := hD.1.pend.idle.rest 2; have y3 := hD.1.pend.idle.rest 3; simp only [wrR, Nat.reduceAdd, Nat.zero_add, List.getElem?_cons_zero, List.getElem?_cons_succ] at y0 y1 y2 y3); go_simp; rfl); (intro K hK; go_simp; refine hK _ ?_; clear hK K)) | (apply walkD_call1 [false, false] (by kernel_rfl); rfl; (intro _; go_simp; first | rfl | exact ⟨rfl, rfl⟩); (intro w' hD; first | (go_at_call 222; refine (ifwho_run hD.1.pend).mono ?_; rintro e w2 ⟨rfl, rfl⟩; exact ⟨rfl, hD⟩) | (go_at_call 125; have q := aq_made lo l 0 P T G who w' hD.1.lay (by rw [hD.2]; exact hlo); rw [hD.2] at q; refine q.mono ?_; rintro e w2 ⟨rfl, hA, hb⟩; exact ⟨rfl, hD.1.quiet (by rw [hD.2]; exact hb), hA⟩)); (intro K hK; go_simp; refine hK _ ?_; clear hK K)) | (apply walkD_call1 [true, false] (by kernel_rfl); rfl; (intro _; go_simp; first | rfl | exact ⟨rfl, rfl⟩); (intro w' hD; go_at_call 124; refine (irun_run (S := aqS lo l 0 P T G who) (aq_sub lo l 0 P T G who hw) hD.1.pend hD.2 SW.out (of_decide_eq_true rfl)).mono ?_; rintro e w2 ⟨rfl, h1, h2, h3⟩; exact ⟨rfl, ⟨h1, h2, SW.out⟩, hD.1.kept.trans h3 (by intro i hi; exact .inl hi)⟩); (intro K hK; go_simp; refine hK _ ?_; clear hK K)))
  rintro w2 ⟨h1, h2⟩
  go_wp2
  go_returns
  exact ⟨⟨_, rfl⟩, ⟨_, h1⟩, h2⟩
theorem wr_locked_run (x l lo : Nat) (P T G who : Int)  (w : World)  (hlo : lo ≤ w.heap.size) (hp : Pend w x who (wrR l (.pointer none) (.pointer none) true) 284 .done) (hL : Lay w l P T G) :
    Calls Tryz.prog 351 #[.pointer (some ⟨x, 0, none⟩)] w fun e w' => (∃ r, e = .returned r) ∧ (∃ y, Pend2 w' x who (wrR l (.pointer (some ⟨y, 0, none⟩)) (.pointer none) true) 284 (.sub (pgS lo l P T G who) y .h 373)) ∧ Kept [x] w w' := by
  have SW := hid (show (pgS lo l P T G who).sys.want .h ≠ none by exact fun h => by cases h)
  have HI := hid (MI.drewS (N := w.heap.size) (MI.start hp hL) (by first | rfl | simp))
  have hf := hp.idle.frozen
  (have y0 := hp.idle.rest 0; have y1 := hp.idle.rest 1; have y2 := hp.idle.rest 2; have y3 := hp.idle.rest 3; simp only [wrR, Nat.reduceAdd, Nat.zero_add, List.getElem?_cons_zero, List.getElem?_cons_succ] at y0 y1 y2 y3)
  clear hp hL
  go_enter Tryz.func351, Tryz.ntmps351
  go_wp2_with fail
  refine wp_region_D [9, 12] (tcl2 (fun w' => MI w w' x who (wrR l (.pointer none) (.pointer none) true) 284 l P T G ∧ w'.heap.size = w.heap.size) (fun w' => MI w w' x who (wrR l (.pointer none) (.pointer none) true) 284 l P T G ∧ (pgS lo l P T G who).at_ w' w.heap.size .h) (fun w' => MI w w' x who (wrR l (.pointer (some ⟨w.heap.size, 0, none⟩)) (.pointer none) true) 284 l P T G ∧ (pgS lo l P T G who).at_ w' w.heap.size .h)) (by kernel_rfl) (by kernel_rfl) rfl (by kernel_rfl) HI.out ?_
  clear HI
  repeat (first | (apply walkD_pure; rfl; rfl; (intro _; go_simp; first | done | rfl); (intro K hK; go_simp; refine hK _ ?_; clear hK K)) | (apply walkD_skip; rfl; rfl; (intro K hK; go_simp; refine hK _ ?_; clear hK K)) | (apply walkD_read1 [false, false] (by kernel_rfl); rfl; rfl; (intro w' hD; (have y0 := hD.1.pend.idle.rest 0; have y1 := hD.1.pend.idle.rest 1; have y2 := hD.1.pend.idle.rest 2; have y3 := hD.1.pend.idle.rest 3; simp only [wrR, Nat.reduceAdd, Nat.zero_add, List.getElem?_cons_zero, List.getElem?_cons_succ] at y0 y1 y2 y3); go_simp; rfl); (intro K hK; go_simp; refine hK _ ?_; clear hK K)) | (apply walkD_call1 [false, false] (by kernel_rfl); rfl; (intro _; go_simp; first | rfl | exact ⟨rfl, rfl⟩); (intro w' hD; first | (go_at_call 222; refine (ifwho_run hD.1.pend).mono ?_; rintro e w2 ⟨rfl, rfl⟩; exact ⟨rfl, hD⟩) | (go_at_call 252; have q := pg_made lo l P T G who w' hD.1.lay (by rw [hD.2]; exact hlo); rw [hD.2] at q; refine q.mono ?_; rintro e w2 ⟨rfl, hA, hb⟩; exact ⟨rfl, hD.1.quiet (by rw [hD.2]; exact hb), hA⟩)); (intro K hK; go_simp; refine hK _ ?_; clear hK K)) | (apply walkD_turn1 (v := undef) [true, false] (by kernel_rfl); rfl; (intro w' hD; (have y0 := hD.1.pend.idle.rest 0; have y1 := hD.1.pend.idle.rest 1; have y2 := hD.1.pend.idle.rest 2; have y3 := hD.1.pend.idle.rest 3; simp only [wrR, Nat.reduceAdd, Nat.zero_add, List.getElem?_cons_zero, List.getElem?_cons_succ] at y0 y1 y2 y3); have yf := hD.1.pend.idle.frozen; unfold Go.Proofs.YtlhnnggceebpjaaGreat.Flag.opAt; go_simp; exact ⟨⟨hD.1.put (by decide) 1 _, sub_set (pg_sub lo l P T G who) hD.2 hD.1.pend (of_decide_eq_true rfl) _ _⟩, rfl⟩); (intro K hK; go_simp; refine hK _ ?_; clear hK K)))
  rintro w4 ⟨h1, h2⟩
  obtain ⟨y, hy⟩ : ∃ y, y = w.heap.size := ⟨_, rfl⟩
  rw [← hy] at h1 h2 ⊢
  have HI2 := hid (And.intro h1.drew (SubOk.at_quiet (pg_sub lo l P T G who) h2 (below_drewN (Below.refl _ _) 1)))
  have hf := h1.pend.idle.frozen
  clear h1 h2 hy
  go_wp2_with fail
  refine wp_region_T 10 (fun w' => MI w w' x who (wrR l (.pointer (some ⟨y, 0, none⟩)) (.pointer none) true) 284 l P T G ∧ (pgS lo l P T G who).at_ w' y .h) (fun w' => Pend2 w' x who (wrR l (.pointer (some ⟨y, 0, none⟩)) (.pointer none) true) 284 (.sub (pgS lo l P T G who) y .h 373) ∧ Kept [x] w w') (by kernel_rfl) (by kernel_rfl) rfl (by kernel_rfl) HI2.out ?_
  clear HI2
  repeat (first | (apply walkD_pure; rfl; rfl; (intro _; go_simp; first | done | rfl); (intro K hK; go_simp; refine hK _ ?_; clear hK K)) | (apply walkD_skip; rfl; rfl; (intro K hK; go_simp; refine hK _ ?_; clear hK K)) | (apply walkD_read1 [false] (by kernel_rfl); rfl; rfl; (intro w' hD; (have y0 := hD.1.pend.idle.rest 0; have y1 := hD.1.pend.idle.rest 1; have y2 := hD.1.pend.idle.rest 2; have y3 := hD.1.pend.idle.rest 3; simp only [wrR, Nat.reduceAdd, Nat.zero_add, List.getElem?_cons_zero, List.getElem?_cons_succ] at y0 y1 y2 y3); go_simp; rfl); (intro K hK; go_simp; refine hK _ ?_; clear hK K)) | (apply walkD_call1 [false] (by kernel_rfl); rfl; (intro _; go_simp; first | rfl | exact ⟨rfl, rfl⟩); (intro w' hD; go_at_call 124; refine (irun_run (S := pgS lo l P T G who) (pg_sub lo l P T G who) hD.1.pend hD.2 SW.out (of_decide_eq_true rfl)).mono ?_; rintro e w2 ⟨rfl, h1, h2, h3⟩; exact ⟨rfl, ⟨h1, h2, SW.out⟩, hD.1.kept.trans h3 (by intro i hi; exact .inl hi)⟩); (intro K hK; go_simp; refine hK _ ?_; clear hK K)))
  rintro w3 ⟨h1, h2⟩
  go_wp2
  go_returns
  exact ⟨⟨_, rfl⟩, ⟨_, h1⟩, h2⟩
theorem wr_got0_run (x l : Nat) (P T G who : Int) (y : Nat) (lo : Nat) (s : Idlep.PgSt) (w : World) (hA : (pgS lo l P T G who).at_ w y s) (ht : s.p = -1) (hp : Pend w x who (wrR l (.pointer (some ⟨y, 0, none⟩)) (.pointer none) true) 284 .done) (hL : Lay w l P T G) :
    Calls Tryz.prog 373 #[.pointer (some ⟨x, 0, none⟩)] w fun e w' => (∃ r, e = .returned r) ∧ Pend w' x who (wrR l (.pointer (some ⟨y, 0, none⟩)) (.pointer none) true) 284 (.add (wordN 13) 4294967295 389) ∧ Kept [x] w w' := by
  have HG := hid (Idlep.pg_p_run hA)
  rw [ht] at HG
  clear hA ht
  have HI := hid (MI.start hp hL).drew
  have hf := hp.idle.frozen
  (have y0 := hp.idle.rest 0; have y1 := hp.idle.rest 1; have y2 := hp.idle.rest 2; have y3 := hp.idle.rest 3; simp only [wrR, Nat.reduceAdd, Nat.zero_add, List.getElem?_cons_zero, List.getElem?_cons_succ] at y0 y1 y2 y3)
  clear hp hL
  go_enter Tryz.func373, Tryz.ntmps373
  go_wp2_with (go_at_call 131; refine HG.out.mono ?_; rintro e w1 ⟨rfl, rfl⟩)
  refine wp_region_T 10 (fun w' => MI w w' x who (wrR l (.pointer (some ⟨y, 0, none⟩)) (.pointer none) true) 284 l P T G) (fun w' => Pend w' x who (wrR l (.pointer (some ⟨y, 0, none⟩)) (.pointer none) true) 284 (.add (wordN 13) 4294967295 389) ∧ Kept [x] w w') (by kernel_rfl) (by kernel_rfl) rfl (by kernel_rfl) HI.out ?_
  clear HI
  (repeat (first | (apply walkD_pure; rfl; rfl; (intro _; go_simp; first | done | rfl); (intro K hK; go_simp; refine hK _ ?_; clear hK K)) | (apply walkD_skip; rfl; rfl; (intro K hK; go_simp; refine hK _ ?_; clear hK K)) | (apply walkD_read1 [false] (by kernel_rfl); rfl; rfl; (intro w' hD; (have y0 := hD.pend.idle.rest 0; have y1 := hD.pend.idle.rest 1; have y2 := hD.pend.idle.rest 2; have y3 := hD.pend.idle.rest 3; simp only [wrR, Nat.reduceAdd, Nat.zero_add, List.getElem?_cons_zero, List.getElem?_cons_succ] at y0 y1 y2 y3); go_simp; rfl); (intro K hK; go_simp; refine hK _ ?_; clear hK K)) | (apply walkD_call1 [false] (by kernel_rfl); rfl; (intro _; go_simp; first | rfl | exact ⟨rfl, rfl⟩); (intro w' hD; first | (go_at_call 25; refine (proc_run _ _ _ _ _ _ _ hD.lay).mono ?_; rintro e w2 ⟨rfl, hb⟩; exact ⟨rfl, hD.quiet hb⟩) | (go_at_call 76; refine (thread_run _ _ _ _ _ _ _ hD.lay).mono ?_; rintro e w2 ⟨rfl, hb⟩; exact ⟨rfl, hD.quiet hb⟩) | (go_at_call 255; refine (ring_run _ _ _ _ _ _ (by assumption) _ hD.lay).mono ?_; rintro e w2 ⟨rfl, hb⟩; exact ⟨rfl, hD.quiet hb⟩) | (go_at_call 168; refine (g_run _ _ _ _ _ _ _ hD.lay).mono ?_; rintro e w2 ⟨rfl, hb⟩; exact ⟨rfl, hD.quiet hb⟩) | (go_at_call 133; refine (word_run _ 0 0 0 _ _).mono ?_; rintro e w2 ⟨rfl, rfl⟩; exact ⟨rfl, hD⟩) | (go_at_call 183; refine (iload_run hD.pend.idle _ _).mono ?_; rintro e w2 ⟨rfl, hP, hK⟩; exact ⟨rfl, hP, hD.kept.trans hK (by intro i hi; exact .inl hi)⟩) | (go_at_call 132; refine (iadd_run hD.pend.idle _ _ _).mono ?_; rintro e w2 ⟨rfl, hP, hK⟩; exact ⟨rfl, hP, hD.kept.trans hK (by intro i hi; exact .inl hi)⟩) | (go_at_call 188; refine (istore_run hD.pend.idle _ _ _).mono ?_; rintro e w2 ⟨rfl, hP, hK⟩; exact ⟨rfl, hP, hD.kept.trans hK (by intro i hi; exact .inl hi)⟩) | (go_at_call 166; refine (iswap_run hD.pend.idle _ _ _ _).mono ?_; rintro e w2 ⟨rfl, hP, hK⟩; exact ⟨rfl, hP, hD.kept.trans hK (by intro i hi; exact .inl hi)⟩)); (intro K hK; go_simp; refine hK _ ?_; clear hK K))))
  (rintro w2 ⟨h1, h2⟩; go_wp2; go_returns; exact ⟨⟨_, rfl⟩, h1, h2⟩)
theorem wr_got1_run (x l lo : Nat) (P T G who : Int) (p : Int) (z : Nat) (s : Idlep.PgSt) (w : World) (hT : 0 ≤ T ∧ T ≤ 1000) (hA : (pgS lo l P T G who).at_ w z s) (ht : s.p = p) (hn : p ≠ -1) (hlo : lo ≤ w.heap.size) (hp : Pend w x who (wrR l (.pointer (some ⟨z, 0, none⟩)) (.pointer none) true) 284 .done) (hL : Lay w l P T G) :
    Calls Tryz.prog 373 #[.pointer (some ⟨x, 0, none⟩)] w fun e w' => (∃ r, e = .returned r) ∧ (∃ y, Pend2 w' x who (wrR l (.pointer (some ⟨z, 0, none⟩)) (.pointer (some ⟨y, 0, none⟩)) false) 284 (.sub (stS lo l P T G who p true false) y (.get .h) 390)) ∧ Kept [x] w w' := by
  have HG := hid (Idlep.pg_p_run hA)
  rw [ht] at HG
  have d1 : ((p : Int) == -1) = false := by simpa using hn
  clear hA ht hn
  have SW := hid (show (stS lo l P T G who p true false).sys.want (.get .h) ≠ none by exact fun h => by cases h)
  have HI := hid (MI.drewS (N := w.heap.size) ((MI.start hp hL).put (by decide) 3 (.bool false)) (by first | rfl | simp))
  have hf := hp.idle.frozen
  (have y0 := hp.idle.rest 0; have y1 := hp.idle.rest 1; have y2 := hp.idle.rest 2; have y3 := hp.idle.rest 3; simp only [wrR, Nat.reduceAdd, Nat.zero_add, List.getElem?_cons_zero, List.getElem?_cons_succ] at y0 y1 y2 y3)
  clear hp hL
  go_enter Tryz.func373, Tryz.ntmps373
  go_wp2_with (go_at_call 131; refine HG.out.mono ?_; rintro e w1 ⟨rfl, rfl⟩)
  refine wp_region_D [10, 13] (tcl2 (fun w' => MI w w' x who (wrR l (.pointer (some ⟨z, 0, none⟩)) (.pointer none) false) 284 l P T G ∧ w'.heap.size = w.heap.size) (fun w' => MI w w' x who (wrR l (.pointer (some ⟨z, 0, none⟩)) (.pointer none) false) 284 l P T G ∧ (stS lo l P T G who p true false).at_ w' w.heap.size (.get .h)) (fun w' => MI w w' x who (wrR l (.pointer (some ⟨z, 0, none⟩)) (.pointer (some ⟨w.heap.size, 0, none⟩)) false) 284 l P T G ∧ (stS lo l P T G who p true false).at_ w' w.heap.size (.get .h))) (by kernel_rfl) (by kernel_rfl) rfl (by kernel_rfl) HI.out ?_
  clear HI
  repeat (first | (apply walkD_pure; rfl; rfl; (intro _; go_simp; first | done | rfl); (intro K hK; go_simp; refine hK _ ?_; clear hK K)) | (apply walkD_skip; rfl; rfl; (intro K hK; go_simp; refine hK _ ?_; clear hK K)) | (apply walkD_read1 [false, false] (by kernel_rfl); rfl; rfl; (intro w' hD; (have y0 := hD.1.pend.idle.rest 0; have y1 := hD.1.pend.idle.rest 1; have y2 := hD.1.pend.idle.rest 2; have y3 := hD.1.pend.idle.rest 3; simp only [wrR, Nat.reduceAdd, Nat.zero_add, List.getElem?_cons_zero, List.getElem?_cons_succ] at y0 y1 y2 y3); go_simp; rfl); (intro K hK; go_simp; refine hK _ ?_; clear hK K)) | (apply walkD_call1 [false, false] (by kernel_rfl); rfl; (intro _; go_simp; first | rfl | exact ⟨rfl, rfl⟩); (intro w' hD; first | (go_at_call 222; refine (ifwho_run hD.1.pend).mono ?_; rintro e w2 ⟨rfl, rfl⟩; exact ⟨rfl, hD⟩) | (go_at_call 299; have q := st_made lo l P T G who p true false w' hT hD.1.lay (by rw [hD.2]; exact hlo); rw [hD.2] at q; refine q.mono ?_; rintro e w2 ⟨rfl, hA, hb⟩; exact ⟨rfl, hD.1.quiet (by rw [hD.2]; exact hb), hA⟩)); (intro K hK; go_simp; refine hK _ ?_; clear hK K)) | (apply walkD_turn1 (v := undef) [true, false] (by kernel_rfl); rfl; (intro w' hD; (have y0 := hD.1.pend.idle.rest 0; have y1 := hD.1.pend.idle.rest 1; have y2 := hD.1.pend.idle.rest 2; have y3 := hD.1.pend.idle.rest 3; simp only [wrR, Nat.reduceAdd, Nat.zero_add, List.getElem?_cons_zero, List.getElem?_cons_succ] at y0 y1 y2 y3); have yf := hD.1.pend.idle.frozen; unfold Go.Proofs.YtlhnnggceebpjaaGreat.Flag.opAt; go_simp; exact ⟨⟨hD.1.put (by decide) 2 _, sub_set (st_sub lo l P T G who p true false hT) hD.2 hD.1.pend (of_decide_eq_true rfl) _ _⟩, rfl⟩); (intro K hK; go_simp; refine hK _ ?_; clear hK K)))
  rintro w4 ⟨h1, h2⟩
  obtain ⟨y, hy⟩ : ∃ y, y = w.heap.size := ⟨_, rfl⟩
  rw [← hy] at h1 h2 ⊢
  have HI2 := hid (And.intro h1.drew (SubOk.at_quiet (st_sub lo l P T G who p true false hT) h2 (below_drewN (Below.refl _ _) 1)))
  have hf := h1.pend.idle.frozen
  clear h1 h2 hy
  go_wp2_with fail
  refine wp_region_T 10 (fun w' => MI w w' x who (wrR l (.pointer (some ⟨z, 0, none⟩)) (.pointer (some ⟨y, 0, none⟩)) false) 284 l P T G ∧ (stS lo l P T G who p true false).at_ w' y (.get .h)) (fun w' => Pend2 w' x who (wrR l (.pointer (some ⟨z, 0, none⟩)) (.pointer (some ⟨y, 0, none⟩)) false) 284 (.sub (stS lo l P T G who p true false) y (.get .h) 390) ∧ Kept [x] w w') (by kernel_rfl) (by kernel_rfl) rfl (by kernel_rfl) HI2.out ?_
  clear HI2
  repeat (first | (apply walkD_pure; rfl; rfl; (intro _; go_simp; first | done | rfl); (intro K hK; go_simp; refine hK _ ?_; clear hK K)) | (apply walkD_skip; rfl; rfl; (intro K hK; go_simp; refine hK _ ?_; clear hK K)) | (apply walkD_read1 [false] (by kernel_rfl); rfl; rfl; (intro w' hD; (have y0 := hD.1.pend.idle.rest 0; have y1 := hD.1.pend.idle.rest 1; have y2 := hD.1.pend.idle.rest 2; have y3 := hD.1.pend.idle.rest 3; simp only [wrR, Nat.reduceAdd, Nat.zero_add, List.getElem?_cons_zero, List.getElem?_cons_succ] at y0 y1 y2 y3); go_simp; rfl); (intro K hK; go_simp; refine hK _ ?_; clear hK K)) | (apply walkD_call1 [false] (by kernel_rfl); rfl; (intro _; go_simp; first | rfl | exact ⟨rfl, rfl⟩); (intro w' hD; go_at_call 124; refine (irun_run (S := stS lo l P T G who p true false) (st_sub lo l P T G who p true false hT) hD.1.pend hD.2 SW.out (of_decide_eq_true rfl)).mono ?_; rintro e w2 ⟨rfl, h1, h2, h3⟩; exact ⟨rfl, ⟨h1, h2, SW.out⟩, hD.1.kept.trans h3 (by intro i hi; exact .inl hi)⟩); (intro K hK; go_simp; refine hK _ ?_; clear hK K)))
  rintro w3 ⟨h1, h2⟩
  go_wp2
  go_returns
  exact ⟨⟨_, rfl⟩, ⟨_, h1⟩, h2⟩
theorem wr_counted_run (x l : Nat) (P T G who : Int) (y : Nat) (v : Int) (w : World)  (hp : Pend w x who (wrR l (.pointer (some ⟨y, 0, none⟩)) (.pointer none) true) 284 .done) (hL : Lay w l P T G) :
    Calls Tryz.prog 389 #[.pointer (some ⟨x, 0, none⟩), .int .u64 v] w fun e w' => (∃ r, e = .returned r) ∧ Pend w' x who (wrR l (.pointer (some ⟨y, 0, none⟩)) (.pointer none) false) 284 (.store (wordN 14) 1 397) ∧ Kept [x] w w' := by
  have HI := hid ((MI.start hp hL).put (by decide) 3 (.bool false)).drew
  have hf := hp.idle.frozen
  (have y0 := hp.idle.rest 0; have y1 := hp.idle.rest 1; have y2 := hp.idle.rest 2; have y3 := hp.idle.rest 3; simp only [wrR, Nat.reduceAdd, Nat.zero_add, List.getElem?_cons_zero, List.getElem?_cons_succ] at y0 y1 y2 y3)
  clear hp hL
  go_enter Tryz.func389, Tryz.ntmps389
  go_wp2_with fail
  refine wp_region_T 10 (fun w' => MI w w' x who (wrR l (.pointer (some ⟨y, 0, none⟩)) (.pointer none) false) 284 l P T G) (fun w' => Pend w' x who (wrR l (.pointer (some ⟨y, 0, none⟩)) (.pointer none) false) 284 (.store (wordN 14) 1 397) ∧ Kept [x] w w') (by kernel_rfl) (by kernel_rfl) rfl (by kernel_rfl) HI.out ?_
  clear HI
  (repeat (first | (apply walkD_pure; rfl; rfl; (intro _; go_simp; first | done | rfl); (intro K hK; go_simp; refine hK _ ?_; clear hK K)) | (apply walkD_skip; rfl; rfl; (intro K hK; go_simp; refine hK _ ?_; clear hK K)) | (apply walkD_read1 [false] (by kernel_rfl); rfl; rfl; (intro w' hD; (have y0 := hD.pend.idle.rest 0; have y1 := hD.pend.idle.rest 1; have y2 := hD.pend.idle.rest 2; have y3 := hD.pend.idle.rest 3; simp only [wrR, Nat.reduceAdd, Nat.zero_add, List.getElem?_cons_zero, List.getElem?_cons_succ] at y0 y1 y2 y3); go_simp; rfl); (intro K hK; go_simp; refine hK _ ?_; clear hK K)) | (apply walkD_call1 [false] (by kernel_rfl); rfl; (intro _; go_simp; first | rfl | exact ⟨rfl, rfl⟩); (intro w' hD; first | (go_at_call 25; refine (proc_run _ _ _ _ _ _ _ hD.lay).mono ?_; rintro e w2 ⟨rfl, hb⟩; exact ⟨rfl, hD.quiet hb⟩) | (go_at_call 76; refine (thread_run _ _ _ _ _ _ _ hD.lay).mono ?_; rintro e w2 ⟨rfl, hb⟩; exact ⟨rfl, hD.quiet hb⟩) | (go_at_call 255; refine (ring_run _ _ _ _ _ _ (by assumption) _ hD.lay).mono ?_; rintro e w2 ⟨rfl, hb⟩; exact ⟨rfl, hD.quiet hb⟩) | (go_at_call 168; refine (g_run _ _ _ _ _ _ _ hD.lay).mono ?_; rintro e w2 ⟨rfl, hb⟩; exact ⟨rfl, hD.quiet hb⟩) | (go_at_call 133; refine (word_run _ 0 0 0 _ _).mono ?_; rintro e w2 ⟨rfl, rfl⟩; exact ⟨rfl, hD⟩) | (go_at_call 183; refine (iload_run hD.pend.idle _ _).mono ?_; rintro e w2 ⟨rfl, hP, hK⟩; exact ⟨rfl, hP, hD.kept.trans hK (by intro i hi; exact .inl hi)⟩) | (go_at_call 132; refine (iadd_run hD.pend.idle _ _ _).mono ?_; rintro e w2 ⟨rfl, hP, hK⟩; exact ⟨rfl, hP, hD.kept.trans hK (by intro i hi; exact .inl hi)⟩) | (go_at_call 188; refine (istore_run hD.pend.idle _ _ _).mono ?_; rintro e w2 ⟨rfl, hP, hK⟩; exact ⟨rfl, hP, hD.kept.trans hK (by intro i hi; exact .inl hi)⟩) | (go_at_call 166; refine (iswap_run hD.pend.idle _ _ _ _).mono ?_; rintro e w2 ⟨rfl, hP, hK⟩; exact ⟨rfl, hP, hD.kept.trans hK (by intro i hi; exact .inl hi)⟩)); (intro K hK; go_simp; refine hK _ ?_; clear hK K))))
  (rintro w2 ⟨h1, h2⟩; go_wp2; go_returns; exact ⟨⟨_, rfl⟩, h1, h2⟩)
theorem wr_told_run (x l lo : Nat) (P T G who : Int) (z : Nat) (w : World)  (hlo : lo ≤ w.heap.size) (hp : Pend w x who (wrR l (.pointer (some ⟨z, 0, none⟩)) (.pointer none) false) 284 .done) (hL : Lay w l P T G) :
    Calls Tryz.prog 397 #[.pointer (some ⟨x, 0, none⟩)] w fun e w' => (∃ r, e = .returned r) ∧ (∃ y, Pend2 w' x who (wrR l (.pointer (some ⟨z, 0, none⟩)) (.pointer none) false) 284 (.sub (rlS lo l 0 P T G who) y .puts 390)) ∧ Kept [x] w w' := by
  have SW := hid (show (rlS lo l 0 P T G who).sys.want .puts ≠ none by exact fun h => by cases h)
  have HI0 := hid (MI.start hp hL)
  have HI := hid (MI.drewS (N := w.heap.size) HI0.out (by first | rfl | simp))
  clear HI0
  have hf := hp.idle.frozen
  (have y0 := hp.idle.rest 0; have y1 := hp.idle.rest 1; have y2 := hp.idle.rest 2; have y3 := hp.idle.rest 3; simp only [wrR, Nat.reduceAdd, Nat.zero_add, List.getElem?_cons_zero, List.getElem?_cons_succ] at y0 y1 y2 y3)
  clear hp hL
  go_enter Tryz.func397, Tryz.ntmps397
  go_wp2_with fail
  refine wp_region_D [11, 15] (tcl2 (fun w' => MI w w' x who (wrR l (.pointer (some ⟨z, 0, none⟩)) (.pointer none) false) 284 l P T G ∧ w'.heap.size = w.heap.size) (fun w' => MI w w' x who (wrR l (.pointer (some ⟨z, 0, none⟩)) (.pointer none) false) 284 l P T G ∧ (rlS lo l 0 P T G who).at_ w' w.heap.size .puts) (fun w' => Pend2 w' x who (wrR l (.pointer (some ⟨z, 0, none⟩)) (.pointer none) false) 284 (.sub (rlS lo l 0 P T G who) w.heap.size .puts 390) ∧ Kept [x] w w')) (by kernel_rfl) (by kernel_rfl) rfl (by kernel_rfl) HI.out ?_
  clear HI
  repeat (first | (apply walkD_pure; rfl; rfl; (intro _; go_simp; first | done | rfl); (intro K hK; go_simp; refine hK _ ?_; clear hK K)) | (apply walkD_skip; rfl; rfl; (intro K hK; go_simp; refine hK _ ?_; clear hK K)) | (apply walkD_read1 [false, false] (by kernel_rfl); rfl; rfl; (intro w' hD; (have y0 := hD.1.pend.idle.rest 0; have y1 := hD.1.pend.idle.rest 1; have y2 := hD.1.pend.idle.rest 2; have y3 := hD.1.pend.idle.rest 3; simp only [wrR, Nat.reduceAdd, Nat.zero_add, List.getElem?_cons_zero, List.getElem?_cons_succ] at y0 y1 y2 y3); go_simp; rfl); (intro K hK; go_simp; refine hK _ ?_; clear hK K)) | (apply walkD_call1 [false, false] (by kernel_rfl); rfl; (intro _; go_simp; first | rfl | exact ⟨rfl, rfl⟩); (intro w' hD; first | (go_at_call 222; refine (ifwho_run hD.1.pend).mono ?_; rintro e w2 ⟨rfl, rfl⟩; exact ⟨rfl, hD⟩) | (go_at_call 308; have q := rl_made lo l 0 P T G who w' hD.1.lay (by rw [hD.2]; exact hlo); rw [hD.2] at q; refine q.mono ?_; rintro e w2 ⟨rfl, hA, hb⟩; exact ⟨rfl, hD.1.quiet (by rw [hD.2]; exact hb), hA⟩)); (intro K hK; go_simp; refine hK _ ?_; clear hK K)) | (apply walkD_call1 [true, false] (by kernel_rfl); rfl; (intro _; go_simp; first | rfl | exact ⟨rfl, rfl⟩); (intro w' hD; go_at_call 124; refine (irun_run (S := rlS lo l 0 P T G who) (rl_sub lo l 0 P T G who) hD.1.pend hD.2 SW.out (of_decide_eq_true rfl)).mono ?_; rintro e w2 ⟨rfl, h1, h2, h3⟩; exact ⟨rfl, ⟨h1, h2, SW.out⟩, hD.1.kept.trans h3 (by intro i hi; exact .inl hi)⟩); (intro K hK; go_simp; refine hK _ ?_; clear hK K)))
  rintro w2 ⟨h1, h2⟩
  go_wp2
  go_returns
  exact ⟨⟨_, rfl⟩, ⟨_, h1⟩, h2⟩
theorem wrstep_nil (m : Option Addr) (w : World) : Calls Tryz.prog 438 #[.pointer none, .pointer m] w fun e w' => e = .returned (.bool true) ∧ w = w' := by
  go_enter Tryz.func438, Tryz.ntmps438
  go_wp2
  go_ret
  exact ⟨rfl, rfl⟩
theorem wr_step : StepOf 226 438 := ⟨fun y w => rfl, enters_of Tryz.func438 (by kernel_rfl) rfl⟩
theorem wr_quiet : NoSleeper 226 := fun y w => run_typeAssert_lacksB Tryz.underlying265 (by kernel_rfl) (by kernel_rfl) _ _ w
theorem wr_thru : Thru 438 := by
  intro x m o w R H
  have H := hid H
  go_enter Tryz.func438, Tryz.ntmps438
  go_wp2_with fail
  refine H.out.mono ?_
  rintro e w1 ⟨rfl, h1⟩
  have HX := hid h1
  clear h1
  go_wp2
  go_ret
  exact ⟨rfl, HX.out⟩
theorem wr_ends_run (x : Value) (w : World) : Calls Tryz.prog 390 #[x] w fun e w' => (∃ r, e = .returned r) ∧ w = w' := by
  go_enter Tryz.func390, Tryz.ntmps390
  go_wp2
  go_returns
  exact ⟨⟨_, rfl⟩, rfl⟩
theorem wr_own (lo l : Nat) (P T G who : Int) : ∀ Ty ∈ rdT (wrM lo l P T G who).wr, Ty ∉ theirs := by
  show ∀ Ty ∈ rdT [284, 247, 250, 331, 274, 333, 339, 276], Ty ∉ theirs
  decide
theorem wr_inT1 : ∀ T ∈ rdT [250], T ∈ rdT [284, 247, 250, 331, 274, 333, 339, 276] ∧ T ≠ 284 := by decide
theorem wr_inT2 : ∀ T ∈ rdT [274, 333, 331, 339, 276], T ∈ rdT [284, 247, 250, 331, 274, 333, 339, 276] ∧ T ≠ 284 := by decide
theorem wr_goes (lo l x : Nat) (P T G who : Int) (hT : 0 ≤ T ∧ T ≤ 1000) (hw : 0 ≤ who ∧ who ≤ 1000) : Goes2 (wrM lo l P T G who) lo l x P T G who := by
  refine ⟨wr_own lo l P T G who, by simp [wrM], by show 1 ∉ [284, 247, 250, 331, 274, 333, 339, 276] ∧ 204 ∉ [284, 247, 250, 331, 274, 333, 339, 276] ∧ 214 ∉ [284, 247, 250, 331, 274, 333, 339, 276]; decide, ?_, fun _ _ _ _ => trivial, ?_, ?_, ?_⟩
  · intro st T hT
    cases st with
    | cnt q => exact wr_inT1 T hT
    | nd q => exact wr_inT1 T hT
    | rel q s => exact wr_inT1 T hT
    | fin2 q => exact wr_inT1 T hT
    | fin1 p s => exact wr_inT2 T hT
    | _ => exact absurd (show T ∈ [] from hT) (by simp)
  · intro st e
    cases st <;> rfl
  · intro st e w w' Z hi hk hZ
    cases st with
    | cnt q => exact (pg_sub lo l P T G who).kept hi hk hZ
    | nd q => exact (pg_sub lo l P T G who).kept hi hk hZ
    | rel q s => exact (pg_sub lo l P T G who).kept hi hk hZ
    | fin2 q => exact (pg_sub lo l P T G who).kept hi hk hZ
    | fin1 p s => exact (st_sub lo l P T G who p true false hT).kept hi hk hZ
    | _ => trivial
  · intro st e hok
    cases st with
    | ask =>
      refine .inr ⟨by show (0 : Int) ≤ 0 ∧ (0 : Int) < 18446744073709551616; omega, enters_of Tryz.func306 (by kernel_rfl) rfl, ?_⟩
      intro a w ha hlo hp hi hL
      by_cases hz : a = 0
      · subst hz
        refine (wr_asked0_run x l P T G who w hp hL).mono ?_
        rintro e2 w' ⟨he, h1, h2⟩
        exact ⟨he, ⟨e, h1, trivial⟩, h2⟩
      · have e1 : wrNext P T who .ask a = .none := if_neg hz
        refine (wr_asked1_run x l P T G who a w hz hp hL).mono ?_
        rintro e2 w' ⟨he, h1, h2⟩
        refine ⟨he, ⟨e, ?_⟩, h2⟩
        show (wrM lo l P T G who).is_ x who w' (wrNext P T who .ask a) e
        rw [e1]
        exact ⟨h1, trivial⟩
    | sw =>
      refine .inr ⟨by show (0 : Int) ≤ 1 ∧ (1 : Int) < 18446744073709551616; omega, enters_of Tryz.func329 (by kernel_rfl) rfl, ?_⟩
      intro a w ha hlo hp hi hL
      by_cases hz : a = 1
      · subst hz
        refine (wr_swapped1_run x l lo P T G who w hw hlo hp hL).mono ?_
        rintro e2 w' ⟨he, ⟨y, h1⟩, h2⟩
        exact ⟨he, ⟨(y, 0), h1, trivial⟩, h2⟩
      · have e1 : wrNext P T who .sw a = .none := if_neg hz
        have e3 : ((a == 1) : Bool) = false := by simpa using hz
        show Calls Tryz.prog 329 #[.pointer (some ⟨x, 0, none⟩), .bool (a == 1)] w _
        rw [e3]
        refine (wr_swapped0_run x l P T G who w hp hL).mono ?_
        rintro e2 w' ⟨he, h1, h2⟩
        refine ⟨he, ⟨e, ?_⟩, h2⟩
        show (wrM lo l P T G who).is_ x who w' (wrNext P T who .sw a) e
        rw [e1]
        exact ⟨h1, trivial⟩
    | none => exact .inl rfl
    | acq s =>
      refine ⟨aq_sub lo l 0 P T G who hw, ?_, enters_of Tryz.func351 (by kernel_rfl) rfl, ?_⟩
      · show ∀ T ∈ [247], T ∈ [284, 247, 250, 331, 274, 333, 339, 276] ∧ T ≠ 284 ∧ T ∉ []
        decide
      intro a ha
      refine ⟨?_, ?_⟩
      · intro hn
        have e1 : wrNext P T who (.acq s) a = .acq (aqNext s a) := runs_on (M := aq0 who) (k := fun _ => WrSt.get .h) (emb := WrSt.acq) (s := aqNext s a) hn
        refine ⟨?_, ?_, fun _ h => ?_⟩
        · show (wrM lo l P T G who).nx (wrNext P T who (.acq s) a) e = _
          rw [e1]; rfl
        · show (wrM lo l P T G who).rest (wrNext P T who (.acq s) a) e = _
          rw [e1]; rfl
        · show (wrM lo l P T G who).inv (wrNext P T who (.acq s) a) e _
          rw [e1]; first | trivial | exact h
      · intro hn w hlo hp hA hi hL
        have e1 : wrNext P T who (.acq s) a = .get .h := runs_off (M := aq0 who) (k := fun _ => WrSt.get .h) (emb := WrSt.acq) (s := aqNext s a) hn
        refine (wr_locked_run x l lo P T G who w hlo hp hL).mono ?_
        rintro e2 w' ⟨he, ⟨y, h1⟩, h2⟩
        refine ⟨he, ⟨(y, 0), ?_⟩, h2⟩
        show (wrM lo l P T G who).is_ x who w' (wrNext P T who (.acq s) a) (y, 0)
        rw [e1]
        exact ⟨h1, trivial⟩
    | get s =>
      refine ⟨pg_sub lo l P T G who, ?_, enters_of Tryz.func373 (by kernel_rfl) rfl, ?_⟩
      · show ∀ T ∈ [250], T ∈ [284, 247, 250, 331, 274, 333, 339, 276] ∧ T ≠ 284 ∧ T ∉ []
        decide
      intro a ha
      refine ⟨?_, ?_⟩
      · intro hn
        have e1 : wrNext P T who (.get s) a = .get (Idlep.pgNext s a) := runs_on (M := pgY P) (k := wrGot) (emb := WrSt.get) (s := Idlep.pgNext s a) hn
        refine ⟨?_, ?_, fun _ h => ?_⟩
        · show (wrM lo l P T G who).nx (wrNext P T who (.get s) a) e = _
          rw [e1]; rfl
        · show (wrM lo l P T G who).rest (wrNext P T who (.get s) a) e = _
          rw [e1]; rfl
        · show (wrM lo l P T G who).inv (wrNext P T who (.get s) a) e _
          rw [e1]; first | trivial | exact h
      · intro hn w hlo hp hA hi hL
        have e1 : wrNext P T who (.get s) a = wrGot (Idlep.pgNext s a) := runs_off (M := pgY P) (k := wrGot) (emb := WrSt.get) (s := Idlep.pgNext s a) hn
        have hA : (pgS lo l P T G who).at_ w e.1 (Idlep.pgNext s a) := hA
        by_cases ht : (Idlep.pgNext s a).p = -1
        · have e2 : wrGot (Idlep.pgNext s a) = .cnt (Idlep.pgNext s a) := if_pos ht
          refine (wr_got0_run x l P T G who e.1 lo (Idlep.pgNext s a) w hA ht hp hL).mono ?_
          rintro e3 w' ⟨he, h1, h2⟩
          refine ⟨he, ⟨(0, e.1), ?_⟩, h2⟩
          show (wrM lo l P T G who).is_ x who w' (wrNext P T who (.get s) a) (0, e.1)
          rw [e1, e2]
          exact ⟨h1, sub_kept1 (pg_sub lo l P T G who) hA hp (by show 284 ∉ rdT [250]; decide) h2⟩
        · have e2 : wrGot (Idlep.pgNext s a) = .st (Idlep.pgNext s a).p (.get .h) := if_neg ht
          refine (wr_got1_run x l lo P T G who (Idlep.pgNext s a).p e.1 (Idlep.pgNext s a) w hT hA rfl ht hlo hp hL).mono ?_
          rintro e3 w' ⟨he, ⟨y, h1⟩, h2⟩
          refine ⟨he, ⟨(y, e.1), ?_⟩, h2⟩
          show (wrM lo l P T G who).is_ x who w' (wrNext P T who (.get s) a) (y, e.1)
          rw [e1, e2]
          exact ⟨h1, trivial⟩
    | st p s =>
      refine ⟨st_sub lo l P T G who p true false hT, ?_, enters_of Tryz.func390 (by kernel_rfl) rfl, ?_⟩
      · show ∀ T ∈ [274, 333, 331, 339, 276], T ∈ [284, 247, 250, 331, 274, 333, 339, 276] ∧ T ≠ 284 ∧ T ∉ []
        decide
      intro a ha
      refine ⟨?_, ?_⟩
      · intro hn
        have e1 : wrNext P T who (.st p s) a = .st p (stNext P T p true false s a) := runs_on (M := stY P T p true false) (k := WrSt.fin1 p) (emb := WrSt.st p) (s := stNext P T p true false s a) hn
        refine ⟨?_, ?_, fun _ h => ?_⟩
        · show (wrM lo l P T G who).nx (wrNext P T who (.st p s) a) e = _
          rw [e1]; rfl
        · show (wrM lo l P T G who).rest (wrNext P T who (.st p s) a) e = _
          rw [e1]; rfl
        · show (wrM lo l P T G who).inv (wrNext P T who (.st p s) a) e _
          rw [e1]; first | trivial | exact h
      · intro hn w hlo hp hA hi hL
        have e1 : wrNext P T who (.st p s) a = .fin1 p (stNext P T p true false s a) := runs_off (M := stY P T p true false) (k := WrSt.fin1 p) (emb := WrSt.st p) (s := stNext P T p true false s a) hn
        refine (wr_ends_run _ w).mono ?_
        rintro e3 w' ⟨he, rfl⟩
        refine ⟨he, ⟨e, ?_⟩, Kept.refl _ _⟩
        show (wrM lo l P T G who).is_ x who w (wrNext P T who (.st p s) a) e
        rw [e1]
        exact ⟨hp, hA⟩
    | cnt q =>
      refine .inr ⟨by show (0 : Int) ≤ 4294967295 ∧ (4294967295 : Int) < 18446744073709551616; omega, enters_of Tryz.func389 (by kernel_rfl) rfl, ?_⟩
      intro a w ha hlo hp hi hL
      refine (wr_counted_run x l P T G who e.2 a w hp hL).mono ?_
      rintro e3 w' ⟨he, h1, h2⟩
      exact ⟨he, ⟨e, h1, sub_kept1 (pg_sub lo l P T G who) hi hp (by show 284 ∉ rdT [250]; decide) h2⟩, h2⟩
    | nd q =>
      refine .inr ⟨by show (0 : Int) ≤ 1 ∧ (1 : Int) < 18446744073709551616; omega, enters_of Tryz.func397 (by kernel_rfl) rfl, ?_⟩
      intro a w ha hlo hp hi hL
      refine (wr_told_run x l lo P T G who e.2 w hlo hp hL).mono ?_
      rintro e3 w' ⟨he, ⟨y, h1⟩, h2⟩
      exact ⟨he, ⟨(y, e.2), h1, sub_kept1 (pg_sub lo l P T G who) hi hp (by show 284 ∉ rdT [250]; decide) h2⟩, h2⟩
    | rel q s =>
      refine ⟨rl_sub lo l 0 P T G who, ?_, enters_of Tryz.func390 (by kernel_rfl) rfl, ?_⟩
      · show ∀ T ∈ [331], T ∈ [284, 247, 250, 331, 274, 333, 339, 276] ∧ T ≠ 284 ∧ T ∉ rdT [250]
        decide
      intro a ha
      refine ⟨?_, ?_⟩
      · intro hn
        have e1 : wrNext P T who (.rel q s) a = .rel q (rlNext s a) := runs_on (M := rl0) (k := fun _ => WrSt.fin2 q) (emb := WrSt.rel q) (s := rlNext s a) hn
        refine ⟨?_, ?_, fun _ h => ?_⟩
        · show (wrM lo l P T G who).nx (wrNext P T who (.rel q s) a) e = _
          rw [e1]; rfl
        · show (wrM lo l P T G who).rest (wrNext P T who (.rel q s) a) e = _
          rw [e1]; rfl
        · show (wrM lo l P T G who).inv (wrNext P T who (.rel q s) a) e _
          rw [e1]; first | trivial | exact h
      · intro hn w hlo hp hA hi hL
        have e1 : wrNext P T who (.rel q s) a = .fin2 q := runs_off (M := rl0) (k := fun _ => WrSt.fin2 q) (emb := WrSt.rel q) (s := rlNext s a) hn
        refine (wr_ends_run _ w).mono ?_
        rintro e3 w' ⟨he, rfl⟩
        refine ⟨he, ⟨e, ?_⟩, Kept.refl _ _⟩
        show (wrM lo l P T G who).is_ x who w (wrNext P T who (.rel q s) a) e
        rw [e1]
        exact ⟨hp, hi⟩
    | fin1 p s => exact .inl rfl
    | fin2 q => exact .inl rfl
def wrS (lo l : Nat) (P T G who : Int) : Subm WrSt := (wrM lo l P T G who).sub 226 438 lo l P T G who
theorem wr_sub (lo l : Nat) (P T G who : Int) (hT : 0 ≤ T ∧ T ≤ 1000) (hw : 0 ≤ who ∧ who ≤ 1000) : SubOk (wrS lo l P T G who) lo who := m2_sub wr_step wr_quiet wr_thru (fun y _ => wr_goes lo l y P T G who hT hw) (wr_own lo l P T G who)
theorem wr_made (lo l : Nat) (P T G who : Int) (w : World) (hL : Lay w l P T G) (hlo : lo ≤ w.heap.size) :
    Calls Tryz.prog 275 #[.pointer (some ⟨l, 0, none⟩), .int .i64 who] w fun e w' => e = .returned (.pointer (some ⟨w.heap.size, 0, none⟩)) ∧ (wrS lo l P T G who).at_ w' w.heap.size .ask ∧ Below w.heap.size w w' := by
  refine (wr_new_run l P T G who w hL).mono ?_
  rintro e w' ⟨rfl, h1, h2⟩
  exact ⟨rfl, ⟨⟨(0, 0), h1, trivial⟩, hlo, hL.quiet h2, trivial⟩, h2⟩
end Go.Proofs.YtlhnnggceebpjaaGreat.Wake
