/- A thread comes to rest: a machine that runs others, one of which sleeps. -/
import Derived.Test.YtlhnnggceebpjaaGreatRest
set_option maxRecDepth 100000
set_option maxHeartbeats 4000000
set_option linter.unusedVariables false
set_option linter.unusedSimpArgs false
namespace Go.Proofs.YtlhnnggceebpjaaGreat.Rest
open Go.RowKit Go.Shelf Go.Proofs.YtlhnnggceebpjaaGreat.TK Go.Proofs.YtlhnnggceebpjaaGreat.Flag Go.Proofs.YtlhnnggceebpjaaGreat.Read Go.Proofs.YtlhnnggceebpjaaGreat.Words Go.Proofs.YtlhnnggceebpjaaGreat.Mem Go.Proofs.YtlhnnggceebpjaaGreat.Flow Go.Proofs.YtlhnnggceebpjaaGreat.Layout Go.Proofs.YtlhnnggceebpjaaGreat.Lock Go.Proofs.YtlhnnggceebpjaaGreat.Run Go.Proofs.YtlhnnggceebpjaaGreat.Sys Go.Proofs.YtlhnnggceebpjaaGreat.Mach Go.Proofs.YtlhnnggceebpjaaGreat.Ref05 Go.Proofs.YtlhnnggceebpjaaGreat.Subs Go.Proofs.YtlhnnggceebpjaaGreat.Wake Go.Proofs.YtlhnnggceebpjaaGreat.Note
theorem mp_step : StepOf 319 449 := ⟨fun y w => rfl, enters_of Tryz.func449 (by kernel_rfl) rfl⟩
theorem mp_quiet : NoSleeper 319 := fun y w => run_typeAssert_lacksB Tryz.underlying265 (by kernel_rfl) (by kernel_rfl) _ _ w
theorem mp_thru : Thru 449 := by
  intro x m o w R H
  have H := hid H
  go_enter Tryz.func449, Tryz.ntmps449
  go_wp2_with fail
  refine H.out.mono ?_
  rintro e w1 ⟨rfl, h1⟩
  have HX := hid h1
  clear h1
  go_wp2
  go_ret
  exact ⟨rfl, HX.out⟩
def mpS (lo l : Nat) (P T G who t : Int) : Subm Idlem.MpSt := (Idlem.mpM l P T t).sub 319 449 lo l P T G who
theorem mp_sub (lo l : Nat) (P T G who t : Int) (ht : 0 ≤ t ∧ t ≤ 1000000) : SubOk (mpS lo l P T G who t) lo who := mch_sub mp_step mp_quiet mp_thru (fun y => Idlem.mp_goes l y P T t G who ht)
theorem mp_made (lo l : Nat) (P T G who t : Int) (w : World) (hL : Lay w l P T G) (hlo : lo ≤ w.heap.size) :
    Calls Tryz.prog 287 #[.pointer (some ⟨l, 0, none⟩), .int .i64 who, .int .i64 t] w fun e w' => e = .returned (.pointer (some ⟨w.heap.size, 0, none⟩)) ∧ (mpS lo l P T G who t).at_ w' w.heap.size .h ∧ Below w.heap.size w w' := by
  refine (Idlem.mp_new_run l P T G who t w hL).mono ?_
  rintro e w' ⟨rfl, h1, h2⟩
  exact ⟨rfl, ⟨h1, hlo, hL.quiet h2, trivial⟩, h2⟩
def mpY (P T t : Int) : Rsys Idlem.MpSt := (Idlem.mpM 0 P T t).sys
def snY : Rsys SnSt := (snM 0).sys
def rsR (l : Nat) (gt sn np : Value) : List Value := [.pointer (some ⟨l, 0, none⟩), gt, sn, np]
inductive RsSt
  | aq (s : AcqSt)
  | nd
  | gt (s : Idlep.PgSt)
  | sn (u : Idlep.PgSt) (s : SnSt)
  | rl (u : Idlep.PgSt) (s : RlSt)
  | ha (u : Idlep.PgSt)
  | f1 (u : Idlep.PgSt)
  | li (o : Option Idlep.PgSt) (z : Idlem.MpSt)
  | rl2 (o : Option Idlep.PgSt) (s : RlSt)
  | np (o : Option Idlep.PgSt) (s : NpSt)
  | f2 (o : Option Idlep.PgSt) (s : NpSt)
def rsGot (s : Idlep.PgSt) : RsSt := if s.p = -1 then .li (some s) .h else .sn s .a
def rsNext (P T who : Int) (st : RsSt) (a : Int) : RsSt :=
  match st with
  | .aq s => runs (aq0 who) (fun _ => .nd) .aq (aqNext s a)
  | .nd => if a = 0 then .li none .h else .gt .h
  | .gt s => runs (pgY P) rsGot .gt (Idlep.pgNext s a)
  | .sn u s => runs snY (fun _ => .rl u .puts) (.sn u) (snNext s a)
  | .rl u s => runs rl0 (fun _ => .ha u) (.rl u) (rlNext s a)
  | .ha u => .f1 u
  | .f1 u => .f1 u
  | .li o z => runs (mpY P T who) (fun _ => .rl2 o .puts) (.li o) (Idlem.mpNext z a)
  | .rl2 o s => runs rl0 (fun _ => .np o (.sl (.waits false))) (.rl2 o) (rlNext s a)
  | .np o s => runs (npY P T who) (.f2 o) (.np o) (npNext P T who s a)
  | .f2 o s => .f2 o s
def rsOwn (P : Int) : RsSt → Nx
  | .nd => .load (wordN 14) 204
  | .ha u => .store (pr P u.p 0) 1 338
  | _ => .done
def rsWant (P T who : Int) : RsSt → Option Wnt
  | .aq s => (aq0 who).want s
  | .gt s => (pgY P).want s
  | .sn _ s => snY.want s
  | .rl _ s => rl0.want s
  | .li _ z => (mpY P T who).want z
  | .rl2 _ s => rl0.want s
  | .np _ s => (npY P T who).want s
  | st => (rsOwn P st).want
def rsY (P T who : Int) : Rsys RsSt := ⟨rsWant P T who, rsNext P T who⟩
def rsP : RsSt → Int
  | .gt s => s.p
  | .sn u _ => u.p
  | .rl u _ => u.p
  | .ha u => u.p
  | .f1 u => u.p
  | .np _ s => npP s
  | .f2 _ s => npP s
  | _ => -1
def rsS : RsSt → Bool
  | .sn _ s => snC s
  | .rl _ _ => true
  | .ha _ => true
  | .f1 _ => true
  | .np _ s => npS s
  | .f2 _ s => npS s
  | _ => false
def gpo (o : Option Idlep.PgSt) (k : Nat) : Value := match o with
  | none => .pointer none
  | some _ => .pointer (some ⟨k, 0, none⟩)
def rsRest (l : Nat) (st : RsSt) (e : Nat × Nat × Nat) : List Value :=
  match st with
  | .gt _ => rsR l (.pointer (some ⟨e.1, 0, none⟩)) (.pointer none) (.pointer none)
  | .sn _ _ => rsR l (.pointer (some ⟨e.2.1, 0, none⟩)) (.pointer (some ⟨e.1, 0, none⟩)) (.pointer none)
  | .rl _ _ => rsR l (.pointer (some ⟨e.2.1, 0, none⟩)) (.pointer (some ⟨e.2.2, 0, none⟩)) (.pointer none)
  | .ha _ => rsR l (.pointer (some ⟨e.2.1, 0, none⟩)) (.pointer (some ⟨e.2.2, 0, none⟩)) (.pointer none)
  | .f1 _ => rsR l (.pointer (some ⟨e.2.1, 0, none⟩)) (.pointer (some ⟨e.2.2, 0, none⟩)) (.pointer none)
  | .li o _ => rsR l (gpo o e.2.1) (.pointer none) (.pointer none)
  | .rl2 o _ => rsR l (gpo o e.2.1) (.pointer none) (.pointer none)
  | .np o _ => rsR l (gpo o e.2.1) (.pointer none) (.pointer (some ⟨e.1, 0, none⟩))
  | .f2 o _ => rsR l (gpo o e.2.1) (.pointer none) (.pointer (some ⟨e.2.2, 0, none⟩))
  | _ => rsR l (.pointer none) (.pointer none) (.pointer none)
def oAt (lo l : Nat) (P T G who : Int) (o : Option Idlep.PgSt) (k : Nat) (w : World) : Prop := ∀ u, o = some u → (pgS lo l P T G who).at_ w k u
def rsInv (lo l : Nat) (P T G who : Int) (st : RsSt) (e : Nat × Nat × Nat) (w : World) : Prop :=
  match st with
  | .sn u _ => (pgS lo l P T G who).at_ w e.2.1 u
  | .rl u _ => (pgS lo l P T G who).at_ w e.2.1 u ∧ (snS lo l P T G who).at_ w e.2.2 .done
  | .ha u => (pgS lo l P T G who).at_ w e.2.1 u ∧ (snS lo l P T G who).at_ w e.2.2 .done
  | .f1 u => (pgS lo l P T G who).at_ w e.2.1 u ∧ (snS lo l P T G who).at_ w e.2.2 .done
  | .li o _ => oAt lo l P T G who o e.2.1 w
  | .rl2 o _ => oAt lo l P T G who o e.2.1 w
  | .np o _ => oAt lo l P T G who o e.2.1 w
  | .f2 o s => oAt lo l P T G who o e.2.1 w ∧ (npS_ lo l P T G who).at_ w e.2.2 s
  | _ => True
def rsInvT : RsSt → List TypeId
  | .sn _ _ => rdT [250]
  | .rl _ _ => rdT [250, 170]
  | .ha _ => rdT [250, 170]
  | .f1 _ => rdT [250, 170]
  | .li _ _ => rdT [250]
  | .rl2 _ _ => rdT [250]
  | .np _ _ => rdT [250]
  | .f2 _ _ => rdT [250, 196, 263]
  | _ => []
def noneO (o : Option Idlep.PgSt) : Prop := ∀ u, o = some u → u.p = -1
def rsOk : RsSt → Prop
  | .li o _ => noneO o
  | .rl2 o _ => noneO o
  | .np o _ => noneO o
  | .f2 o _ => noneO o
  | _ => True
def rsM (lo l : Nat) (P T G who : Int) : Mch2 RsSt (Nat × Nat × Nat) :=
  ⟨160, [160, 247, 250, 170, 331, 328, 196, 263], fun st e => match st with
    | .aq s => .sub (aqS lo l 0 P T G who) e.1 s 126
    | .gt s => .sub (pgS lo l P T G who) e.1 s 253
    | .sn _ s => .sub (snS lo l P T G who) e.1 s 290
    | .rl _ s => .sub (rlS lo l 0 P T G who) e.1 s 316
    | .li _ z => .sub (mpS lo l P T G who who) e.1 z 288
    | .rl2 _ s => .sub (rlS lo l 0 P T G who) e.1 s 314
    | .np _ s => .sub (npS_ lo l P T G who) e.1 s 338
    | st => .own (rsOwn P st),
   rsRest l, rsInv lo l P T G who, rsInvT, rsY P T who, rsOk⟩
theorem rs_new_run (l lo : Nat) (P T G who : Int)  (w : World) (hw : 0 ≤ who ∧ who ≤ 1000) (hlo : lo ≤ w.heap.size) (hL : Lay w l P T G) :
    Calls Tryz.prog 21 #[.pointer (some ⟨l, 0, none⟩), .int .i64 who] w fun e w' => e = .returned (.pointer (some ⟨w.heap.size, 0, none⟩)) ∧ (∃ y, Pend2 w' w.heap.size who (rsR l (.pointer none) (.pointer none) (.pointer none)) 160 (.sub (aqS lo l 0 P T G who) y .ask 126)) ∧ Below w.heap.size w w' := by
  have h0 : FlAt (w.alloc (.cells (fl fl0 ++ rsR l (.pointer none) (.pointer none) (.pointer none)).toArray 160)) w.heap.size fl0 (rsR l (.pointer none) (.pointer none) (.pointer none)) 160 := Blk.new w _ _
  have hL0 := hL.quiet (below_one w (.cells (fl fl0 ++ rsR l (.pointer none) (.pointer none) (.pointer none)).toArray 160))
  have hlx : l ≠ w.heap.size := Nat.ne_of_lt hL.1.lt
  clear hL
  have SW := hid (show (aqS lo l 0 P T G who).sys.want .ask ≠ none by exact fun h => by cases h)
  go_enter Tryz.func21, Tryz.ntmps21
  go_wp2_with fail
  refine (iof_run h0 who).mono ?_
  rintro e wB ⟨rfl, hp, hK⟩
  have hL1 := hL0.kept hK (by simpa using hlx)
  have hlow : Below w.heap.size w wB := (below_one _ _).trans (hK.below (by simp) (by simp))
  have hlo := Nat.le_trans hlo hlow.size
  clear h0 hL0 hK
  obtain ⟨x0, hx0⟩ : ∃ x0, x0 = w.heap.size := ⟨_, rfl⟩
  rw [← hx0] at hp hlow ⊢
  have HX0 := hid hx0
  clear hx0
  have HI := hid (MI.drewS (N := wB.heap.size) (MI.start hp hL1) rfl)
  clear hp hL1
  go_wp2_with fail
  refine wp_region_D [5, 9] (tcl2 (fun w' => MI wB w' x0 who (rsR l (.pointer none) (.pointer none) (.pointer none)) 160 l P T G ∧ w'.heap.size = wB.heap.size) (fun w' => MI wB w' x0 who (rsR l (.pointer none) (.pointer none) (.pointer none)) 160 l P T G ∧ (aqS lo l 0 P T G who).at_ w' wB.heap.size .ask) (fun w' => Pend2 w' x0 who (rsR l (.pointer none) (.pointer none) (.pointer none)) 160 (.sub (aqS lo l 0 P T G who) wB.heap.size .ask 126) ∧ Kept [x0] wB w')) (by kernel_rfl) (by kernel_rfl) rfl (by kernel_rfl) HI.out ?_
  clear HI
  repeat (first | (apply walkD_pure; rfl; rfl; (intro _; go_simp; first | done | rfl); (intro K hK; go_simp; refine hK _ ?_; clear hK K)) | (apply walkD_skip; rfl; rfl; (intro K hK; go_simp; refine hK _ ?_; clear hK K)) | (apply walkD_read1 [false, false] (by kernel_rfl); rfl; rfl; (intro w' hD; (have y0 := hD.1.pend.idle.rest 0; have y1 := hD.1.pend.idle.rest 1; have y2 := hD.1.pend.idle.rest 2; have y3 := hD.1.pend.idle.rest 3; simp only [rsR, Nat.reduceAdd, Nat.zero_add, List.getElem?_cons_zero, List.getElem?_cons_succ] at y0 y1 y2 y3); go_simp; rfl); (intro K hK; go_simp; refine hK _ ?_; clear hK K)) | (apply walkD_call1 [false, false] (by kernel_rfl); rfl; (intro _; go_simp; first | rfl | exact ⟨rfl, rfl⟩); (intro w' hD; first | (go_at_call 222; refine (ifwho_run hD.1.pend).mono ?_; rintro e w2 ⟨rfl, rfl⟩; exact ⟨rfl, hD⟩) | (go_at_call 125; have q := aq_made lo l 0 P T G who w' hD.1.lay (by rw [hD.2]; exact hlo); rw [hD.2] at q; refine q.mono ?_; rintro e w2 ⟨rfl, hA, hb⟩; exact ⟨rfl, hD.1.quiet (by rw [hD.2]; exact hb), hA⟩)); (intro K hK; go_simp; refine hK _ ?_; clear hK K)) | (apply walkD_call1 [true, false] (by kernel_rfl); rfl; (intro _; go_simp; first | rfl | exact ⟨rfl, rfl⟩); (intro w' hD; go_at_call 124; refine (irun_run (S := aqS lo l 0 P T G who) (aq_sub lo l 0 P T G who hw) hD.1.pend hD.2 SW.out (of_decide_eq_true rfl)).mono ?_; rintro e w2 ⟨rfl, h1, h2, h3⟩; exact ⟨rfl, ⟨h1, h2, SW.out⟩, hD.1.kept.trans h3 (by intro i hi; exact .inl hi)⟩); (intro K hK; go_simp; refine hK _ ?_; clear hK K)))
  rintro w2 ⟨h1, h2⟩
  go_wp2
  obtain rfl := HX0.out
  go_ret
  exact ⟨rfl, ⟨_, h1⟩, hlow.trans (h2.below (by simp) hlow.size)⟩
theorem rs_locked_run (x l : Nat) (P T G who : Int) (gt sn np : Value) (w : World)  (hp : Pend w x who (rsR l gt sn np) 160 .done) (hL : Lay w l P T G) :
    Calls Tryz.prog 126 #[.pointer (some ⟨x, 0, none⟩)] w fun e w' => (∃ r, e = .returned r) ∧ Pend w' x who (rsR l gt sn np) 160 (.load (wordN 14) 204) ∧ Kept [x] w w' := by
  have HI := hid (MI.start hp hL).drew
  have hf := hp.idle.frozen
  (have y0 := hp.idle.rest 0; have y1 := hp.idle.rest 1; have y2 := hp.idle.rest 2; have y3 := hp.idle.rest 3; simp only [rsR, Nat.reduceAdd, Nat.zero_add, List.getElem?_cons_zero, List.getElem?_cons_succ] at y0 y1 y2 y3)
  clear hp hL
  go_enter Tryz.func126, Tryz.ntmps126
  go_wp2_with fail
  refine wp_region_T 10 (fun w' => MI w w' x who (rsR l gt sn np) 160 l P T G) (fun w' => Pend w' x who (rsR l gt sn np) 160 (.load (wordN 14) 204) ∧ Kept [x] w w') (by kernel_rfl) (by kernel_rfl) rfl (by kernel_rfl) HI.out ?_
  clear HI
  (repeat (first | (apply walkD_pure; rfl; rfl; (intro _; go_simp; first | done | rfl); (intro K hK; go_simp; refine hK _ ?_; clear hK K)) | (apply walkD_skip; rfl; rfl; (intro K hK; go_simp; refine hK _ ?_; clear hK K)) | (apply walkD_read1 [false] (by kernel_rfl); rfl; rfl; (intro w' hD; (have y0 := hD.pend.idle.rest 0; have y1 := hD.pend.idle.rest 1; have y2 := hD.pend.idle.rest 2; have y3 := hD.pend.idle.rest 3; simp only [rsR, Nat.reduceAdd, Nat.zero_add, List.getElem?_cons_zero, List.getElem?_cons_succ] at y0 y1 y2 y3); go_simp; rfl); (intro K hK; go_simp; refine hK _ ?_; clear hK K)) | (apply walkD_call1 [false] (by kernel_rfl); rfl; (intro _; go_simp; first | rfl | exact ⟨rfl, rfl⟩); (intro w' hD; first | (go_at_call 131; refine (HG.out _ hD.kept).mono ?_; rintro e w2 ⟨rfl, rfl⟩; exact ⟨rfl, hD⟩) | (go_at_call 25; refine (proc_run _ _ _ _ _ _ _ hD.lay).mono ?_; rintro e w2 ⟨rfl, hb⟩; exact ⟨rfl, hD.quiet hb⟩) | (go_at_call 76; refine (thread_run _ _ _ _ _ _ _ hD.lay).mono ?_; rintro e w2 ⟨rfl, hb⟩; exact ⟨rfl, hD.quiet hb⟩) | (go_at_call 255; refine (ring_run _ _ _ _ _ _ (by assumption) _ hD.lay).mono ?_; rintro e w2 ⟨rfl, hb⟩; exact ⟨rfl, hD.quiet hb⟩) | (go_at_call 168; refine (g_run _ _ _ _ _ _ _ hD.lay).mono ?_; rintro e w2 ⟨rfl, hb⟩; exact ⟨rfl, hD.quiet hb⟩) | (go_at_call 133; refine (word_run _ 0 0 0 _ _).mono ?_; rintro e w2 ⟨rfl, rfl⟩; exact ⟨rfl, hD⟩) | (go_at_call 183; refine (iload_run hD.pend.idle _ _).mono ?_; rintro e w2 ⟨rfl, hP, hK⟩; exact ⟨rfl, hP, hD.kept.trans hK (by intro i hi; exact .inl hi)⟩) | (go_at_call 132; refine (iadd_run hD.pend.idle _ _ _).mono ?_; rintro e w2 ⟨rfl, hP, hK⟩; exact ⟨rfl, hP, hD.kept.trans hK (by intro i hi; exact .inl hi)⟩) | (go_at_call 188; refine (istore_run hD.pend.idle _ _ _).mono ?_; rintro e w2 ⟨rfl, hP, hK⟩; exact ⟨rfl, hP, hD.kept.trans hK (by intro i hi; exact .inl hi)⟩) | (go_at_call 166; refine (iswap_run hD.pend.idle _ _ _ _).mono ?_; rintro e w2 ⟨rfl, hP, hK⟩; exact ⟨rfl, hP, hD.kept.trans hK (by intro i hi; exact .inl hi)⟩)); (intro K hK; go_simp; refine hK _ ?_; clear hK K))))
  (rintro w2 ⟨h1, h2⟩; go_wp2; go_returns; exact ⟨⟨_, rfl⟩, h1, h2⟩)
theorem rs_lies_run (x l lo : Nat) (P T G who : Int) (gt sn np : Value) (w : World) (hw : 0 ≤ who ∧ who ≤ 1000000) (hlo : lo ≤ w.heap.size) (hp : Pend w x who (rsR l gt sn np) 160 .done) (hL : Lay w l P T G) :
    Calls Tryz.prog 251 #[.pointer (some ⟨x, 0, none⟩)] w fun e w' => (∃ r, e = .returned r) ∧ (∃ y, Pend2 w' x who (rsR l gt sn np) 160 (.sub (mpS lo l P T G who who) y .h 288)) ∧ Kept [x] w w' := by
  have SW := hid (show (mpS lo l P T G who who).sys.want .h ≠ none by exact fun h => by cases h)
  have HI0 := hid (MI.start hp hL)
  have HI := hid (MI.drewS (N := w.heap.size) HI0.out (by first | rfl | simp))
  clear HI0
  have hf := hp.idle.frozen
  (have y0 := hp.idle.rest 0; have y1 := hp.idle.rest 1; have y2 := hp.idle.rest 2; have y3 := hp.idle.rest 3; simp only [rsR, Nat.reduceAdd, Nat.zero_add, List.getElem?_cons_zero, List.getElem?_cons_succ] at y0 y1 y2 y3)
  clear hp hL
  go_enter Tryz.func251, Tryz.ntmps251
  go_wp2_with fail
  refine wp_region_D [15, 19] (tcl2 (fun w' => MI w w' x who (rsR l gt sn np) 160 l P T G ∧ w'.heap.size = w.heap.size) (fun w' => MI w w' x who (rsR l gt sn np) 160 l P T G ∧ (mpS lo l P T G who who).at_ w' w.heap.size .h) (fun w' => Pend2 w' x who (rsR l gt sn np) 160 (.sub (mpS lo l P T G who who) w.heap.size .h 288) ∧ Kept [x] w w')) (by kernel_rfl) (by kernel_rfl) rfl (by kernel_rfl) HI.out ?_
  clear HI
  repeat (first | (apply walkD_pure; rfl; rfl; (intro _; go_simp; first | done | rfl); (intro K hK; go_simp; refine hK _ ?_; clear hK K)) | (apply walkD_skip; rfl; rfl; (intro K hK; go_simp; refine hK _ ?_; clear hK K)) | (apply walkD_read1 [false, false] (by kernel_rfl); rfl; rfl; (intro w' hD; (have y0 := hD.1.pend.idle.rest 0; have y1 := hD.1.pend.idle.rest 1; have y2 := hD.1.pend.idle.rest 2; have y3 := hD.1.pend.idle.rest 3; simp only [rsR, Nat.reduceAdd, Nat.zero_add, List.getElem?_cons_zero, List.getElem?_cons_succ] at y0 y1 y2 y3); go_simp; rfl); (intro K hK; go_simp; refine hK _ ?_; clear hK K)) | (apply walkD_call1 [false, false] (by kernel_rfl); rfl; (intro _; go_simp; first | rfl | exact ⟨rfl, rfl⟩); (intro w' hD; first | (go_at_call 222; refine (ifwho_run hD.1.pend).mono ?_; rintro e w2 ⟨rfl, rfl⟩; exact ⟨rfl, hD⟩) | (go_at_call 287; have q := mp_made lo l P T G who who w' hD.1.lay (by rw [hD.2]; exact hlo); rw [hD.2] at q; refine q.mono ?_; rintro e w2 ⟨rfl, hA, hb⟩; exact ⟨rfl, hD.1.quiet (by rw [hD.2]; exact hb), hA⟩)); (intro K hK; go_simp; refine hK _ ?_; clear hK K)) | (apply walkD_call1 [true, false] (by kernel_rfl); rfl; (intro _; go_simp; first | rfl | exact ⟨rfl, rfl⟩); (intro w' hD; go_at_call 124; refine (irun_run (S := mpS lo l P T G who who) (mp_sub lo l P T G who who hw) hD.1.pend hD.2 SW.out (of_decide_eq_true rfl)).mono ?_; rintro e w2 ⟨rfl, h1, h2, h3⟩; exact ⟨rfl, ⟨h1, h2, SW.out⟩, hD.1.kept.trans h3 (by intro i hi; exact .inl hi)⟩); (intro K hK; go_simp; refine hK _ ?_; clear hK K)))
  rintro w2 ⟨h1, h2⟩
  go_wp2
  go_returns
  exact ⟨⟨_, rfl⟩, ⟨_, h1⟩, h2⟩
theorem rs_needed0_run (x l lo : Nat) (P T G who : Int) (gt sn np : Value) (w : World) (hw : 0 ≤ who ∧ who ≤ 1000000) (hlo : lo ≤ w.heap.size) (hp : Pend w x who (rsR l gt sn np) 160 .done) (hL : Lay w l P T G) :
    Calls Tryz.prog 204 #[.pointer (some ⟨x, 0, none⟩), .int .u64 0] w fun e w' => (∃ r, e = .returned r) ∧ (∃ y, Pend2 w' x who (rsR l gt sn np) 160 (.sub (mpS lo l P T G who who) y .h 288)) ∧ Kept [x] w w' := by
  have HI := hid (MI.start hp hL)
  have hf := hp.idle.frozen
  (have y0 := hp.idle.rest 0; have y1 := hp.idle.rest 1; have y2 := hp.idle.rest 2; have y3 := hp.idle.rest 3; simp only [rsR, Nat.reduceAdd, Nat.zero_add, List.getElem?_cons_zero, List.getElem?_cons_succ] at y0 y1 y2 y3)
  clear hp hL
  go_enter Tryz.func204, Tryz.ntmps204
  go_wp2_with fail
  refine (rs_lies_run x l lo P T G who gt sn np _ hw hlo HI.out.pend HI.out.lay).mono ?_
  rintro e w9 ⟨⟨r, rfl⟩, hy, hK⟩
  have HX := hid (And.intro hy (HI.out.kept.trans hK (by intro i hi; exact .inl hi)))
  clear HI hy hK
  go_wp2
  go_returns
  exact ⟨⟨_, rfl⟩, HX.out⟩
theorem rs_needed1_run (x l lo : Nat) (P T G who : Int) (v : Int) (sn np : Value) (w : World) (hz : v ≠ 0) (hlo : lo ≤ w.heap.size) (hp : Pend w x who (rsR l (.pointer none) sn np) 160 .done) (hL : Lay w l P T G) :
    Calls Tryz.prog 204 #[.pointer (some ⟨x, 0, none⟩), .int .u64 v] w fun e w' => (∃ r, e = .returned r) ∧ (∃ y, Pend2 w' x who (rsR l (.pointer (some ⟨y, 0, none⟩)) sn np) 160 (.sub (pgS lo l P T G who) y .h 253)) ∧ Kept [x] w w' := by
  have d1 : ((v : Int) == 0) = false := by simpa using hz
  have SW := hid (show (pgS lo l P T G who).sys.want .h ≠ none by exact fun h => by cases h)
  have HI := hid (MI.drewS (N := w.heap.size) (MI.start hp hL) (by first | rfl | simp))
  have hf := hp.idle.frozen
  (have y0 := hp.idle.rest 0; have y1 := hp.idle.rest 1; have y2 := hp.idle.rest 2; have y3 := hp.idle.rest 3; simp only [rsR, Nat.reduceAdd, Nat.zero_add, List.getElem?_cons_zero, List.getElem?_cons_succ] at y0 y1 y2 y3)
  clear hp hL
  go_enter Tryz.func204, Tryz.ntmps204
  go_wp2_with fail
  refine wp_region_D [9, 12] (tcl2 (fun w' => MI w w' x who (rsR l (.pointer none) sn np) 160 l P T G ∧ w'.heap.size = w.heap.size) (fun w' => MI w w' x who (rsR l (.pointer none) sn np) 160 l P T G ∧ (pgS lo l P T G who).at_ w' w.heap.size .h) (fun w' => MI w w' x who (rsR l (.pointer (some ⟨w.heap.size, 0, none⟩)) sn np) 160 l P T G ∧ (pgS lo l P T G who).at_ w' w.heap.size .h)) (by kernel_rfl) (by kernel_rfl) rfl (by kernel_rfl) HI.out ?_
  clear HI
  repeat (first | (apply walkD_pure; rfl; rfl; (intro _; go_simp; first | done | rfl); (intro K hK; go_simp; refine hK _ ?_; clear hK K)) | (apply walkD_skip; rfl; rfl; (intro K hK; go_simp; refine hK _ ?_; clear hK K)) | (apply walkD_read1 [false, false] (by kernel_rfl); rfl; rfl; (intro w' hD; (have y0 := hD.1.pend.idle.rest 0; have y1 := hD.1.pend.idle.rest 1; have y2 := hD.1.pend.idle.rest 2; have y3 := hD.1.pend.idle.rest 3; simp only [rsR, Nat.reduceAdd, Nat.zero_add, List.getElem?_cons_zero, List.getElem?_cons_succ] at y0 y1 y2 y3); go_simp; rfl); (intro K hK; go_simp; refine hK _ ?_; clear hK K)) | (apply walkD_call1 [false, false] (by kernel_rfl); rfl; (intro _; go_simp; first | rfl | exact ⟨rfl, rfl⟩); (intro w' hD; first | (go_at_call 222; refine (ifwho_run hD.1.pend).mono ?_; rintro e w2 ⟨rfl, rfl⟩; exact ⟨rfl, hD⟩) | (go_at_call 252; have q := pg_made lo l P T G who w' hD.1.lay (by rw [hD.2]; exact hlo); rw [hD.2] at q; refine q.mono ?_; rintro e w2 ⟨rfl, hA, hb⟩; exact ⟨rfl, hD.1.quiet (by rw [hD.2]; exact hb), hA⟩)); (intro K hK; go_simp; refine hK _ ?_; clear hK K)) | (apply walkD_turn1 (v := undef) [true, false] (by kernel_rfl); rfl; (intro w' hD; (have y0 := hD.1.pend.idle.rest 0; have y1 := hD.1.pend.idle.rest 1; have y2 := hD.1.pend.idle.rest 2; have y3 := hD.1.pend.idle.rest 3; simp only [rsR, Nat.reduceAdd, Nat.zero_add, List.getElem?_cons_zero, List.getElem?_cons_succ] at y0 y1 y2 y3); have yf := hD.1.pend.idle.frozen; unfold Go.Proofs.YtlhnnggceebpjaaGreat.Flag.opAt; go_simp; exact ⟨⟨hD.1.put (by decide) 1 _, sub_set (pg_sub lo l P T G who) hD.2 hD.1.pend (of_decide_eq_true rfl) _ _⟩, rfl⟩); (intro K hK; go_simp; refine hK _ ?_; clear hK K)))
  rintro w4 ⟨h1, h2⟩
  obtain ⟨y, hy⟩ : ∃ y, y = w.heap.size := ⟨_, rfl⟩
  rw [← hy] at h1 h2 ⊢
  have HI2 := hid (And.intro h1.drew (SubOk.at_quiet (pg_sub lo l P T G who) h2 (below_drewN (Below.refl _ _) 1)))
  have hf := h1.pend.idle.frozen
  clear h1 h2 hy
  go_wp2_with fail
  refine wp_region_T 10 (fun w' => MI w w' x who (rsR l (.pointer (some ⟨y, 0, none⟩)) sn np) 160 l P T G ∧ (pgS lo l P T G who).at_ w' y .h) (fun w' => Pend2 w' x who (rsR l (.pointer (some ⟨y, 0, none⟩)) sn np) 160 (.sub (pgS lo l P T G who) y .h 253) ∧ Kept [x] w w') (by kernel_rfl) (by kernel_rfl) rfl (by kernel_rfl) HI2.out ?_
  clear HI2
  repeat (first | (apply walkD_pure; rfl; rfl; (intro _; go_simp; first | done | rfl); (intro K hK; go_simp; refine hK _ ?_; clear hK K)) | (apply walkD_skip; rfl; rfl; (intro K hK; go_simp; refine hK _ ?_; clear hK K)) | (apply walkD_read1 [false] (by kernel_rfl); rfl; rfl; (intro w' hD; (have y0 := hD.1.pend.idle.rest 0; have y1 := hD.1.pend.idle.rest 1; have y2 := hD.1.pend.idle.rest 2; have y3 := hD.1.pend.idle.rest 3; simp only [rsR, Nat.reduceAdd, Nat.zero_add, List.getElem?_cons_zero, List.getElem?_cons_succ] at y0 y1 y2 y3); go_simp; rfl); (intro K hK; go_simp; refine hK _ ?_; clear hK K)) | (apply walkD_call1 [false] (by kernel_rfl); rfl; (intro _; go_simp; first | rfl | exact ⟨rfl, rfl⟩); (intro w' hD; go_at_call 124; refine (irun_run (S := pgS lo l P T G who) (pg_sub lo l P T G who) hD.1.pend hD.2 SW.out (of_decide_eq_true rfl)).mono ?_; rintro e w2 ⟨rfl, h1, h2, h3⟩; exact ⟨rfl, ⟨h1, h2, SW.out⟩, hD.1.kept.trans h3 (by intro i hi; exact .inl hi)⟩); (intro K hK; go_simp; refine hK _ ?_; clear hK K)))
  rintro w3 ⟨h1, h2⟩
  go_wp2
  go_returns
  exact ⟨⟨_, rfl⟩, ⟨_, h1⟩, h2⟩
theorem rs_got0_run (x l lo : Nat) (P T G who : Int) (k : Nat) (u : Idlep.PgSt) (sn np : Value) (w : World) (hw : 0 ≤ who ∧ who ≤ 1000000) (hA : (pgS lo l P T G who).at_ w k u) (ht : u.p = -1) (hlo : lo ≤ w.heap.size) (hp : Pend w x who (rsR l (.pointer (some ⟨k, 0, none⟩)) sn np) 160 .done) (hL : Lay w l P T G) :
    Calls Tryz.prog 253 #[.pointer (some ⟨x, 0, none⟩)] w fun e w' => (∃ r, e = .returned r) ∧ (∃ y, Pend2 w' x who (rsR l (.pointer (some ⟨k, 0, none⟩)) sn np) 160 (.sub (mpS lo l P T G who who) y .h 288)) ∧ Kept [x] w w' := by
  have HG := hid (Idlep.pg_p_run hA)
  rw [ht] at HG
  clear hA ht
  have HI := hid (MI.start hp hL)
  have hf := hp.idle.frozen
  (have y0 := hp.idle.rest 0; have y1 := hp.idle.rest 1; have y2 := hp.idle.rest 2; have y3 := hp.idle.rest 3; simp only [rsR, Nat.reduceAdd, Nat.zero_add, List.getElem?_cons_zero, List.getElem?_cons_succ] at y0 y1 y2 y3)
  clear hp hL
  go_enter Tryz.func253, Tryz.ntmps253
  go_wp2_with (go_at_call 131; refine HG.out.mono ?_; rintro e w1 ⟨rfl, rfl⟩)
  refine (rs_lies_run x l lo P T G who (.pointer (some ⟨k, 0, none⟩)) sn np _ hw hlo HI.out.pend HI.out.lay).mono ?_
  rintro e w9 ⟨⟨r, rfl⟩, hy, hK⟩
  have HX := hid (And.intro hy (HI.out.kept.trans hK (by intro i hi; exact .inl hi)))
  clear HI hy hK
  go_wp2
  go_returns
  exact ⟨⟨_, rfl⟩, HX.out⟩
theorem rs_got1_run (x l lo : Nat) (P T G who : Int) (k : Nat) (u : Idlep.PgSt) (v : Int) (np : Value) (w : World) (hA : (pgS lo l P T G who).at_ w k u) (ht : u.p = v) (hn : v ≠ -1) (hlo : lo ≤ w.heap.size) (hp : Pend w x who (rsR l (.pointer (some ⟨k, 0, none⟩)) (.pointer none) np) 160 .done) (hL : Lay w l P T G) :
    Calls Tryz.prog 253 #[.pointer (some ⟨x, 0, none⟩)] w fun e w' => (∃ r, e = .returned r) ∧ (∃ y, Pend2 w' x who (rsR l (.pointer (some ⟨k, 0, none⟩)) (.pointer (some ⟨y, 0, none⟩)) np) 160 (.sub (snS lo l P T G who) y .a 290)) ∧ Kept [x] w w' := by
  have HG := hid (Idlep.pg_p_run hA)
  rw [ht] at HG
  clear hA ht
  have d1 : ((v : Int) == -1) = false := by simpa using hn
  have SW := hid (show (snS lo l P T G who).sys.want .a ≠ none by exact fun h => by cases h)
  have HI := hid (MI.drewS (N := w.heap.size) (MI.start hp hL) (by first | rfl | simp))
  have hf := hp.idle.frozen
  (have y0 := hp.idle.rest 0; have y1 := hp.idle.rest 1; have y2 := hp.idle.rest 2; have y3 := hp.idle.rest 3; simp only [rsR, Nat.reduceAdd, Nat.zero_add, List.getElem?_cons_zero, List.getElem?_cons_succ] at y0 y1 y2 y3)
  clear hp hL
  go_enter Tryz.func253, Tryz.ntmps253
  go_wp2_with (go_at_call 131; refine HG.out.mono ?_; rintro e w1 ⟨rfl, rfl⟩)
  refine wp_region_D [9, 12] (tcl2 (fun w' => MI w w' x who (rsR l (.pointer (some ⟨k, 0, none⟩)) (.pointer none) np) 160 l P T G ∧ w'.heap.size = w.heap.size) (fun w' => MI w w' x who (rsR l (.pointer (some ⟨k, 0, none⟩)) (.pointer none) np) 160 l P T G ∧ (snS lo l P T G who).at_ w' w.heap.size .a) (fun w' => MI w w' x who (rsR l (.pointer (some ⟨k, 0, none⟩)) (.pointer (some ⟨w.heap.size, 0, none⟩)) np) 160 l P T G ∧ (snS lo l P T G who).at_ w' w.heap.size .a)) (by kernel_rfl) (by kernel_rfl) rfl (by kernel_rfl) HI.out ?_
  clear HI
  repeat (first | (apply walkD_pure; rfl; rfl; (intro _; go_simp; first | done | rfl); (intro K hK; go_simp; refine hK _ ?_; clear hK K)) | (apply walkD_skip; rfl; rfl; (intro K hK; go_simp; refine hK _ ?_; clear hK K)) | (apply walkD_read1 [false, false] (by kernel_rfl); rfl; rfl; (intro w' hD; (have y0 := hD.1.pend.idle.rest 0; have y1 := hD.1.pend.idle.rest 1; have y2 := hD.1.pend.idle.rest 2; have y3 := hD.1.pend.idle.rest 3; simp only [rsR, Nat.reduceAdd, Nat.zero_add, List.getElem?_cons_zero, List.getElem?_cons_succ] at y0 y1 y2 y3); go_simp; rfl); (intro K hK; go_simp; refine hK _ ?_; clear hK K)) | (apply walkD_call1 [false, false] (by kernel_rfl); rfl; (intro _; go_simp; first | rfl | exact ⟨rfl, rfl⟩); (intro w' hD; first | (go_at_call 222; refine (ifwho_run hD.1.pend).mono ?_; rintro e w2 ⟨rfl, rfl⟩; exact ⟨rfl, hD⟩) | (go_at_call 29; have q := sn_made lo l P T G who w' hD.1.lay (by rw [hD.2]; exact hlo); rw [hD.2] at q; refine q.mono ?_; rintro e w2 ⟨rfl, hA, hb⟩; exact ⟨rfl, hD.1.quiet (by rw [hD.2]; exact hb), hA⟩)); (intro K hK; go_simp; refine hK _ ?_; clear hK K)) | (apply walkD_turn1 (v := undef) [true, false] (by kernel_rfl); rfl; (intro w' hD; (have y0 := hD.1.pend.idle.rest 0; have y1 := hD.1.pend.idle.rest 1; have y2 := hD.1.pend.idle.rest 2; have y3 := hD.1.pend.idle.rest 3; simp only [rsR, Nat.reduceAdd, Nat.zero_add, List.getElem?_cons_zero, List.getElem?_cons_succ] at y0 y1 y2 y3); have yf := hD.1.pend.idle.frozen; unfold Go.Proofs.YtlhnnggceebpjaaGreat.Flag.opAt; go_simp; exact ⟨⟨hD.1.put (by decide) 2 _, sub_set (sn_sub lo l P T G who) hD.2 hD.1.pend (of_decide_eq_true rfl) _ _⟩, rfl⟩); (intro K hK; go_simp; refine hK _ ?_; clear hK K)))
  rintro w4 ⟨h1, h2⟩
  obtain ⟨y, hy⟩ : ∃ y, y = w.heap.size := ⟨_, rfl⟩
  rw [← hy] at h1 h2 ⊢
  have HI2 := hid (And.intro h1.drew (SubOk.at_quiet (sn_sub lo l P T G who) h2 (below_drewN (Below.refl _ _) 1)))
  have hf := h1.pend.idle.frozen
  clear h1 h2 hy
  go_wp2_with fail
  refine wp_region_T 10 (fun w' => MI w w' x who (rsR l (.pointer (some ⟨k, 0, none⟩)) (.pointer (some ⟨y, 0, none⟩)) np) 160 l P T G ∧ (snS lo l P T G who).at_ w' y .a) (fun w' => Pend2 w' x who (rsR l (.pointer (some ⟨k, 0, none⟩)) (.pointer (some ⟨y, 0, none⟩)) np) 160 (.sub (snS lo l P T G who) y .a 290) ∧ Kept [x] w w') (by kernel_rfl) (by kernel_rfl) rfl (by kernel_rfl) HI2.out ?_
  clear HI2
  repeat (first | (apply walkD_pure; rfl; rfl; (intro _; go_simp; first | done | rfl); (intro K hK; go_simp; refine hK _ ?_; clear hK K)) | (apply walkD_skip; rfl; rfl; (intro K hK; go_simp; refine hK _ ?_; clear hK K)) | (apply walkD_read1 [false] (by kernel_rfl); rfl; rfl; (intro w' hD; (have y0 := hD.1.pend.idle.rest 0; have y1 := hD.1.pend.idle.rest 1; have y2 := hD.1.pend.idle.rest 2; have y3 := hD.1.pend.idle.rest 3; simp only [rsR, Nat.reduceAdd, Nat.zero_add, List.getElem?_cons_zero, List.getElem?_cons_succ] at y0 y1 y2 y3); go_simp; rfl); (intro K hK; go_simp; refine hK _ ?_; clear hK K)) | (apply walkD_call1 [false] (by kernel_rfl); rfl; (intro _; go_simp; first | rfl | exact ⟨rfl, rfl⟩); (intro w' hD; go_at_call 124; refine (irun_run (S := snS lo l P T G who) (sn_sub lo l P T G who) hD.1.pend hD.2 SW.out (of_decide_eq_true rfl)).mono ?_; rintro e w2 ⟨rfl, h1, h2, h3⟩; exact ⟨rfl, ⟨h1, h2, SW.out⟩, hD.1.kept.trans h3 (by intro i hi; exact .inl hi)⟩); (intro K hK; go_simp; refine hK _ ?_; clear hK K)))
  rintro w3 ⟨h1, h2⟩
  go_wp2
  go_returns
  exact ⟨⟨_, rfl⟩, ⟨_, h1⟩, h2⟩
theorem rs_spun_run (x l lo : Nat) (P T G who : Int) (gt sn np : Value) (w : World)  (hlo : lo ≤ w.heap.size) (hp : Pend w x who (rsR l gt sn np) 160 .done) (hL : Lay w l P T G) :
    Calls Tryz.prog 290 #[.pointer (some ⟨x, 0, none⟩)] w fun e w' => (∃ r, e = .returned r) ∧ (∃ y, Pend2 w' x who (rsR l gt sn np) 160 (.sub (rlS lo l 0 P T G who) y .puts 316)) ∧ Kept [x] w w' := by
  have SW := hid (show (rlS lo l 0 P T G who).sys.want .puts ≠ none by exact fun h => by cases h)
  have HI0 := hid (MI.start hp hL)
  have HI := hid (MI.drewS (N := w.heap.size) HI0.out (by first | rfl | simp))
  clear HI0
  have hf := hp.idle.frozen
  (have y0 := hp.idle.rest 0; have y1 := hp.idle.rest 1; have y2 := hp.idle.rest 2; have y3 := hp.idle.rest 3; simp only [rsR, Nat.reduceAdd, Nat.zero_add, List.getElem?_cons_zero, List.getElem?_cons_succ] at y0 y1 y2 y3)
  clear hp hL
  go_enter Tryz.func290, Tryz.ntmps290
  go_wp2_with fail
  refine wp_region_D [11, 15] (tcl2 (fun w' => MI w w' x who (rsR l gt sn np) 160 l P T G ∧ w'.heap.size = w.heap.size) (fun w' => MI w w' x who (rsR l gt sn np) 160 l P T G ∧ (rlS lo l 0 P T G who).at_ w' w.heap.size .puts) (fun w' => Pend2 w' x who (rsR l gt sn np) 160 (.sub (rlS lo l 0 P T G who) w.heap.size .puts 316) ∧ Kept [x] w w')) (by kernel_rfl) (by kernel_rfl) rfl (by kernel_rfl) HI.out ?_
  clear HI
  repeat (first | (apply walkD_pure; rfl; rfl; (intro _; go_simp; first | done | rfl); (intro K hK; go_simp; refine hK _ ?_; clear hK K)) | (apply walkD_skip; rfl; rfl; (intro K hK; go_simp; refine hK _ ?_; clear hK K)) | (apply walkD_read1 [false, false] (by kernel_rfl); rfl; rfl; (intro w' hD; (have y0 := hD.1.pend.idle.rest 0; have y1 := hD.1.pend.idle.rest 1; have y2 := hD.1.pend.idle.rest 2; have y3 := hD.1.pend.idle.rest 3; simp only [rsR, Nat.reduceAdd, Nat.zero_add, List.getElem?_cons_zero, List.getElem?_cons_succ] at y0 y1 y2 y3); go_simp; rfl); (intro K hK; go_simp; refine hK _ ?_; clear hK K)) | (apply walkD_call1 [false, false] (by kernel_rfl); rfl; (intro _; go_simp; first | rfl | exact ⟨rfl, rfl⟩); (intro w' hD; first | (go_at_call 222; refine (ifwho_run hD.1.pend).mono ?_; rintro e w2 ⟨rfl, rfl⟩; exact ⟨rfl, hD⟩) | (go_at_call 308; have q := rl_made lo l 0 P T G who w' hD.1.lay (by rw [hD.2]; exact hlo); rw [hD.2] at q; refine q.mono ?_; rintro e w2 ⟨rfl, hA, hb⟩; exact ⟨rfl, hD.1.quiet (by rw [hD.2]; exact hb), hA⟩)); (intro K hK; go_simp; refine hK _ ?_; clear hK K)) | (apply walkD_call1 [true, false] (by kernel_rfl); rfl; (intro _; go_simp; first | rfl | exact ⟨rfl, rfl⟩); (intro w' hD; go_at_call 124; refine (irun_run (S := rlS lo l 0 P T G who) (rl_sub lo l 0 P T G who) hD.1.pend hD.2 SW.out (of_decide_eq_true rfl)).mono ?_; rintro e w2 ⟨rfl, h1, h2, h3⟩; exact ⟨rfl, ⟨h1, h2, SW.out⟩, hD.1.kept.trans h3 (by intro i hi; exact .inl hi)⟩); (intro K hK; go_simp; refine hK _ ?_; clear hK K)))
  rintro w2 ⟨h1, h2⟩
  go_wp2
  go_returns
  exact ⟨⟨_, rfl⟩, ⟨_, h1⟩, h2⟩
theorem rs_has_run (x l : Nat) (P T G who : Int) (k lo : Nat) (v : Int) (u : Idlep.PgSt) (sn np : Value) (w : World) (hA : (pgS lo l P T G who).at_ w k u) (ht : u.p = v) (hp : Pend w x who (rsR l (.pointer (some ⟨k, 0, none⟩)) sn np) 160 .done) (hL : Lay w l P T G) :
    Calls Tryz.prog 316 #[.pointer (some ⟨x, 0, none⟩)] w fun e w' => (∃ r, e = .returned r) ∧ Pend w' x who (rsR l (.pointer (some ⟨k, 0, none⟩)) sn np) 160 (.store (pr P v 0) 1 338) ∧ Kept [x] w w' := by
  obtain ⟨cx, hbx⟩ := hp.blk
  have HG := hid (fun (w' : World) (hk : Kept [x] w w') => Idlep.pg_p_run ((pg_sub lo l P T G who).kept hA hk (fun i hi => by simp at hi; subst hi; exact not_of hbx (by show 160 ∉ rdT [250]; decide))))
  rw [ht] at HG
  clear hA ht hbx
  have HI := hid (MI.start hp hL).drew
  have hf := hp.idle.frozen
  (have y0 := hp.idle.rest 0; have y1 := hp.idle.rest 1; have y2 := hp.idle.rest 2; have y3 := hp.idle.rest 3; simp only [rsR, Nat.reduceAdd, Nat.zero_add, List.getElem?_cons_zero, List.getElem?_cons_succ] at y0 y1 y2 y3)
  clear hp hL
  go_enter Tryz.func316, Tryz.ntmps316
  go_wp2_with fail
  refine wp_region_T 15 (fun w' => MI w w' x who (rsR l (.pointer (some ⟨k, 0, none⟩)) sn np) 160 l P T G) (fun w' => Pend w' x who (rsR l (.pointer (some ⟨k, 0, none⟩)) sn np) 160 (.store (pr P v 0) 1 338) ∧ Kept [x] w w') (by kernel_rfl) (by kernel_rfl) rfl (by kernel_rfl) HI.out ?_
  clear HI
  (repeat (first | (apply walkD_pure; rfl; rfl; (intro _; go_simp; first | done | rfl); (intro K hK; go_simp; refine hK _ ?_; clear hK K)) | (apply walkD_skip; rfl; rfl; (intro K hK; go_simp; refine hK _ ?_; clear hK K)) | (apply walkD_read1 [false] (by kernel_rfl); rfl; rfl; (intro w' hD; (have y0 := hD.pend.idle.rest 0; have y1 := hD.pend.idle.rest 1; have y2 := hD.pend.idle.rest 2; have y3 := hD.pend.idle.rest 3; simp only [rsR, Nat.reduceAdd, Nat.zero_add, List.getElem?_cons_zero, List.getElem?_cons_succ] at y0 y1 y2 y3); go_simp; rfl); (intro K hK; go_simp; refine hK _ ?_; clear hK K)) | (apply walkD_call1 [false] (by kernel_rfl); rfl; (intro _; go_simp; first | rfl | exact ⟨rfl, rfl⟩); (intro w' hD; first | (go_at_call 131; refine (HG.out _ hD.kept).mono ?_; rintro e w2 ⟨rfl, rfl⟩; exact ⟨rfl, hD⟩) | (go_at_call 25; refine (proc_run _ _ _ _ _ _ _ hD.lay).mono ?_; rintro e w2 ⟨rfl, hb⟩; exact ⟨rfl, hD.quiet hb⟩) | (go_at_call 76; refine (thread_run _ _ _ _ _ _ _ hD.lay).mono ?_; rintro e w2 ⟨rfl, hb⟩; exact ⟨rfl, hD.quiet hb⟩) | (go_at_call 255; refine (ring_run _ _ _ _ _ _ (by assumption) _ hD.lay).mono ?_; rintro e w2 ⟨rfl, hb⟩; exact ⟨rfl, hD.quiet hb⟩) | (go_at_call 168; refine (g_run _ _ _ _ _ _ _ hD.lay).mono ?_; rintro e w2 ⟨rfl, hb⟩; exact ⟨rfl, hD.quiet hb⟩) | (go_at_call 133; refine (word_run _ 0 0 0 _ _).mono ?_; rintro e w2 ⟨rfl, rfl⟩; exact ⟨rfl, hD⟩) | (go_at_call 183; refine (iload_run hD.pend.idle _ _).mono ?_; rintro e w2 ⟨rfl, hP, hK⟩; exact ⟨rfl, hP, hD.kept.trans hK (by intro i hi; exact .inl hi)⟩) | (go_at_call 132; refine (iadd_run hD.pend.idle _ _ _).mono ?_; rintro e w2 ⟨rfl, hP, hK⟩; exact ⟨rfl, hP, hD.kept.trans hK (by intro i hi; exact .inl hi)⟩) | (go_at_call 188; refine (istore_run hD.pend.idle _ _ _).mono ?_; rintro e w2 ⟨rfl, hP, hK⟩; exact ⟨rfl, hP, hD.kept.trans hK (by intro i hi; exact .inl hi)⟩) | (go_at_call 166; refine (iswap_run hD.pend.idle _ _ _ _).mono ?_; rintro e w2 ⟨rfl, hP, hK⟩; exact ⟨rfl, hP, hD.kept.trans hK (by intro i hi; exact .inl hi)⟩)); (intro K hK; go_simp; refine hK _ ?_; clear hK K))))
  (rintro w2 ⟨h1, h2⟩; go_wp2; go_returns; exact ⟨⟨_, rfl⟩, h1, h2⟩)
theorem rs_leaves_run (x l lo : Nat) (P T G who : Int) (gt sn np : Value) (w : World)  (hlo : lo ≤ w.heap.size) (hp : Pend w x who (rsR l gt sn np) 160 .done) (hL : Lay w l P T G) :
    Calls Tryz.prog 288 #[.pointer (some ⟨x, 0, none⟩)] w fun e w' => (∃ r, e = .returned r) ∧ (∃ y, Pend2 w' x who (rsR l gt sn np) 160 (.sub (rlS lo l 0 P T G who) y .puts 314)) ∧ Kept [x] w w' := by
  have SW := hid (show (rlS lo l 0 P T G who).sys.want .puts ≠ none by exact fun h => by cases h)
  have HI0 := hid (MI.start hp hL)
  have HI := hid (MI.drewS (N := w.heap.size) HI0.out (by first | rfl | simp))
  clear HI0
  have hf := hp.idle.frozen
  (have y0 := hp.idle.rest 0; have y1 := hp.idle.rest 1; have y2 := hp.idle.rest 2; have y3 := hp.idle.rest 3; simp only [rsR, Nat.reduceAdd, Nat.zero_add, List.getElem?_cons_zero, List.getElem?_cons_succ] at y0 y1 y2 y3)
  clear hp hL
  go_enter Tryz.func288, Tryz.ntmps288
  go_wp2_with fail
  refine wp_region_D [11, 15] (tcl2 (fun w' => MI w w' x who (rsR l gt sn np) 160 l P T G ∧ w'.heap.size = w.heap.size) (fun w' => MI w w' x who (rsR l gt sn np) 160 l P T G ∧ (rlS lo l 0 P T G who).at_ w' w.heap.size .puts) (fun w' => Pend2 w' x who (rsR l gt sn np) 160 (.sub (rlS lo l 0 P T G who) w.heap.size .puts 314) ∧ Kept [x] w w')) (by kernel_rfl) (by kernel_rfl) rfl (by kernel_rfl) HI.out ?_
  clear HI
  repeat (first | (apply walkD_pure; rfl; rfl; (intro _; go_simp; first | done | rfl); (intro K hK; go_simp; refine hK _ ?_; clear hK K)) | (apply walkD_skip; rfl; rfl; (intro K hK; go_simp; refine hK _ ?_; clear hK K)) | (apply walkD_read1 [false, false] (by kernel_rfl); rfl; rfl; (intro w' hD; (have y0 := hD.1.pend.idle.rest 0; have y1 := hD.1.pend.idle.rest 1; have y2 := hD.1.pend.idle.rest 2; have y3 := hD.1.pend.idle.rest 3; simp only [rsR, Nat.reduceAdd, Nat.zero_add, List.getElem?_cons_zero, List.getElem?_cons_succ] at y0 y1 y2 y3); go_simp; rfl); (intro K hK; go_simp; refine hK _ ?_; clear hK K)) | (apply walkD_call1 [false, false] (by kernel_rfl); rfl; (intro _; go_simp; first | rfl | exact ⟨rfl, rfl⟩); (intro w' hD; first | (go_at_call 222; refine (ifwho_run hD.1.pend).mono ?_; rintro e w2 ⟨rfl, rfl⟩; exact ⟨rfl, hD⟩) | (go_at_call 308; have q := rl_made lo l 0 P T G who w' hD.1.lay (by rw [hD.2]; exact hlo); rw [hD.2] at q; refine q.mono ?_; rintro e w2 ⟨rfl, hA, hb⟩; exact ⟨rfl, hD.1.quiet (by rw [hD.2]; exact hb), hA⟩)); (intro K hK; go_simp; refine hK _ ?_; clear hK K)) | (apply walkD_call1 [true, false] (by kernel_rfl); rfl; (intro _; go_simp; first | rfl | exact ⟨rfl, rfl⟩); (intro w' hD; go_at_call 124; refine (irun_run (S := rlS lo l 0 P T G who) (rl_sub lo l 0 P T G who) hD.1.pend hD.2 SW.out (of_decide_eq_true rfl)).mono ?_; rintro e w2 ⟨rfl, h1, h2, h3⟩; exact ⟨rfl, ⟨h1, h2, SW.out⟩, hD.1.kept.trans h3 (by intro i hi; exact .inl hi)⟩); (intro K hK; go_simp; refine hK _ ?_; clear hK K)))
  rintro w2 ⟨h1, h2⟩
  go_wp2
  go_returns
  exact ⟨⟨_, rfl⟩, ⟨_, h1⟩, h2⟩
theorem rs_naps_run (x l lo : Nat) (P T G who : Int) (gt sn : Value) (w : World)  (hlo : lo ≤ w.heap.size) (hp : Pend w x who (rsR l gt sn (.pointer none)) 160 .done) (hL : Lay w l P T G) :
    Calls Tryz.prog 314 #[.pointer (some ⟨x, 0, none⟩)] w fun e w' => (∃ r, e = .returned r) ∧ (∃ y, Pend2 w' x who (rsR l gt sn (.pointer (some ⟨y, 0, none⟩))) 160 (.sub (npS_ lo l P T G who) y (.sl (.waits false)) 338)) ∧ Kept [x] w w' := by
  have SW := hid (show (npS_ lo l P T G who).sys.want (.sl (.waits false)) ≠ none by exact fun h => by cases h)
  have HI := hid (MI.drewS (N := w.heap.size) (MI.start hp hL) (by first | rfl | simp))
  have hf := hp.idle.frozen
  (have y0 := hp.idle.rest 0; have y1 := hp.idle.rest 1; have y2 := hp.idle.rest 2; have y3 := hp.idle.rest 3; simp only [rsR, Nat.reduceAdd, Nat.zero_add, List.getElem?_cons_zero, List.getElem?_cons_succ] at y0 y1 y2 y3)
  clear hp hL
  go_enter Tryz.func314, Tryz.ntmps314
  go_wp2_with fail
  refine wp_region_D [9, 12] (tcl2 (fun w' => MI w w' x who (rsR l gt sn (.pointer none)) 160 l P T G ∧ w'.heap.size = w.heap.size) (fun w' => MI w w' x who (rsR l gt sn (.pointer none)) 160 l P T G ∧ (npS_ lo l P T G who).at_ w' w.heap.size (.sl (.waits false))) (fun w' => MI w w' x who (rsR l gt sn (.pointer (some ⟨w.heap.size, 0, none⟩))) 160 l P T G ∧ (npS_ lo l P T G who).at_ w' w.heap.size (.sl (.waits false)))) (by kernel_rfl) (by kernel_rfl) rfl (by kernel_rfl) HI.out ?_
  clear HI
  repeat (first | (apply walkD_pure; rfl; rfl; (intro _; go_simp; first | done | rfl); (intro K hK; go_simp; refine hK _ ?_; clear hK K)) | (apply walkD_skip; rfl; rfl; (intro K hK; go_simp; refine hK _ ?_; clear hK K)) | (apply walkD_read1 [false, false] (by kernel_rfl); rfl; rfl; (intro w' hD; (have y0 := hD.1.pend.idle.rest 0; have y1 := hD.1.pend.idle.rest 1; have y2 := hD.1.pend.idle.rest 2; have y3 := hD.1.pend.idle.rest 3; simp only [rsR, Nat.reduceAdd, Nat.zero_add, List.getElem?_cons_zero, List.getElem?_cons_succ] at y0 y1 y2 y3); go_simp; rfl); (intro K hK; go_simp; refine hK _ ?_; clear hK K)) | (apply walkD_call1 [false, false] (by kernel_rfl); rfl; (intro _; go_simp; first | rfl | exact ⟨rfl, rfl⟩); (intro w' hD; first | (go_at_call 222; refine (ifwho_run hD.1.pend).mono ?_; rintro e w2 ⟨rfl, rfl⟩; exact ⟨rfl, hD⟩) | (go_at_call 50; have q := np_made lo l P T G who w' hD.1.lay (by rw [hD.2]; exact hlo); rw [hD.2] at q; refine q.mono ?_; rintro e w2 ⟨rfl, hA, hb⟩; exact ⟨rfl, hD.1.quiet (by rw [hD.2]; exact hb), hA⟩)); (intro K hK; go_simp; refine hK _ ?_; clear hK K)) | (apply walkD_turn1 (v := undef) [true, false] (by kernel_rfl); rfl; (intro w' hD; (have y0 := hD.1.pend.idle.rest 0; have y1 := hD.1.pend.idle.rest 1; have y2 := hD.1.pend.idle.rest 2; have y3 := hD.1.pend.idle.rest 3; simp only [rsR, Nat.reduceAdd, Nat.zero_add, List.getElem?_cons_zero, List.getElem?_cons_succ] at y0 y1 y2 y3); have yf := hD.1.pend.idle.frozen; unfold Go.Proofs.YtlhnnggceebpjaaGreat.Flag.opAt; go_simp; exact ⟨⟨hD.1.put (by decide) 3 _, sub_setZ (np_sub lo l P T G who) hD.2 hD.1.pend (of_decide_eq_true rfl) _ _⟩, rfl⟩); (intro K hK; go_simp; refine hK _ ?_; clear hK K)))
  rintro w4 ⟨h1, h2⟩
  obtain ⟨y, hy⟩ : ∃ y, y = w.heap.size := ⟨_, rfl⟩
  rw [← hy] at h1 h2 ⊢
  have HI2 := hid (And.intro h1.drew (SubOkZ.at_quiet (np_sub lo l P T G who) h2 (below_drewN (Below.refl _ _) 1)))
  have hf := h1.pend.idle.frozen
  clear h1 h2 hy
  go_wp2_with fail
  refine wp_region_T 10 (fun w' => MI w w' x who (rsR l gt sn (.pointer (some ⟨y, 0, none⟩))) 160 l P T G ∧ (npS_ lo l P T G who).at_ w' y (.sl (.waits false))) (fun w' => Pend2 w' x who (rsR l gt sn (.pointer (some ⟨y, 0, none⟩))) 160 (.sub (npS_ lo l P T G who) y (.sl (.waits false)) 338) ∧ Kept [x] w w') (by kernel_rfl) (by kernel_rfl) rfl (by kernel_rfl) HI2.out ?_
  clear HI2
  repeat (first | (apply walkD_pure; rfl; rfl; (intro _; go_simp; first | done | rfl); (intro K hK; go_simp; refine hK _ ?_; clear hK K)) | (apply walkD_skip; rfl; rfl; (intro K hK; go_simp; refine hK _ ?_; clear hK K)) | (apply walkD_read1 [false] (by kernel_rfl); rfl; rfl; (intro w' hD; (have y0 := hD.1.pend.idle.rest 0; have y1 := hD.1.pend.idle.rest 1; have y2 := hD.1.pend.idle.rest 2; have y3 := hD.1.pend.idle.rest 3; simp only [rsR, Nat.reduceAdd, Nat.zero_add, List.getElem?_cons_zero, List.getElem?_cons_succ] at y0 y1 y2 y3); go_simp; rfl); (intro K hK; go_simp; refine hK _ ?_; clear hK K)) | (apply walkD_call1 [false] (by kernel_rfl); rfl; (intro _; go_simp; first | rfl | exact ⟨rfl, rfl⟩); (intro w' hD; go_at_call 124; refine (irunZ_run (S := npS_ lo l P T G who) (np_sub lo l P T G who) hD.1.pend hD.2 SW.out (of_decide_eq_true rfl)).mono ?_; rintro e w2 ⟨rfl, h1, h2, h3⟩; exact ⟨rfl, ⟨h1, h2, SW.out⟩, hD.1.kept.trans h3 (by intro i hi; exact .inl hi)⟩); (intro K hK; go_simp; refine hK _ ?_; clear hK K)))
  rintro w3 ⟨h1, h2⟩
  go_wp2
  go_returns
  exact ⟨⟨_, rfl⟩, ⟨_, h1⟩, h2⟩
theorem rs_thruD : ThruD 26 := by
  intro x o w H
  have H := hid H
  go_enter Tryz.func26, Tryz.ntmps26
  go_wp2_with fail
  refine H.out.mono ?_
  rintro e w1 ⟨rfl, rfl⟩
  go_wp2
  go_ret
  exact ⟨rfl, rfl⟩
theorem rsstep_nil (m : Option Addr) (w : World) : Calls Tryz.prog 22 #[.pointer none, .pointer m] w fun e w' => e = .returned (.bool true) ∧ w = w' := by
  go_enter Tryz.func22, Tryz.ntmps22
  go_wp2
  go_ret
  exact ⟨rfl, rfl⟩
theorem rsdone_nil (w : World) : Calls Tryz.prog 26 #[.pointer none] w fun e w' => e = .returned (.bool true) ∧ w = w' := by
  go_enter Tryz.func26, Tryz.ntmps26
  go_wp2
  go_ret
  exact ⟨rfl, rfl⟩
theorem rs_step : StepOf 36 22 := ⟨fun y w => rfl, enters_of Tryz.func22 (by kernel_rfl) rfl⟩
theorem rs_thru : Thru 22 := by
  intro x m o w R H
  have H := hid H
  go_enter Tryz.func22, Tryz.ntmps22
  go_wp2_with fail
  refine H.out.mono ?_
  rintro e w1 ⟨rfl, h1⟩
  have HX := hid h1
  clear h1
  go_wp2
  go_ret
  exact ⟨rfl, HX.out⟩
theorem rs_ends_run (x : Nat) (who : Int) (rest : List Value) (T : TypeId) (w : World) (hp : Pend w x who rest T .done) : Calls Tryz.prog 338 #[.pointer (some ⟨x, 0, none⟩)] w fun e w' => (∃ r, e = .returned r) ∧ Pend w' x who rest T .done ∧ Kept [x] w w' := by
  have HP := hid hp
  clear hp
  go_enter Tryz.func338, Tryz.ntmps338
  go_wp2
  go_returns
  exact ⟨⟨_, rfl⟩, HP.out, Kept.refl _ _⟩
end Go.Proofs.YtlhnnggceebpjaaGreat.Rest
