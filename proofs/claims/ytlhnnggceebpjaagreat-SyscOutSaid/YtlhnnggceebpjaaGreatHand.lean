/- A processor is handed over: a machine that runs others. -/
import Derived.Test.YtlhnnggceebpjaaGreatWaker
set_option maxRecDepth 100000
set_option maxHeartbeats 4000000
set_option linter.unusedVariables false
set_option linter.unusedSimpArgs false
namespace Go.Proofs.YtlhnnggceebpjaaGreat.Hand
open Go.RowKit Go.Shelf Go.Proofs.YtlhnnggceebpjaaGreat.TK Go.Proofs.YtlhnnggceebpjaaGreat.Flag Go.Proofs.YtlhnnggceebpjaaGreat.Words Go.Proofs.YtlhnnggceebpjaaGreat.Mem Go.Proofs.YtlhnnggceebpjaaGreat.Flow Go.Proofs.YtlhnnggceebpjaaGreat.Layout Go.Proofs.YtlhnnggceebpjaaGreat.Lock Go.Proofs.YtlhnnggceebpjaaGreat.Run Go.Proofs.YtlhnnggceebpjaaGreat.Sys Go.Proofs.YtlhnnggceebpjaaGreat.Mach Go.Proofs.YtlhnnggceebpjaaGreat.Ref05 Go.Proofs.YtlhnnggceebpjaaGreat.Subs Go.Proofs.YtlhnnggceebpjaaGreat.Wake
theorem lk_made (lo l : Nat) (P T G who p : Int) (w : World) (hL : Lay w l P T G) (hlo : lo ≤ w.heap.size) :
    Calls Tryz.prog 171 #[.pointer (some ⟨l, 0, none⟩), .int .i64 who, .int .i64 p] w fun e w' => e = .returned (.pointer (some ⟨w.heap.size, 0, none⟩)) ∧ (lkS lo l P T G who p).at_ w' w.heap.size .h ∧ Below w.heap.size w w' := by
  refine (Ring.lknew_run _ _ _ _ _ _ _ hL).mono ?_
  rintro e w' ⟨rfl, h1, h2⟩
  exact ⟨rfl, ⟨h1, hlo, hL.quiet h2, trivial⟩, h2⟩
def ovR (l : Nat) (p : Int) (lk st pt : Value) (c : Bool) : List Value := [.pointer (some ⟨l, 0, none⟩), .int .i64 p, lk, st, pt, .bool c]
inductive OvSt
  | look (s : Ring.LkSt)
  | sz
  | sp
  | il
  | sw
  | nd1
  | aqW (s : AcqSt)
  | aqL (s : AcqSt)
  | aqS (s : AcqSt)
  | sz2
  | nd2
  | cnt
  | nd3
  | st (b : Bool) (s : StSt)
  | put (s : Idlep.PpSt)
  | rel (s : RlSt)
  | fin1 (b : Bool) (s : StSt)
  | fin2
def lkY (P p : Int) : Rsys Ring.LkSt := (Ring.lkM 0 P p).sys
def ovLooked (s : Ring.LkSt) : OvSt := if s.empty = true then .sz else .aqW .ask
def ovNext (P T who p : Int) (st : OvSt) (a : Int) : OvSt :=
  match st with
  | .look s => runs (lkY P p) ovLooked .look (Ring.lkNext s a)
  | .sz => if a = 0 then .sp else .aqW .ask
  | .sp => if a = 0 then .il else .aqL .ask
  | .il => if a = 0 then .sw else .aqL .ask
  | .sw => if a = 1 then .nd1 else .aqL .ask
  | .nd1 => .aqS .ask
  | .aqW s => runs (aq0 who) (fun _ => .st false (.get .h)) .aqW (aqNext s a)
  | .aqL s => runs (aq0 who) (fun _ => .sz2) .aqL (aqNext s a)
  | .aqS s => runs (aq0 who) (fun _ => .st true (.get .h)) .aqS (aqNext s a)
  | .sz2 => if a = 0 then .nd2 else .st false (.get .h)
  | .nd2 => if a = 0 then .put .a else .cnt
  | .cnt => .nd3
  | .nd3 => .st true (.get .h)
  | .st b s => runs (stY P T p b true) (.fin1 b) (.st b) (stNext P T p b true s a)
  | .put s => runs (ppY P p) (fun _ => .rel .puts) .put (Idlep.ppNext s a)
  | .rel s => runs rl0 (fun _ => .fin2) .rel (rlNext s a)
  | .fin1 b s => .fin1 b s
  | .fin2 => .fin2
def ovOwn : OvSt → Nx
  | .sz => .load (wordN 8) 233
  | .sp => .load (wordN 13) 266
  | .il => .load (wordN 10) 302
  | .sw => .swap (wordN 13) 0 1 325
  | .nd1 => .store (wordN 14) 0 348
  | .sz2 => .load (wordN 8) 324
  | .nd2 => .load (wordN 14) 347
  | .cnt => .add (wordN 13) 1 368
  | .nd3 => .store (wordN 14) 0 371
  | _ => .done
def ovWant (P T who p : Int) : OvSt → Option Wnt
  | .look s => (lkY P p).want s
  | .aqW s => (aq0 who).want s
  | .aqL s => (aq0 who).want s
  | .aqS s => (aq0 who).want s
  | .st b s => (stY P T p b true).want s
  | .put s => (ppY P p).want s
  | .rel s => rl0.want s
  | st => (ovOwn st).want
def ovY (P T who p : Int) : Rsys OvSt := ⟨ovWant P T who p, ovNext P T who p⟩
def ovH (p : Int) : OvSt → Int
  | .st _ s => stH p s
  | .fin1 _ s => stH p s
  | .put s => s.h p
  | .rel _ => -1
  | .fin2 => -1
  | _ => p
def ovC : OvSt → Bool
  | .nd1 => true
  | .aqS _ => true
  | .nd3 => true
  | _ => false
def ovRest (l : Nat) (p : Int) (st : OvSt) (e : Nat × Nat × Nat) : List Value :=
  match st with
  | .look _ => ovR l p (.pointer (some ⟨e.1, 0, none⟩)) (.pointer none) (.pointer none) false
  | .st _ _ => ovR l p (.pointer (some ⟨e.2.1, 0, none⟩)) (.pointer (some ⟨e.1, 0, none⟩)) (.pointer none) false
  | .fin1 _ _ => ovR l p (.pointer (some ⟨e.2.1, 0, none⟩)) (.pointer (some ⟨e.1, 0, none⟩)) (.pointer none) false
  | .put _ => ovR l p (.pointer (some ⟨e.2.1, 0, none⟩)) (.pointer none) (.pointer (some ⟨e.1, 0, none⟩)) false
  | .rel _ => ovR l p (.pointer (some ⟨e.2.1, 0, none⟩)) (.pointer none) (.pointer (some ⟨e.2.2, 0, none⟩)) false
  | .fin2 => ovR l p (.pointer (some ⟨e.2.1, 0, none⟩)) (.pointer none) (.pointer (some ⟨e.2.2, 0, none⟩)) false
  | st => ovR l p (.pointer (some ⟨e.2.1, 0, none⟩)) (.pointer none) (.pointer none) (ovC st)
def ovInv (lo l : Nat) (P T G who p : Int) (st : OvSt) (e : Nat × Nat × Nat) (w : World) : Prop :=
  match st with
  | .fin1 b s => (stS lo l P T G who p b true).at_ w e.1 s
  | .rel _ => (ppS lo l P T G who p).at_ w e.2.2 .done
  | .fin2 => (ppS lo l P T G who p).at_ w e.2.2 .done
  | _ => True
def ovInvT : OvSt → List TypeId
  | .fin1 _ _ => rdT [274, 333, 331, 339, 276]
  | .rel _ => rdT [276]
  | .fin2 => rdT [276]
  | _ => []
def ovM (lo l : Nat) (P T G who p : Int) : Mch2 OvSt (Nat × Nat × Nat) :=
  ⟨211, [211, 270, 247, 274, 333, 331, 339, 276], fun st e => match st with
    | .look s => .sub (lkS lo l P T G who p) e.1 s 172
    | .aqW s => .sub (aqS lo l 0 P T G who) e.1 s 232
    | .aqL s => .sub (aqS lo l 0 P T G who) e.1 s 301
    | .aqS s => .sub (aqS lo l 0 P T G who) e.1 s 371
    | .st b s => .sub (stS lo l P T G who p b true) e.1 s 300
    | .put s => .sub (ppS lo l P T G who p) e.1 s 370
    | .rel s => .sub (rlS lo l 0 P T G who) e.1 s 300
    | st => .own (ovOwn st),
   ovRest l p, ovInv lo l P T G who p, ovInvT, ovY P T who p, fun _ => True⟩
theorem ov_acquire_run (x l lo : Nat) (P T G who : Int) (fn : Nat) (p : Int) (lk : Value) (c : Bool) (w : World) (hw : 0 ≤ who ∧ who ≤ 1000) (hlo : lo ≤ w.heap.size) (hp : Pend w x who (ovR l p lk (.pointer none) (.pointer none) c) 211 .done) (hL : Lay w l P T G) :
    Calls Tryz.prog 231 #[.pointer (some ⟨x, 0, none⟩), meth fn x] w fun e w' => (∃ r, e = .returned r) ∧ (∃ y, Pend2 w' x who (ovR l p lk (.pointer none) (.pointer none) c) 211 (.sub (aqS lo l 0 P T G who) y .ask fn)) ∧ Kept [x] w w' := by
  have SW := hid (show (aqS lo l 0 P T G who).sys.want .ask ≠ none by exact fun h => by cases h)
  have HI0 := hid (MI.start hp hL)
  have HI := hid (MI.drewS (N := w.heap.size) HI0.out (by first | rfl | simp))
  clear HI0
  have hf := hp.idle.frozen
  (have y0 := hp.idle.rest 0; have y1 := hp.idle.rest 1; have y2 := hp.idle.rest 2; have y3 := hp.idle.rest 3; have y4 := hp.idle.rest 4; have y5 := hp.idle.rest 5; simp only [ovR, Nat.reduceAdd, Nat.zero_add, List.getElem?_cons_zero, List.getElem?_cons_succ] at y0 y1 y2 y3 y4 y5)
  clear hp hL
  go_enter Tryz.func231, Tryz.ntmps231
  go_wp2_with fail
  refine wp_region_D [11, 14] (tcl2 (fun w' => MI w w' x who (ovR l p lk (.pointer none) (.pointer none) c) 211 l P T G ∧ w'.heap.size = w.heap.size) (fun w' => MI w w' x who (ovR l p lk (.pointer none) (.pointer none) c) 211 l P T G ∧ (aqS lo l 0 P T G who).at_ w' w.heap.size .ask) (fun w' => Pend2 w' x who (ovR l p lk (.pointer none) (.pointer none) c) 211 (.sub (aqS lo l 0 P T G who) w.heap.size .ask fn) ∧ Kept [x] w w')) (by kernel_rfl) (by kernel_rfl) rfl (by kernel_rfl) HI.out ?_
  clear HI
  repeat (first | (apply walkD_pure; rfl; rfl; (intro _; go_simp; first | done | rfl); (intro K hK; go_simp; refine hK _ ?_; clear hK K)) | (apply walkD_skip; rfl; rfl; (intro K hK; go_simp; refine hK _ ?_; clear hK K)) | (apply walkD_read1 [false, false] (by kernel_rfl); rfl; rfl; (intro w' hD; (have y0 := hD.1.pend.idle.rest 0; have y1 := hD.1.pend.idle.rest 1; have y2 := hD.1.pend.idle.rest 2; have y3 := hD.1.pend.idle.rest 3; have y4 := hD.1.pend.idle.rest 4; have y5 := hD.1.pend.idle.rest 5; simp only [ovR, Nat.reduceAdd, Nat.zero_add, List.getElem?_cons_zero, List.getElem?_cons_succ] at y0 y1 y2 y3 y4 y5); go_simp; rfl); (intro K hK; go_simp; refine hK _ ?_; clear hK K)) | (apply walkD_call1 [false, false] (by kernel_rfl); rfl; (intro _; go_simp; first | rfl | exact ⟨rfl, rfl⟩); (intro w' hD; first | (go_at_call 222; refine (ifwho_run hD.1.pend).mono ?_; rintro e w2 ⟨rfl, rfl⟩; exact ⟨rfl, hD⟩) | (go_at_call 125; have q := aq_made lo l 0 P T G who w' hD.1.lay (by rw [hD.2]; exact hlo); rw [hD.2] at q; refine q.mono ?_; rintro e w2 ⟨rfl, hA, hb⟩; exact ⟨rfl, hD.1.quiet (by rw [hD.2]; exact hb), hA⟩)); (intro K hK; go_simp; refine hK _ ?_; clear hK K)) | (apply walkD_call1 [true, false] (by kernel_rfl); rfl; (intro _; go_simp; first | rfl | exact ⟨rfl, rfl⟩); (intro w' hD; go_at_call 124; refine (irun_run (S := aqS lo l 0 P T G who) (aq_sub lo l 0 P T G who hw) hD.1.pend hD.2 SW.out (of_decide_eq_true rfl)).mono ?_; rintro e w2 ⟨rfl, h1, h2, h3⟩; exact ⟨rfl, ⟨h1, h2, SW.out⟩, hD.1.kept.trans h3 (by intro i hi; exact .inl hi)⟩); (intro K hK; go_simp; refine hK _ ?_; clear hK K)))
  rintro w2 ⟨h1, h2⟩
  go_wp2
  go_returns
  exact ⟨⟨_, rfl⟩, ⟨_, h1⟩, h2⟩
theorem ov_looked1_run (x l lo : Nat) (P T G who : Int) (p : Int) (k : Nat) (s : Ring.LkSt) (w : World) (hw : 0 ≤ who ∧ who ≤ 1000) (hA : (lkS lo l P T G who p).at_ w k s) (he : s.empty = false) (hlo : lo ≤ w.heap.size) (hp : Pend w x who (ovR l p (.pointer (some ⟨k, 0, none⟩)) (.pointer none) (.pointer none) false) 211 .done) (hL : Lay w l P T G) :
    Calls Tryz.prog 172 #[.pointer (some ⟨x, 0, none⟩)] w fun e w' => (∃ r, e = .returned r) ∧ (∃ y, Pend2 w' x who (ovR l p (.pointer (some ⟨k, 0, none⟩)) (.pointer none) (.pointer none) false) 211 (.sub (aqS lo l 0 P T G who) y .ask 232)) ∧ Kept [x] w w' := by
  have HG := hid (Ring.lkempty_run _ _ _ _ _ _ _ _ _ _ hA)
  rw [he] at HG
  clear hA he
  have HI := hid (MI.start hp hL)
  have hf := hp.idle.frozen
  (have y0 := hp.idle.rest 0; have y1 := hp.idle.rest 1; have y2 := hp.idle.rest 2; have y3 := hp.idle.rest 3; have y4 := hp.idle.rest 4; have y5 := hp.idle.rest 5; simp only [ovR, Nat.reduceAdd, Nat.zero_add, List.getElem?_cons_zero, List.getElem?_cons_succ] at y0 y1 y2 y3 y4 y5)
  clear hp hL
  go_enter Tryz.func172, Tryz.ntmps172
  go_wp2_with (go_at_call 230; refine HG.out.mono ?_; rintro e w1 ⟨rfl, rfl⟩)
  refine (ov_acquire_run x l lo P T G who 232 p (.pointer (some ⟨k, 0, none⟩)) false _ hw hlo HI.out.pend HI.out.lay).mono ?_
  rintro e w9 ⟨⟨r, rfl⟩, hy, hK⟩
  have HX := hid (And.intro hy (HI.out.kept.trans hK (by intro i hi; exact .inl hi)))
  clear HI hy hK
  go_wp2
  go_returns
  exact ⟨⟨_, rfl⟩, HX.out⟩
theorem ov_looked0_run (x l : Nat) (P T G who : Int) (p : Int) (k lo : Nat) (s : Ring.LkSt) (w : World) (hA : (lkS lo l P T G who p).at_ w k s) (he : s.empty = true) (hp : Pend w x who (ovR l p (.pointer (some ⟨k, 0, none⟩)) (.pointer none) (.pointer none) false) 211 .done) (hL : Lay w l P T G) :
    Calls Tryz.prog 172 #[.pointer (some ⟨x, 0, none⟩)] w fun e w' => (∃ r, e = .returned r) ∧ Pend w' x who (ovR l p (.pointer (some ⟨k, 0, none⟩)) (.pointer none) (.pointer none) false) 211 (.load (wordN 8) 233) ∧ Kept [x] w w' := by
  have HG := hid (Ring.lkempty_run _ _ _ _ _ _ _ _ _ _ hA)
  rw [he] at HG
  clear hA he
  have HI := hid (MI.start hp hL).drew
  have hf := hp.idle.frozen
  (have y0 := hp.idle.rest 0; have y1 := hp.idle.rest 1; have y2 := hp.idle.rest 2; have y3 := hp.idle.rest 3; have y4 := hp.idle.rest 4; have y5 := hp.idle.rest 5; simp only [ovR, Nat.reduceAdd, Nat.zero_add, List.getElem?_cons_zero, List.getElem?_cons_succ] at y0 y1 y2 y3 y4 y5)
  clear hp hL
  go_enter Tryz.func172, Tryz.ntmps172
  go_wp2_with (go_at_call 230; refine HG.out.mono ?_; rintro e w1 ⟨rfl, rfl⟩)
  refine wp_region_T 10 (fun w' => MI w w' x who (ovR l p (.pointer (some ⟨k, 0, none⟩)) (.pointer none) (.pointer none) false) 211 l P T G) (fun w' => Pend w' x who (ovR l p (.pointer (some ⟨k, 0, none⟩)) (.pointer none) (.pointer none) false) 211 (.load (wordN 8) 233) ∧ Kept [x] w w') (by kernel_rfl) (by kernel_rfl) rfl (by kernel_rfl) HI.out ?_
  clear HI
  (repeat (first | (apply walkD_pure; rfl; rfl; (intro _; go_simp; first | done | rfl); (intro K hK; go_simp; refine hK _ ?_; clear hK K)) | (apply walkD_skip; rfl; rfl; (intro K hK; go_simp; refine hK _ ?_; clear hK K)) | (apply walkD_read1 [false] (by kernel_rfl); rfl; rfl; (intro w' hD; (have y0 := hD.pend.idle.rest 0; have y1 := hD.pend.idle.rest 1; have y2 := hD.pend.idle.rest 2; have y3 := hD.pend.idle.rest 3; have y4 := hD.pend.idle.rest 4; have y5 := hD.pend.idle.rest 5; simp only [ovR, Nat.reduceAdd, Nat.zero_add, List.getElem?_cons_zero, List.getElem?_cons_succ] at y0 y1 y2 y3 y4 y5); go_simp; rfl); (intro K hK; go_simp; refine hK _ ?_; clear hK K)) | (apply walkD_call1 [false] (by kernel_rfl); rfl; (intro _; go_simp; first | rfl | exact ⟨rfl, rfl⟩); (intro w' hD; first | (go_at_call 25; refine (proc_run _ _ _ _ _ _ _ hD.lay).mono ?_; rintro e w2 ⟨rfl, hb⟩; exact ⟨rfl, hD.quiet hb⟩) | (go_at_call 76; refine (thread_run _ _ _ _ _ _ _ hD.lay).mono ?_; rintro e w2 ⟨rfl, hb⟩; exact ⟨rfl, hD.quiet hb⟩) | (go_at_call 255; refine (ring_run _ _ _ _ _ _ (by assumption) _ hD.lay).mono ?_; rintro e w2 ⟨rfl, hb⟩; exact ⟨rfl, hD.quiet hb⟩) | (go_at_call 168; refine (g_run _ _ _ _ _ _ _ hD.lay).mono ?_; rintro e w2 ⟨rfl, hb⟩; exact ⟨rfl, hD.quiet hb⟩) | (go_at_call 133; refine (word_run _ 0 0 0 _ _).mono ?_; rintro e w2 ⟨rfl, rfl⟩; exact ⟨rfl, hD⟩) | (go_at_call 183; refine (iload_run hD.pend.idle _ _).mono ?_; rintro e w2 ⟨rfl, hP, hK⟩; exact ⟨rfl, hP, hD.kept.trans hK (by intro i hi; exact .inl hi)⟩) | (go_at_call 132; refine (iadd_run hD.pend.idle _ _ _).mono ?_; rintro e w2 ⟨rfl, hP, hK⟩; exact ⟨rfl, hP, hD.kept.trans hK (by intro i hi; exact .inl hi)⟩) | (go_at_call 188; refine (istore_run hD.pend.idle _ _ _).mono ?_; rintro e w2 ⟨rfl, hP, hK⟩; exact ⟨rfl, hP, hD.kept.trans hK (by intro i hi; exact .inl hi)⟩) | (go_at_call 166; refine (iswap_run hD.pend.idle _ _ _ _).mono ?_; rintro e w2 ⟨rfl, hP, hK⟩; exact ⟨rfl, hP, hD.kept.trans hK (by intro i hi; exact .inl hi)⟩)); (intro K hK; go_simp; refine hK _ ?_; clear hK K))))
  (rintro w2 ⟨h1, h2⟩; go_wp2; go_returns; exact ⟨⟨_, rfl⟩, h1, h2⟩)
theorem ov_sized1_run (x l lo : Nat) (P T G who : Int) (p v : Int) (k : Nat) (w : World) (hw : 0 ≤ who ∧ who ≤ 1000) (hz : v ≠ 0) (hlo : lo ≤ w.heap.size) (hp : Pend w x who (ovR l p (.pointer (some ⟨k, 0, none⟩)) (.pointer none) (.pointer none) false) 211 .done) (hL : Lay w l P T G) :
    Calls Tryz.prog 233 #[.pointer (some ⟨x, 0, none⟩), .int .u64 v] w fun e w' => (∃ r, e = .returned r) ∧ (∃ y, Pend2 w' x who (ovR l p (.pointer (some ⟨k, 0, none⟩)) (.pointer none) (.pointer none) false) 211 (.sub (aqS lo l 0 P T G who) y .ask 232)) ∧ Kept [x] w w' := by
  have d1 : ((v : Int) != 0) = true := by simpa using hz
  have HI := hid (MI.start hp hL)
  have hf := hp.idle.frozen
  (have y0 := hp.idle.rest 0; have y1 := hp.idle.rest 1; have y2 := hp.idle.rest 2; have y3 := hp.idle.rest 3; have y4 := hp.idle.rest 4; have y5 := hp.idle.rest 5; simp only [ovR, Nat.reduceAdd, Nat.zero_add, List.getElem?_cons_zero, List.getElem?_cons_succ] at y0 y1 y2 y3 y4 y5)
  clear hp hL
  go_enter Tryz.func233, Tryz.ntmps233
  go_wp2_with fail
  refine (ov_acquire_run x l lo P T G who 232 p (.pointer (some ⟨k, 0, none⟩)) false _ hw hlo HI.out.pend HI.out.lay).mono ?_
  rintro e w9 ⟨⟨r, rfl⟩, hy, hK⟩
  have HX := hid (And.intro hy (HI.out.kept.trans hK (by intro i hi; exact .inl hi)))
  clear HI hy hK
  go_wp2
  go_returns
  exact ⟨⟨_, rfl⟩, HX.out⟩
theorem ov_sized0_run (x l : Nat) (P T G who : Int) (p : Int) (k : Nat) (w : World)  (hp : Pend w x who (ovR l p (.pointer (some ⟨k, 0, none⟩)) (.pointer none) (.pointer none) false) 211 .done) (hL : Lay w l P T G) :
    Calls Tryz.prog 233 #[.pointer (some ⟨x, 0, none⟩), .int .u64 0] w fun e w' => (∃ r, e = .returned r) ∧ Pend w' x who (ovR l p (.pointer (some ⟨k, 0, none⟩)) (.pointer none) (.pointer none) false) 211 (.load (wordN 13) 266) ∧ Kept [x] w w' := by
  have HI := hid (MI.start hp hL).drew
  have hf := hp.idle.frozen
  (have y0 := hp.idle.rest 0; have y1 := hp.idle.rest 1; have y2 := hp.idle.rest 2; have y3 := hp.idle.rest 3; have y4 := hp.idle.rest 4; have y5 := hp.idle.rest 5; simp only [ovR, Nat.reduceAdd, Nat.zero_add, List.getElem?_cons_zero, List.getElem?_cons_succ] at y0 y1 y2 y3 y4 y5)
  clear hp hL
  go_enter Tryz.func233, Tryz.ntmps233
  go_wp2_with fail
  refine wp_region_T 10 (fun w' => MI w w' x who (ovR l p (.pointer (some ⟨k, 0, none⟩)) (.pointer none) (.pointer none) false) 211 l P T G) (fun w' => Pend w' x who (ovR l p (.pointer (some ⟨k, 0, none⟩)) (.pointer none) (.pointer none) false) 211 (.load (wordN 13) 266) ∧ Kept [x] w w') (by kernel_rfl) (by kernel_rfl) rfl (by kernel_rfl) HI.out ?_
  clear HI
  (repeat (first | (apply walkD_pure; rfl; rfl; (intro _; go_simp; first | done | rfl); (intro K hK; go_simp; refine hK _ ?_; clear hK K)) | (apply walkD_skip; rfl; rfl; (intro K hK; go_simp; refine hK _ ?_; clear hK K)) | (apply walkD_read1 [false] (by kernel_rfl); rfl; rfl; (intro w' hD; (have y0 := hD.pend.idle.rest 0; have y1 := hD.pend.idle.rest 1; have y2 := hD.pend.idle.rest 2; have y3 := hD.pend.idle.rest 3; have y4 := hD.pend.idle.rest 4; have y5 := hD.pend.idle.rest 5; simp only [ovR, Nat.reduceAdd, Nat.zero_add, List.getElem?_cons_zero, List.getElem?_cons_succ] at y0 y1 y2 y3 y4 y5); go_simp; rfl); (intro K hK; go_simp; refine hK _ ?_; clear hK K)) | (apply walkD_call1 [false] (by kernel_rfl); rfl; (intro _; go_simp; first | rfl | exact ⟨rfl, rfl⟩); (intro w' hD; first | (go_at_call 25; refine (proc_run _ _ _ _ _ _ _ hD.lay).mono ?_; rintro e w2 ⟨rfl, hb⟩; exact ⟨rfl, hD.quiet hb⟩) | (go_at_call 76; refine (thread_run _ _ _ _ _ _ _ hD.lay).mono ?_; rintro e w2 ⟨rfl, hb⟩; exact ⟨rfl, hD.quiet hb⟩) | (go_at_call 255; refine (ring_run _ _ _ _ _ _ (by assumption) _ hD.lay).mono ?_; rintro e w2 ⟨rfl, hb⟩; exact ⟨rfl, hD.quiet hb⟩) | (go_at_call 168; refine (g_run _ _ _ _ _ _ _ hD.lay).mono ?_; rintro e w2 ⟨rfl, hb⟩; exact ⟨rfl, hD.quiet hb⟩) | (go_at_call 133; refine (word_run _ 0 0 0 _ _).mono ?_; rintro e w2 ⟨rfl, rfl⟩; exact ⟨rfl, hD⟩) | (go_at_call 183; refine (iload_run hD.pend.idle _ _).mono ?_; rintro e w2 ⟨rfl, hP, hK⟩; exact ⟨rfl, hP, hD.kept.trans hK (by intro i hi; exact .inl hi)⟩) | (go_at_call 132; refine (iadd_run hD.pend.idle _ _ _).mono ?_; rintro e w2 ⟨rfl, hP, hK⟩; exact ⟨rfl, hP, hD.kept.trans hK (by intro i hi; exact .inl hi)⟩) | (go_at_call 188; refine (istore_run hD.pend.idle _ _ _).mono ?_; rintro e w2 ⟨rfl, hP, hK⟩; exact ⟨rfl, hP, hD.kept.trans hK (by intro i hi; exact .inl hi)⟩) | (go_at_call 166; refine (iswap_run hD.pend.idle _ _ _ _).mono ?_; rintro e w2 ⟨rfl, hP, hK⟩; exact ⟨rfl, hP, hD.kept.trans hK (by intro i hi; exact .inl hi)⟩)); (intro K hK; go_simp; refine hK _ ?_; clear hK K))))
  (rintro w2 ⟨h1, h2⟩; go_wp2; go_returns; exact ⟨⟨_, rfl⟩, h1, h2⟩)
theorem ov_spinning1_run (x l lo : Nat) (P T G who : Int) (p v : Int) (k : Nat) (w : World) (hw : 0 ≤ who ∧ who ≤ 1000) (hz : v ≠ 0) (hlo : lo ≤ w.heap.size) (hp : Pend w x who (ovR l p (.pointer (some ⟨k, 0, none⟩)) (.pointer none) (.pointer none) false) 211 .done) (hL : Lay w l P T G) :
    Calls Tryz.prog 266 #[.pointer (some ⟨x, 0, none⟩), .int .u64 v] w fun e w' => (∃ r, e = .returned r) ∧ (∃ y, Pend2 w' x who (ovR l p (.pointer (some ⟨k, 0, none⟩)) (.pointer none) (.pointer none) false) 211 (.sub (aqS lo l 0 P T G who) y .ask 301)) ∧ Kept [x] w w' := by
  have d1 : ((v : Int) != 0) = true := by simpa using hz
  have HI := hid (MI.start hp hL)
  have hf := hp.idle.frozen
  (have y0 := hp.idle.rest 0; have y1 := hp.idle.rest 1; have y2 := hp.idle.rest 2; have y3 := hp.idle.rest 3; have y4 := hp.idle.rest 4; have y5 := hp.idle.rest 5; simp only [ovR, Nat.reduceAdd, Nat.zero_add, List.getElem?_cons_zero, List.getElem?_cons_succ] at y0 y1 y2 y3 y4 y5)
  clear hp hL
  go_enter Tryz.func266, Tryz.ntmps266
  go_wp2_with fail
  refine (ov_acquire_run x l lo P T G who 301 p (.pointer (some ⟨k, 0, none⟩)) false _ hw hlo HI.out.pend HI.out.lay).mono ?_
  rintro e w9 ⟨⟨r, rfl⟩, hy, hK⟩
  have HX := hid (And.intro hy (HI.out.kept.trans hK (by intro i hi; exact .inl hi)))
  clear HI hy hK
  go_wp2
  go_returns
  exact ⟨⟨_, rfl⟩, HX.out⟩
theorem ov_spinning0_run (x l : Nat) (P T G who : Int) (p : Int) (k : Nat) (w : World)  (hp : Pend w x who (ovR l p (.pointer (some ⟨k, 0, none⟩)) (.pointer none) (.pointer none) false) 211 .done) (hL : Lay w l P T G) :
    Calls Tryz.prog 266 #[.pointer (some ⟨x, 0, none⟩), .int .u64 0] w fun e w' => (∃ r, e = .returned r) ∧ Pend w' x who (ovR l p (.pointer (some ⟨k, 0, none⟩)) (.pointer none) (.pointer none) false) 211 (.load (wordN 10) 302) ∧ Kept [x] w w' := by
  have HI := hid (MI.start hp hL).drew
  have hf := hp.idle.frozen
  (have y0 := hp.idle.rest 0; have y1 := hp.idle.rest 1; have y2 := hp.idle.rest 2; have y3 := hp.idle.rest 3; have y4 := hp.idle.rest 4; have y5 := hp.idle.rest 5; simp only [ovR, Nat.reduceAdd, Nat.zero_add, List.getElem?_cons_zero, List.getElem?_cons_succ] at y0 y1 y2 y3 y4 y5)
  clear hp hL
  go_enter Tryz.func266, Tryz.ntmps266
  go_wp2_with fail
  refine wp_region_T 10 (fun w' => MI w w' x who (ovR l p (.pointer (some ⟨k, 0, none⟩)) (.pointer none) (.pointer none) false) 211 l P T G) (fun w' => Pend w' x who (ovR l p (.pointer (some ⟨k, 0, none⟩)) (.pointer none) (.pointer none) false) 211 (.load (wordN 10) 302) ∧ Kept [x] w w') (by kernel_rfl) (by kernel_rfl) rfl (by kernel_rfl) HI.out ?_
  clear HI
  (repeat (first | (apply walkD_pure; rfl; rfl; (intro _; go_simp; first | done | rfl); (intro K hK; go_simp; refine hK _ ?_; clear hK K)) | (apply walkD_skip; rfl; rfl; (intro K hK; go_simp; refine hK _ ?_; clear hK K)) | (apply walkD_read1 [false] (by kernel_rfl); rfl; rfl; (intro w' hD; (have y0 := hD.pend.idle.rest 0; have y1 := hD.pend.idle.rest 1; have y2 := hD.pend.idle.rest 2; have y3 := hD.pend.idle.rest 3; have y4 := hD.pend.idle.rest 4; have y5 := hD.pend.idle.rest 5; simp only [ovR, Nat.reduceAdd, Nat.zero_add, List.getElem?_cons_zero, List.getElem?_cons_succ] at y0 y1 y2 y3 y4 y5); go_simp; rfl); (intro K hK; go_simp; refine hK _ ?_; clear hK K)) | (apply walkD_call1 [false] (by kernel_rfl); rfl; (intro _; go_simp; first | rfl | exact ⟨rfl, rfl⟩); (intro w' hD; first | (go_at_call 25; refine (proc_run _ _ _ _ _ _ _ hD.lay).mono ?_; rintro e w2 ⟨rfl, hb⟩; exact ⟨rfl, hD.quiet hb⟩) | (go_at_call 76; refine (thread_run _ _ _ _ _ _ _ hD.lay).mono ?_; rintro e w2 ⟨rfl, hb⟩; exact ⟨rfl, hD.quiet hb⟩) | (go_at_call 255; refine (ring_run _ _ _ _ _ _ (by assumption) _ hD.lay).mono ?_; rintro e w2 ⟨rfl, hb⟩; exact ⟨rfl, hD.quiet hb⟩) | (go_at_call 168; refine (g_run _ _ _ _ _ _ _ hD.lay).mono ?_; rintro e w2 ⟨rfl, hb⟩; exact ⟨rfl, hD.quiet hb⟩) | (go_at_call 133; refine (word_run _ 0 0 0 _ _).mono ?_; rintro e w2 ⟨rfl, rfl⟩; exact ⟨rfl, hD⟩) | (go_at_call 183; refine (iload_run hD.pend.idle _ _).mono ?_; rintro e w2 ⟨rfl, hP, hK⟩; exact ⟨rfl, hP, hD.kept.trans hK (by intro i hi; exact .inl hi)⟩) | (go_at_call 132; refine (iadd_run hD.pend.idle _ _ _).mono ?_; rintro e w2 ⟨rfl, hP, hK⟩; exact ⟨rfl, hP, hD.kept.trans hK (by intro i hi; exact .inl hi)⟩) | (go_at_call 188; refine (istore_run hD.pend.idle _ _ _).mono ?_; rintro e w2 ⟨rfl, hP, hK⟩; exact ⟨rfl, hP, hD.kept.trans hK (by intro i hi; exact .inl hi)⟩) | (go_at_call 166; refine (iswap_run hD.pend.idle _ _ _ _).mono ?_; rintro e w2 ⟨rfl, hP, hK⟩; exact ⟨rfl, hP, hD.kept.trans hK (by intro i hi; exact .inl hi)⟩)); (intro K hK; go_simp; refine hK _ ?_; clear hK K))))
  (rintro w2 ⟨h1, h2⟩; go_wp2; go_returns; exact ⟨⟨_, rfl⟩, h1, h2⟩)
theorem ov_idle1_run (x l lo : Nat) (P T G who : Int) (p v : Int) (k : Nat) (w : World) (hw : 0 ≤ who ∧ who ≤ 1000) (hz : v ≠ 0) (hlo : lo ≤ w.heap.size) (hp : Pend w x who (ovR l p (.pointer (some ⟨k, 0, none⟩)) (.pointer none) (.pointer none) false) 211 .done) (hL : Lay w l P T G) :
    Calls Tryz.prog 302 #[.pointer (some ⟨x, 0, none⟩), .int .u64 v] w fun e w' => (∃ r, e = .returned r) ∧ (∃ y, Pend2 w' x who (ovR l p (.pointer (some ⟨k, 0, none⟩)) (.pointer none) (.pointer none) false) 211 (.sub (aqS lo l 0 P T G who) y .ask 301)) ∧ Kept [x] w w' := by
  have d1 : ((v : Int) != 0) = true := by simpa using hz
  have HI := hid (MI.start hp hL)
  have hf := hp.idle.frozen
  (have y0 := hp.idle.rest 0; have y1 := hp.idle.rest 1; have y2 := hp.idle.rest 2; have y3 := hp.idle.rest 3; have y4 := hp.idle.rest 4; have y5 := hp.idle.rest 5; simp only [ovR, Nat.reduceAdd, Nat.zero_add, List.getElem?_cons_zero, List.getElem?_cons_succ] at y0 y1 y2 y3 y4 y5)
  clear hp hL
  go_enter Tryz.func302, Tryz.ntmps302
  go_wp2_with fail
  refine (ov_acquire_run x l lo P T G who 301 p (.pointer (some ⟨k, 0, none⟩)) false _ hw hlo HI.out.pend HI.out.lay).mono ?_
  rintro e w9 ⟨⟨r, rfl⟩, hy, hK⟩
  have HX := hid (And.intro hy (HI.out.kept.trans hK (by intro i hi; exact .inl hi)))
  clear HI hy hK
  go_wp2
  go_returns
  exact ⟨⟨_, rfl⟩, HX.out⟩
theorem ov_idle0_run (x l : Nat) (P T G who : Int) (p : Int) (k : Nat) (w : World)  (hp : Pend w x who (ovR l p (.pointer (some ⟨k, 0, none⟩)) (.pointer none) (.pointer none) false) 211 .done) (hL : Lay w l P T G) :
    Calls Tryz.prog 302 #[.pointer (some ⟨x, 0, none⟩), .int .u64 0] w fun e w' => (∃ r, e = .returned r) ∧ Pend w' x who (ovR l p (.pointer (some ⟨k, 0, none⟩)) (.pointer none) (.pointer none) false) 211 (.swap (wordN 13) 0 1 325) ∧ Kept [x] w w' := by
  have HI := hid (MI.start hp hL).drew
  have hf := hp.idle.frozen
  (have y0 := hp.idle.rest 0; have y1 := hp.idle.rest 1; have y2 := hp.idle.rest 2; have y3 := hp.idle.rest 3; have y4 := hp.idle.rest 4; have y5 := hp.idle.rest 5; simp only [ovR, Nat.reduceAdd, Nat.zero_add, List.getElem?_cons_zero, List.getElem?_cons_succ] at y0 y1 y2 y3 y4 y5)
  clear hp hL
  go_enter Tryz.func302, Tryz.ntmps302
  go_wp2_with fail
  refine wp_region_T 10 (fun w' => MI w w' x who (ovR l p (.pointer (some ⟨k, 0, none⟩)) (.pointer none) (.pointer none) false) 211 l P T G) (fun w' => Pend w' x who (ovR l p (.pointer (some ⟨k, 0, none⟩)) (.pointer none) (.pointer none) false) 211 (.swap (wordN 13) 0 1 325) ∧ Kept [x] w w') (by kernel_rfl) (by kernel_rfl) rfl (by kernel_rfl) HI.out ?_
  clear HI
  (repeat (first | (apply walkD_pure; rfl; rfl; (intro _; go_simp; first | done | rfl); (intro K hK; go_simp; refine hK _ ?_; clear hK K)) | (apply walkD_skip; rfl; rfl; (intro K hK; go_simp; refine hK _ ?_; clear hK K)) | (apply walkD_read1 [false] (by kernel_rfl); rfl; rfl; (intro w' hD; (have y0 := hD.pend.idle.rest 0; have y1 := hD.pend.idle.rest 1; have y2 := hD.pend.idle.rest 2; have y3 := hD.pend.idle.rest 3; have y4 := hD.pend.idle.rest 4; have y5 := hD.pend.idle.rest 5; simp only [ovR, Nat.reduceAdd, Nat.zero_add, List.getElem?_cons_zero, List.getElem?_cons_succ] at y0 y1 y2 y3 y4 y5); go_simp; rfl); (intro K hK; go_simp; refine hK _ ?_; clear hK K)) | (apply walkD_call1 [false] (by kernel_rfl); rfl; (intro _; go_simp; first | rfl | exact ⟨rfl, rfl⟩); (intro w' hD; first | (go_at_call 25; refine (proc_run _ _ _ _ _ _ _ hD.lay).mono ?_; rintro e w2 ⟨rfl, hb⟩; exact ⟨rfl, hD.quiet hb⟩) | (go_at_call 76; refine (thread_run _ _ _ _ _ _ _ hD.lay).mono ?_; rintro e w2 ⟨rfl, hb⟩; exact ⟨rfl, hD.quiet hb⟩) | (go_at_call 255; refine (ring_run _ _ _ _ _ _ (by assumption) _ hD.lay).mono ?_; rintro e w2 ⟨rfl, hb⟩; exact ⟨rfl, hD.quiet hb⟩) | (go_at_call 168; refine (g_run _ _ _ _ _ _ _ hD.lay).mono ?_; rintro e w2 ⟨rfl, hb⟩; exact ⟨rfl, hD.quiet hb⟩) | (go_at_call 133; refine (word_run _ 0 0 0 _ _).mono ?_; rintro e w2 ⟨rfl, rfl⟩; exact ⟨rfl, hD⟩) | (go_at_call 183; refine (iload_run hD.pend.idle _ _).mono ?_; rintro e w2 ⟨rfl, hP, hK⟩; exact ⟨rfl, hP, hD.kept.trans hK (by intro i hi; exact .inl hi)⟩) | (go_at_call 132; refine (iadd_run hD.pend.idle _ _ _).mono ?_; rintro e w2 ⟨rfl, hP, hK⟩; exact ⟨rfl, hP, hD.kept.trans hK (by intro i hi; exact .inl hi)⟩) | (go_at_call 188; refine (istore_run hD.pend.idle _ _ _).mono ?_; rintro e w2 ⟨rfl, hP, hK⟩; exact ⟨rfl, hP, hD.kept.trans hK (by intro i hi; exact .inl hi)⟩) | (go_at_call 166; refine (iswap_run hD.pend.idle _ _ _ _).mono ?_; rintro e w2 ⟨rfl, hP, hK⟩; exact ⟨rfl, hP, hD.kept.trans hK (by intro i hi; exact .inl hi)⟩)); (intro K hK; go_simp; refine hK _ ?_; clear hK K))))
  (rintro w2 ⟨h1, h2⟩; go_wp2; go_returns; exact ⟨⟨_, rfl⟩, h1, h2⟩)
theorem ov_swapped0_run (x l lo : Nat) (P T G who : Int) (p : Int) (k : Nat) (w : World) (hw : 0 ≤ who ∧ who ≤ 1000) (hlo : lo ≤ w.heap.size) (hp : Pend w x who (ovR l p (.pointer (some ⟨k, 0, none⟩)) (.pointer none) (.pointer none) false) 211 .done) (hL : Lay w l P T G) :
    Calls Tryz.prog 325 #[.pointer (some ⟨x, 0, none⟩), .bool false] w fun e w' => (∃ r, e = .returned r) ∧ (∃ y, Pend2 w' x who (ovR l p (.pointer (some ⟨k, 0, none⟩)) (.pointer none) (.pointer none) false) 211 (.sub (aqS lo l 0 P T G who) y .ask 301)) ∧ Kept [x] w w' := by
  have HI := hid (MI.start hp hL)
  have hf := hp.idle.frozen
  (have y0 := hp.idle.rest 0; have y1 := hp.idle.rest 1; have y2 := hp.idle.rest 2; have y3 := hp.idle.rest 3; have y4 := hp.idle.rest 4; have y5 := hp.idle.rest 5; simp only [ovR, Nat.reduceAdd, Nat.zero_add, List.getElem?_cons_zero, List.getElem?_cons_succ] at y0 y1 y2 y3 y4 y5)
  clear hp hL
  go_enter Tryz.func325, Tryz.ntmps325
  go_wp2_with fail
  refine (ov_acquire_run x l lo P T G who 301 p (.pointer (some ⟨k, 0, none⟩)) false _ hw hlo HI.out.pend HI.out.lay).mono ?_
  rintro e w9 ⟨⟨r, rfl⟩, hy, hK⟩
  have HX := hid (And.intro hy (HI.out.kept.trans hK (by intro i hi; exact .inl hi)))
  clear HI hy hK
  go_wp2
  go_returns
  exact ⟨⟨_, rfl⟩, HX.out⟩
theorem ov_swapped1_run (x l : Nat) (P T G who : Int) (p : Int) (k : Nat) (w : World)  (hp : Pend w x who (ovR l p (.pointer (some ⟨k, 0, none⟩)) (.pointer none) (.pointer none) false) 211 .done) (hL : Lay w l P T G) :
    Calls Tryz.prog 325 #[.pointer (some ⟨x, 0, none⟩), .bool true] w fun e w' => (∃ r, e = .returned r) ∧ Pend w' x who (ovR l p (.pointer (some ⟨k, 0, none⟩)) (.pointer none) (.pointer none) true) 211 (.store (wordN 14) 0 348) ∧ Kept [x] w w' := by
  have HI := hid ((MI.start hp hL).put (by decide) 5 (.bool true)).drew
  have hf := hp.idle.frozen
  (have y0 := hp.idle.rest 0; have y1 := hp.idle.rest 1; have y2 := hp.idle.rest 2; have y3 := hp.idle.rest 3; have y4 := hp.idle.rest 4; have y5 := hp.idle.rest 5; simp only [ovR, Nat.reduceAdd, Nat.zero_add, List.getElem?_cons_zero, List.getElem?_cons_succ] at y0 y1 y2 y3 y4 y5)
  clear hp hL
  go_enter Tryz.func325, Tryz.ntmps325
  go_wp2_with fail
  refine wp_region_T 10 (fun w' => MI w w' x who (ovR l p (.pointer (some ⟨k, 0, none⟩)) (.pointer none) (.pointer none) true) 211 l P T G) (fun w' => Pend w' x who (ovR l p (.pointer (some ⟨k, 0, none⟩)) (.pointer none) (.pointer none) true) 211 (.store (wordN 14) 0 348) ∧ Kept [x] w w') (by kernel_rfl) (by kernel_rfl) rfl (by kernel_rfl) HI.out ?_
  clear HI
  (repeat (first | (apply walkD_pure; rfl; rfl; (intro _; go_simp; first | done | rfl); (intro K hK; go_simp; refine hK _ ?_; clear hK K)) | (apply walkD_skip; rfl; rfl; (intro K hK; go_simp; refine hK _ ?_; clear hK K)) | (apply walkD_read1 [false] (by kernel_rfl); rfl; rfl; (intro w' hD; (have y0 := hD.pend.idle.rest 0; have y1 := hD.pend.idle.rest 1; have y2 := hD.pend.idle.rest 2; have y3 := hD.pend.idle.rest 3; have y4 := hD.pend.idle.rest 4; have y5 := hD.pend.idle.rest 5; simp only [ovR, Nat.reduceAdd, Nat.zero_add, List.getElem?_cons_zero, List.getElem?_cons_succ] at y0 y1 y2 y3 y4 y5); go_simp; rfl); (intro K hK; go_simp; refine hK _ ?_; clear hK K)) | (apply walkD_call1 [false] (by kernel_rfl); rfl; (intro _; go_simp; first | rfl | exact ⟨rfl, rfl⟩); (intro w' hD; first | (go_at_call 25; refine (proc_run _ _ _ _ _ _ _ hD.lay).mono ?_; rintro e w2 ⟨rfl, hb⟩; exact ⟨rfl, hD.quiet hb⟩) | (go_at_call 76; refine (thread_run _ _ _ _ _ _ _ hD.lay).mono ?_; rintro e w2 ⟨rfl, hb⟩; exact ⟨rfl, hD.quiet hb⟩) | (go_at_call 255; refine (ring_run _ _ _ _ _ _ (by assumption) _ hD.lay).mono ?_; rintro e w2 ⟨rfl, hb⟩; exact ⟨rfl, hD.quiet hb⟩) | (go_at_call 168; refine (g_run _ _ _ _ _ _ _ hD.lay).mono ?_; rintro e w2 ⟨rfl, hb⟩; exact ⟨rfl, hD.quiet hb⟩) | (go_at_call 133; refine (word_run _ 0 0 0 _ _).mono ?_; rintro e w2 ⟨rfl, rfl⟩; exact ⟨rfl, hD⟩) | (go_at_call 183; refine (iload_run hD.pend.idle _ _).mono ?_; rintro e w2 ⟨rfl, hP, hK⟩; exact ⟨rfl, hP, hD.kept.trans hK (by intro i hi; exact .inl hi)⟩) | (go_at_call 132; refine (iadd_run hD.pend.idle _ _ _).mono ?_; rintro e w2 ⟨rfl, hP, hK⟩; exact ⟨rfl, hP, hD.kept.trans hK (by intro i hi; exact .inl hi)⟩) | (go_at_call 188; refine (istore_run hD.pend.idle _ _ _).mono ?_; rintro e w2 ⟨rfl, hP, hK⟩; exact ⟨rfl, hP, hD.kept.trans hK (by intro i hi; exact .inl hi)⟩) | (go_at_call 166; refine (iswap_run hD.pend.idle _ _ _ _).mono ?_; rintro e w2 ⟨rfl, hP, hK⟩; exact ⟨rfl, hP, hD.kept.trans hK (by intro i hi; exact .inl hi)⟩)); (intro K hK; go_simp; refine hK _ ?_; clear hK K))))
  (rintro w2 ⟨h1, h2⟩; go_wp2; go_returns; exact ⟨⟨_, rfl⟩, h1, h2⟩)
theorem ov_told_run (x l lo : Nat) (P T G who : Int) (p : Int) (k : Nat) (w : World) (hw : 0 ≤ who ∧ who ≤ 1000) (hlo : lo ≤ w.heap.size) (hp : Pend w x who (ovR l p (.pointer (some ⟨k, 0, none⟩)) (.pointer none) (.pointer none) true) 211 .done) (hL : Lay w l P T G) :
    Calls Tryz.prog 348 #[.pointer (some ⟨x, 0, none⟩)] w fun e w' => (∃ r, e = .returned r) ∧ (∃ y, Pend2 w' x who (ovR l p (.pointer (some ⟨k, 0, none⟩)) (.pointer none) (.pointer none) true) 211 (.sub (aqS lo l 0 P T G who) y .ask 371)) ∧ Kept [x] w w' := by
  have HI := hid (MI.start hp hL)
  have hf := hp.idle.frozen
  (have y0 := hp.idle.rest 0; have y1 := hp.idle.rest 1; have y2 := hp.idle.rest 2; have y3 := hp.idle.rest 3; have y4 := hp.idle.rest 4; have y5 := hp.idle.rest 5; simp only [ovR, Nat.reduceAdd, Nat.zero_add, List.getElem?_cons_zero, List.getElem?_cons_succ] at y0 y1 y2 y3 y4 y5)
  clear hp hL
  go_enter Tryz.func348, Tryz.ntmps348
  go_wp2_with fail
  refine (ov_acquire_run x l lo P T G who 371 p (.pointer (some ⟨k, 0, none⟩)) true _ hw hlo HI.out.pend HI.out.lay).mono ?_
  rintro e w9 ⟨⟨r, rfl⟩, hy, hK⟩
  have HX := hid (And.intro hy (HI.out.kept.trans hK (by intro i hi; exact .inl hi)))
  clear HI hy hK
  go_wp2
  go_returns
  exact ⟨⟨_, rfl⟩, HX.out⟩
theorem ov_starts_run (x l lo : Nat) (P T G who : Int) (p : Int) (k : Nat) (sp c : Bool) (w : World) (hT : 0 ≤ T ∧ T ≤ 1000) (hlo : lo ≤ w.heap.size) (hp : Pend w x who (ovR l p (.pointer (some ⟨k, 0, none⟩)) (.pointer none) (.pointer none) c) 211 .done) (hL : Lay w l P T G) :
    Calls Tryz.prog 265 #[.pointer (some ⟨x, 0, none⟩), .bool sp] w fun e w' => (∃ r, e = .returned r) ∧ (∃ y, Pend2 w' x who (ovR l p (.pointer (some ⟨k, 0, none⟩)) (.pointer (some ⟨y, 0, none⟩)) (.pointer none) false) 211 (.sub (stS lo l P T G who p sp true) y (.get .h) 300)) ∧ Kept [x] w w' := by
  have SW := hid (show (stS lo l P T G who p sp true).sys.want (.get .h) ≠ none by exact fun h => by cases h)
  have HI := hid (MI.drewS (N := w.heap.size) ((MI.start hp hL).put (by decide) 5 (.bool false)) (by first | rfl | simp))
  have hf := hp.idle.frozen
  (have y0 := hp.idle.rest 0; have y1 := hp.idle.rest 1; have y2 := hp.idle.rest 2; have y3 := hp.idle.rest 3; have y4 := hp.idle.rest 4; have y5 := hp.idle.rest 5; simp only [ovR, Nat.reduceAdd, Nat.zero_add, List.getElem?_cons_zero, List.getElem?_cons_succ] at y0 y1 y2 y3 y4 y5)
  clear hp hL
  go_enter Tryz.func265, Tryz.ntmps265
  go_wp2_with fail
  refine wp_region_D [14, 17] (tcl2 (fun w' => MI w w' x who (ovR l p (.pointer (some ⟨k, 0, none⟩)) (.pointer none) (.pointer none) false) 211 l P T G ∧ w'.heap.size = w.heap.size) (fun w' => MI w w' x who (ovR l p (.pointer (some ⟨k, 0, none⟩)) (.pointer none) (.pointer none) false) 211 l P T G ∧ (stS lo l P T G who p sp true).at_ w' w.heap.size (.get .h)) (fun w' => MI w w' x who (ovR l p (.pointer (some ⟨k, 0, none⟩)) (.pointer (some ⟨w.heap.size, 0, none⟩)) (.pointer none) false) 211 l P T G ∧ (stS lo l P T G who p sp true).at_ w' w.heap.size (.get .h))) (by kernel_rfl) (by kernel_rfl) rfl (by kernel_rfl) HI.out ?_
  clear HI
  repeat (first | (apply walkD_pure; rfl; rfl; (intro _; go_simp; first | done | rfl); (intro K hK; go_simp; refine hK _ ?_; clear hK K)) | (apply walkD_skip; rfl; rfl; (intro K hK; go_simp; refine hK _ ?_; clear hK K)) | (apply walkD_read1 [false, false] (by kernel_rfl); rfl; rfl; (intro w' hD; (have y0 := hD.1.pend.idle.rest 0; have y1 := hD.1.pend.idle.rest 1; have y2 := hD.1.pend.idle.rest 2; have y3 := hD.1.pend.idle.rest 3; have y4 := hD.1.pend.idle.rest 4; have y5 := hD.1.pend.idle.rest 5; simp only [ovR, Nat.reduceAdd, Nat.zero_add, List.getElem?_cons_zero, List.getElem?_cons_succ] at y0 y1 y2 y3 y4 y5); go_simp; rfl); (intro K hK; go_simp; refine hK _ ?_; clear hK K)) | (apply walkD_call1 [false, false] (by kernel_rfl); rfl; (intro _; go_simp; first | rfl | exact ⟨rfl, rfl⟩); (intro w' hD; first | (go_at_call 222; refine (ifwho_run hD.1.pend).mono ?_; rintro e w2 ⟨rfl, rfl⟩; exact ⟨rfl, hD⟩) | (go_at_call 299; have q := st_made lo l P T G who p sp true w' hT hD.1.lay (by rw [hD.2]; exact hlo); rw [hD.2] at q; refine q.mono ?_; rintro e w2 ⟨rfl, hA, hb⟩; exact ⟨rfl, hD.1.quiet (by rw [hD.2]; exact hb), hA⟩)); (intro K hK; go_simp; refine hK _ ?_; clear hK K)) | (apply walkD_turn1 (v := undef) [true, false] (by kernel_rfl); rfl; (intro w' hD; (have y0 := hD.1.pend.idle.rest 0; have y1 := hD.1.pend.idle.rest 1; have y2 := hD.1.pend.idle.rest 2; have y3 := hD.1.pend.idle.rest 3; have y4 := hD.1.pend.idle.rest 4; have y5 := hD.1.pend.idle.rest 5; simp only [ovR, Nat.reduceAdd, Nat.zero_add, List.getElem?_cons_zero, List.getElem?_cons_succ] at y0 y1 y2 y3 y4 y5); have yf := hD.1.pend.idle.frozen; unfold Go.Proofs.YtlhnnggceebpjaaGreat.Flag.opAt; go_simp; exact ⟨⟨hD.1.put (by decide) 3 _, sub_set (st_sub lo l P T G who p sp true hT) hD.2 hD.1.pend (of_decide_eq_true rfl) _ _⟩, rfl⟩); (intro K hK; go_simp; refine hK _ ?_; clear hK K)))
  rintro w4 ⟨h1, h2⟩
  obtain ⟨y, hy⟩ : ∃ y, y = w.heap.size := ⟨_, rfl⟩
  rw [← hy] at h1 h2 ⊢
  have HI2 := hid (And.intro h1.drew (SubOk.at_quiet (st_sub lo l P T G who p sp true hT) h2 (below_drewN (Below.refl _ _) 1)))
  have hf := h1.pend.idle.frozen
  clear h1 h2 hy
  go_wp2_with fail
  refine wp_region_T 10 (fun w' => MI w w' x who (ovR l p (.pointer (some ⟨k, 0, none⟩)) (.pointer (some ⟨y, 0, none⟩)) (.pointer none) false) 211 l P T G ∧ (stS lo l P T G who p sp true).at_ w' y (.get .h)) (fun w' => Pend2 w' x who (ovR l p (.pointer (some ⟨k, 0, none⟩)) (.pointer (some ⟨y, 0, none⟩)) (.pointer none) false) 211 (.sub (stS lo l P T G who p sp true) y (.get .h) 300) ∧ Kept [x] w w') (by kernel_rfl) (by kernel_rfl) rfl (by kernel_rfl) HI2.out ?_
  clear HI2
  repeat (first | (apply walkD_pure; rfl; rfl; (intro _; go_simp; first | done | rfl); (intro K hK; go_simp; refine hK _ ?_; clear hK K)) | (apply walkD_skip; rfl; rfl; (intro K hK; go_simp; refine hK _ ?_; clear hK K)) | (apply walkD_read1 [false] (by kernel_rfl); rfl; rfl; (intro w' hD; (have y0 := hD.1.pend.idle.rest 0; have y1 := hD.1.pend.idle.rest 1; have y2 := hD.1.pend.idle.rest 2; have y3 := hD.1.pend.idle.rest 3; have y4 := hD.1.pend.idle.rest 4; have y5 := hD.1.pend.idle.rest 5; simp only [ovR, Nat.reduceAdd, Nat.zero_add, List.getElem?_cons_zero, List.getElem?_cons_succ] at y0 y1 y2 y3 y4 y5); go_simp; rfl); (intro K hK; go_simp; refine hK _ ?_; clear hK K)) | (apply walkD_call1 [false] (by kernel_rfl); rfl; (intro _; go_simp; first | rfl | exact ⟨rfl, rfl⟩); (intro w' hD; go_at_call 124; refine (irun_run (S := stS lo l P T G who p sp true) (st_sub lo l P T G who p sp true hT) hD.1.pend hD.2 SW.out (of_decide_eq_true rfl)).mono ?_; rintro e w2 ⟨rfl, h1, h2, h3⟩; exact ⟨rfl, ⟨h1, h2, SW.out⟩, hD.1.kept.trans h3 (by intro i hi; exact .inl hi)⟩); (intro K hK; go_simp; refine hK _ ?_; clear hK K)))
  rintro w3 ⟨h1, h2⟩
  go_wp2
  go_returns
  exact ⟨⟨_, rfl⟩, ⟨_, h1⟩, h2⟩
theorem ov_works_run (x l lo : Nat) (P T G who : Int) (p : Int) (k : Nat) (c : Bool) (w : World) (hT : 0 ≤ T ∧ T ≤ 1000) (hlo : lo ≤ w.heap.size) (hp : Pend w x who (ovR l p (.pointer (some ⟨k, 0, none⟩)) (.pointer none) (.pointer none) c) 211 .done) (hL : Lay w l P T G) :
    Calls Tryz.prog 232 #[.pointer (some ⟨x, 0, none⟩)] w fun e w' => (∃ r, e = .returned r) ∧ (∃ y, Pend2 w' x who (ovR l p (.pointer (some ⟨k, 0, none⟩)) (.pointer (some ⟨y, 0, none⟩)) (.pointer none) false) 211 (.sub (stS lo l P T G who p false true) y (.get .h) 300)) ∧ Kept [x] w w' := by
  have HI := hid (MI.start hp hL)
  have hf := hp.idle.frozen
  (have y0 := hp.idle.rest 0; have y1 := hp.idle.rest 1; have y2 := hp.idle.rest 2; have y3 := hp.idle.rest 3; have y4 := hp.idle.rest 4; have y5 := hp.idle.rest 5; simp only [ovR, Nat.reduceAdd, Nat.zero_add, List.getElem?_cons_zero, List.getElem?_cons_succ] at y0 y1 y2 y3 y4 y5)
  clear hp hL
  go_enter Tryz.func232, Tryz.ntmps232
  go_wp2_with fail
  refine (ov_starts_run x l lo P T G who p k false c _ hT hlo HI.out.pend HI.out.lay).mono ?_
  rintro e w9 ⟨⟨r, rfl⟩, hy, hK⟩
  have HX := hid (And.intro hy (HI.out.kept.trans hK (by intro i hi; exact .inl hi)))
  clear HI hy hK
  go_wp2
  go_returns
  exact ⟨⟨_, rfl⟩, HX.out⟩
theorem ov_seeks_run (x l lo : Nat) (P T G who : Int) (p : Int) (k : Nat) (c : Bool) (w : World) (hT : 0 ≤ T ∧ T ≤ 1000) (hlo : lo ≤ w.heap.size) (hp : Pend w x who (ovR l p (.pointer (some ⟨k, 0, none⟩)) (.pointer none) (.pointer none) c) 211 .done) (hL : Lay w l P T G) :
    Calls Tryz.prog 371 #[.pointer (some ⟨x, 0, none⟩)] w fun e w' => (∃ r, e = .returned r) ∧ (∃ y, Pend2 w' x who (ovR l p (.pointer (some ⟨k, 0, none⟩)) (.pointer (some ⟨y, 0, none⟩)) (.pointer none) false) 211 (.sub (stS lo l P T G who p true true) y (.get .h) 300)) ∧ Kept [x] w w' := by
  have HI := hid (MI.start hp hL)
  have hf := hp.idle.frozen
  (have y0 := hp.idle.rest 0; have y1 := hp.idle.rest 1; have y2 := hp.idle.rest 2; have y3 := hp.idle.rest 3; have y4 := hp.idle.rest 4; have y5 := hp.idle.rest 5; simp only [ovR, Nat.reduceAdd, Nat.zero_add, List.getElem?_cons_zero, List.getElem?_cons_succ] at y0 y1 y2 y3 y4 y5)
  clear hp hL
  go_enter Tryz.func371, Tryz.ntmps371
  go_wp2_with fail
  refine (ov_starts_run x l lo P T G who p k true c _ hT hlo HI.out.pend HI.out.lay).mono ?_
  rintro e w9 ⟨⟨r, rfl⟩, hy, hK⟩
  have HX := hid (And.intro hy (HI.out.kept.trans hK (by intro i hi; exact .inl hi)))
  clear HI hy hK
  go_wp2
  go_returns
  exact ⟨⟨_, rfl⟩, HX.out⟩
theorem ov_locked_run (x l : Nat) (P T G who : Int) (p : Int) (k : Nat) (w : World)  (hp : Pend w x who (ovR l p (.pointer (some ⟨k, 0, none⟩)) (.pointer none) (.pointer none) false) 211 .done) (hL : Lay w l P T G) :
    Calls Tryz.prog 301 #[.pointer (some ⟨x, 0, none⟩)] w fun e w' => (∃ r, e = .returned r) ∧ Pend w' x who (ovR l p (.pointer (some ⟨k, 0, none⟩)) (.pointer none) (.pointer none) false) 211 (.load (wordN 8) 324) ∧ Kept [x] w w' := by
  have HI := hid (MI.start hp hL).drew
  have hf := hp.idle.frozen
  (have y0 := hp.idle.rest 0; have y1 := hp.idle.rest 1; have y2 := hp.idle.rest 2; have y3 := hp.idle.rest 3; have y4 := hp.idle.rest 4; have y5 := hp.idle.rest 5; simp only [ovR, Nat.reduceAdd, Nat.zero_add, List.getElem?_cons_zero, List.getElem?_cons_succ] at y0 y1 y2 y3 y4 y5)
  clear hp hL
  go_enter Tryz.func301, Tryz.ntmps301
  go_wp2_with fail
  refine wp_region_T 10 (fun w' => MI w w' x who (ovR l p (.pointer (some ⟨k, 0, none⟩)) (.pointer none) (.pointer none) false) 211 l P T G) (fun w' => Pend w' x who (ovR l p (.pointer (some ⟨k, 0, none⟩)) (.pointer none) (.pointer none) false) 211 (.load (wordN 8) 324) ∧ Kept [x] w w') (by kernel_rfl) (by kernel_rfl) rfl (by kernel_rfl) HI.out ?_
  clear HI
  (repeat (first | (apply walkD_pure; rfl; rfl; (intro _; go_simp; first | done | rfl); (intro K hK; go_simp; refine hK _ ?_; clear hK K)) | (apply walkD_skip; rfl; rfl; (intro K hK; go_simp; refine hK _ ?_; clear hK K)) | (apply walkD_read1 [false] (by kernel_rfl); rfl; rfl; (intro w' hD; (have y0 := hD.pend.idle.rest 0; have y1 := hD.pend.idle.rest 1; have y2 := hD.pend.idle.rest 2; have y3 := hD.pend.idle.rest 3; have y4 := hD.pend.idle.rest 4; have y5 := hD.pend.idle.rest 5; simp only [ovR, Nat.reduceAdd, Nat.zero_add, List.getElem?_cons_zero, List.getElem?_cons_succ] at y0 y1 y2 y3 y4 y5); go_simp; rfl); (intro K hK; go_simp; refine hK _ ?_; clear hK K)) | (apply walkD_call1 [false] (by kernel_rfl); rfl; (intro _; go_simp; first | rfl | exact ⟨rfl, rfl⟩); (intro w' hD; first | (go_at_call 25; refine (proc_run _ _ _ _ _ _ _ hD.lay).mono ?_; rintro e w2 ⟨rfl, hb⟩; exact ⟨rfl, hD.quiet hb⟩) | (go_at_call 76; refine (thread_run _ _ _ _ _ _ _ hD.lay).mono ?_; rintro e w2 ⟨rfl, hb⟩; exact ⟨rfl, hD.quiet hb⟩) | (go_at_call 255; refine (ring_run _ _ _ _ _ _ (by assumption) _ hD.lay).mono ?_; rintro e w2 ⟨rfl, hb⟩; exact ⟨rfl, hD.quiet hb⟩) | (go_at_call 168; refine (g_run _ _ _ _ _ _ _ hD.lay).mono ?_; rintro e w2 ⟨rfl, hb⟩; exact ⟨rfl, hD.quiet hb⟩) | (go_at_call 133; refine (word_run _ 0 0 0 _ _).mono ?_; rintro e w2 ⟨rfl, rfl⟩; exact ⟨rfl, hD⟩) | (go_at_call 183; refine (iload_run hD.pend.idle _ _).mono ?_; rintro e w2 ⟨rfl, hP, hK⟩; exact ⟨rfl, hP, hD.kept.trans hK (by intro i hi; exact .inl hi)⟩) | (go_at_call 132; refine (iadd_run hD.pend.idle _ _ _).mono ?_; rintro e w2 ⟨rfl, hP, hK⟩; exact ⟨rfl, hP, hD.kept.trans hK (by intro i hi; exact .inl hi)⟩) | (go_at_call 188; refine (istore_run hD.pend.idle _ _ _).mono ?_; rintro e w2 ⟨rfl, hP, hK⟩; exact ⟨rfl, hP, hD.kept.trans hK (by intro i hi; exact .inl hi)⟩) | (go_at_call 166; refine (iswap_run hD.pend.idle _ _ _ _).mono ?_; rintro e w2 ⟨rfl, hP, hK⟩; exact ⟨rfl, hP, hD.kept.trans hK (by intro i hi; exact .inl hi)⟩)); (intro K hK; go_simp; refine hK _ ?_; clear hK K))))
  (rintro w2 ⟨h1, h2⟩; go_wp2; go_returns; exact ⟨⟨_, rfl⟩, h1, h2⟩)
theorem ov_sizedAgain1_run (x l lo : Nat) (P T G who : Int) (p v : Int) (k : Nat) (w : World) (hT : 0 ≤ T ∧ T ≤ 1000) (hz : v ≠ 0) (hlo : lo ≤ w.heap.size) (hp : Pend w x who (ovR l p (.pointer (some ⟨k, 0, none⟩)) (.pointer none) (.pointer none) false) 211 .done) (hL : Lay w l P T G) :
    Calls Tryz.prog 324 #[.pointer (some ⟨x, 0, none⟩), .int .u64 v] w fun e w' => (∃ r, e = .returned r) ∧ (∃ y, Pend2 w' x who (ovR l p (.pointer (some ⟨k, 0, none⟩)) (.pointer (some ⟨y, 0, none⟩)) (.pointer none) false) 211 (.sub (stS lo l P T G who p false true) y (.get .h) 300)) ∧ Kept [x] w w' := by
  have d1 : ((v : Int) != 0) = true := by simpa using hz
  have HI := hid (MI.start hp hL)
  have hf := hp.idle.frozen
  (have y0 := hp.idle.rest 0; have y1 := hp.idle.rest 1; have y2 := hp.idle.rest 2; have y3 := hp.idle.rest 3; have y4 := hp.idle.rest 4; have y5 := hp.idle.rest 5; simp only [ovR, Nat.reduceAdd, Nat.zero_add, List.getElem?_cons_zero, List.getElem?_cons_succ] at y0 y1 y2 y3 y4 y5)
  clear hp hL
  go_enter Tryz.func324, Tryz.ntmps324
  go_wp2_with fail
  refine (ov_works_run x l lo P T G who p k false _ hT hlo HI.out.pend HI.out.lay).mono ?_
  rintro e w9 ⟨⟨r, rfl⟩, hy, hK⟩
  have HX := hid (And.intro hy (HI.out.kept.trans hK (by intro i hi; exact .inl hi)))
  clear HI hy hK
  go_wp2
  go_returns
  exact ⟨⟨_, rfl⟩, HX.out⟩
theorem ov_sizedAgain0_run (x l : Nat) (P T G who : Int) (p : Int) (k : Nat) (w : World)  (hp : Pend w x who (ovR l p (.pointer (some ⟨k, 0, none⟩)) (.pointer none) (.pointer none) false) 211 .done) (hL : Lay w l P T G) :
    Calls Tryz.prog 324 #[.pointer (some ⟨x, 0, none⟩), .int .u64 0] w fun e w' => (∃ r, e = .returned r) ∧ Pend w' x who (ovR l p (.pointer (some ⟨k, 0, none⟩)) (.pointer none) (.pointer none) false) 211 (.load (wordN 14) 347) ∧ Kept [x] w w' := by
  have HI := hid (MI.start hp hL).drew
  have hf := hp.idle.frozen
  (have y0 := hp.idle.rest 0; have y1 := hp.idle.rest 1; have y2 := hp.idle.rest 2; have y3 := hp.idle.rest 3; have y4 := hp.idle.rest 4; have y5 := hp.idle.rest 5; simp only [ovR, Nat.reduceAdd, Nat.zero_add, List.getElem?_cons_zero, List.getElem?_cons_succ] at y0 y1 y2 y3 y4 y5)
  clear hp hL
  go_enter Tryz.func324, Tryz.ntmps324
  go_wp2_with fail
  refine wp_region_T 10 (fun w' => MI w w' x who (ovR l p (.pointer (some ⟨k, 0, none⟩)) (.pointer none) (.pointer none) false) 211 l P T G) (fun w' => Pend w' x who (ovR l p (.pointer (some ⟨k, 0, none⟩)) (.pointer none) (.pointer none) false) 211 (.load (wordN 14) 347) ∧ Kept [x] w w') (by kernel_rfl) (by kernel_rfl) rfl (by kernel_rfl) HI.out ?_
  clear HI
  (repeat (first | (apply walkD_pure; rfl; rfl; (intro _; go_simp; first | done | rfl); (intro K hK; go_simp; refine hK _ ?_; clear hK K)) | (apply walkD_skip; rfl; rfl; (intro K hK; go_simp; refine hK _ ?_; clear hK K)) | (apply walkD_read1 [false] (by kernel_rfl); rfl; rfl; (intro w' hD; (have y0 := hD.pend.idle.rest 0; have y1 := hD.pend.idle.rest 1; have y2 := hD.pend.idle.rest 2; have y3 := hD.pend.idle.rest 3; have y4 := hD.pend.idle.rest 4; have y5 := hD.pend.idle.rest 5; simp only [ovR, Nat.reduceAdd, Nat.zero_add, List.getElem?_cons_zero, List.getElem?_cons_succ] at y0 y1 y2 y3 y4 y5); go_simp; rfl); (intro K hK; go_simp; refine hK _ ?_; clear hK K)) | (apply walkD_call1 [false] (by kernel_rfl); rfl; (intro _; go_simp; first | rfl | exact ⟨rfl, rfl⟩); (intro w' hD; first | (go_at_call 25; refine (proc_run _ _ _ _ _ _ _ hD.lay).mono ?_; rintro e w2 ⟨rfl, hb⟩; exact ⟨rfl, hD.quiet hb⟩) | (go_at_call 76; refine (thread_run _ _ _ _ _ _ _ hD.lay).mono ?_; rintro e w2 ⟨rfl, hb⟩; exact ⟨rfl, hD.quiet hb⟩) | (go_at_call 255; refine (ring_run _ _ _ _ _ _ (by assumption) _ hD.lay).mono ?_; rintro e w2 ⟨rfl, hb⟩; exact ⟨rfl, hD.quiet hb⟩) | (go_at_call 168; refine (g_run _ _ _ _ _ _ _ hD.lay).mono ?_; rintro e w2 ⟨rfl, hb⟩; exact ⟨rfl, hD.quiet hb⟩) | (go_at_call 133; refine (word_run _ 0 0 0 _ _).mono ?_; rintro e w2 ⟨rfl, rfl⟩; exact ⟨rfl, hD⟩) | (go_at_call 183; refine (iload_run hD.pend.idle _ _).mono ?_; rintro e w2 ⟨rfl, hP, hK⟩; exact ⟨rfl, hP, hD.kept.trans hK (by intro i hi; exact .inl hi)⟩) | (go_at_call 132; refine (iadd_run hD.pend.idle _ _ _).mono ?_; rintro e w2 ⟨rfl, hP, hK⟩; exact ⟨rfl, hP, hD.kept.trans hK (by intro i hi; exact .inl hi)⟩) | (go_at_call 188; refine (istore_run hD.pend.idle _ _ _).mono ?_; rintro e w2 ⟨rfl, hP, hK⟩; exact ⟨rfl, hP, hD.kept.trans hK (by intro i hi; exact .inl hi)⟩) | (go_at_call 166; refine (iswap_run hD.pend.idle _ _ _ _).mono ?_; rintro e w2 ⟨rfl, hP, hK⟩; exact ⟨rfl, hP, hD.kept.trans hK (by intro i hi; exact .inl hi)⟩)); (intro K hK; go_simp; refine hK _ ?_; clear hK K))))
  (rintro w2 ⟨h1, h2⟩; go_wp2; go_returns; exact ⟨⟨_, rfl⟩, h1, h2⟩)
theorem ov_needed1_run (x l : Nat) (P T G who : Int) (p v : Int) (k : Nat) (w : World) (hz : v ≠ 0) (hp : Pend w x who (ovR l p (.pointer (some ⟨k, 0, none⟩)) (.pointer none) (.pointer none) false) 211 .done) (hL : Lay w l P T G) :
    Calls Tryz.prog 347 #[.pointer (some ⟨x, 0, none⟩), .int .u64 v] w fun e w' => (∃ r, e = .returned r) ∧ Pend w' x who (ovR l p (.pointer (some ⟨k, 0, none⟩)) (.pointer none) (.pointer none) false) 211 (.add (wordN 13) 1 368) ∧ Kept [x] w w' := by
  have d1 : ((v : Int) != 0) = true := by simpa using hz
  have HI := hid (MI.start hp hL).drew
  have hf := hp.idle.frozen
  (have y0 := hp.idle.rest 0; have y1 := hp.idle.rest 1; have y2 := hp.idle.rest 2; have y3 := hp.idle.rest 3; have y4 := hp.idle.rest 4; have y5 := hp.idle.rest 5; simp only [ovR, Nat.reduceAdd, Nat.zero_add, List.getElem?_cons_zero, List.getElem?_cons_succ] at y0 y1 y2 y3 y4 y5)
  clear hp hL
  go_enter Tryz.func347, Tryz.ntmps347
  go_wp2_with fail
  refine wp_region_T 10 (fun w' => MI w w' x who (ovR l p (.pointer (some ⟨k, 0, none⟩)) (.pointer none) (.pointer none) false) 211 l P T G) (fun w' => Pend w' x who (ovR l p (.pointer (some ⟨k, 0, none⟩)) (.pointer none) (.pointer none) false) 211 (.add (wordN 13) 1 368) ∧ Kept [x] w w') (by kernel_rfl) (by kernel_rfl) rfl (by kernel_rfl) HI.out ?_
  clear HI
  (repeat (first | (apply walkD_pure; rfl; rfl; (intro _; go_simp; first | done | rfl); (intro K hK; go_simp; refine hK _ ?_; clear hK K)) | (apply walkD_skip; rfl; rfl; (intro K hK; go_simp; refine hK _ ?_; clear hK K)) | (apply walkD_read1 [false] (by kernel_rfl); rfl; rfl; (intro w' hD; (have y0 := hD.pend.idle.rest 0; have y1 := hD.pend.idle.rest 1; have y2 := hD.pend.idle.rest 2; have y3 := hD.pend.idle.rest 3; have y4 := hD.pend.idle.rest 4; have y5 := hD.pend.idle.rest 5; simp only [ovR, Nat.reduceAdd, Nat.zero_add, List.getElem?_cons_zero, List.getElem?_cons_succ] at y0 y1 y2 y3 y4 y5); go_simp; rfl); (intro K hK; go_simp; refine hK _ ?_; clear hK K)) | (apply walkD_call1 [false] (by kernel_rfl); rfl; (intro _; go_simp; first | rfl | exact ⟨rfl, rfl⟩); (intro w' hD; first | (go_at_call 25; refine (proc_run _ _ _ _ _ _ _ hD.lay).mono ?_; rintro e w2 ⟨rfl, hb⟩; exact ⟨rfl, hD.quiet hb⟩) | (go_at_call 76; refine (thread_run _ _ _ _ _ _ _ hD.lay).mono ?_; rintro e w2 ⟨rfl, hb⟩; exact ⟨rfl, hD.quiet hb⟩) | (go_at_call 255; refine (ring_run _ _ _ _ _ _ (by assumption) _ hD.lay).mono ?_; rintro e w2 ⟨rfl, hb⟩; exact ⟨rfl, hD.quiet hb⟩) | (go_at_call 168; refine (g_run _ _ _ _ _ _ _ hD.lay).mono ?_; rintro e w2 ⟨rfl, hb⟩; exact ⟨rfl, hD.quiet hb⟩) | (go_at_call 133; refine (word_run _ 0 0 0 _ _).mono ?_; rintro e w2 ⟨rfl, rfl⟩; exact ⟨rfl, hD⟩) | (go_at_call 183; refine (iload_run hD.pend.idle _ _).mono ?_; rintro e w2 ⟨rfl, hP, hK⟩; exact ⟨rfl, hP, hD.kept.trans hK (by intro i hi; exact .inl hi)⟩) | (go_at_call 132; refine (iadd_run hD.pend.idle _ _ _).mono ?_; rintro e w2 ⟨rfl, hP, hK⟩; exact ⟨rfl, hP, hD.kept.trans hK (by intro i hi; exact .inl hi)⟩) | (go_at_call 188; refine (istore_run hD.pend.idle _ _ _).mono ?_; rintro e w2 ⟨rfl, hP, hK⟩; exact ⟨rfl, hP, hD.kept.trans hK (by intro i hi; exact .inl hi)⟩) | (go_at_call 166; refine (iswap_run hD.pend.idle _ _ _ _).mono ?_; rintro e w2 ⟨rfl, hP, hK⟩; exact ⟨rfl, hP, hD.kept.trans hK (by intro i hi; exact .inl hi)⟩)); (intro K hK; go_simp; refine hK _ ?_; clear hK K))))
  (rintro w2 ⟨h1, h2⟩; go_wp2; go_returns; exact ⟨⟨_, rfl⟩, h1, h2⟩)
theorem ov_needed0_run (x l lo : Nat) (P T G who : Int) (p : Int) (k : Nat) (w : World)  (hlo : lo ≤ w.heap.size) (hp : Pend w x who (ovR l p (.pointer (some ⟨k, 0, none⟩)) (.pointer none) (.pointer none) false) 211 .done) (hL : Lay w l P T G) :
    Calls Tryz.prog 347 #[.pointer (some ⟨x, 0, none⟩), .int .u64 0] w fun e w' => (∃ r, e = .returned r) ∧ (∃ y, Pend2 w' x who (ovR l p (.pointer (some ⟨k, 0, none⟩)) (.pointer none) (.pointer (some ⟨y, 0, none⟩)) false) 211 (.sub (ppS lo l P T G who p) y .a 370)) ∧ Kept [x] w w' := by
  have SW := hid (show (ppS lo l P T G who p).sys.want .a ≠ none by exact fun h => by cases h)
  have HI := hid (MI.drewS (N := w.heap.size) (MI.start hp hL) (by first | rfl | simp))
  have hf := hp.idle.frozen
  (have y0 := hp.idle.rest 0; have y1 := hp.idle.rest 1; have y2 := hp.idle.rest 2; have y3 := hp.idle.rest 3; have y4 := hp.idle.rest 4; have y5 := hp.idle.rest 5; simp only [ovR, Nat.reduceAdd, Nat.zero_add, List.getElem?_cons_zero, List.getElem?_cons_succ] at y0 y1 y2 y3 y4 y5)
  clear hp hL
  go_enter Tryz.func347, Tryz.ntmps347
  go_wp2_with fail
  refine wp_region_D [13, 16] (tcl2 (fun w' => MI w w' x who (ovR l p (.pointer (some ⟨k, 0, none⟩)) (.pointer none) (.pointer none) false) 211 l P T G ∧ w'.heap.size = w.heap.size) (fun w' => MI w w' x who (ovR l p (.pointer (some ⟨k, 0, none⟩)) (.pointer none) (.pointer none) false) 211 l P T G ∧ (ppS lo l P T G who p).at_ w' w.heap.size .a) (fun w' => MI w w' x who (ovR l p (.pointer (some ⟨k, 0, none⟩)) (.pointer none) (.pointer (some ⟨w.heap.size, 0, none⟩)) false) 211 l P T G ∧ (ppS lo l P T G who p).at_ w' w.heap.size .a)) (by kernel_rfl) (by kernel_rfl) rfl (by kernel_rfl) HI.out ?_
  clear HI
  repeat (first | (apply walkD_pure; rfl; rfl; (intro _; go_simp; first | done | rfl); (intro K hK; go_simp; refine hK _ ?_; clear hK K)) | (apply walkD_skip; rfl; rfl; (intro K hK; go_simp; refine hK _ ?_; clear hK K)) | (apply walkD_read1 [false, false] (by kernel_rfl); rfl; rfl; (intro w' hD; (have y0 := hD.1.pend.idle.rest 0; have y1 := hD.1.pend.idle.rest 1; have y2 := hD.1.pend.idle.rest 2; have y3 := hD.1.pend.idle.rest 3; have y4 := hD.1.pend.idle.rest 4; have y5 := hD.1.pend.idle.rest 5; simp only [ovR, Nat.reduceAdd, Nat.zero_add, List.getElem?_cons_zero, List.getElem?_cons_succ] at y0 y1 y2 y3 y4 y5); go_simp; rfl); (intro K hK; go_simp; refine hK _ ?_; clear hK K)) | (apply walkD_call1 [false, false] (by kernel_rfl); rfl; (intro _; go_simp; first | rfl | exact ⟨rfl, rfl⟩); (intro w' hD; first | (go_at_call 222; refine (ifwho_run hD.1.pend).mono ?_; rintro e w2 ⟨rfl, rfl⟩; exact ⟨rfl, hD⟩) | (go_at_call 369; have q := pp_made lo l P T G who p w' hD.1.lay (by rw [hD.2]; exact hlo); rw [hD.2] at q; refine q.mono ?_; rintro e w2 ⟨rfl, hA, hb⟩; exact ⟨rfl, hD.1.quiet (by rw [hD.2]; exact hb), hA⟩)); (intro K hK; go_simp; refine hK _ ?_; clear hK K)) | (apply walkD_turn1 (v := undef) [true, false] (by kernel_rfl); rfl; (intro w' hD; (have y0 := hD.1.pend.idle.rest 0; have y1 := hD.1.pend.idle.rest 1; have y2 := hD.1.pend.idle.rest 2; have y3 := hD.1.pend.idle.rest 3; have y4 := hD.1.pend.idle.rest 4; have y5 := hD.1.pend.idle.rest 5; simp only [ovR, Nat.reduceAdd, Nat.zero_add, List.getElem?_cons_zero, List.getElem?_cons_succ] at y0 y1 y2 y3 y4 y5); have yf := hD.1.pend.idle.frozen; unfold Go.Proofs.YtlhnnggceebpjaaGreat.Flag.opAt; go_simp; exact ⟨⟨hD.1.put (by decide) 4 _, sub_set (pp_sub lo l P T G who p) hD.2 hD.1.pend (of_decide_eq_true rfl) _ _⟩, rfl⟩); (intro K hK; go_simp; refine hK _ ?_; clear hK K)))
  rintro w4 ⟨h1, h2⟩
  obtain ⟨y, hy⟩ : ∃ y, y = w.heap.size := ⟨_, rfl⟩
  rw [← hy] at h1 h2 ⊢
  have HI2 := hid (And.intro h1.drew (SubOk.at_quiet (pp_sub lo l P T G who p) h2 (below_drewN (Below.refl _ _) 1)))
  have hf := h1.pend.idle.frozen
  clear h1 h2 hy
  go_wp2_with fail
  refine wp_region_T 10 (fun w' => MI w w' x who (ovR l p (.pointer (some ⟨k, 0, none⟩)) (.pointer none) (.pointer (some ⟨y, 0, none⟩)) false) 211 l P T G ∧ (ppS lo l P T G who p).at_ w' y .a) (fun w' => Pend2 w' x who (ovR l p (.pointer (some ⟨k, 0, none⟩)) (.pointer none) (.pointer (some ⟨y, 0, none⟩)) false) 211 (.sub (ppS lo l P T G who p) y .a 370) ∧ Kept [x] w w') (by kernel_rfl) (by kernel_rfl) rfl (by kernel_rfl) HI2.out ?_
  clear HI2
  repeat (first | (apply walkD_pure; rfl; rfl; (intro _; go_simp; first | done | rfl); (intro K hK; go_simp; refine hK _ ?_; clear hK K)) | (apply walkD_skip; rfl; rfl; (intro K hK; go_simp; refine hK _ ?_; clear hK K)) | (apply walkD_read1 [false] (by kernel_rfl); rfl; rfl; (intro w' hD; (have y0 := hD.1.pend.idle.rest 0; have y1 := hD.1.pend.idle.rest 1; have y2 := hD.1.pend.idle.rest 2; have y3 := hD.1.pend.idle.rest 3; have y4 := hD.1.pend.idle.rest 4; have y5 := hD.1.pend.idle.rest 5; simp only [ovR, Nat.reduceAdd, Nat.zero_add, List.getElem?_cons_zero, List.getElem?_cons_succ] at y0 y1 y2 y3 y4 y5); go_simp; rfl); (intro K hK; go_simp; refine hK _ ?_; clear hK K)) | (apply walkD_call1 [false] (by kernel_rfl); rfl; (intro _; go_simp; first | rfl | exact ⟨rfl, rfl⟩); (intro w' hD; go_at_call 124; refine (irun_run (S := ppS lo l P T G who p) (pp_sub lo l P T G who p) hD.1.pend hD.2 SW.out (of_decide_eq_true rfl)).mono ?_; rintro e w2 ⟨rfl, h1, h2, h3⟩; exact ⟨rfl, ⟨h1, h2, SW.out⟩, hD.1.kept.trans h3 (by intro i hi; exact .inl hi)⟩); (intro K hK; go_simp; refine hK _ ?_; clear hK K)))
  rintro w3 ⟨h1, h2⟩
  go_wp2
  go_returns
  exact ⟨⟨_, rfl⟩, ⟨_, h1⟩, h2⟩
theorem ov_counted_run (x l : Nat) (P T G who : Int) (p v : Int) (k : Nat) (w : World)  (hp : Pend w x who (ovR l p (.pointer (some ⟨k, 0, none⟩)) (.pointer none) (.pointer none) false) 211 .done) (hL : Lay w l P T G) :
    Calls Tryz.prog 368 #[.pointer (some ⟨x, 0, none⟩), .int .u64 v] w fun e w' => (∃ r, e = .returned r) ∧ Pend w' x who (ovR l p (.pointer (some ⟨k, 0, none⟩)) (.pointer none) (.pointer none) true) 211 (.store (wordN 14) 0 371) ∧ Kept [x] w w' := by
  have HI := hid ((MI.start hp hL).put (by decide) 5 (.bool true)).drew
  have hf := hp.idle.frozen
  (have y0 := hp.idle.rest 0; have y1 := hp.idle.rest 1; have y2 := hp.idle.rest 2; have y3 := hp.idle.rest 3; have y4 := hp.idle.rest 4; have y5 := hp.idle.rest 5; simp only [ovR, Nat.reduceAdd, Nat.zero_add, List.getElem?_cons_zero, List.getElem?_cons_succ] at y0 y1 y2 y3 y4 y5)
  clear hp hL
  go_enter Tryz.func368, Tryz.ntmps368
  go_wp2_with fail
  refine wp_region_T 10 (fun w' => MI w w' x who (ovR l p (.pointer (some ⟨k, 0, none⟩)) (.pointer none) (.pointer none) true) 211 l P T G) (fun w' => Pend w' x who (ovR l p (.pointer (some ⟨k, 0, none⟩)) (.pointer none) (.pointer none) true) 211 (.store (wordN 14) 0 371) ∧ Kept [x] w w') (by kernel_rfl) (by kernel_rfl) rfl (by kernel_rfl) HI.out ?_
  clear HI
  (repeat (first | (apply walkD_pure; rfl; rfl; (intro _; go_simp; first | done | rfl); (intro K hK; go_simp; refine hK _ ?_; clear hK K)) | (apply walkD_skip; rfl; rfl; (intro K hK; go_simp; refine hK _ ?_; clear hK K)) | (apply walkD_read1 [false] (by kernel_rfl); rfl; rfl; (intro w' hD; (have y0 := hD.pend.idle.rest 0; have y1 := hD.pend.idle.rest 1; have y2 := hD.pend.idle.rest 2; have y3 := hD.pend.idle.rest 3; have y4 := hD.pend.idle.rest 4; have y5 := hD.pend.idle.rest 5; simp only [ovR, Nat.reduceAdd, Nat.zero_add, List.getElem?_cons_zero, List.getElem?_cons_succ] at y0 y1 y2 y3 y4 y5); go_simp; rfl); (intro K hK; go_simp; refine hK _ ?_; clear hK K)) | (apply walkD_call1 [false] (by kernel_rfl); rfl; (intro _; go_simp; first | rfl | exact ⟨rfl, rfl⟩); (intro w' hD; first | (go_at_call 25; refine (proc_run _ _ _ _ _ _ _ hD.lay).mono ?_; rintro e w2 ⟨rfl, hb⟩; exact ⟨rfl, hD.quiet hb⟩) | (go_at_call 76; refine (thread_run _ _ _ _ _ _ _ hD.lay).mono ?_; rintro e w2 ⟨rfl, hb⟩; exact ⟨rfl, hD.quiet hb⟩) | (go_at_call 255; refine (ring_run _ _ _ _ _ _ (by assumption) _ hD.lay).mono ?_; rintro e w2 ⟨rfl, hb⟩; exact ⟨rfl, hD.quiet hb⟩) | (go_at_call 168; refine (g_run _ _ _ _ _ _ _ hD.lay).mono ?_; rintro e w2 ⟨rfl, hb⟩; exact ⟨rfl, hD.quiet hb⟩) | (go_at_call 133; refine (word_run _ 0 0 0 _ _).mono ?_; rintro e w2 ⟨rfl, rfl⟩; exact ⟨rfl, hD⟩) | (go_at_call 183; refine (iload_run hD.pend.idle _ _).mono ?_; rintro e w2 ⟨rfl, hP, hK⟩; exact ⟨rfl, hP, hD.kept.trans hK (by intro i hi; exact .inl hi)⟩) | (go_at_call 132; refine (iadd_run hD.pend.idle _ _ _).mono ?_; rintro e w2 ⟨rfl, hP, hK⟩; exact ⟨rfl, hP, hD.kept.trans hK (by intro i hi; exact .inl hi)⟩) | (go_at_call 188; refine (istore_run hD.pend.idle _ _ _).mono ?_; rintro e w2 ⟨rfl, hP, hK⟩; exact ⟨rfl, hP, hD.kept.trans hK (by intro i hi; exact .inl hi)⟩) | (go_at_call 166; refine (iswap_run hD.pend.idle _ _ _ _).mono ?_; rintro e w2 ⟨rfl, hP, hK⟩; exact ⟨rfl, hP, hD.kept.trans hK (by intro i hi; exact .inl hi)⟩)); (intro K hK; go_simp; refine hK _ ?_; clear hK K))))
  (rintro w2 ⟨h1, h2⟩; go_wp2; go_returns; exact ⟨⟨_, rfl⟩, h1, h2⟩)
theorem ov_leaves_run (x l lo : Nat) (P T G who : Int) (p : Int) (k : Nat) (pt : Value) (w : World)  (hlo : lo ≤ w.heap.size) (hp : Pend w x who (ovR l p (.pointer (some ⟨k, 0, none⟩)) (.pointer none) pt false) 211 .done) (hL : Lay w l P T G) :
    Calls Tryz.prog 370 #[.pointer (some ⟨x, 0, none⟩)] w fun e w' => (∃ r, e = .returned r) ∧ (∃ y, Pend2 w' x who (ovR l p (.pointer (some ⟨k, 0, none⟩)) (.pointer none) pt false) 211 (.sub (rlS lo l 0 P T G who) y .puts 300)) ∧ Kept [x] w w' := by
  have SW := hid (show (rlS lo l 0 P T G who).sys.want .puts ≠ none by exact fun h => by cases h)
  have HI0 := hid (MI.start hp hL)
  have HI := hid (MI.drewS (N := w.heap.size) HI0.out (by first | rfl | simp))
  clear HI0
  have hf := hp.idle.frozen
  (have y0 := hp.idle.rest 0; have y1 := hp.idle.rest 1; have y2 := hp.idle.rest 2; have y3 := hp.idle.rest 3; have y4 := hp.idle.rest 4; have y5 := hp.idle.rest 5; simp only [ovR, Nat.reduceAdd, Nat.zero_add, List.getElem?_cons_zero, List.getElem?_cons_succ] at y0 y1 y2 y3 y4 y5)
  clear hp hL
  go_enter Tryz.func370, Tryz.ntmps370
  go_wp2_with fail
  refine wp_region_D [11, 15] (tcl2 (fun w' => MI w w' x who (ovR l p (.pointer (some ⟨k, 0, none⟩)) (.pointer none) pt false) 211 l P T G ∧ w'.heap.size = w.heap.size) (fun w' => MI w w' x who (ovR l p (.pointer (some ⟨k, 0, none⟩)) (.pointer none) pt false) 211 l P T G ∧ (rlS lo l 0 P T G who).at_ w' w.heap.size .puts) (fun w' => Pend2 w' x who (ovR l p (.pointer (some ⟨k, 0, none⟩)) (.pointer none) pt false) 211 (.sub (rlS lo l 0 P T G who) w.heap.size .puts 300) ∧ Kept [x] w w')) (by kernel_rfl) (by kernel_rfl) rfl (by kernel_rfl) HI.out ?_
  clear HI
  repeat (first | (apply walkD_pure; rfl; rfl; (intro _; go_simp; first | done | rfl); (intro K hK; go_simp; refine hK _ ?_; clear hK K)) | (apply walkD_skip; rfl; rfl; (intro K hK; go_simp; refine hK _ ?_; clear hK K)) | (apply walkD_read1 [false, false] (by kernel_rfl); rfl; rfl; (intro w' hD; (have y0 := hD.1.pend.idle.rest 0; have y1 := hD.1.pend.idle.rest 1; have y2 := hD.1.pend.idle.rest 2; have y3 := hD.1.pend.idle.rest 3; have y4 := hD.1.pend.idle.rest 4; have y5 := hD.1.pend.idle.rest 5; simp only [ovR, Nat.reduceAdd, Nat.zero_add, List.getElem?_cons_zero, List.getElem?_cons_succ] at y0 y1 y2 y3 y4 y5); go_simp; rfl); (intro K hK; go_simp; refine hK _ ?_; clear hK K)) | (apply walkD_call1 [false, false] (by kernel_rfl); rfl; (intro _; go_simp; first | rfl | exact ⟨rfl, rfl⟩); (intro w' hD; first | (go_at_call 222; refine (ifwho_run hD.1.pend).mono ?_; rintro e w2 ⟨rfl, rfl⟩; exact ⟨rfl, hD⟩) | (go_at_call 308; have q := rl_made lo l 0 P T G who w' hD.1.lay (by rw [hD.2]; exact hlo); rw [hD.2] at q; refine q.mono ?_; rintro e w2 ⟨rfl, hA, hb⟩; exact ⟨rfl, hD.1.quiet (by rw [hD.2]; exact hb), hA⟩)); (intro K hK; go_simp; refine hK _ ?_; clear hK K)) | (apply walkD_call1 [true, false] (by kernel_rfl); rfl; (intro _; go_simp; first | rfl | exact ⟨rfl, rfl⟩); (intro w' hD; go_at_call 124; refine (irun_run (S := rlS lo l 0 P T G who) (rl_sub lo l 0 P T G who) hD.1.pend hD.2 SW.out (of_decide_eq_true rfl)).mono ?_; rintro e w2 ⟨rfl, h1, h2, h3⟩; exact ⟨rfl, ⟨h1, h2, SW.out⟩, hD.1.kept.trans h3 (by intro i hi; exact .inl hi)⟩); (intro K hK; go_simp; refine hK _ ?_; clear hK K)))
  rintro w2 ⟨h1, h2⟩
  go_wp2
  go_returns
  exact ⟨⟨_, rfl⟩, ⟨_, h1⟩, h2⟩
theorem ov_new_run (l lo : Nat) (P T G who : Int) (p : Int) (w : World)  (hlo : lo ≤ w.heap.size) (hL : Lay w l P T G) :
    Calls Tryz.prog 73 #[.pointer (some ⟨l, 0, none⟩), .int .i64 who, .int .i64 p] w fun e w' => e = .returned (.pointer (some ⟨w.heap.size, 0, none⟩)) ∧ (∃ y, Pend2 w' w.heap.size who (ovR l p (.pointer (some ⟨y, 0, none⟩)) (.pointer none) (.pointer none) false) 211 (.sub (lkS lo l P T G who p) y .h 172)) ∧ Below w.heap.size w w' := by
  have h0 : FlAt (w.alloc (.cells (fl fl0 ++ ovR l p (.pointer none) (.pointer none) (.pointer none) false).toArray 211)) w.heap.size fl0 (ovR l p (.pointer none) (.pointer none) (.pointer none) false) 211 := Blk.new w _ _
  have hL0 := hL.quiet (below_one w (.cells (fl fl0 ++ ovR l p (.pointer none) (.pointer none) (.pointer none) false).toArray 211))
  have hlx : l ≠ w.heap.size := Nat.ne_of_lt hL.1.lt
  clear hL
  have SW := hid (show (lkS lo l P T G who p).sys.want .h ≠ none by exact fun h => by cases h)
  go_enter Tryz.func73, Tryz.ntmps73
  go_wp2_with fail
  refine (iof_run h0 who).mono ?_
  rintro e wB ⟨rfl, hp, hK⟩
  have hL1 := hL0.kept hK (by simpa using hlx)
  have hlow : Below w.heap.size w wB := (below_one _ _).trans (hK.below (by simp) (by simp))
  have hlo := Nat.le_trans hlo hlow.size
  clear h0 hL0 hK
  obtain ⟨x0, hx0⟩ : ∃ x0, x0 = w.heap.size := ⟨_, rfl⟩
  rw [← hx0] at hp hlow ⊢
  have HX0 := hid hx0
  clear hx0
  have HP := hid (And.intro hp hL1)
  clear hp hL1
  go_wp2_with fail
  refine (lk_made lo l P T G who p wB HP.out.2 hlo).mono ?_
  rintro e w2 ⟨rfl, hA, hb⟩
  obtain ⟨y, hy⟩ : ∃ y, y = wB.heap.size := ⟨_, rfl⟩
  rw [← hy] at hA ⊢
  have HM := hid ((MI.start HP.out.1 HP.out.2).quiet hb)
  clear hb hy
  have hq : Below w2.heap.size w2 w2 := Below.refl _ _
  have HI2 := hid (And.intro (show MI wB (w2.setCell ⟨x0, 11, none⟩ (.pointer (some ⟨y, 0, none⟩))).drew x0 who (ovR l p (.pointer (some ⟨y, 0, none⟩)) (.pointer none) (.pointer none) false) 211 l P T G from (HM.out.put (by decide) 2 (.pointer (some ⟨y, 0, none⟩))).drew) (SubOk.at_quiet (lk_sub lo l P T G who p) (sub_set (lk_sub lo l P T G who p) hA HM.out.pend (of_decide_eq_true rfl) 11 (.pointer (some ⟨y, 0, none⟩))) (below_drewN (Below.refl _ _) 1)))
  have hf := HM.out.pend.idle.frozen
  have z := HM.out.pend.idle.rest 2
  simp only [ovR, Nat.reduceAdd, Nat.zero_add, List.getElem?_cons_zero, List.getElem?_cons_succ] at z
  clear HM HP hA hq
  go_wp2_with fail
  refine wp_region_T 10 (fun w' => MI wB w' x0 who (ovR l p (.pointer (some ⟨y, 0, none⟩)) (.pointer none) (.pointer none) false) 211 l P T G ∧ (lkS lo l P T G who p).at_ w' y .h) (fun w' => Pend2 w' x0 who (ovR l p (.pointer (some ⟨y, 0, none⟩)) (.pointer none) (.pointer none) false) 211 (.sub (lkS lo l P T G who p) y .h 172) ∧ Kept [x0] wB w') (by kernel_rfl) (by kernel_rfl) rfl (by kernel_rfl) HI2.out ?_
  clear HI2
  repeat (first | (apply walkD_pure; rfl; rfl; (intro _; go_simp; first | done | rfl); (intro K hK; go_simp; refine hK _ ?_; clear hK K)) | (apply walkD_skip; rfl; rfl; (intro K hK; go_simp; refine hK _ ?_; clear hK K)) | (apply walkD_read1 [false] (by kernel_rfl); rfl; rfl; (intro w' hD; (have y0 := hD.1.pend.idle.rest 0; have y1 := hD.1.pend.idle.rest 1; have y2 := hD.1.pend.idle.rest 2; have y3 := hD.1.pend.idle.rest 3; have y4 := hD.1.pend.idle.rest 4; have y5 := hD.1.pend.idle.rest 5; simp only [ovR, Nat.reduceAdd, Nat.zero_add, List.getElem?_cons_zero, List.getElem?_cons_succ] at y0 y1 y2 y3 y4 y5); go_simp; rfl); (intro K hK; go_simp; refine hK _ ?_; clear hK K)) | (apply walkD_call1 [false] (by kernel_rfl); rfl; (intro _; go_simp; first | rfl | exact ⟨rfl, rfl⟩); (intro w' hD; go_at_call 124; refine (irun_run (S := lkS lo l P T G who p) (lk_sub lo l P T G who p) hD.1.pend hD.2 SW.out (of_decide_eq_true rfl)).mono ?_; rintro e w2 ⟨rfl, h1, h2, h3⟩; exact ⟨rfl, ⟨h1, h2, SW.out⟩, hD.1.kept.trans h3 (by intro i hi; exact .inl hi)⟩); (intro K hK; go_simp; refine hK _ ?_; clear hK K)))
  rintro w3 ⟨h1, h2⟩
  go_wp2
  obtain rfl := HX0.out
  go_ret
  exact ⟨rfl, ⟨_, h1⟩, hlow.trans (h2.below (by simp) hlow.size)⟩
theorem ov_thruD : ThruD 78 := by
  intro x o w H
  have H := hid H
  go_enter Tryz.func78, Tryz.ntmps78
  go_wp2_with fail
  refine H.out.mono ?_
  rintro e w1 ⟨rfl, rfl⟩
  go_wp2
  go_ret
  exact ⟨rfl, rfl⟩
theorem ovstep_nil (m : Option Addr) (w : World) : Calls Tryz.prog 74 #[.pointer none, .pointer m] w fun e w' => e = .returned (.bool true) ∧ w = w' := by
  go_enter Tryz.func74, Tryz.ntmps74
  go_wp2
  go_ret
  exact ⟨rfl, rfl⟩
theorem ovdone_nil (w : World) : Calls Tryz.prog 78 #[.pointer none] w fun e w' => e = .returned (.bool true) ∧ w = w' := by
  go_enter Tryz.func78, Tryz.ntmps78
  go_wp2
  go_ret
  exact ⟨rfl, rfl⟩
theorem ov_step : StepOf 101 74 := ⟨fun y w => rfl, enters_of Tryz.func74 (by kernel_rfl) rfl⟩
theorem ov_quiet : NoSleeper 101 := fun y w => run_typeAssert_lacksB Tryz.underlying265 (by kernel_rfl) (by kernel_rfl) _ _ w
theorem ov_thru : Thru 74 := by
  intro x m o w R H
  have H := hid H
  go_enter Tryz.func74, Tryz.ntmps74
  go_wp2_with fail
  refine H.out.mono ?_
  rintro e w1 ⟨rfl, h1⟩
  have HX := hid h1
  clear h1
  go_wp2
  go_ret
  exact ⟨rfl, HX.out⟩
theorem ov_ends_run (x : Nat) (who : Int) (rest : List Value) (T : TypeId) (w : World) (hp : Pend w x who rest T .done) : Calls Tryz.prog 300 #[.pointer (some ⟨x, 0, none⟩)] w fun e w' => (∃ r, e = .returned r) ∧ Pend w' x who rest T .done ∧ Kept [x] w w' := by
  have HP := hid hp
  clear hp
  go_enter Tryz.func300, Tryz.ntmps300
  go_wp2
  go_returns
  exact ⟨⟨_, rfl⟩, HP.out, Kept.refl _ _⟩
theorem pp_fin {P p : Int} {s : Idlep.PpSt} {a : Int} (hn : (ppY P p).want (Idlep.ppNext s a) = none) : Idlep.ppNext s a = .done := by
  cases s <;> first | rfl | (exact absurd hn (fun h => by cases h))
theorem ov_own (lo l : Nat) (P T G who p : Int) : ∀ Ty ∈ rdT (ovM lo l P T G who p).wr, Ty ∉ theirs := by
  show ∀ Ty ∈ rdT [211, 270, 247, 274, 333, 331, 339, 276], Ty ∉ theirs
  decide
theorem ov_inT1 : ∀ T ∈ rdT [276], T ∈ rdT [211, 270, 247, 274, 333, 331, 339, 276] ∧ T ≠ 211 := by decide
theorem ov_inT2 : ∀ T ∈ rdT [274, 333, 331, 339, 276], T ∈ rdT [211, 270, 247, 274, 333, 331, 339, 276] ∧ T ≠ 211 := by decide
theorem ov_goes (lo l x : Nat) (P T G who p : Int) (hT : 0 ≤ T ∧ T ≤ 1000) (hw : 0 ≤ who ∧ who ≤ 1000) : Goes2 (ovM lo l P T G who p) lo l x P T G who := by
  refine ⟨ov_own lo l P T G who p, by simp [ovM], by show 1 ∉ [211, 270, 247, 274, 333, 331, 339, 276] ∧ 204 ∉ [211, 270, 247, 274, 333, 331, 339, 276] ∧ 214 ∉ [211, 270, 247, 274, 333, 331, 339, 276]; decide, ?_, fun _ _ _ _ => trivial, ?_, ?_, ?_⟩
  · intro st T hT
    cases st with
    | rel s => exact ov_inT1 T hT
    | fin2 => exact ov_inT1 T hT
    | fin1 b s => exact ov_inT2 T hT
    | _ => exact absurd (show T ∈ [] from hT) (by simp)
  · intro st e
    cases st <;> rfl
  · intro st e w w' Z hi hk hZ
    cases st with
    | rel s => exact (pp_sub lo l P T G who p).kept hi hk hZ
    | fin2 => exact (pp_sub lo l P T G who p).kept hi hk hZ
    | fin1 b s => exact (st_sub lo l P T G who p b true hT).kept hi hk hZ
    | _ => trivial
  · intro st e hok
    cases st with
    | look s =>
      refine ⟨lk_sub lo l P T G who p, ?_, enters_of Tryz.func172 (by kernel_rfl) rfl, ?_⟩
      · show ∀ T ∈ [270], T ∈ [211, 270, 247, 274, 333, 331, 339, 276] ∧ T ≠ 211 ∧ T ∉ []
        decide
      intro a ha
      refine ⟨?_, ?_⟩
      · intro hn
        have e1 : ovNext P T who p (.look s) a = OvSt.look (Ring.lkNext s a) := runs_on (M := lkY P p) (k := ovLooked) (emb := OvSt.look) (s := (Ring.lkNext s a)) hn
        refine ⟨?_, ?_, fun _ h => ?_⟩
        · show (ovM lo l P T G who p).nx (ovNext P T who p (.look s) a) e = _
          rw [e1]; rfl
        · show (ovM lo l P T G who p).rest (ovNext P T who p (.look s) a) e = _
          rw [e1]; rfl
        · show (ovM lo l P T G who p).inv (ovNext P T who p (.look s) a) e _
          rw [e1]; first | trivial | exact h
      · intro hn w hlo hp hA hi hL
        have e0 : ovNext P T who p (.look s) a = (ovLooked) (Ring.lkNext s a) := runs_off (M := lkY P p) (k := ovLooked) (emb := OvSt.look) (s := (Ring.lkNext s a)) hn
        have hA : (lkS lo l P T G who p).at_ w e.1 (Ring.lkNext s a) := hA
        by_cases h : (Ring.lkNext s a).empty = true
        · have e1 : ovNext P T who p (.look s) a = .sz := by rw [e0]; exact if_pos h
          refine (ov_looked0_run x l P T G who p e.1 lo (Ring.lkNext s a) w hA h hp hL).mono ?_
          rintro e3 w' ⟨he, h1, h2⟩
          refine ⟨he, ⟨(0, e.1, 0), ?_⟩, h2⟩
          show (ovM lo l P T G who p).is_ x who w' (ovNext P T who p (.look s) a) (0, e.1, 0)
          rw [e1]
          exact ⟨h1, trivial⟩
        · have e1 : ovNext P T who p (.look s) a = .aqW .ask := by rw [e0]; exact if_neg h
          refine (ov_looked1_run x l lo P T G who p e.1 (Ring.lkNext s a) w hw hA (by simpa using h) hlo hp hL).mono ?_
          rintro e3 w' ⟨he, ⟨y, h1⟩, h2⟩
          refine ⟨he, ⟨(y, e.1, 0), ?_⟩, h2⟩
          show (ovM lo l P T G who p).is_ x who w' (ovNext P T who p (.look s) a) (y, e.1, 0)
          rw [e1]
          exact ⟨h1, trivial⟩
    | sz =>
      refine .inr ⟨by show (0 : Int) ≤ 0 ∧ (0 : Int) < 18446744073709551616; omega, enters_of Tryz.func233 (by kernel_rfl) rfl, ?_⟩
      intro a w ha hlo hp hi hL
      by_cases hz : a = 0
      · subst hz
        refine (ov_sized0_run x l P T G who p e.2.1 w hp hL).mono ?_
        rintro e3 w' ⟨he, h1, h2⟩
        exact ⟨he, ⟨e, h1, trivial⟩, h2⟩
      · have e1 : ovNext P T who p .sz a = .aqW .ask := if_neg hz
        refine (ov_sized1_run x l lo P T G who p a e.2.1 w hw hz hlo hp hL).mono ?_
        rintro e3 w' ⟨he, ⟨y, h1⟩, h2⟩
        refine ⟨he, ⟨(y, e.2), ?_⟩, h2⟩
        show (ovM lo l P T G who p).is_ x who w' (ovNext P T who p .sz a) (y, e.2)
        rw [e1]
        exact ⟨h1, trivial⟩
    | sp =>
      refine .inr ⟨by show (0 : Int) ≤ 0 ∧ (0 : Int) < 18446744073709551616; omega, enters_of Tryz.func266 (by kernel_rfl) rfl, ?_⟩
      intro a w ha hlo hp hi hL
      by_cases hz : a = 0
      · subst hz
        refine (ov_spinning0_run x l P T G who p e.2.1 w hp hL).mono ?_
        rintro e3 w' ⟨he, h1, h2⟩
        exact ⟨he, ⟨e, h1, trivial⟩, h2⟩
      · have e1 : ovNext P T who p .sp a = .aqL .ask := if_neg hz
        refine (ov_spinning1_run x l lo P T G who p a e.2.1 w hw hz hlo hp hL).mono ?_
        rintro e3 w' ⟨he, ⟨y, h1⟩, h2⟩
        refine ⟨he, ⟨(y, e.2), ?_⟩, h2⟩
        show (ovM lo l P T G who p).is_ x who w' (ovNext P T who p .sp a) (y, e.2)
        rw [e1]
        exact ⟨h1, trivial⟩
    | il =>
      refine .inr ⟨by show (0 : Int) ≤ 0 ∧ (0 : Int) < 18446744073709551616; omega, enters_of Tryz.func302 (by kernel_rfl) rfl, ?_⟩
      intro a w ha hlo hp hi hL
      by_cases hz : a = 0
      · subst hz
        refine (ov_idle0_run x l P T G who p e.2.1 w hp hL).mono ?_
        rintro e3 w' ⟨he, h1, h2⟩
        exact ⟨he, ⟨e, h1, trivial⟩, h2⟩
      · have e1 : ovNext P T who p .il a = .aqL .ask := if_neg hz
        refine (ov_idle1_run x l lo P T G who p a e.2.1 w hw hz hlo hp hL).mono ?_
        rintro e3 w' ⟨he, ⟨y, h1⟩, h2⟩
        refine ⟨he, ⟨(y, e.2), ?_⟩, h2⟩
        show (ovM lo l P T G who p).is_ x who w' (ovNext P T who p .il a) (y, e.2)
        rw [e1]
        exact ⟨h1, trivial⟩
    | sw =>
      refine .inr ⟨by show (0 : Int) ≤ 1 ∧ (1 : Int) < 18446744073709551616; omega, enters_of Tryz.func325 (by kernel_rfl) rfl, ?_⟩
      intro a w ha hlo hp hi hL
      by_cases hz : a = 1
      · subst hz
        refine (ov_swapped1_run x l P T G who p e.2.1 w hp hL).mono ?_
        rintro e3 w' ⟨he, h1, h2⟩
        exact ⟨he, ⟨e, h1, trivial⟩, h2⟩
      · have e1 : ovNext P T who p .sw a = .aqL .ask := if_neg hz
        have e4 : ((a == 1) : Bool) = false := by simpa using hz
        show Calls Tryz.prog 325 #[.pointer (some ⟨x, 0, none⟩), .bool (a == 1)] w _
        rw [e4]
        refine (ov_swapped0_run x l lo P T G who p e.2.1 w hw hlo hp hL).mono ?_
        rintro e3 w' ⟨he, ⟨y, h1⟩, h2⟩
        refine ⟨he, ⟨(y, e.2), ?_⟩, h2⟩
        show (ovM lo l P T G who p).is_ x who w' (ovNext P T who p .sw a) (y, e.2)
        rw [e1]
        exact ⟨h1, trivial⟩
    | nd1 =>
      refine .inr ⟨by show (0 : Int) ≤ 0 ∧ (0 : Int) < 18446744073709551616; omega, enters_of Tryz.func348 (by kernel_rfl) rfl, ?_⟩
      intro a w ha hlo hp hi hL
      refine (ov_told_run x l lo P T G who p e.2.1 w hw hlo hp hL).mono ?_
      rintro e3 w' ⟨he, ⟨y, h1⟩, h2⟩
      exact ⟨he, ⟨(y, e.2), h1, trivial⟩, h2⟩
    | aqW s =>
      refine ⟨aq_sub lo l 0 P T G who hw, ?_, enters_of Tryz.func232 (by kernel_rfl) rfl, ?_⟩
      · show ∀ T ∈ [247], T ∈ [211, 270, 247, 274, 333, 331, 339, 276] ∧ T ≠ 211 ∧ T ∉ []
        decide
      intro a ha
      refine ⟨?_, ?_⟩
      · intro hn
        have e1 : ovNext P T who p (.aqW s) a = OvSt.aqW (aqNext s a) := runs_on (M := aq0 who) (k := (fun _ => OvSt.st false (.get .h))) (emb := OvSt.aqW) (s := (aqNext s a)) hn
        refine ⟨?_, ?_, fun _ h => ?_⟩
        · show (ovM lo l P T G who p).nx (ovNext P T who p (.aqW s) a) e = _
          rw [e1]; rfl
        · show (ovM lo l P T G who p).rest (ovNext P T who p (.aqW s) a) e = _
          rw [e1]; rfl
        · show (ovM lo l P T G who p).inv (ovNext P T who p (.aqW s) a) e _
          rw [e1]; first | trivial | exact h
      · intro hn w hlo hp hA hi hL
        have e0 : ovNext P T who p (.aqW s) a = ((fun _ => OvSt.st false (.get .h))) (aqNext s a) := runs_off (M := aq0 who) (k := (fun _ => OvSt.st false (.get .h))) (emb := OvSt.aqW) (s := (aqNext s a)) hn
        have e1 := e0
        refine (ov_works_run x l lo P T G who p e.2.1 false w hT hlo hp hL).mono ?_
        rintro e3 w' ⟨he, ⟨y, h1⟩, h2⟩
        refine ⟨he, ⟨(y, e.2), ?_⟩, h2⟩
        show (ovM lo l P T G who p).is_ x who w' (ovNext P T who p (.aqW s) a) (y, e.2)
        rw [e1]
        exact ⟨h1, trivial⟩
    | aqL s =>
      refine ⟨aq_sub lo l 0 P T G who hw, ?_, enters_of Tryz.func301 (by kernel_rfl) rfl, ?_⟩
      · show ∀ T ∈ [247], T ∈ [211, 270, 247, 274, 333, 331, 339, 276] ∧ T ≠ 211 ∧ T ∉ []
        decide
      intro a ha
      refine ⟨?_, ?_⟩
      · intro hn
        have e1 : ovNext P T who p (.aqL s) a = OvSt.aqL (aqNext s a) := runs_on (M := aq0 who) (k := (fun _ => OvSt.sz2)) (emb := OvSt.aqL) (s := (aqNext s a)) hn
        refine ⟨?_, ?_, fun _ h => ?_⟩
        · show (ovM lo l P T G who p).nx (ovNext P T who p (.aqL s) a) e = _
          rw [e1]; rfl
        · show (ovM lo l P T G who p).rest (ovNext P T who p (.aqL s) a) e = _
          rw [e1]; rfl
        · show (ovM lo l P T G who p).inv (ovNext P T who p (.aqL s) a) e _
          rw [e1]; first | trivial | exact h
      · intro hn w hlo hp hA hi hL
        have e0 : ovNext P T who p (.aqL s) a = ((fun _ => OvSt.sz2)) (aqNext s a) := runs_off (M := aq0 who) (k := (fun _ => OvSt.sz2)) (emb := OvSt.aqL) (s := (aqNext s a)) hn
        have e1 := e0
        refine (ov_locked_run x l P T G who p e.2.1 w hp hL).mono ?_
        rintro e3 w' ⟨he, h1, h2⟩
        refine ⟨he, ⟨e, ?_⟩, h2⟩
        show (ovM lo l P T G who p).is_ x who w' (ovNext P T who p (.aqL s) a) e
        rw [e1]
        exact ⟨h1, trivial⟩
    | aqS s =>
      refine ⟨aq_sub lo l 0 P T G who hw, ?_, enters_of Tryz.func371 (by kernel_rfl) rfl, ?_⟩
      · show ∀ T ∈ [247], T ∈ [211, 270, 247, 274, 333, 331, 339, 276] ∧ T ≠ 211 ∧ T ∉ []
        decide
      intro a ha
      refine ⟨?_, ?_⟩
      · intro hn
        have e1 : ovNext P T who p (.aqS s) a = OvSt.aqS (aqNext s a) := runs_on (M := aq0 who) (k := (fun _ => OvSt.st true (.get .h))) (emb := OvSt.aqS) (s := (aqNext s a)) hn
        refine ⟨?_, ?_, fun _ h => ?_⟩
        · show (ovM lo l P T G who p).nx (ovNext P T who p (.aqS s) a) e = _
          rw [e1]; rfl
        · show (ovM lo l P T G who p).rest (ovNext P T who p (.aqS s) a) e = _
          rw [e1]; rfl
        · show (ovM lo l P T G who p).inv (ovNext P T who p (.aqS s) a) e _
          rw [e1]; first | trivial | exact h
      · intro hn w hlo hp hA hi hL
        have e0 : ovNext P T who p (.aqS s) a = ((fun _ => OvSt.st true (.get .h))) (aqNext s a) := runs_off (M := aq0 who) (k := (fun _ => OvSt.st true (.get .h))) (emb := OvSt.aqS) (s := (aqNext s a)) hn
        have e1 := e0
        refine (ov_seeks_run x l lo P T G who p e.2.1 true w hT hlo hp hL).mono ?_
        rintro e3 w' ⟨he, ⟨y, h1⟩, h2⟩
        refine ⟨he, ⟨(y, e.2), ?_⟩, h2⟩
        show (ovM lo l P T G who p).is_ x who w' (ovNext P T who p (.aqS s) a) (y, e.2)
        rw [e1]
        exact ⟨h1, trivial⟩
    | sz2 =>
      refine .inr ⟨by show (0 : Int) ≤ 0 ∧ (0 : Int) < 18446744073709551616; omega, enters_of Tryz.func324 (by kernel_rfl) rfl, ?_⟩
      intro a w ha hlo hp hi hL
      by_cases hz : a = 0
      · subst hz
        refine (ov_sizedAgain0_run x l P T G who p e.2.1 w hp hL).mono ?_
        rintro e3 w' ⟨he, h1, h2⟩
        exact ⟨he, ⟨e, h1, trivial⟩, h2⟩
      · have e1 : ovNext P T who p .sz2 a = .st false (.get .h) := if_neg hz
        refine (ov_sizedAgain1_run x l lo P T G who p a e.2.1 w hT hz hlo hp hL).mono ?_
        rintro e3 w' ⟨he, ⟨y, h1⟩, h2⟩
        refine ⟨he, ⟨(y, e.2), ?_⟩, h2⟩
        show (ovM lo l P T G who p).is_ x who w' (ovNext P T who p .sz2 a) (y, e.2)
        rw [e1]
        exact ⟨h1, trivial⟩
    | nd2 =>
      refine .inr ⟨by show (0 : Int) ≤ 0 ∧ (0 : Int) < 18446744073709551616; omega, enters_of Tryz.func347 (by kernel_rfl) rfl, ?_⟩
      intro a w ha hlo hp hi hL
      by_cases hz : a = 0
      · subst hz
        refine (ov_needed0_run x l lo P T G who p e.2.1 w hlo hp hL).mono ?_
        rintro e3 w' ⟨he, ⟨y, h1⟩, h2⟩
        exact ⟨he, ⟨(y, e.2), h1, trivial⟩, h2⟩
      · have e1 : ovNext P T who p .nd2 a = .cnt := if_neg hz
        refine (ov_needed1_run x l P T G who p a e.2.1 w hz hp hL).mono ?_
        rintro e3 w' ⟨he, h1, h2⟩
        refine ⟨he, ⟨e, ?_⟩, h2⟩
        show (ovM lo l P T G who p).is_ x who w' (ovNext P T who p .nd2 a) e
        rw [e1]
        exact ⟨h1, trivial⟩
    | cnt =>
      refine .inr ⟨by show (0 : Int) ≤ 1 ∧ (1 : Int) < 18446744073709551616; omega, enters_of Tryz.func368 (by kernel_rfl) rfl, ?_⟩
      intro a w ha hlo hp hi hL
      refine (ov_counted_run x l P T G who p a e.2.1 w hp hL).mono ?_
      rintro e3 w' ⟨he, h1, h2⟩
      exact ⟨he, ⟨e, h1, trivial⟩, h2⟩
    | nd3 =>
      refine .inr ⟨by show (0 : Int) ≤ 0 ∧ (0 : Int) < 18446744073709551616; omega, enters_of Tryz.func371 (by kernel_rfl) rfl, ?_⟩
      intro a w ha hlo hp hi hL
      refine (ov_seeks_run x l lo P T G who p e.2.1 true w hT hlo hp hL).mono ?_
      rintro e3 w' ⟨he, ⟨y, h1⟩, h2⟩
      exact ⟨he, ⟨(y, e.2), h1, trivial⟩, h2⟩
    | st b s =>
      refine ⟨st_sub lo l P T G who p b true hT, ?_, enters_of Tryz.func300 (by kernel_rfl) rfl, ?_⟩
      · show ∀ T ∈ [274, 333, 331, 339, 276], T ∈ [211, 270, 247, 274, 333, 331, 339, 276] ∧ T ≠ 211 ∧ T ∉ []
        decide
      intro a ha
      refine ⟨?_, ?_⟩
      · intro hn
        have e1 : ovNext P T who p (.st b s) a = (OvSt.st b) (stNext P T p b true s a) := runs_on (M := stY P T p b true) (k := (OvSt.fin1 b)) (emb := (OvSt.st b)) (s := (stNext P T p b true s a)) hn
        refine ⟨?_, ?_, fun _ h => ?_⟩
        · show (ovM lo l P T G who p).nx (ovNext P T who p (.st b s) a) e = _
          rw [e1]; rfl
        · show (ovM lo l P T G who p).rest (ovNext P T who p (.st b s) a) e = _
          rw [e1]; rfl
        · show (ovM lo l P T G who p).inv (ovNext P T who p (.st b s) a) e _
          rw [e1]; first | trivial | exact h
      · intro hn w hlo hp hA hi hL
        have e0 : ovNext P T who p (.st b s) a = ((OvSt.fin1 b)) (stNext P T p b true s a) := runs_off (M := stY P T p b true) (k := (OvSt.fin1 b)) (emb := (OvSt.st b)) (s := (stNext P T p b true s a)) hn
        have hA : (stS lo l P T G who p b true).at_ w e.1 (stNext P T p b true s a) := hA
        have e1 := e0
        refine (ov_ends_run x who _ _ w hp).mono ?_
        rintro e3 w' ⟨he, h1, h2⟩
        refine ⟨he, ⟨e, ?_⟩, h2⟩
        show (ovM lo l P T G who p).is_ x who w' (ovNext P T who p (.st b s) a) e
        rw [e1]
        exact ⟨h1, sub_kept1 (st_sub lo l P T G who p b true hT) hA hp (by show 211 ∉ rdT [274, 333, 331, 339, 276]; decide) h2⟩
    | put s =>
      refine ⟨pp_sub lo l P T G who p, ?_, enters_of Tryz.func370 (by kernel_rfl) rfl, ?_⟩
      · show ∀ T ∈ [276], T ∈ [211, 270, 247, 274, 333, 331, 339, 276] ∧ T ≠ 211 ∧ T ∉ []
        decide
      intro a ha
      refine ⟨?_, ?_⟩
      · intro hn
        have e1 : ovNext P T who p (.put s) a = OvSt.put (Idlep.ppNext s a) := runs_on (M := ppY P p) (k := (fun _ => OvSt.rel .puts)) (emb := OvSt.put) (s := (Idlep.ppNext s a)) hn
        refine ⟨?_, ?_, fun _ h => ?_⟩
        · show (ovM lo l P T G who p).nx (ovNext P T who p (.put s) a) e = _
          rw [e1]; rfl
        · show (ovM lo l P T G who p).rest (ovNext P T who p (.put s) a) e = _
          rw [e1]; rfl
        · show (ovM lo l P T G who p).inv (ovNext P T who p (.put s) a) e _
          rw [e1]; first | trivial | exact h
      · intro hn w hlo hp hA hi hL
        have e0 : ovNext P T who p (.put s) a = ((fun _ => OvSt.rel .puts)) (Idlep.ppNext s a) := runs_off (M := ppY P p) (k := (fun _ => OvSt.rel .puts)) (emb := OvSt.put) (s := (Idlep.ppNext s a)) hn
        have hA : (ppS lo l P T G who p).at_ w e.1 .done := by rw [← pp_fin hn]; exact hA
        have e1 := e0
        refine (ov_leaves_run x l lo P T G who p e.2.1 (.pointer (some ⟨e.1, 0, none⟩)) w hlo hp hL).mono ?_
        rintro e3 w' ⟨he, ⟨y, h1⟩, h2⟩
        refine ⟨he, ⟨(y, e.2.1, e.1), ?_⟩, h2⟩
        show (ovM lo l P T G who p).is_ x who w' (ovNext P T who p (.put s) a) (y, e.2.1, e.1)
        rw [e1]
        exact ⟨h1, sub_kept1 (pp_sub lo l P T G who p) hA hp (by show 211 ∉ rdT [276]; decide) h2⟩
    | rel s =>
      refine ⟨rl_sub lo l 0 P T G who, ?_, enters_of Tryz.func300 (by kernel_rfl) rfl, ?_⟩
      · show ∀ T ∈ [331], T ∈ [211, 270, 247, 274, 333, 331, 339, 276] ∧ T ≠ 211 ∧ T ∉ (rdT [276])
        decide
      intro a ha
      refine ⟨?_, ?_⟩
      · intro hn
        have e1 : ovNext P T who p (.rel s) a = OvSt.rel (rlNext s a) := runs_on (M := rl0) (k := (fun _ => OvSt.fin2)) (emb := OvSt.rel) (s := (rlNext s a)) hn
        refine ⟨?_, ?_, fun _ h => ?_⟩
        · show (ovM lo l P T G who p).nx (ovNext P T who p (.rel s) a) e = _
          rw [e1]; rfl
        · show (ovM lo l P T G who p).rest (ovNext P T who p (.rel s) a) e = _
          rw [e1]; rfl
        · show (ovM lo l P T G who p).inv (ovNext P T who p (.rel s) a) e _
          rw [e1]; first | trivial | exact h
      · intro hn w hlo hp hA hi hL
        have e0 : ovNext P T who p (.rel s) a = ((fun _ => OvSt.fin2)) (rlNext s a) := runs_off (M := rl0) (k := (fun _ => OvSt.fin2)) (emb := OvSt.rel) (s := (rlNext s a)) hn
        have e1 := e0
        refine (ov_ends_run x who _ _ w hp).mono ?_
        rintro e3 w' ⟨he, h1, h2⟩
        refine ⟨he, ⟨e, ?_⟩, h2⟩
        show (ovM lo l P T G who p).is_ x who w' (ovNext P T who p (.rel s) a) e
        rw [e1]
        exact ⟨h1, sub_kept1 (pp_sub lo l P T G who p) hi hp (by show 211 ∉ rdT [276]; decide) h2⟩
    | fin1 b s => exact .inl rfl
    | fin2 => exact .inl rfl
def ovS (lo l : Nat) (P T G who p : Int) : Subm OvSt := (ovM lo l P T G who p).sub 101 74 lo l P T G who
theorem ov_sub (lo l : Nat) (P T G who p : Int) (hT : 0 ≤ T ∧ T ≤ 1000) (hw : 0 ≤ who ∧ who ≤ 1000) : SubOk (ovS lo l P T G who p) lo who := m2_sub ov_step ov_quiet ov_thru (fun y _ => ov_goes lo l y P T G who p hT hw) (ov_own lo l P T G who p)
theorem ov_made (lo l : Nat) (P T G who p : Int) (w : World) (hL : Lay w l P T G) (hlo : lo ≤ w.heap.size) :
    Calls Tryz.prog 73 #[.pointer (some ⟨l, 0, none⟩), .int .i64 who, .int .i64 p] w fun e w' => e = .returned (.pointer (some ⟨w.heap.size, 0, none⟩)) ∧ (ovS lo l P T G who p).at_ w' w.heap.size (.look .h) ∧ Below w.heap.size w w' := by
  refine (ov_new_run l lo P T G who p w hlo hL).mono ?_
  rintro e w' ⟨rfl, ⟨y, h1⟩, h2⟩
  exact ⟨rfl, ⟨⟨(y, 0, 0), h1, trivial⟩, hlo, hL.quiet h2, trivial⟩, h2⟩
end Go.Proofs.YtlhnnggceebpjaaGreat.Hand
