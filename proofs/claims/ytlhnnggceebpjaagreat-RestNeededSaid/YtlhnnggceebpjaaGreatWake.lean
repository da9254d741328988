/- A thread is started: a machine that runs others. -/
import Derived.Test.YtlhnnggceebpjaaGreatSubs
set_option maxRecDepth 100000
set_option maxHeartbeats 4000000
set_option linter.unusedVariables false
set_option linter.unusedSimpArgs false
namespace Go.Proofs.YtlhnnggceebpjaaGreat.Wake
open Go.RowKit Go.Shelf Go.Proofs.YtlhnnggceebpjaaGreat.TK Go.Proofs.YtlhnnggceebpjaaGreat.Flag Go.Proofs.YtlhnnggceebpjaaGreat.Words Go.Proofs.YtlhnnggceebpjaaGreat.Mem Go.Proofs.YtlhnnggceebpjaaGreat.Flow Go.Proofs.YtlhnnggceebpjaaGreat.Layout Go.Proofs.YtlhnnggceebpjaaGreat.Lock Go.Proofs.YtlhnnggceebpjaaGreat.Run Go.Proofs.YtlhnnggceebpjaaGreat.Sys Go.Proofs.YtlhnnggceebpjaaGreat.Mach Go.Proofs.YtlhnnggceebpjaaGreat.Ref05 Go.Proofs.YtlhnnggceebpjaaGreat.Subs
/-- What is given as a word. -/
def wkw (p : Int) (sp : Bool) : Int := if sp then IntKind.u64.wrap (Idlep.u1 p + 4294967296) else Idlep.u1 p
theorem wkw_range (p : Int) (sp : Bool) : 0 ≤ wkw p sp ∧ wkw p sp < 18446744073709551616 := by
  unfold wkw
  split
  · rw [IntKind.wrap_u64]; omega
  · exact Idlep.u1_range p
theorem word_run2 (p : Int) (sp : Bool) (w : World) : Calls Tryz.prog 365 #[.int .i64 p, .bool sp] w fun e w' => e = .returned (.int .u64 (wkw p sp)) ∧ w = w' := by
  have n1 : IntKind.u64.wrap (IntKind.u64.wrap p + 1) = Idlep.u1 p := rfl
  cases sp with
  | true =>
    have n2 : IntKind.u64.wrap (Idlep.u1 p + 4294967296) = wkw p true := rfl
    go_enter Tryz.func365, Tryz.ntmps365
    go_wp2
    go_ret
    exact ⟨rfl, rfl⟩
  | false =>
    have n2 : Idlep.u1 p = wkw p false := rfl
    rw [← n2]
    clear n2
    go_enter Tryz.func365, Tryz.ntmps365
    go_wp2
    go_ret
    exact ⟨rfl, rfl⟩
def stR (l : Nat) (p : Int) (sp lf : Bool) (gp pp : Value) (t : Int) (gv : Bool) : List Value := [.pointer (some ⟨l, 0, none⟩), .int .i64 p, .bool sp, .bool lf, gp, pp, .int .i64 t, .bool gv]
inductive StSt
  | get (s : Idlem.MgSt)
  | rel (t : Int) (s : RlSt)
  | gv (t : Int)
  | wk (t : Int) (s : Bool)
  | cnt
  | nd
  | gb
  | put (s : Idlep.PpSt)
  | out (s : RlSt)
  | fin1 (t : Int)
  | fin2
def mgY (P T : Int) : Rsys Idlem.MgSt := (Idlem.mgM 0 P T).sys
def ppY (P p : Int) : Rsys Idlep.PpSt := (Idlep.ppM 0 P p).sys
def wkY (a : Int) : Rsys Bool := (wkM a).sys
def rl0 : Rsys RlSt := (rlM 0 0).sys
def aq0 (who : Int) : Rsys AcqSt := (aqM 0 0 who).sys
def stGot (sp : Bool) (s : Idlem.MgSt) : StSt := if s.t = -1 then (if sp then .cnt else .nd) else .rel s.t .puts
def stNext (P T p : Int) (sp lf : Bool) (st : StSt) (a : Int) : StSt :=
  match st with
  | .get s => runs (mgY P T) (stGot sp) .get (Idlem.mgNext T s a)
  | .rel t s => runs rl0 (fun _ => .gv t) (.rel t) (rlNext s a)
  | .gv t => .wk t false
  | .wk t s => runs (wkY (th P T t 0)) (fun _ => .fin1 t) (.wk t) true
  | .cnt => .nd
  | .nd => if lf then .gb else .put .a
  | .gb => .out .puts
  | .put s => runs (ppY P p) (fun _ => .out .puts) .put (Idlep.ppNext s a)
  | .out s => runs rl0 (fun _ => .fin2) .out (rlNext s a)
  | .fin1 t => .fin1 t
  | .fin2 => .fin2
def stOwn (P T p : Int) (sp : Bool) : StSt → Nx
  | .gv t => .store (th P T t 1) (wkw p sp) 366
  | .cnt => .add (wordN 13) 4294967295 345
  | .nd => .store (wordN 14) 1 367
  | .gb => .store (pr P p 0) 2 385
  | _ => .done
def stWant (P T p : Int) (sp : Bool) : StSt → Option Wnt
  | .get s => (mgY P T).want s
  | .rel _ s => rl0.want s
  | .wk t s => (wkY (th P T t 0)).want s
  | .put s => (ppY P p).want s
  | .out s => rl0.want s
  | st => (stOwn P T p sp st).want
def stY (P T p : Int) (sp lf : Bool) : Rsys StSt := ⟨stWant P T p sp, stNext P T p sp lf⟩
/-- The processor in its hand. -/
def stH (p : Int) : StSt → Int
  | .wk _ _ => -1
  | .put s => s.h p
  | .out _ => -1
  | .fin1 _ => -1
  | .fin2 => -1
  | _ => p
/-- The thread. -/
def stT : StSt → Int
  | .get s => s.t
  | .rel t _ => t
  | .gv t => t
  | .wk t _ => t
  | .fin1 t => t
  | _ => -1
def stRest (l : Nat) (p : Int) (sp lf : Bool) (st : StSt) (e : Nat × Nat) : List Value :=
  match st with
  | .get _ => stR l p sp lf (.pointer (some ⟨e.1, 0, none⟩)) (.pointer none) (-1) false
  | .rel t _ => stR l p sp lf (.pointer none) (.pointer none) t false
  | .gv t => stR l p sp lf (.pointer none) (.pointer none) t false
  | .wk t _ => stR l p sp lf (.pointer none) (.pointer none) t true
  | .cnt => stR l p sp lf (.pointer none) (.pointer none) (-1) false
  | .nd => stR l p sp lf (.pointer none) (.pointer none) (-1) false
  | .gb => stR l p sp lf (.pointer none) (.pointer none) (-1) false
  | .put _ => stR l p sp lf (.pointer none) (.pointer (some ⟨e.1, 0, none⟩)) (-1) false
  | .out _ => if lf then stR l p sp lf (.pointer none) (.pointer none) (-1) true else stR l p sp lf (.pointer none) (.pointer (some ⟨e.2, 0, none⟩)) (-1) false
  | .fin1 t => stR l p sp lf (.pointer none) (.pointer none) t true
  | .fin2 => if lf then stR l p sp lf (.pointer none) (.pointer none) (-1) true else stR l p sp lf (.pointer none) (.pointer (some ⟨e.2, 0, none⟩)) (-1) false
def stInv (lo l : Nat) (P T G who p : Int) (lf : Bool) (st : StSt) (e : Nat × Nat) (w : World) : Prop :=
  match st with
  | .out _ => lf = false → (ppS lo l P T G who p).at_ w e.2 .done
  | .fin2 => lf = false → (ppS lo l P T G who p).at_ w e.2 .done
  | _ => True
def stInvT : StSt → List TypeId
  | .out _ => rdT [276]
  | .fin2 => rdT [276]
  | _ => []
def stOk (lf : Bool) : StSt → Prop
  | .gb => lf = true
  | .put _ => lf = false
  | _ => True
def stM (lo l : Nat) (P T G who p : Int) (sp lf : Bool) : Mch2 StSt (Nat × Nat) :=
  ⟨274, [274, 333, 331, 339, 276], fun st e => match st with
    | .get s => .sub (mgS lo l P T G who) e.1 s 323
    | .rel _ s => .sub (rlS lo l 0 P T G who) e.1 s 344
    | .wk t s => .sub (wkS lo l (th P T t 0) P T G who) e.1 s 384
    | .put s => .sub (ppS lo l P T G who p) e.1 s 386
    | .out s => .sub (rlS lo l 0 P T G who) e.1 s 384
    | st => .own (stOwn P T p sp st),
   stRest l p sp lf, stInv lo l P T G who p lf, stInvT, stY P T p sp lf, stOk lf⟩
theorem st_gives_run (x l : Nat) (P T G who : Int) (p t : Int) (sp lf : Bool) (w : World)  (hp : Pend w x who (stR l p sp lf (.pointer none) (.pointer none) t false) 274 .done) (hL : Lay w l P T G) :
    Calls Tryz.prog 344 #[.pointer (some ⟨x, 0, none⟩)] w fun e w' => (∃ r, e = .returned r) ∧ Pend w' x who (stR l p sp lf (.pointer none) (.pointer none) t false) 274 (.store (th P T t 1) (wkw p sp) 366) ∧ Kept [x] w w' := by
  have HI := hid (MI.start hp hL).drew
  have hf := hp.idle.frozen
  (have y0 := hp.idle.rest 0; have y1 := hp.idle.rest 1; have y2 := hp.idle.rest 2; have y3 := hp.idle.rest 3; have y4 := hp.idle.rest 4; have y5 := hp.idle.rest 5; have y6 := hp.idle.rest 6; have y7 := hp.idle.rest 7; simp only [stR, Nat.reduceAdd, Nat.zero_add, List.getElem?_cons_zero, List.getElem?_cons_succ] at y0 y1 y2 y3 y4 y5 y6 y7)
  clear hp hL
  go_enter Tryz.func344, Tryz.ntmps344
  go_wp2_with fail
  refine wp_region_T 23 (fun w' => MI w w' x who (stR l p sp lf (.pointer none) (.pointer none) t false) 274 l P T G) (fun w' => Pend w' x who (stR l p sp lf (.pointer none) (.pointer none) t false) 274 (.store (th P T t 1) (wkw p sp) 366) ∧ Kept [x] w w') (by kernel_rfl) (by kernel_rfl) rfl (by kernel_rfl) HI.out ?_
  clear HI
  (repeat (first | (apply walkD_pure; rfl; rfl; (intro _; go_simp; first | done | rfl); (intro K hK; go_simp; refine hK _ ?_; clear hK K)) | (apply walkD_skip; rfl; rfl; (intro K hK; go_simp; refine hK _ ?_; clear hK K)) | (apply walkD_read1 [false] (by kernel_rfl); rfl; rfl; (intro w' hD; (have y0 := hD.pend.idle.rest 0; have y1 := hD.pend.idle.rest 1; have y2 := hD.pend.idle.rest 2; have y3 := hD.pend.idle.rest 3; have y4 := hD.pend.idle.rest 4; have y5 := hD.pend.idle.rest 5; have y6 := hD.pend.idle.rest 6; have y7 := hD.pend.idle.rest 7; simp only [stR, Nat.reduceAdd, Nat.zero_add, List.getElem?_cons_zero, List.getElem?_cons_succ] at y0 y1 y2 y3 y4 y5 y6 y7); go_simp; rfl); (intro K hK; go_simp; refine hK _ ?_; clear hK K)) | (apply walkD_call1 [false] (by kernel_rfl); rfl; (intro _; go_simp; first | rfl | exact ⟨rfl, rfl⟩); (intro w' hD; first | (go_at_call 365; refine (word_run2 _ _ _).mono ?_; rintro e w2 ⟨rfl, rfl⟩; exact ⟨rfl, hD⟩) | (go_at_call 25; refine (proc_run _ _ _ _ _ _ _ hD.lay).mono ?_; rintro e w2 ⟨rfl, hb⟩; exact ⟨rfl, hD.quiet hb⟩) | (go_at_call 76; refine (thread_run _ _ _ _ _ _ _ hD.lay).mono ?_; rintro e w2 ⟨rfl, hb⟩; exact ⟨rfl, hD.quiet hb⟩) | (go_at_call 255; refine (ring_run _ _ _ _ _ _ (by assumption) _ hD.lay).mono ?_; rintro e w2 ⟨rfl, hb⟩; exact ⟨rfl, hD.quiet hb⟩) | (go_at_call 168; refine (g_run _ _ _ _ _ _ _ hD.lay).mono ?_; rintro e w2 ⟨rfl, hb⟩; exact ⟨rfl, hD.quiet hb⟩) | (go_at_call 133; refine (word_run _ 0 0 0 _ _).mono ?_; rintro e w2 ⟨rfl, rfl⟩; exact ⟨rfl, hD⟩) | (go_at_call 183; refine (iload_run hD.pend.idle _ _).mono ?_; rintro e w2 ⟨rfl, hP, hK⟩; exact ⟨rfl, hP, hD.kept.trans hK (by intro i hi; exact .inl hi)⟩) | (go_at_call 132; refine (iadd_run hD.pend.idle _ _ _).mono ?_; rintro e w2 ⟨rfl, hP, hK⟩; exact ⟨rfl, hP, hD.kept.trans hK (by intro i hi; exact .inl hi)⟩) | (go_at_call 188; refine (istore_run hD.pend.idle _ _ _).mono ?_; rintro e w2 ⟨rfl, hP, hK⟩; exact ⟨rfl, hP, hD.kept.trans hK (by intro i hi; exact .inl hi)⟩) | (go_at_call 166; refine (iswap_run hD.pend.idle _ _ _ _).mono ?_; rintro e w2 ⟨rfl, hP, hK⟩; exact ⟨rfl, hP, hD.kept.trans hK (by intro i hi; exact .inl hi)⟩)); (intro K hK; go_simp; refine hK _ ?_; clear hK K))))
  (rintro w2 ⟨h1, h2⟩; go_wp2; go_returns; exact ⟨⟨_, rfl⟩, h1, h2⟩)
theorem st_wakes_run (x l lo : Nat) (P T G who : Int) (p t : Int) (sp lf : Bool) (w : World)  (hlo : lo ≤ w.heap.size) (hp : Pend w x who (stR l p sp lf (.pointer none) (.pointer none) t false) 274 .done) (hL : Lay w l P T G) :
    Calls Tryz.prog 366 #[.pointer (some ⟨x, 0, none⟩)] w fun e w' => (∃ r, e = .returned r) ∧ (∃ y, Pend2 w' x who (stR l p sp lf (.pointer none) (.pointer none) t true) 274 (.sub (wkS lo l (th P T t 0) P T G who) y false 384)) ∧ Kept [x] w w' := by
  have SW := hid (show (wkS lo l (th P T t 0) P T G who).sys.want false ≠ none by exact fun h => by cases h)
  have HI0 := hid ((MI.start hp hL).put (by decide) 7 (.bool true))
  have HI := hid (MI.drewS (N := w.heap.size) HI0.out (by first | rfl | simp))
  clear HI0
  have hf := hp.idle.frozen
  (have y0 := hp.idle.rest 0; have y1 := hp.idle.rest 1; have y2 := hp.idle.rest 2; have y3 := hp.idle.rest 3; have y4 := hp.idle.rest 4; have y5 := hp.idle.rest 5; have y6 := hp.idle.rest 6; have y7 := hp.idle.rest 7; simp only [stR, Nat.reduceAdd, Nat.zero_add, List.getElem?_cons_zero, List.getElem?_cons_succ] at y0 y1 y2 y3 y4 y5 y6 y7)
  clear hp hL
  go_enter Tryz.func366, Tryz.ntmps366
  go_wp2_with fail
  refine wp_region_D [15, 19] (tcl2 (fun w' => MI w w' x who (stR l p sp lf (.pointer none) (.pointer none) t true) 274 l P T G ∧ w'.heap.size = w.heap.size) (fun w' => MI w w' x who (stR l p sp lf (.pointer none) (.pointer none) t true) 274 l P T G ∧ (wkS lo l (th P T t 0) P T G who).at_ w' w.heap.size false) (fun w' => Pend2 w' x who (stR l p sp lf (.pointer none) (.pointer none) t true) 274 (.sub (wkS lo l (th P T t 0) P T G who) w.heap.size false 384) ∧ Kept [x] w w')) (by kernel_rfl) (by kernel_rfl) rfl (by kernel_rfl) HI.out ?_
  clear HI
  repeat (first | (apply walkD_pure; rfl; rfl; (intro _; go_simp; first | done | rfl); (intro K hK; go_simp; refine hK _ ?_; clear hK K)) | (apply walkD_skip; rfl; rfl; (intro K hK; go_simp; refine hK _ ?_; clear hK K)) | (apply walkD_read1 [false, false] (by kernel_rfl); rfl; rfl; (intro w' hD; (have y0 := hD.1.pend.idle.rest 0; have y1 := hD.1.pend.idle.rest 1; have y2 := hD.1.pend.idle.rest 2; have y3 := hD.1.pend.idle.rest 3; have y4 := hD.1.pend.idle.rest 4; have y5 := hD.1.pend.idle.rest 5; have y6 := hD.1.pend.idle.rest 6; have y7 := hD.1.pend.idle.rest 7; simp only [stR, Nat.reduceAdd, Nat.zero_add, List.getElem?_cons_zero, List.getElem?_cons_succ] at y0 y1 y2 y3 y4 y5 y6 y7); go_simp; rfl); (intro K hK; go_simp; refine hK _ ?_; clear hK K)) | (apply walkD_call1 [false, false] (by kernel_rfl); rfl; (intro _; go_simp; first | rfl | exact ⟨rfl, rfl⟩); (intro w' hD; first | (go_at_call 222; refine (ifwho_run hD.1.pend).mono ?_; rintro e w2 ⟨rfl, rfl⟩; exact ⟨rfl, hD⟩) | (go_at_call 383; have q := wk_made lo l P T G who t w' hD.1.lay (by rw [hD.2]; exact hlo); rw [hD.2] at q; refine q.mono ?_; rintro e w2 ⟨rfl, hA, hb⟩; exact ⟨rfl, hD.1.quiet (by rw [hD.2]; exact hb), hA⟩)); (intro K hK; go_simp; refine hK _ ?_; clear hK K)) | (apply walkD_call1 [true, false] (by kernel_rfl); rfl; (intro _; go_simp; first | rfl | exact ⟨rfl, rfl⟩); (intro w' hD; go_at_call 124; refine (irun_run (S := wkS lo l (th P T t 0) P T G who) (wk_sub lo l (th P T t 0) P T G who) hD.1.pend hD.2 SW.out (of_decide_eq_true rfl)).mono ?_; rintro e w2 ⟨rfl, h1, h2, h3⟩; exact ⟨rfl, ⟨h1, h2, SW.out⟩, hD.1.kept.trans h3 (by intro i hi; exact .inl hi)⟩); (intro K hK; go_simp; refine hK _ ?_; clear hK K)))
  rintro w2 ⟨h1, h2⟩
  go_wp2
  go_returns
  exact ⟨⟨_, rfl⟩, ⟨_, h1⟩, h2⟩
theorem st_needs_run (x l : Nat) (P T G who : Int) (p t : Int) (sp lf : Bool) (w : World)  (hp : Pend w x who (stR l p sp lf (.pointer none) (.pointer none) t false) 274 .done) (hL : Lay w l P T G) :
    Calls Tryz.prog 346 #[.pointer (some ⟨x, 0, none⟩)] w fun e w' => (∃ r, e = .returned r) ∧ Pend w' x who (stR l p sp lf (.pointer none) (.pointer none) t false) 274 (.store (wordN 14) 1 367) ∧ Kept [x] w w' := by
  have HI := hid (MI.start hp hL).drew
  have hf := hp.idle.frozen
  (have y0 := hp.idle.rest 0; have y1 := hp.idle.rest 1; have y2 := hp.idle.rest 2; have y3 := hp.idle.rest 3; have y4 := hp.idle.rest 4; have y5 := hp.idle.rest 5; have y6 := hp.idle.rest 6; have y7 := hp.idle.rest 7; simp only [stR, Nat.reduceAdd, Nat.zero_add, List.getElem?_cons_zero, List.getElem?_cons_succ] at y0 y1 y2 y3 y4 y5 y6 y7)
  clear hp hL
  go_enter Tryz.func346, Tryz.ntmps346
  go_wp2_with fail
  refine wp_region_T 10 (fun w' => MI w w' x who (stR l p sp lf (.pointer none) (.pointer none) t false) 274 l P T G) (fun w' => Pend w' x who (stR l p sp lf (.pointer none) (.pointer none) t false) 274 (.store (wordN 14) 1 367) ∧ Kept [x] w w') (by kernel_rfl) (by kernel_rfl) rfl (by kernel_rfl) HI.out ?_
  clear HI
  (repeat (first | (apply walkD_pure; rfl; rfl; (intro _; go_simp; first | done | rfl); (intro K hK; go_simp; refine hK _ ?_; clear hK K)) | (apply walkD_skip; rfl; rfl; (intro K hK; go_simp; refine hK _ ?_; clear hK K)) | (apply walkD_read1 [false] (by kernel_rfl); rfl; rfl; (intro w' hD; (have y0 := hD.pend.idle.rest 0; have y1 := hD.pend.idle.rest 1; have y2 := hD.pend.idle.rest 2; have y3 := hD.pend.idle.rest 3; have y4 := hD.pend.idle.rest 4; have y5 := hD.pend.idle.rest 5; have y6 := hD.pend.idle.rest 6; have y7 := hD.pend.idle.rest 7; simp only [stR, Nat.reduceAdd, Nat.zero_add, List.getElem?_cons_zero, List.getElem?_cons_succ] at y0 y1 y2 y3 y4 y5 y6 y7); go_simp; rfl); (intro K hK; go_simp; refine hK _ ?_; clear hK K)) | (apply walkD_call1 [false] (by kernel_rfl); rfl; (intro _; go_simp; first | rfl | exact ⟨rfl, rfl⟩); (intro w' hD; first | (go_at_call 365; refine (word_run2 _ _ _).mono ?_; rintro e w2 ⟨rfl, rfl⟩; exact ⟨rfl, hD⟩) | (go_at_call 25; refine (proc_run _ _ _ _ _ _ _ hD.lay).mono ?_; rintro e w2 ⟨rfl, hb⟩; exact ⟨rfl, hD.quiet hb⟩) | (go_at_call 76; refine (thread_run _ _ _ _ _ _ _ hD.lay).mono ?_; rintro e w2 ⟨rfl, hb⟩; exact ⟨rfl, hD.quiet hb⟩) | (go_at_call 255; refine (ring_run _ _ _ _ _ _ (by assumption) _ hD.lay).mono ?_; rintro e w2 ⟨rfl, hb⟩; exact ⟨rfl, hD.quiet hb⟩) | (go_at_call 168; refine (g_run _ _ _ _ _ _ _ hD.lay).mono ?_; rintro e w2 ⟨rfl, hb⟩; exact ⟨rfl, hD.quiet hb⟩) | (go_at_call 133; refine (word_run _ 0 0 0 _ _).mono ?_; rintro e w2 ⟨rfl, rfl⟩; exact ⟨rfl, hD⟩) | (go_at_call 183; refine (iload_run hD.pend.idle _ _).mono ?_; rintro e w2 ⟨rfl, hP, hK⟩; exact ⟨rfl, hP, hD.kept.trans hK (by intro i hi; exact .inl hi)⟩) | (go_at_call 132; refine (iadd_run hD.pend.idle _ _ _).mono ?_; rintro e w2 ⟨rfl, hP, hK⟩; exact ⟨rfl, hP, hD.kept.trans hK (by intro i hi; exact .inl hi)⟩) | (go_at_call 188; refine (istore_run hD.pend.idle _ _ _).mono ?_; rintro e w2 ⟨rfl, hP, hK⟩; exact ⟨rfl, hP, hD.kept.trans hK (by intro i hi; exact .inl hi)⟩) | (go_at_call 166; refine (iswap_run hD.pend.idle _ _ _ _).mono ?_; rintro e w2 ⟨rfl, hP, hK⟩; exact ⟨rfl, hP, hD.kept.trans hK (by intro i hi; exact .inl hi)⟩)); (intro K hK; go_simp; refine hK _ ?_; clear hK K))))
  (rintro w2 ⟨h1, h2⟩; go_wp2; go_returns; exact ⟨⟨_, rfl⟩, h1, h2⟩)
theorem st_counted_run (x l lo : Nat) (P T G who : Int) (p t v : Int) (sp lf : Bool) (w : World)  (hlo : lo ≤ w.heap.size) (hp : Pend w x who (stR l p sp lf (.pointer none) (.pointer none) t false) 274 .done) (hL : Lay w l P T G) :
    Calls Tryz.prog 345 #[.pointer (some ⟨x, 0, none⟩), .int .u64 v] w fun e w' => (∃ r, e = .returned r) ∧ (Pend w' x who (stR l p sp lf (.pointer none) (.pointer none) t false) 274 (.store (wordN 14) 1 367)) ∧ Kept [x] w w' := by
  have HI := hid (MI.start hp hL)
  have hf := hp.idle.frozen
  (have y0 := hp.idle.rest 0; have y1 := hp.idle.rest 1; have y2 := hp.idle.rest 2; have y3 := hp.idle.rest 3; have y4 := hp.idle.rest 4; have y5 := hp.idle.rest 5; have y6 := hp.idle.rest 6; have y7 := hp.idle.rest 7; simp only [stR, Nat.reduceAdd, Nat.zero_add, List.getElem?_cons_zero, List.getElem?_cons_succ] at y0 y1 y2 y3 y4 y5 y6 y7)
  clear hp hL
  go_enter Tryz.func345, Tryz.ntmps345
  go_wp2_with fail
  refine (st_needs_run x l P T G who p t sp lf _ HI.out.pend HI.out.lay).mono ?_
  rintro e w9 ⟨⟨r, rfl⟩, hy, hK⟩
  have HX := hid (And.intro hy (HI.out.kept.trans hK (by intro i hi; exact .inl hi)))
  clear HI hy hK
  go_wp2
  go_returns
  exact ⟨⟨_, rfl⟩, HX.out⟩
theorem st_puts1_run (x l : Nat) (P T G who : Int) (p t : Int) (sp : Bool) (w : World)  (hp : Pend w x who (stR l p sp true (.pointer none) (.pointer none) t false) 274 .done) (hL : Lay w l P T G) :
    Calls Tryz.prog 367 #[.pointer (some ⟨x, 0, none⟩)] w fun e w' => (∃ r, e = .returned r) ∧ Pend w' x who (stR l p sp true (.pointer none) (.pointer none) t false) 274 (.store (pr P p 0) 2 385) ∧ Kept [x] w w' := by
  have HI := hid (MI.start hp hL).drew
  have hf := hp.idle.frozen
  (have y0 := hp.idle.rest 0; have y1 := hp.idle.rest 1; have y2 := hp.idle.rest 2; have y3 := hp.idle.rest 3; have y4 := hp.idle.rest 4; have y5 := hp.idle.rest 5; have y6 := hp.idle.rest 6; have y7 := hp.idle.rest 7; simp only [stR, Nat.reduceAdd, Nat.zero_add, List.getElem?_cons_zero, List.getElem?_cons_succ] at y0 y1 y2 y3 y4 y5 y6 y7)
  clear hp hL
  go_enter Tryz.func367, Tryz.ntmps367
  go_wp2_with fail
  refine wp_region_T 14 (fun w' => MI w w' x who (stR l p sp true (.pointer none) (.pointer none) t false) 274 l P T G) (fun w' => Pend w' x who (stR l p sp true (.pointer none) (.pointer none) t false) 274 (.store (pr P p 0) 2 385) ∧ Kept [x] w w') (by kernel_rfl) (by kernel_rfl) rfl (by kernel_rfl) HI.out ?_
  clear HI
  (repeat (first | (apply walkD_pure; rfl; rfl; (intro _; go_simp; first | done | rfl); (intro K hK; go_simp; refine hK _ ?_; clear hK K)) | (apply walkD_skip; rfl; rfl; (intro K hK; go_simp; refine hK _ ?_; clear hK K)) | (apply walkD_read1 [false] (by kernel_rfl); rfl; rfl; (intro w' hD; (have y0 := hD.pend.idle.rest 0; have y1 := hD.pend.idle.rest 1; have y2 := hD.pend.idle.rest 2; have y3 := hD.pend.idle.rest 3; have y4 := hD.pend.idle.rest 4; have y5 := hD.pend.idle.rest 5; have y6 := hD.pend.idle.rest 6; have y7 := hD.pend.idle.rest 7; simp only [stR, Nat.reduceAdd, Nat.zero_add, List.getElem?_cons_zero, List.getElem?_cons_succ] at y0 y1 y2 y3 y4 y5 y6 y7); go_simp; rfl); (intro K hK; go_simp; refine hK _ ?_; clear hK K)) | (apply walkD_call1 [false] (by kernel_rfl); rfl; (intro _; go_simp; first | rfl | exact ⟨rfl, rfl⟩); (intro w' hD; first | (go_at_call 365; refine (word_run2 _ _ _).mono ?_; rintro e w2 ⟨rfl, rfl⟩; exact ⟨rfl, hD⟩) | (go_at_call 25; refine (proc_run _ _ _ _ _ _ _ hD.lay).mono ?_; rintro e w2 ⟨rfl, hb⟩; exact ⟨rfl, hD.quiet hb⟩) | (go_at_call 76; refine (thread_run _ _ _ _ _ _ _ hD.lay).mono ?_; rintro e w2 ⟨rfl, hb⟩; exact ⟨rfl, hD.quiet hb⟩) | (go_at_call 255; refine (ring_run _ _ _ _ _ _ (by assumption) _ hD.lay).mono ?_; rintro e w2 ⟨rfl, hb⟩; exact ⟨rfl, hD.quiet hb⟩) | (go_at_call 168; refine (g_run _ _ _ _ _ _ _ hD.lay).mono ?_; rintro e w2 ⟨rfl, hb⟩; exact ⟨rfl, hD.quiet hb⟩) | (go_at_call 133; refine (word_run _ 0 0 0 _ _).mono ?_; rintro e w2 ⟨rfl, rfl⟩; exact ⟨rfl, hD⟩) | (go_at_call 183; refine (iload_run hD.pend.idle _ _).mono ?_; rintro e w2 ⟨rfl, hP, hK⟩; exact ⟨rfl, hP, hD.kept.trans hK (by intro i hi; exact .inl hi)⟩) | (go_at_call 132; refine (iadd_run hD.pend.idle _ _ _).mono ?_; rintro e w2 ⟨rfl, hP, hK⟩; exact ⟨rfl, hP, hD.kept.trans hK (by intro i hi; exact .inl hi)⟩) | (go_at_call 188; refine (istore_run hD.pend.idle _ _ _).mono ?_; rintro e w2 ⟨rfl, hP, hK⟩; exact ⟨rfl, hP, hD.kept.trans hK (by intro i hi; exact .inl hi)⟩) | (go_at_call 166; refine (iswap_run hD.pend.idle _ _ _ _).mono ?_; rintro e w2 ⟨rfl, hP, hK⟩; exact ⟨rfl, hP, hD.kept.trans hK (by intro i hi; exact .inl hi)⟩)); (intro K hK; go_simp; refine hK _ ?_; clear hK K))))
  (rintro w2 ⟨h1, h2⟩; go_wp2; go_returns; exact ⟨⟨_, rfl⟩, h1, h2⟩)
theorem st_puts2_run (x l lo : Nat) (P T G who : Int) (p t : Int) (sp : Bool) (w : World)  (hlo : lo ≤ w.heap.size) (hp : Pend w x who (stR l p sp false (.pointer none) (.pointer none) t false) 274 .done) (hL : Lay w l P T G) :
    Calls Tryz.prog 367 #[.pointer (some ⟨x, 0, none⟩)] w fun e w' => (∃ r, e = .returned r) ∧ (∃ y, Pend2 w' x who (stR l p sp false (.pointer none) (.pointer (some ⟨y, 0, none⟩)) t false) 274 (.sub (ppS lo l P T G who p) y .a 386)) ∧ Kept [x] w w' := by
  have SW := hid (show (ppS lo l P T G who p).sys.want .a ≠ none by exact fun h => by cases h)
  have HI := hid (MI.drewS (N := w.heap.size) (MI.start hp hL) (by first | rfl | simp))
  have hf := hp.idle.frozen
  (have y0 := hp.idle.rest 0; have y1 := hp.idle.rest 1; have y2 := hp.idle.rest 2; have y3 := hp.idle.rest 3; have y4 := hp.idle.rest 4; have y5 := hp.idle.rest 5; have y6 := hp.idle.rest 6; have y7 := hp.idle.rest 7; simp only [stR, Nat.reduceAdd, Nat.zero_add, List.getElem?_cons_zero, List.getElem?_cons_succ] at y0 y1 y2 y3 y4 y5 y6 y7)
  clear hp hL
  go_enter Tryz.func367, Tryz.ntmps367
  go_wp2_with fail
  refine wp_region_D [13, 16] (tcl2 (fun w' => MI w w' x who (stR l p sp false (.pointer none) (.pointer none) t false) 274 l P T G ∧ w'.heap.size = w.heap.size) (fun w' => MI w w' x who (stR l p sp false (.pointer none) (.pointer none) t false) 274 l P T G ∧ (ppS lo l P T G who p).at_ w' w.heap.size .a) (fun w' => MI w w' x who (stR l p sp false (.pointer none) (.pointer (some ⟨w.heap.size, 0, none⟩)) t false) 274 l P T G ∧ (ppS lo l P T G who p).at_ w' w.heap.size .a)) (by kernel_rfl) (by kernel_rfl) rfl (by kernel_rfl) HI.out ?_
  clear HI
  repeat (first | (apply walkD_pure; rfl; rfl; (intro _; go_simp; first | done | rfl); (intro K hK; go_simp; refine hK _ ?_; clear hK K)) | (apply walkD_skip; rfl; rfl; (intro K hK; go_simp; refine hK _ ?_; clear hK K)) | (apply walkD_read1 [false, false] (by kernel_rfl); rfl; rfl; (intro w' hD; (have y0 := hD.1.pend.idle.rest 0; have y1 := hD.1.pend.idle.rest 1; have y2 := hD.1.pend.idle.rest 2; have y3 := hD.1.pend.idle.rest 3; have y4 := hD.1.pend.idle.rest 4; have y5 := hD.1.pend.idle.rest 5; have y6 := hD.1.pend.idle.rest 6; have y7 := hD.1.pend.idle.rest 7; simp only [stR, Nat.reduceAdd, Nat.zero_add, List.getElem?_cons_zero, List.getElem?_cons_succ] at y0 y1 y2 y3 y4 y5 y6 y7); go_simp; rfl); (intro K hK; go_simp; refine hK _ ?_; clear hK K)) | (apply walkD_call1 [false, false] (by kernel_rfl); rfl; (intro _; go_simp; first | rfl | exact ⟨rfl, rfl⟩); (intro w' hD; first | (go_at_call 222; refine (ifwho_run hD.1.pend).mono ?_; rintro e w2 ⟨rfl, rfl⟩; exact ⟨rfl, hD⟩) | (go_at_call 369; have q := pp_made lo l P T G who p w' hD.1.lay (by rw [hD.2]; exact hlo); rw [hD.2] at q; refine q.mono ?_; rintro e w2 ⟨rfl, hA, hb⟩; exact ⟨rfl, hD.1.quiet (by rw [hD.2]; exact hb), hA⟩)); (intro K hK; go_simp; refine hK _ ?_; clear hK K)) | (apply walkD_turn1 (v := undef) [true, false] (by kernel_rfl); rfl; (intro w' hD; (have y0 := hD.1.pend.idle.rest 0; have y1 := hD.1.pend.idle.rest 1; have y2 := hD.1.pend.idle.rest 2; have y3 := hD.1.pend.idle.rest 3; have y4 := hD.1.pend.idle.rest 4; have y5 := hD.1.pend.idle.rest 5; have y6 := hD.1.pend.idle.rest 6; have y7 := hD.1.pend.idle.rest 7; simp only [stR, Nat.reduceAdd, Nat.zero_add, List.getElem?_cons_zero, List.getElem?_cons_succ] at y0 y1 y2 y3 y4 y5 y6 y7); have yf := hD.1.pend.idle.frozen; unfold Go.Proofs.YtlhnnggceebpjaaGreat.Flag.opAt; go_simp; exact ⟨⟨hD.1.put (by decide) 5 _, sub_set (pp_sub lo l P T G who p) hD.2 hD.1.pend (of_decide_eq_true rfl) _ _⟩, rfl⟩); (intro K hK; go_simp; refine hK _ ?_; clear hK K)))
  rintro w4 ⟨h1, h2⟩
  obtain ⟨y, hy⟩ : ∃ y, y = w.heap.size := ⟨_, rfl⟩
  rw [← hy] at h1 h2 ⊢
  have HI2 := hid (And.intro h1.drew (SubOk.at_quiet (pp_sub lo l P T G who p) h2 (below_drewN (Below.refl _ _) 1)))
  have hf := h1.pend.idle.frozen
  clear h1 h2 hy
  go_wp2_with fail
  refine wp_region_T 10 (fun w' => MI w w' x who (stR l p sp false (.pointer none) (.pointer (some ⟨y, 0, none⟩)) t false) 274 l P T G ∧ (ppS lo l P T G who p).at_ w' y .a) (fun w' => Pend2 w' x who (stR l p sp false (.pointer none) (.pointer (some ⟨y, 0, none⟩)) t false) 274 (.sub (ppS lo l P T G who p) y .a 386) ∧ Kept [x] w w') (by kernel_rfl) (by kernel_rfl) rfl (by kernel_rfl) HI2.out ?_
  clear HI2
  repeat (first | (apply walkD_pure; rfl; rfl; (intro _; go_simp; first | done | rfl); (intro K hK; go_simp; refine hK _ ?_; clear hK K)) | (apply walkD_skip; rfl; rfl; (intro K hK; go_simp; refine hK _ ?_; clear hK K)) | (apply walkD_read1 [false] (by kernel_rfl); rfl; rfl; (intro w' hD; (have y0 := hD.1.pend.idle.rest 0; have y1 := hD.1.pend.idle.rest 1; have y2 := hD.1.pend.idle.rest 2; have y3 := hD.1.pend.idle.rest 3; have y4 := hD.1.pend.idle.rest 4; have y5 := hD.1.pend.idle.rest 5; have y6 := hD.1.pend.idle.rest 6; have y7 := hD.1.pend.idle.rest 7; simp only [stR, Nat.reduceAdd, Nat.zero_add, List.getElem?_cons_zero, List.getElem?_cons_succ] at y0 y1 y2 y3 y4 y5 y6 y7); go_simp; rfl); (intro K hK; go_simp; refine hK _ ?_; clear hK K)) | (apply walkD_call1 [false] (by kernel_rfl); rfl; (intro _; go_simp; first | rfl | exact ⟨rfl, rfl⟩); (intro w' hD; go_at_call 124; refine (irun_run (S := ppS lo l P T G who p) (pp_sub lo l P T G who p) hD.1.pend hD.2 SW.out (of_decide_eq_true rfl)).mono ?_; rintro e w2 ⟨rfl, h1, h2, h3⟩; exact ⟨rfl, ⟨h1, h2, SW.out⟩, hD.1.kept.trans h3 (by intro i hi; exact .inl hi)⟩); (intro K hK; go_simp; refine hK _ ?_; clear hK K)))
  rintro w3 ⟨h1, h2⟩
  go_wp2
  go_returns
  exact ⟨⟨_, rfl⟩, ⟨_, h1⟩, h2⟩
theorem st_leaves_run (x l lo : Nat) (P T G who : Int) (p t : Int) (sp lf gv : Bool) (gp pp : Value) (w : World)  (hlo : lo ≤ w.heap.size) (hp : Pend w x who (stR l p sp lf gp pp t gv) 274 .done) (hL : Lay w l P T G) :
    Calls Tryz.prog 386 #[.pointer (some ⟨x, 0, none⟩)] w fun e w' => (∃ r, e = .returned r) ∧ (∃ y, Pend2 w' x who (stR l p sp lf gp pp t gv) 274 (.sub (rlS lo l 0 P T G who) y .puts 384)) ∧ Kept [x] w w' := by
  have SW := hid (show (rlS lo l 0 P T G who).sys.want .puts ≠ none by exact fun h => by cases h)
  have HI0 := hid (MI.start hp hL)
  have HI := hid (MI.drewS (N := w.heap.size) HI0.out (by first | rfl | simp))
  clear HI0
  have hf := hp.idle.frozen
  (have y0 := hp.idle.rest 0; have y1 := hp.idle.rest 1; have y2 := hp.idle.rest 2; have y3 := hp.idle.rest 3; have y4 := hp.idle.rest 4; have y5 := hp.idle.rest 5; have y6 := hp.idle.rest 6; have y7 := hp.idle.rest 7; simp only [stR, Nat.reduceAdd, Nat.zero_add, List.getElem?_cons_zero, List.getElem?_cons_succ] at y0 y1 y2 y3 y4 y5 y6 y7)
  clear hp hL
  go_enter Tryz.func386, Tryz.ntmps386
  go_wp2_with fail
  refine wp_region_D [11, 15] (tcl2 (fun w' => MI w w' x who (stR l p sp lf gp pp t gv) 274 l P T G ∧ w'.heap.size = w.heap.size) (fun w' => MI w w' x who (stR l p sp lf gp pp t gv) 274 l P T G ∧ (rlS lo l 0 P T G who).at_ w' w.heap.size .puts) (fun w' => Pend2 w' x who (stR l p sp lf gp pp t gv) 274 (.sub (rlS lo l 0 P T G who) w.heap.size .puts 384) ∧ Kept [x] w w')) (by kernel_rfl) (by kernel_rfl) rfl (by kernel_rfl) HI.out ?_
  clear HI
  repeat (first | (apply walkD_pure; rfl; rfl; (intro _; go_simp; first | done | rfl); (intro K hK; go_simp; refine hK _ ?_; clear hK K)) | (apply walkD_skip; rfl; rfl; (intro K hK; go_simp; refine hK _ ?_; clear hK K)) | (apply walkD_read1 [false, false] (by kernel_rfl); rfl; rfl; (intro w' hD; (have y0 := hD.1.pend.idle.rest 0; have y1 := hD.1.pend.idle.rest 1; have y2 := hD.1.pend.idle.rest 2; have y3 := hD.1.pend.idle.rest 3; have y4 := hD.1.pend.idle.rest 4; have y5 := hD.1.pend.idle.rest 5; have y6 := hD.1.pend.idle.rest 6; have y7 := hD.1.pend.idle.rest 7; simp only [stR, Nat.reduceAdd, Nat.zero_add, List.getElem?_cons_zero, List.getElem?_cons_succ] at y0 y1 y2 y3 y4 y5 y6 y7); go_simp; rfl); (intro K hK; go_simp; refine hK _ ?_; clear hK K)) | (apply walkD_call1 [false, false] (by kernel_rfl); rfl; (intro _; go_simp; first | rfl | exact ⟨rfl, rfl⟩); (intro w' hD; first | (go_at_call 222; refine (ifwho_run hD.1.pend).mono ?_; rintro e w2 ⟨rfl, rfl⟩; exact ⟨rfl, hD⟩) | (go_at_call 308; have q := rl_made lo l 0 P T G who w' hD.1.lay (by rw [hD.2]; exact hlo); rw [hD.2] at q; refine q.mono ?_; rintro e w2 ⟨rfl, hA, hb⟩; exact ⟨rfl, hD.1.quiet (by rw [hD.2]; exact hb), hA⟩)); (intro K hK; go_simp; refine hK _ ?_; clear hK K)) | (apply walkD_call1 [true, false] (by kernel_rfl); rfl; (intro _; go_simp; first | rfl | exact ⟨rfl, rfl⟩); (intro w' hD; go_at_call 124; refine (irun_run (S := rlS lo l 0 P T G who) (rl_sub lo l 0 P T G who) hD.1.pend hD.2 SW.out (of_decide_eq_true rfl)).mono ?_; rintro e w2 ⟨rfl, h1, h2, h3⟩; exact ⟨rfl, ⟨h1, h2, SW.out⟩, hD.1.kept.trans h3 (by intro i hi; exact .inl hi)⟩); (intro K hK; go_simp; refine hK _ ?_; clear hK K)))
  rintro w2 ⟨h1, h2⟩
  go_wp2
  go_returns
  exact ⟨⟨_, rfl⟩, ⟨_, h1⟩, h2⟩
theorem st_gaveback_run (x l lo : Nat) (P T G who : Int) (p t : Int) (sp lf : Bool) (w : World)  (hlo : lo ≤ w.heap.size) (hp : Pend w x who (stR l p sp lf (.pointer none) (.pointer none) t false) 274 .done) (hL : Lay w l P T G) :
    Calls Tryz.prog 385 #[.pointer (some ⟨x, 0, none⟩)] w fun e w' => (∃ r, e = .returned r) ∧ (∃ y, Pend2 w' x who (stR l p sp lf (.pointer none) (.pointer none) t true) 274 (.sub (rlS lo l 0 P T G who) y .puts 384)) ∧ Kept [x] w w' := by
  have HI := hid ((MI.start hp hL).put (by decide) 7 (.bool true))
  have hf := hp.idle.frozen
  (have y0 := hp.idle.rest 0; have y1 := hp.idle.rest 1; have y2 := hp.idle.rest 2; have y3 := hp.idle.rest 3; have y4 := hp.idle.rest 4; have y5 := hp.idle.rest 5; have y6 := hp.idle.rest 6; have y7 := hp.idle.rest 7; simp only [stR, Nat.reduceAdd, Nat.zero_add, List.getElem?_cons_zero, List.getElem?_cons_succ] at y0 y1 y2 y3 y4 y5 y6 y7)
  clear hp hL
  go_enter Tryz.func385, Tryz.ntmps385
  go_wp2_with fail
  refine (st_leaves_run x l lo P T G who p t sp lf true (.pointer none) (.pointer none) _ (by simpa using hlo) HI.out.pend HI.out.lay).mono ?_
  rintro e w9 ⟨⟨r, rfl⟩, hy, hK⟩
  have HX := hid (And.intro hy (HI.out.kept.trans hK (by intro i hi; exact .inl hi)))
  clear HI hy hK
  go_wp2
  go_returns
  exact ⟨⟨_, rfl⟩, HX.out⟩
theorem st_got1_run (x l lo : Nat) (P T G who : Int) (p t : Int) (sp lf : Bool) (y : Nat) (s : Idlem.MgSt) (w : World) (hA : (mgS lo l P T G who).at_ w y s) (ht : s.t = t) (hn : t ≠ -1) (hlo : lo ≤ w.heap.size) (hp : Pend w x who (stR l p sp lf (.pointer (some ⟨y, 0, none⟩)) (.pointer none) (-1) false) 274 .done) (hL : Lay w l P T G) :
    Calls Tryz.prog 323 #[.pointer (some ⟨x, 0, none⟩)] w fun e w' => (∃ r, e = .returned r) ∧ (∃ y, Pend2 w' x who (stR l p sp lf (.pointer none) (.pointer none) t false) 274 (.sub (rlS lo l 0 P T G who) y .puts 344)) ∧ Kept [x] w w' := by
  have HG := hid (Idlem.mg_t_run hA)
  rw [ht] at HG
  have d1 : ((t : Int) != -1) = true := by simpa using hn
  clear hA ht hn
  have SW := hid (show (rlS lo l 0 P T G who).sys.want .puts ≠ none by exact fun h => by cases h)
  have HI0 := hid (((MI.start hp hL).put (by decide) 6 (.int .i64 t)).put (by decide) 4 (.pointer none))
  have HI := hid (MI.drewS (N := w.heap.size) HI0.out (by first | rfl | simp))
  clear HI0
  have hf := hp.idle.frozen
  (have y0 := hp.idle.rest 0; have y1 := hp.idle.rest 1; have y2 := hp.idle.rest 2; have y3 := hp.idle.rest 3; have y4 := hp.idle.rest 4; have y5 := hp.idle.rest 5; have y6 := hp.idle.rest 6; have y7 := hp.idle.rest 7; simp only [stR, Nat.reduceAdd, Nat.zero_add, List.getElem?_cons_zero, List.getElem?_cons_succ] at y0 y1 y2 y3 y4 y5 y6 y7)
  clear hp hL
  go_enter Tryz.func323, Tryz.ntmps323
  go_wp2_with (go_at_call 343; refine HG.out.mono ?_; rintro e w1 ⟨rfl, rfl⟩)
  refine wp_region_D [11, 15] (tcl2 (fun w' => MI w w' x who (stR l p sp lf (.pointer none) (.pointer none) t false) 274 l P T G ∧ w'.heap.size = w.heap.size) (fun w' => MI w w' x who (stR l p sp lf (.pointer none) (.pointer none) t false) 274 l P T G ∧ (rlS lo l 0 P T G who).at_ w' w.heap.size .puts) (fun w' => Pend2 w' x who (stR l p sp lf (.pointer none) (.pointer none) t false) 274 (.sub (rlS lo l 0 P T G who) w.heap.size .puts 344) ∧ Kept [x] w w')) (by kernel_rfl) (by kernel_rfl) rfl (by kernel_rfl) HI.out ?_
  clear HI
  repeat (first | (apply walkD_pure; rfl; rfl; (intro _; go_simp; first | done | rfl); (intro K hK; go_simp; refine hK _ ?_; clear hK K)) | (apply walkD_skip; rfl; rfl; (intro K hK; go_simp; refine hK _ ?_; clear hK K)) | (apply walkD_read1 [false, false] (by kernel_rfl); rfl; rfl; (intro w' hD; (have y0 := hD.1.pend.idle.rest 0; have y1 := hD.1.pend.idle.rest 1; have y2 := hD.1.pend.idle.rest 2; have y3 := hD.1.pend.idle.rest 3; have y4 := hD.1.pend.idle.rest 4; have y5 := hD.1.pend.idle.rest 5; have y6 := hD.1.pend.idle.rest 6; have y7 := hD.1.pend.idle.rest 7; simp only [stR, Nat.reduceAdd, Nat.zero_add, List.getElem?_cons_zero, List.getElem?_cons_succ] at y0 y1 y2 y3 y4 y5 y6 y7); go_simp; rfl); (intro K hK; go_simp; refine hK _ ?_; clear hK K)) | (apply walkD_call1 [false, false] (by kernel_rfl); rfl; (intro _; go_simp; first | rfl | exact ⟨rfl, rfl⟩); (intro w' hD; first | (go_at_call 222; refine (ifwho_run hD.1.pend).mono ?_; rintro e w2 ⟨rfl, rfl⟩; exact ⟨rfl, hD⟩) | (go_at_call 308; have q := rl_made lo l 0 P T G who w' hD.1.lay (by rw [hD.2]; exact hlo); rw [hD.2] at q; refine q.mono ?_; rintro e w2 ⟨rfl, hA, hb⟩; exact ⟨rfl, hD.1.quiet (by rw [hD.2]; exact hb), hA⟩)); (intro K hK; go_simp; refine hK _ ?_; clear hK K)) | (apply walkD_call1 [true, false] (by kernel_rfl); rfl; (intro _; go_simp; first | rfl | exact ⟨rfl, rfl⟩); (intro w' hD; go_at_call 124; refine (irun_run (S := rlS lo l 0 P T G who) (rl_sub lo l 0 P T G who) hD.1.pend hD.2 SW.out (of_decide_eq_true rfl)).mono ?_; rintro e w2 ⟨rfl, h1, h2, h3⟩; exact ⟨rfl, ⟨h1, h2, SW.out⟩, hD.1.kept.trans h3 (by intro i hi; exact .inl hi)⟩); (intro K hK; go_simp; refine hK _ ?_; clear hK K)))
  rintro w2 ⟨h1, h2⟩
  go_wp2
  go_returns
  exact ⟨⟨_, rfl⟩, ⟨_, h1⟩, h2⟩
theorem st_got2_run (x l : Nat) (P T G who : Int) (p : Int) (lf : Bool) (y : Nat) (lo : Nat) (s : Idlem.MgSt) (w : World) (hA : (mgS lo l P T G who).at_ w y s) (ht : s.t = -1) (hp : Pend w x who (stR l p true lf (.pointer (some ⟨y, 0, none⟩)) (.pointer none) (-1) false) 274 .done) (hL : Lay w l P T G) :
    Calls Tryz.prog 323 #[.pointer (some ⟨x, 0, none⟩)] w fun e w' => (∃ r, e = .returned r) ∧ Pend w' x who (stR l p true lf (.pointer none) (.pointer none) (-1) false) 274 (.add (wordN 13) 4294967295 345) ∧ Kept [x] w w' := by
  have HG := hid (Idlem.mg_t_run hA)
  rw [ht] at HG
  clear hA ht
  have HI := hid (((MI.start hp hL).put (by decide) 6 (.int .i64 (-1))).put (by decide) 4 (.pointer none)).drew
  have hf := hp.idle.frozen
  (have y0 := hp.idle.rest 0; have y1 := hp.idle.rest 1; have y2 := hp.idle.rest 2; have y3 := hp.idle.rest 3; have y4 := hp.idle.rest 4; have y5 := hp.idle.rest 5; have y6 := hp.idle.rest 6; have y7 := hp.idle.rest 7; simp only [stR, Nat.reduceAdd, Nat.zero_add, List.getElem?_cons_zero, List.getElem?_cons_succ] at y0 y1 y2 y3 y4 y5 y6 y7)
  clear hp hL
  go_enter Tryz.func323, Tryz.ntmps323
  go_wp2_with (go_at_call 343; refine HG.out.mono ?_; rintro e w1 ⟨rfl, rfl⟩)
  refine wp_region_T 10 (fun w' => MI w w' x who (stR l p true lf (.pointer none) (.pointer none) (-1) false) 274 l P T G) (fun w' => Pend w' x who (stR l p true lf (.pointer none) (.pointer none) (-1) false) 274 (.add (wordN 13) 4294967295 345) ∧ Kept [x] w w') (by kernel_rfl) (by kernel_rfl) rfl (by kernel_rfl) HI.out ?_
  clear HI
  (repeat (first | (apply walkD_pure; rfl; rfl; (intro _; go_simp; first | done | rfl); (intro K hK; go_simp; refine hK _ ?_; clear hK K)) | (apply walkD_skip; rfl; rfl; (intro K hK; go_simp; refine hK _ ?_; clear hK K)) | (apply walkD_read1 [false] (by kernel_rfl); rfl; rfl; (intro w' hD; (have y0 := hD.pend.idle.rest 0; have y1 := hD.pend.idle.rest 1; have y2 := hD.pend.idle.rest 2; have y3 := hD.pend.idle.rest 3; have y4 := hD.pend.idle.rest 4; have y5 := hD.pend.idle.rest 5; have y6 := hD.pend.idle.rest 6; have y7 := hD.pend.idle.rest 7; simp only [stR, Nat.reduceAdd, Nat.zero_add, List.getElem?_cons_zero, List.getElem?_cons_succ] at y0 y1 y2 y3 y4 y5 y6 y7); go_simp; rfl); (intro K hK; go_simp; refine hK _ ?_; clear hK K)) | (apply walkD_call1 [false] (by kernel_rfl); rfl; (intro _; go_simp; first | rfl | exact ⟨rfl, rfl⟩); (intro w' hD; first | (go_at_call 365; refine (word_run2 _ _ _).mono ?_; rintro e w2 ⟨rfl, rfl⟩; exact ⟨rfl, hD⟩) | (go_at_call 25; refine (proc_run _ _ _ _ _ _ _ hD.lay).mono ?_; rintro e w2 ⟨rfl, hb⟩; exact ⟨rfl, hD.quiet hb⟩) | (go_at_call 76; refine (thread_run _ _ _ _ _ _ _ hD.lay).mono ?_; rintro e w2 ⟨rfl, hb⟩; exact ⟨rfl, hD.quiet hb⟩) | (go_at_call 255; refine (ring_run _ _ _ _ _ _ (by assumption) _ hD.lay).mono ?_; rintro e w2 ⟨rfl, hb⟩; exact ⟨rfl, hD.quiet hb⟩) | (go_at_call 168; refine (g_run _ _ _ _ _ _ _ hD.lay).mono ?_; rintro e w2 ⟨rfl, hb⟩; exact ⟨rfl, hD.quiet hb⟩) | (go_at_call 133; refine (word_run _ 0 0 0 _ _).mono ?_; rintro e w2 ⟨rfl, rfl⟩; exact ⟨rfl, hD⟩) | (go_at_call 183; refine (iload_run hD.pend.idle _ _).mono ?_; rintro e w2 ⟨rfl, hP, hK⟩; exact ⟨rfl, hP, hD.kept.trans hK (by intro i hi; exact .inl hi)⟩) | (go_at_call 132; refine (iadd_run hD.pend.idle _ _ _).mono ?_; rintro e w2 ⟨rfl, hP, hK⟩; exact ⟨rfl, hP, hD.kept.trans hK (by intro i hi; exact .inl hi)⟩) | (go_at_call 188; refine (istore_run hD.pend.idle _ _ _).mono ?_; rintro e w2 ⟨rfl, hP, hK⟩; exact ⟨rfl, hP, hD.kept.trans hK (by intro i hi; exact .inl hi)⟩) | (go_at_call 166; refine (iswap_run hD.pend.idle _ _ _ _).mono ?_; rintro e w2 ⟨rfl, hP, hK⟩; exact ⟨rfl, hP, hD.kept.trans hK (by intro i hi; exact .inl hi)⟩)); (intro K hK; go_simp; refine hK _ ?_; clear hK K))))
  (rintro w2 ⟨h1, h2⟩; go_wp2; go_returns; exact ⟨⟨_, rfl⟩, h1, h2⟩)
theorem st_got3_run (x l lo : Nat) (P T G who : Int) (p : Int) (lf : Bool) (y : Nat) (s : Idlem.MgSt) (w : World) (hA : (mgS lo l P T G who).at_ w y s) (ht : s.t = -1) (hlo : lo ≤ w.heap.size) (hp : Pend w x who (stR l p false lf (.pointer (some ⟨y, 0, none⟩)) (.pointer none) (-1) false) 274 .done) (hL : Lay w l P T G) :
    Calls Tryz.prog 323 #[.pointer (some ⟨x, 0, none⟩)] w fun e w' => (∃ r, e = .returned r) ∧ (Pend w' x who (stR l p false lf (.pointer none) (.pointer none) (-1) false) 274 (.store (wordN 14) 1 367)) ∧ Kept [x] w w' := by
  have HG := hid (Idlem.mg_t_run hA)
  rw [ht] at HG
  clear hA ht
  have HI := hid (((MI.start hp hL).put (by decide) 6 (.int .i64 (-1))).put (by decide) 4 (.pointer none))
  have hf := hp.idle.frozen
  (have y0 := hp.idle.rest 0; have y1 := hp.idle.rest 1; have y2 := hp.idle.rest 2; have y3 := hp.idle.rest 3; have y4 := hp.idle.rest 4; have y5 := hp.idle.rest 5; have y6 := hp.idle.rest 6; have y7 := hp.idle.rest 7; simp only [stR, Nat.reduceAdd, Nat.zero_add, List.getElem?_cons_zero, List.getElem?_cons_succ] at y0 y1 y2 y3 y4 y5 y6 y7)
  clear hp hL
  go_enter Tryz.func323, Tryz.ntmps323
  go_wp2_with (go_at_call 343; refine HG.out.mono ?_; rintro e w1 ⟨rfl, rfl⟩)
  refine (st_needs_run x l P T G who p (-1) false lf _ HI.out.pend HI.out.lay).mono ?_
  rintro e w9 ⟨⟨r, rfl⟩, hy, hK⟩
  have HX := hid (And.intro hy (HI.out.kept.trans hK (by intro i hi; exact .inl hi)))
  clear HI hy hK
  go_wp2
  go_returns
  exact ⟨⟨_, rfl⟩, HX.out⟩
theorem st_new_run (l lo : Nat) (P T G who : Int) (p : Int) (sp lf : Bool) (w : World) (hT : 0 ≤ T ∧ T ≤ 1000) (hlo : lo ≤ w.heap.size) (hL : Lay w l P T G) :
    Calls Tryz.prog 299 #[.pointer (some ⟨l, 0, none⟩), .int .i64 who, .int .i64 p, .bool sp, .bool lf] w fun e w' => e = .returned (.pointer (some ⟨w.heap.size, 0, none⟩)) ∧ (∃ y, Pend2 w' w.heap.size who (stR l p sp lf (.pointer (some ⟨y, 0, none⟩)) (.pointer none) (-1) false) 274 (.sub (mgS lo l P T G who) y .h 323)) ∧ Below w.heap.size w w' := by
  have h0 : FlAt (w.alloc (.cells (fl fl0 ++ stR l p sp lf (.pointer none) (.pointer none) (-1) false).toArray 274)) w.heap.size fl0 (stR l p sp lf (.pointer none) (.pointer none) (-1) false) 274 := Blk.new w _ _
  have hL0 := hL.quiet (below_one w (.cells (fl fl0 ++ stR l p sp lf (.pointer none) (.pointer none) (-1) false).toArray 274))
  have hlx : l ≠ w.heap.size := Nat.ne_of_lt hL.1.lt
  clear hL
  have SW := hid (show (mgS lo l P T G who).sys.want .h ≠ none by exact fun h => by cases h)
  go_enter Tryz.func299, Tryz.ntmps299
  go_wp2_with fail
  refine (iof_run h0 who).mono ?_
  rintro e wB ⟨rfl, hp, hK⟩
  have hL1 := hL0.kept hK (by simpa using hlx)
  have hlow : Below w.heap.size w wB := (below_one _ _).trans (hK.below (by simp) (by simp))
  have hlo := Nat.le_trans hlo hlow.size
  clear h0 hL0 hK
  obtain ⟨x0, hx0⟩ : ∃ x0, x0 = w.heap.size := ⟨_, rfl⟩
  rw [← hx0] at hp hlow ⊢
  have HX0 := hid hx0
  clear hx0
  have HP := hid (And.intro hp hL1)
  clear hp hL1
  go_wp2_with fail
  refine (mg_made lo l P T G who wB HP.out.2 hlo).mono ?_
  rintro e w2 ⟨rfl, hA, hb⟩
  obtain ⟨y, hy⟩ : ∃ y, y = wB.heap.size := ⟨_, rfl⟩
  rw [← hy] at hA ⊢
  have HM := hid ((MI.start HP.out.1 HP.out.2).quiet hb)
  clear hb hy
  have hq : Below w2.heap.size w2 w2 := Below.refl _ _
  have HI2 := hid (And.intro (show MI wB (w2.setCell ⟨x0, 13, none⟩ (.pointer (some ⟨y, 0, none⟩))).drew x0 who (stR l p sp lf (.pointer (some ⟨y, 0, none⟩)) (.pointer none) (-1) false) 274 l P T G from (HM.out.put (by decide) 4 (.pointer (some ⟨y, 0, none⟩))).drew) (SubOk.at_quiet (mg_sub lo l P T G who hT) (sub_set (mg_sub lo l P T G who hT) hA HM.out.pend (of_decide_eq_true rfl) 13 (.pointer (some ⟨y, 0, none⟩))) (below_drewN (Below.refl _ _) 1)))
  have hf := HM.out.pend.idle.frozen
  have z := HM.out.pend.idle.rest 4
  simp only [stR, Nat.reduceAdd, Nat.zero_add, List.getElem?_cons_zero, List.getElem?_cons_succ] at z
  clear HM HP hA hq
  go_wp2_with fail
  refine wp_region_T 10 (fun w' => MI wB w' x0 who (stR l p sp lf (.pointer (some ⟨y, 0, none⟩)) (.pointer none) (-1) false) 274 l P T G ∧ (mgS lo l P T G who).at_ w' y .h) (fun w' => Pend2 w' x0 who (stR l p sp lf (.pointer (some ⟨y, 0, none⟩)) (.pointer none) (-1) false) 274 (.sub (mgS lo l P T G who) y .h 323) ∧ Kept [x0] wB w') (by kernel_rfl) (by kernel_rfl) rfl (by kernel_rfl) HI2.out ?_
  clear HI2
  repeat (first | (apply walkD_pure; rfl; rfl; (intro _; go_simp; first | done | rfl); (intro K hK; go_simp; refine hK _ ?_; clear hK K)) | (apply walkD_skip; rfl; rfl; (intro K hK; go_simp; refine hK _ ?_; clear hK K)) | (apply walkD_read1 [false] (by kernel_rfl); rfl; rfl; (intro w' hD; (have y0 := hD.1.pend.idle.rest 0; have y1 := hD.1.pend.idle.rest 1; have y2 := hD.1.pend.idle.rest 2; have y3 := hD.1.pend.idle.rest 3; have y4 := hD.1.pend.idle.rest 4; have y5 := hD.1.pend.idle.rest 5; have y6 := hD.1.pend.idle.rest 6; have y7 := hD.1.pend.idle.rest 7; simp only [stR, Nat.reduceAdd, Nat.zero_add, List.getElem?_cons_zero, List.getElem?_cons_succ] at y0 y1 y2 y3 y4 y5 y6 y7); go_simp; rfl); (intro K hK; go_simp; refine hK _ ?_; clear hK K)) | (apply walkD_call1 [false] (by kernel_rfl); rfl; (intro _; go_simp; first | rfl | exact ⟨rfl, rfl⟩); (intro w' hD; go_at_call 124; refine (irun_run (S := mgS lo l P T G who) (mg_sub lo l P T G who hT) hD.1.pend hD.2 SW.out (of_decide_eq_true rfl)).mono ?_; rintro e w2 ⟨rfl, h1, h2, h3⟩; exact ⟨rfl, ⟨h1, h2, SW.out⟩, hD.1.kept.trans h3 (by intro i hi; exact .inl hi)⟩); (intro K hK; go_simp; refine hK _ ?_; clear hK K)))
  rintro w3 ⟨h1, h2⟩
  go_wp2
  obtain rfl := HX0.out
  go_ret
  exact ⟨rfl, ⟨_, h1⟩, hlow.trans (h2.below (by simp) hlow.size)⟩
theorem ststep_nil (m : Option Addr) (w : World) : Calls Tryz.prog 436 #[.pointer none, .pointer m] w fun e w' => e = .returned (.bool true) ∧ w = w' := by
  go_enter Tryz.func436, Tryz.ntmps436
  go_wp2
  go_ret
  exact ⟨rfl, rfl⟩
theorem st_step : StepOf 208 436 := ⟨fun y w => rfl, enters_of Tryz.func436 (by kernel_rfl) rfl⟩
theorem st_quiet : NoSleeper 208 := fun y w => run_typeAssert_lacksB Tryz.underlying265 (by kernel_rfl) (by kernel_rfl) _ _ w
theorem st_thru : Thru 436 := by
  intro x m o w R H
  have H := hid H
  go_enter Tryz.func436, Tryz.ntmps436
  go_wp2_with fail
  refine H.out.mono ?_
  rintro e w1 ⟨rfl, h1⟩
  have HX := hid h1
  clear h1
  go_wp2
  go_ret
  exact ⟨rfl, HX.out⟩
theorem st_ends_run (x : Value) (w : World) : Calls Tryz.prog 384 #[x] w fun e w' => (∃ r, e = .returned r) ∧ w = w' := by
  go_enter Tryz.func384, Tryz.ntmps384
  go_wp2
  go_returns
  exact ⟨⟨_, rfl⟩, rfl⟩
theorem st_own (lo l : Nat) (P T G who p : Int) (sp lf : Bool) : ∀ Ty ∈ rdT (stM lo l P T G who p sp lf).wr, Ty ∉ theirs := by
  show ∀ Ty ∈ rdT [274, 333, 331, 339, 276], Ty ∉ theirs
  decide
theorem st_inT : ∀ T ∈ rdT [276], T ∈ rdT [274, 333, 331, 339, 276] ∧ T ≠ 274 := by decide
theorem st_goes (lo l x : Nat) (P T G who p : Int) (sp lf : Bool) (hT : 0 ≤ T ∧ T ≤ 1000) : Goes2 (stM lo l P T G who p sp lf) lo l x P T G who := by
  refine ⟨st_own lo l P T G who p sp lf, by simp [stM], by show 1 ∉ [274, 333, 331, 339, 276] ∧ 204 ∉ [274, 333, 331, 339, 276] ∧ 214 ∉ [274, 333, 331, 339, 276]; decide, ?_, ?_, ?_, ?_, ?_⟩
  · intro st T hT
    cases st with
    | out s => exact st_inT T hT
    | fin2 => exact st_inT T hT
    | _ => exact absurd (show T ∈ [] from hT) (by simp)
  · intro st a hok ha
    show stOk lf (stNext P T p sp lf st a)
    cases st with
    | get s => unfold stNext runs stGot; simp only; (repeat' split) <;> trivial
    | rel t s => unfold stNext runs; simp only; (repeat' split) <;> trivial
    | gv t => trivial
    | wk t s => unfold stNext runs; simp only; (repeat' split) <;> trivial
    | cnt => trivial
    | nd => cases lf <;> exact rfl
    | gb => trivial
    | put s => unfold stNext runs; simp only; split; trivial; exact hok
    | out s => unfold stNext runs; simp only; (repeat' split) <;> trivial
    | fin1 t => trivial
    | fin2 => trivial
  · intro st e
    cases st <;> rfl
  · intro st e w w' Z hi hk hZ
    cases st with
    | out s => exact fun hl => (pp_sub lo l P T G who p).kept (hi hl) hk hZ
    | fin2 => exact fun hl => (pp_sub lo l P T G who p).kept (hi hl) hk hZ
    | _ => trivial
  · intro st e hok
    cases st with
    | get s =>
      refine ⟨mg_sub lo l P T G who hT, ?_, enters_of Tryz.func323 (by kernel_rfl) rfl, ?_⟩
      · show ∀ T ∈ [333], T ∈ [274, 333, 331, 339, 276] ∧ T ≠ 274 ∧ T ∉ []
        decide
      intro a ha
      refine ⟨?_, ?_⟩
      · intro hn
        have e1 : stNext P T p sp lf (.get s) a = .get (Idlem.mgNext T s a) := runs_on (M := mgY P T) (k := stGot sp) (emb := StSt.get) (s := Idlem.mgNext T s a) hn
        refine ⟨?_, ?_, fun _ _ => ?_⟩
        · show (stM lo l P T G who p sp lf).nx (stNext P T p sp lf (.get s) a) e = _
          rw [e1]; rfl
        · show (stM lo l P T G who p sp lf).rest (stNext P T p sp lf (.get s) a) e = _
          rw [e1]; rfl
        · show (stM lo l P T G who p sp lf).inv (stNext P T p sp lf (.get s) a) e _
          rw [e1]; trivial
      · intro hn w hlo hp hA hi hL
        have e1 : stNext P T p sp lf (.get s) a = stGot sp (Idlem.mgNext T s a) := runs_off (M := mgY P T) (k := stGot sp) (emb := StSt.get) (s := Idlem.mgNext T s a) hn
        by_cases ht : (Idlem.mgNext T s a).t = -1
        · cases sp with
          | true =>
            have e2 : stGot true (Idlem.mgNext T s a) = .cnt := by unfold stGot; rw [if_pos ht]; rfl
            refine (st_got2_run x l P T G who p lf e.1 lo (Idlem.mgNext T s a) w hA ht hp hL).mono ?_
            rintro e3 w' ⟨he, h1, h2⟩
            refine ⟨he, ⟨e, ?_⟩, h2⟩
            show (stM lo l P T G who p true lf).is_ x who w' (stNext P T p true lf (.get s) a) e
            rw [e1, e2]
            exact ⟨h1, trivial⟩
          | false =>
            have e2 : stGot false (Idlem.mgNext T s a) = .nd := by unfold stGot; rw [if_pos ht]; rfl
            refine (st_got3_run x l lo P T G who p lf e.1 (Idlem.mgNext T s a) w hA ht hlo hp hL).mono ?_
            rintro e3 w' ⟨he, h1, h2⟩
            refine ⟨he, ⟨e, ?_⟩, h2⟩
            show (stM lo l P T G who p false lf).is_ x who w' (stNext P T p false lf (.get s) a) e
            rw [e1, e2]
            exact ⟨h1, trivial⟩
        · have e2 : stGot sp (Idlem.mgNext T s a) = .rel (Idlem.mgNext T s a).t .puts := if_neg ht
          refine (st_got1_run x l lo P T G who p (Idlem.mgNext T s a).t sp lf e.1 (Idlem.mgNext T s a) w hA rfl ht hlo hp hL).mono ?_
          rintro e3 w' ⟨he, ⟨y, h1⟩, h2⟩
          refine ⟨he, ⟨(y, 0), ?_⟩, h2⟩
          show (stM lo l P T G who p sp lf).is_ x who w' (stNext P T p sp lf (.get s) a) (y, 0)
          rw [e1, e2]
          exact ⟨h1, trivial⟩
    | rel t s =>
      refine ⟨rl_sub lo l 0 P T G who, ?_, enters_of Tryz.func344 (by kernel_rfl) rfl, ?_⟩
      · show ∀ T ∈ [331], T ∈ [274, 333, 331, 339, 276] ∧ T ≠ 274 ∧ T ∉ []
        decide
      intro a ha
      refine ⟨?_, ?_⟩
      · intro hn
        have e1 : stNext P T p sp lf (.rel t s) a = .rel t (rlNext s a) := runs_on (M := rl0) (k := fun _ => StSt.gv t) (emb := StSt.rel t) (s := rlNext s a) hn
        refine ⟨?_, ?_, fun _ _ => ?_⟩
        · show (stM lo l P T G who p sp lf).nx (stNext P T p sp lf (.rel t s) a) e = _
          rw [e1]; rfl
        · show (stM lo l P T G who p sp lf).rest (stNext P T p sp lf (.rel t s) a) e = _
          rw [e1]; rfl
        · show (stM lo l P T G who p sp lf).inv (stNext P T p sp lf (.rel t s) a) e _
          rw [e1]; trivial
      · intro hn w hlo hp hA hi hL
        have e1 : stNext P T p sp lf (.rel t s) a = .gv t := runs_off (M := rl0) (k := fun _ => StSt.gv t) (emb := StSt.rel t) (s := rlNext s a) hn
        refine (st_gives_run x l P T G who p t sp lf w hp hL).mono ?_
        rintro e3 w' ⟨he, h1, h2⟩
        refine ⟨he, ⟨e, ?_⟩, h2⟩
        show (stM lo l P T G who p sp lf).is_ x who w' (stNext P T p sp lf (.rel t s) a) e
        rw [e1]
        exact ⟨h1, trivial⟩
    | gv t =>
      refine .inr ⟨wkw_range p sp, enters_of Tryz.func366 (by kernel_rfl) rfl, ?_⟩
      intro a w ha hlo hp hi hL
      refine (st_wakes_run x l lo P T G who p t sp lf w hlo hp hL).mono ?_
      rintro e3 w' ⟨he, ⟨y, h1⟩, h2⟩
      exact ⟨he, ⟨(y, 0), h1, trivial⟩, h2⟩
    | wk t s =>
      refine ⟨wk_sub lo l (th P T t 0) P T G who, ?_, enters_of Tryz.func384 (by kernel_rfl) rfl, ?_⟩
      · show ∀ T ∈ [339], T ∈ [274, 333, 331, 339, 276] ∧ T ≠ 274 ∧ T ∉ []
        decide
      intro a ha
      refine ⟨?_, ?_⟩
      · intro hn
        exact absurd (show (wkY (th P T t 0)).want true = none from rfl) hn
      · intro hn w hlo hp hA hi hL
        refine (st_ends_run _ w).mono ?_
        rintro e3 w' ⟨he, rfl⟩
        exact ⟨he, ⟨e, hp, trivial⟩, Kept.refl _ _⟩
    | cnt =>
      refine .inr ⟨by show (0 : Int) ≤ 4294967295 ∧ (4294967295 : Int) < 18446744073709551616; omega, enters_of Tryz.func345 (by kernel_rfl) rfl, ?_⟩
      intro a w ha hlo hp hi hL
      refine (st_counted_run x l lo P T G who p (-1) a sp lf w hlo hp hL).mono ?_
      rintro e3 w' ⟨he, h1, h2⟩
      exact ⟨he, ⟨e, h1, trivial⟩, h2⟩
    | nd =>
      refine .inr ⟨by show (0 : Int) ≤ 1 ∧ (1 : Int) < 18446744073709551616; omega, enters_of Tryz.func367 (by kernel_rfl) rfl, ?_⟩
      intro a w ha hlo hp hi hL
      cases lf with
      | true =>
        refine (st_puts1_run x l P T G who p (-1) sp w hp hL).mono ?_
        rintro e3 w' ⟨he, h1, h2⟩
        exact ⟨he, ⟨e, h1, trivial⟩, h2⟩
      | false =>
        refine (st_puts2_run x l lo P T G who p (-1) sp w hlo hp hL).mono ?_
        rintro e3 w' ⟨he, ⟨y, h1⟩, h2⟩
        exact ⟨he, ⟨(y, 0), h1, trivial⟩, h2⟩
    | gb =>
      have hl : lf = true := hok
      subst hl
      refine .inr ⟨by show (0 : Int) ≤ 2 ∧ (2 : Int) < 18446744073709551616; omega, enters_of Tryz.func385 (by kernel_rfl) rfl, ?_⟩
      intro a w ha hlo hp hi hL
      refine (st_gaveback_run x l lo P T G who p (-1) sp true w hlo hp hL).mono ?_
      rintro e3 w' ⟨he, ⟨y, h1⟩, h2⟩
      exact ⟨he, ⟨(y, 0), h1, fun h => by cases h⟩, h2⟩
    | put s =>
      have hl : lf = false := hok
      subst hl
      refine ⟨pp_sub lo l P T G who p, ?_, enters_of Tryz.func386 (by kernel_rfl) rfl, ?_⟩
      · show ∀ T ∈ [276], T ∈ [274, 333, 331, 339, 276] ∧ T ≠ 274 ∧ T ∉ []
        decide
      intro a ha
      refine ⟨?_, ?_⟩
      · intro hn
        have e1 : stNext P T p sp false (.put s) a = .put (Idlep.ppNext s a) := runs_on (M := ppY P p) (k := fun _ => StSt.out .puts) (emb := StSt.put) (s := Idlep.ppNext s a) hn
        refine ⟨?_, ?_, fun _ _ => ?_⟩
        · show (stM lo l P T G who p sp false).nx (stNext P T p sp false (.put s) a) e = _
          rw [e1]; rfl
        · show (stM lo l P T G who p sp false).rest (stNext P T p sp false (.put s) a) e = _
          rw [e1]; rfl
        · show (stM lo l P T G who p sp false).inv (stNext P T p sp false (.put s) a) e _
          rw [e1]; trivial
      · intro hn w hlo hp hA hi hL
        have e1 : stNext P T p sp false (.put s) a = .out .puts := runs_off (M := ppY P p) (k := fun _ => StSt.out .puts) (emb := StSt.put) (s := Idlep.ppNext s a) hn
        have hd : Idlep.ppNext s a = .done := by
          cases s <;> first | rfl | (exact absurd hn (fun h => by cases h))
        have hA : (ppS lo l P T G who p).at_ w e.1 .done := by rw [← hd]; exact hA
        refine (st_leaves_run x l lo P T G who p (-1) sp false false (.pointer none) (.pointer (some ⟨e.1, 0, none⟩)) w hlo hp hL).mono ?_
        rintro e3 w' ⟨he, ⟨y, h1⟩, h2⟩
        refine ⟨he, ⟨(y, e.1), ?_⟩, h2⟩
        show (stM lo l P T G who p sp false).is_ x who w' (stNext P T p sp false (.put s) a) (y, e.1)
        rw [e1]
        refine ⟨h1, fun _ => (pp_sub lo l P T G who p).kept hA h2 ?_⟩
        intro i hi
        simp at hi
        subst hi
        obtain ⟨cs, hb⟩ := hp.blk
        exact not_of hb (by show 274 ∉ rdT [276]; decide)
    | out s =>
      refine ⟨rl_sub lo l 0 P T G who, ?_, enters_of Tryz.func384 (by kernel_rfl) rfl, ?_⟩
      · show ∀ T ∈ [331], T ∈ [274, 333, 331, 339, 276] ∧ T ≠ 274 ∧ T ∉ rdT [276]
        decide
      intro a ha
      refine ⟨?_, ?_⟩
      · intro hn
        have e1 : stNext P T p sp lf (.out s) a = .out (rlNext s a) := runs_on (M := rl0) (k := fun _ => StSt.fin2) (emb := StSt.out) (s := rlNext s a) hn
        refine ⟨?_, ?_, fun _ h => ?_⟩
        · show (stM lo l P T G who p sp lf).nx (stNext P T p sp lf (.out s) a) e = _
          rw [e1]; rfl
        · show (stM lo l P T G who p sp lf).rest (stNext P T p sp lf (.out s) a) e = _
          rw [e1]; rfl
        · show (stM lo l P T G who p sp lf).inv (stNext P T p sp lf (.out s) a) e _
          rw [e1]; exact h
      · intro hn w hlo hp hA hi hL
        have e1 : stNext P T p sp lf (.out s) a = .fin2 := runs_off (M := rl0) (k := fun _ => StSt.fin2) (emb := StSt.out) (s := rlNext s a) hn
        refine (st_ends_run _ w).mono ?_
        rintro e3 w' ⟨he, rfl⟩
        refine ⟨he, ⟨e, ?_⟩, Kept.refl _ _⟩
        show (stM lo l P T G who p sp lf).is_ x who w (stNext P T p sp lf (.out s) a) e
        rw [e1]
        exact ⟨hp, hi⟩
    | fin1 t => exact .inl rfl
    | fin2 => exact .inl rfl
def stS (lo l : Nat) (P T G who p : Int) (sp lf : Bool) : Subm StSt := (stM lo l P T G who p sp lf).sub 208 436 lo l P T G who
theorem st_sub (lo l : Nat) (P T G who p : Int) (sp lf : Bool) (hT : 0 ≤ T ∧ T ≤ 1000) : SubOk (stS lo l P T G who p sp lf) lo who := m2_sub st_step st_quiet st_thru (fun y _ => st_goes lo l y P T G who p sp lf hT) (st_own lo l P T G who p sp lf)
theorem st_made (lo l : Nat) (P T G who p : Int) (sp lf : Bool) (w : World) (hT : 0 ≤ T ∧ T ≤ 1000) (hL : Lay w l P T G) (hlo : lo ≤ w.heap.size) :
    Calls Tryz.prog 299 #[.pointer (some ⟨l, 0, none⟩), .int .i64 who, .int .i64 p, .bool sp, .bool lf] w fun e w' => e = .returned (.pointer (some ⟨w.heap.size, 0, none⟩)) ∧ (stS lo l P T G who p sp lf).at_ w' w.heap.size (.get .h) ∧ Below w.heap.size w w' := by
  refine (st_new_run l lo P T G who p sp lf w hT hlo hL).mono ?_
  rintro e w' ⟨rfl, ⟨y, h1⟩, h2⟩
  exact ⟨rfl, ⟨⟨(y, 0), h1, trivial⟩, hlo, hL.quiet h2, trivial⟩, h2⟩
theorem st_h_run {lo l x : Nat} {P T G who p : Int} {sp lf : Bool} {st : StSt} {w : World} (hA : (stM lo l P T G who p sp lf).at_ lo l x P T G who w st) :
    Calls Tryz.prog 173 #[.pointer (some ⟨x, 0, none⟩)] w fun e w' => e = .returned (.int .i64 (stH p st)) ∧ w = w' := by
  obtain ⟨⟨e, hp, hi⟩, _, _, hok⟩ := hA
  have y1 := hp.rest_ 1
  have y5 := hp.rest_ 5
  have y7 := hp.rest_ 7
  cases st with
  | get s => simp only [stM, stRest, stR, Nat.reduceAdd, List.getElem?_cons_zero, List.getElem?_cons_succ] at y1 y5 y7; (clear hp hi hok; go_enter Tryz.func173, Tryz.ntmps173; go_wp2; go_ret; exact ⟨rfl, rfl⟩)
  | rel t s => simp only [stM, stRest, stR, Nat.reduceAdd, List.getElem?_cons_zero, List.getElem?_cons_succ] at y1 y5 y7; (clear hp hi hok; go_enter Tryz.func173, Tryz.ntmps173; go_wp2; go_ret; exact ⟨rfl, rfl⟩)
  | gv t => simp only [stM, stRest, stR, Nat.reduceAdd, List.getElem?_cons_zero, List.getElem?_cons_succ] at y1 y5 y7; (clear hp hi hok; go_enter Tryz.func173, Tryz.ntmps173; go_wp2; go_ret; exact ⟨rfl, rfl⟩)
  | wk t s => simp only [stM, stRest, stR, Nat.reduceAdd, List.getElem?_cons_zero, List.getElem?_cons_succ] at y1 y5 y7; (clear hp hi hok; go_enter Tryz.func173, Tryz.ntmps173; go_wp2; go_ret; exact ⟨rfl, rfl⟩)
  | cnt => simp only [stM, stRest, stR, Nat.reduceAdd, List.getElem?_cons_zero, List.getElem?_cons_succ] at y1 y5 y7; (clear hp hi hok; go_enter Tryz.func173, Tryz.ntmps173; go_wp2; go_ret; exact ⟨rfl, rfl⟩)
  | nd => simp only [stM, stRest, stR, Nat.reduceAdd, List.getElem?_cons_zero, List.getElem?_cons_succ] at y1 y5 y7; (clear hp hi hok; go_enter Tryz.func173, Tryz.ntmps173; go_wp2; go_ret; exact ⟨rfl, rfl⟩)
  | gb => simp only [stM, stRest, stR, Nat.reduceAdd, List.getElem?_cons_zero, List.getElem?_cons_succ] at y1 y5 y7; (clear hp hi hok; go_enter Tryz.func173, Tryz.ntmps173; go_wp2; go_ret; exact ⟨rfl, rfl⟩)
  | put s =>
    have hq : (ppS lo l P T G who p).at_ w e.1 s := hp.2.1
    simp only [stM, stRest, stR, Nat.reduceAdd, List.getElem?_cons_zero, List.getElem?_cons_succ] at y1 y5 y7
    have HG := hid (Idlep.pp_h_run hq)
    generalize hq2 : Idlep.PpSt.h p _ = q at HG
    have HQ := hid hq2.symm
    clear hp hi hok hq hq2
    go_enter Tryz.func173, Tryz.ntmps173
    go_wp2_with fail
    refine HG.out.mono ?_
    rintro e1 w1 ⟨rfl, rfl⟩
    go_wp2
    go_ret
    exact ⟨by rw [HQ.out]; rfl, rfl⟩
  | out s =>
    cases lf with
    | true => simp only [stM, stRest, stR, Nat.reduceAdd, List.getElem?_cons_zero, List.getElem?_cons_succ, if_true] at y1 y5 y7; (clear hp hi hok; go_enter Tryz.func173, Tryz.ntmps173; go_wp2; go_ret; exact ⟨rfl, rfl⟩)
    | false =>
      have hq : (ppS lo l P T G who p).at_ w e.2 .done := hi rfl
      simp only [stM, stRest, stR, Nat.reduceAdd, List.getElem?_cons_zero, List.getElem?_cons_succ, Bool.false_eq_true, if_false] at y1 y5 y7
      have HG := hid (Idlep.pp_h_run hq)
      generalize hq2 : Idlep.PpSt.h p _ = q at HG
      have HQ := hid hq2.symm
      clear hp hi hok hq hq2
      go_enter Tryz.func173, Tryz.ntmps173
      go_wp2_with fail
      refine HG.out.mono ?_
      rintro e1 w1 ⟨rfl, rfl⟩
      go_wp2
      go_ret
      exact ⟨by rw [HQ.out]; rfl, rfl⟩
  | fin1 t => simp only [stM, stRest, stR, Nat.reduceAdd, List.getElem?_cons_zero, List.getElem?_cons_succ] at y1 y5 y7; (clear hp hi hok; go_enter Tryz.func173, Tryz.ntmps173; go_wp2; go_ret; exact ⟨rfl, rfl⟩)
  | fin2 =>
    cases lf with
    | true => simp only [stM, stRest, stR, Nat.reduceAdd, List.getElem?_cons_zero, List.getElem?_cons_succ, if_true] at y1 y5 y7; (clear hp hi hok; go_enter Tryz.func173, Tryz.ntmps173; go_wp2; go_ret; exact ⟨rfl, rfl⟩)
    | false =>
      have hq : (ppS lo l P T G who p).at_ w e.2 .done := hi rfl
      simp only [stM, stRest, stR, Nat.reduceAdd, List.getElem?_cons_zero, List.getElem?_cons_succ, Bool.false_eq_true, if_false] at y1 y5 y7
      have HG := hid (Idlep.pp_h_run hq)
      generalize hq2 : Idlep.PpSt.h p _ = q at HG
      have HQ := hid hq2.symm
      clear hp hi hok hq hq2
      go_enter Tryz.func173, Tryz.ntmps173
      go_wp2_with fail
      refine HG.out.mono ?_
      rintro e1 w1 ⟨rfl, rfl⟩
      go_wp2
      go_ret
      exact ⟨by rw [HQ.out]; rfl, rfl⟩
theorem st_h_nil (w : World) : Calls Tryz.prog 173 #[.pointer none] w fun e w' => e = .returned (.int .i64 (-1)) ∧ w = w' := by
  go_enter Tryz.func173, Tryz.ntmps173
  go_wp2
  go_ret
  exact ⟨rfl, rfl⟩
end Go.Proofs.YtlhnnggceebpjaaGreat.Wake
