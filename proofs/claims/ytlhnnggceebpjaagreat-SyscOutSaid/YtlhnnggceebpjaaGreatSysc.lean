/- Coming out of a system call: a machine that runs others. -/
import Derived.Test.YtlhnnggceebpjaaGreatWaker
import Derived.Test.YtlhnnggceebpjaaGreatGlobq
set_option maxRecDepth 100000
set_option maxHeartbeats 4000000
set_option linter.unusedVariables false
set_option linter.unusedSimpArgs false
namespace Go.Proofs.YtlhnnggceebpjaaGreat.Sysc
open Go.RowKit Go.Shelf Go.Proofs.YtlhnnggceebpjaaGreat.TK Go.Proofs.YtlhnnggceebpjaaGreat.Flag Go.Proofs.YtlhnnggceebpjaaGreat.Read Go.Proofs.YtlhnnggceebpjaaGreat.Words Go.Proofs.YtlhnnggceebpjaaGreat.Mem Go.Proofs.YtlhnnggceebpjaaGreat.Flow Go.Proofs.YtlhnnggceebpjaaGreat.Layout Go.Proofs.YtlhnnggceebpjaaGreat.Lock Go.Proofs.YtlhnnggceebpjaaGreat.Run Go.Proofs.YtlhnnggceebpjaaGreat.Sys Go.Proofs.YtlhnnggceebpjaaGreat.Mach Go.Proofs.YtlhnnggceebpjaaGreat.Ref05 Go.Proofs.YtlhnnggceebpjaaGreat.Subs Go.Proofs.YtlhnnggceebpjaaGreat.Wake Go.Proofs.YtlhnnggceebpjaaGreat.Globq Go.Proofs.YtlhnnggceebpjaaGreat.IWords
def soR (l : Nat) (o n p : Int) (cm rn hd : Bool) (gt gl : Value) : List Value := [.pointer (some ⟨l, 0, none⟩), .int .i64 o, .int .i64 n, .int .i64 p, .bool cm, .bool rn, .bool hd, gt, gl]
inductive SoSt
  | sw
  | ad
  | ru (v : Int)
  | fr (v : Int)
  | id
  | aq1 (s : AcqSt)
  | gt1 (s : Idlep.PgSt)
  | rl1 (u : Idlep.PgSt) (s : RlSt)
  | st (v : Int)
  | wt
  | aq2 (s : AcqSt)
  | gt2 (s : Idlep.PgSt)
  | rl2 (v : Int) (s : RlSt)
  | ho (v : Int)
  | fh (v : Int)
  | qp (s : QpSt)
  | rl3 (s : RlSt)
  | fq
def soLeft (u : Idlep.PgSt) : SoSt := if u.p = -1 then .wt else .st u.p
def soGot2 (s : Idlep.PgSt) : SoSt := if s.p = -1 then .qp (.ln 0) else .rl2 s.p .puts
def soNext (P T G who o n : Int) (st : SoSt) (a : Int) : SoSt :=
  match st with
  | .sw => if a = 1 then .ad else .id
  | .ad => .ru o
  | .ru v => .fr v
  | .fr v => .fr v
  | .id => if a = 0 then .wt else .aq1 .ask
  | .aq1 s => runs (aq0 who) (fun _ => .gt1 .h) .aq1 (aqNext s a)
  | .gt1 s => runs (pgY P) (fun s => .rl1 s .puts) .gt1 (Idlep.pgNext s a)
  | .rl1 u s => runs rl0 (fun _ => soLeft u) (.rl1 u) (rlNext s a)
  | .st v => .ru v
  | .wt => .aq2 .ask
  | .aq2 s => runs (aq0 who) (fun _ => .gt2 .h) .aq2 (aqNext s a)
  | .gt2 s => runs (pgY P) soGot2 .gt2 (Idlep.pgNext s a)
  | .rl2 v s => runs rl0 (fun _ => .ho v) (.rl2 v) (rlNext s a)
  | .ho v => .fh v
  | .fh v => .fh v
  | .qp s => runs (qpY P T G [n]) (fun _ => .rl3 .puts) .qp (qpNext [n] s a)
  | .rl3 s => runs rl0 (fun _ => .fq) .rl3 (rlNext s a)
  | .fq => .fq
def soOwn (P T G o n : Int) : SoSt → Nx
  | .sw => .swap (pr P o 0) 2 1 167
  | .ad => .add (pr P o 5) 1 227
  | .ru _ => .store (gg P T G n 0) 2 295
  | .id => .load (wordN 9) 228
  | .st v => .store (pr P v 0) 1 261
  | .wt => .store (gg P T G n 0) 1 296
  | .ho v => .store (pr P v 0) 1 380
  | _ => .done
def soWant (P T G who o n : Int) : SoSt → Option Wnt
  | .aq1 s => (aq0 who).want s
  | .gt1 s => (pgY P).want s
  | .rl1 _ s => rl0.want s
  | .aq2 s => (aq0 who).want s
  | .gt2 s => (pgY P).want s
  | .rl2 _ s => rl0.want s
  | .qp s => (qpY P T G [n]).want s
  | .rl3 s => rl0.want s
  | st => (soOwn P T G o n st).want
def soY (P T G who o n : Int) : Rsys SoSt := ⟨soWant P T G who o n, soNext P T G who o n⟩
def soP (o : Int) : SoSt → Int
  | .ad => o
  | .ru v => v
  | .fr v => v
  | .gt1 s => s.p
  | .rl1 u _ => u.p
  | .st v => v
  | .gt2 s => s.p
  | .rl2 v _ => v
  | .ho v => v
  | .fh v => v
  | _ => -1
def soCame : SoSt → Bool
  | .fr _ => true
  | .aq2 _ => true
  | .gt2 _ => true
  | .rl2 _ _ => true
  | .ho _ => true
  | .fh _ => true
  | .qp _ => true
  | .rl3 _ => true
  | .fq => true
  | _ => false
def soRuns : SoSt → Bool
  | .fr _ => true
  | _ => false
def soHeld (n : Int) : SoSt → List Int
  | .aq2 _ => [n]
  | .gt2 _ => [n]
  | .rl2 _ _ => [n]
  | .ho _ => [n]
  | .fh _ => [n]
  | .qp s => if qpL s then [] else [n]
  | _ => []
def soRest (l : Nat) (o n : Int) (st : SoSt) (e : Nat × Nat × Nat) : List Value :=
  match st with
  | .sw => soR l o n (-1) false false false (.pointer none) (.pointer none)
  | .ad => soR l o n o false false false (.pointer none) (.pointer none)
  | .ru v => soR l o n v false false false (.pointer none) (.pointer none)
  | .fr v => soR l o n v true true false (.pointer none) (.pointer none)
  | .id => soR l o n (-1) false false false (.pointer none) (.pointer none)
  | .aq1 _ => soR l o n (-1) false false false (.pointer none) (.pointer none)
  | .gt1 _ => soR l o n (-1) false false false (.pointer (some ⟨e.1, 0, none⟩)) (.pointer none)
  | .rl1 _ _ => soR l o n (-1) false false false (.pointer (some ⟨e.2.1, 0, none⟩)) (.pointer none)
  | .st v => soR l o n v false false false (.pointer none) (.pointer none)
  | .wt => soR l o n (-1) false false false (.pointer none) (.pointer none)
  | .aq2 _ => soR l o n (-1) true false true (.pointer none) (.pointer none)
  | .gt2 _ => soR l o n (-1) true false true (.pointer (some ⟨e.1, 0, none⟩)) (.pointer none)
  | .rl2 v _ => soR l o n v true false true (.pointer none) (.pointer none)
  | .ho v => soR l o n v true false true (.pointer none) (.pointer none)
  | .fh v => soR l o n v true false true (.pointer none) (.pointer none)
  | .qp _ => soR l o n (-1) true false true (.pointer none) (.pointer (some ⟨e.1, 0, none⟩))
  | .rl3 _ => soR l o n (-1) true false true (.pointer none) (.pointer (some ⟨e.2.2, 0, none⟩))
  | .fq => soR l o n (-1) true false true (.pointer none) (.pointer (some ⟨e.2.2, 0, none⟩))
def soInv (lo l : Nat) (P T G who n : Int) (st : SoSt) (e : Nat × Nat × Nat) (w : World) : Prop :=
  match st with
  | .rl1 u _ => (pgS lo l P T G who).at_ w e.2.1 u
  | .rl3 _ => (qpS lo l P T G who [n]).at_ w e.2.2 .done
  | .fq => (qpS lo l P T G who [n]).at_ w e.2.2 .done
  | _ => True
def soInvT : SoSt → List TypeId
  | .rl1 _ _ => rdT [250]
  | .rl3 _ => rdT [258, 3]
  | .fq => rdT [258, 3]
  | _ => []
def soOk (P T G n : Int) : SoSt → Prop
  | .qp s => (qpY P T G [n]).want s ≠ none
  | _ => True
def soM (lo l : Nat) (P T G who o n : Int) : Mch2 SoSt (Nat × Nat × Nat) :=
  ⟨202, [202, 247, 250, 331, 258, 3], fun st e => match st with
    | .aq1 s => .sub (aqS lo l 0 P T G who) e.1 s 263
    | .gt1 s => .sub (pgS lo l P T G who) e.1 s 297
    | .rl1 _ s => .sub (rlS lo l 0 P T G who) e.1 s 320
    | .aq2 s => .sub (aqS lo l 0 P T G who) e.1 s 319
    | .gt2 s => .sub (pgS lo l P T G who) e.1 s 341
    | .rl2 _ s => .sub (rlS lo l 0 P T G who) e.1 s 361
    | .qp s => .sub (qpS lo l P T G who [n]) e.1 s 362
    | .rl3 s => .sub (rlS lo l 0 P T G who) e.1 s 380
    | st => .own (soOwn P T G o n st),
   soRest l o n, soInv lo l P T G who n, soInvT, soY P T G who o n, soOk P T G n⟩
theorem so_new_run (l : Nat) (P T G who : Int) (o n : Int) (w : World) (hL : Lay w l P T G) :
    Calls Tryz.prog 58 #[.pointer (some ⟨l, 0, none⟩), .int .i64 who, .int .i64 o, .int .i64 n] w fun e w' => e = .returned (.pointer (some ⟨w.heap.size, 0, none⟩)) ∧ Pend w' w.heap.size who (soR l o n (-1) false false false (.pointer none) (.pointer none)) 202 (.swap (pr P o 0) 2 1 167) ∧ Below w.heap.size w w' := by
  have h0 : FlAt (w.alloc (.cells (fl fl0 ++ soR l o n (-1) false false false (.pointer none) (.pointer none)).toArray 202)) w.heap.size fl0 (soR l o n (-1) false false false (.pointer none) (.pointer none)) 202 := Blk.new w _ _
  have hL0 := hL.quiet (below_one w (.cells (fl fl0 ++ soR l o n (-1) false false false (.pointer none) (.pointer none)).toArray 202))
  have hlx : l ≠ w.heap.size := Nat.ne_of_lt hL.1.lt
  clear hL
  go_enter Tryz.func58, Tryz.ntmps58
  go_wp2_with fail
  refine (iof_run h0 who).mono ?_
  rintro e w1 ⟨rfl, hp, hK⟩
  have hL1 := hL0.kept hK (by simpa using hlx)
  have hlow : Below w.heap.size w w1 := (below_one _ _).trans (hK.below (by simp) (by simp))
  have HI := hid (MI.start hp hL1).drew
  clear h0 hL0 hp hL1 hK
  go_wp2_with fail
  refine wp_region_T 8 (fun w' => MI w1 w' w.heap.size who (soR l o n (-1) false false false (.pointer none) (.pointer none)) 202 l P T G) (fun w' => Pend w' w.heap.size who (soR l o n (-1) false false false (.pointer none) (.pointer none)) 202 (.swap (pr P o 0) 2 1 167) ∧ Kept [w.heap.size] w1 w') (by kernel_rfl) (by kernel_rfl) rfl (by kernel_rfl) HI.out ?_
  clear HI
  (repeat (first | (apply walkD_pure; rfl; rfl; (intro _; go_simp; first | done | rfl); (intro K hK; go_simp; refine hK _ ?_; clear hK K)) | (apply walkD_skip; rfl; rfl; (intro K hK; go_simp; refine hK _ ?_; clear hK K)) | (apply walkD_read1 [false] (by kernel_rfl); rfl; rfl; (intro w' hD; (have y0 := hD.pend.idle.rest 0; have y1 := hD.pend.idle.rest 1; have y2 := hD.pend.idle.rest 2; have y3 := hD.pend.idle.rest 3; have y4 := hD.pend.idle.rest 4; have y5 := hD.pend.idle.rest 5; have y6 := hD.pend.idle.rest 6; have y7 := hD.pend.idle.rest 7; have y8 := hD.pend.idle.rest 8; simp only [soR, Nat.reduceAdd, Nat.zero_add, List.getElem?_cons_zero, List.getElem?_cons_succ] at y0 y1 y2 y3 y4 y5 y6 y7 y8); go_simp; rfl); (intro K hK; go_simp; refine hK _ ?_; clear hK K)) | (apply walkD_call1 [false] (by kernel_rfl); rfl; (intro _; go_simp; first | rfl | exact ⟨rfl, rfl⟩); (intro w' hD; first | (go_at_call 25; refine (proc_run _ _ _ _ _ _ _ hD.lay).mono ?_; rintro e w2 ⟨rfl, hb⟩; exact ⟨rfl, hD.quiet hb⟩) | (go_at_call 76; refine (thread_run _ _ _ _ _ _ _ hD.lay).mono ?_; rintro e w2 ⟨rfl, hb⟩; exact ⟨rfl, hD.quiet hb⟩) | (go_at_call 255; refine (ring_run _ _ _ _ _ _ (by assumption) _ hD.lay).mono ?_; rintro e w2 ⟨rfl, hb⟩; exact ⟨rfl, hD.quiet hb⟩) | (go_at_call 168; refine (g_run _ _ _ _ _ _ _ hD.lay).mono ?_; rintro e w2 ⟨rfl, hb⟩; exact ⟨rfl, hD.quiet hb⟩) | (go_at_call 133; refine (word_run _ 0 0 0 _ _).mono ?_; rintro e w2 ⟨rfl, rfl⟩; exact ⟨rfl, hD⟩) | (go_at_call 183; refine (iload_run hD.pend.idle _ _).mono ?_; rintro e w2 ⟨rfl, hP, hK⟩; exact ⟨rfl, hP, hD.kept.trans hK (by intro i hi; exact .inl hi)⟩) | (go_at_call 132; refine (iadd_run hD.pend.idle _ _ _).mono ?_; rintro e w2 ⟨rfl, hP, hK⟩; exact ⟨rfl, hP, hD.kept.trans hK (by intro i hi; exact .inl hi)⟩) | (go_at_call 188; refine (istore_run hD.pend.idle _ _ _).mono ?_; rintro e w2 ⟨rfl, hP, hK⟩; exact ⟨rfl, hP, hD.kept.trans hK (by intro i hi; exact .inl hi)⟩) | (go_at_call 166; refine (iswap_run hD.pend.idle _ _ _ _).mono ?_; rintro e w2 ⟨rfl, hP, hK⟩; exact ⟨rfl, hP, hD.kept.trans hK (by intro i hi; exact .inl hi)⟩)); (intro K hK; go_simp; refine hK _ ?_; clear hK K))))
  rintro w2 ⟨h1, h2⟩
  go_wp2
  go_ret
  exact ⟨rfl, h1, hlow.trans (h2.below (by simp) hlow.size)⟩
theorem so_swapped1_run (x l : Nat) (P T G who : Int) (o n : Int) (w : World)  (hp : Pend w x who (soR l o n (-1) false false false (.pointer none) (.pointer none)) 202 .done) (hL : Lay w l P T G) :
    Calls Tryz.prog 167 #[.pointer (some ⟨x, 0, none⟩), .bool true] w fun e w' => (∃ r, e = .returned r) ∧ Pend w' x who (soR l o n o false false false (.pointer none) (.pointer none)) 202 (.add (pr P o 5) 1 227) ∧ Kept [x] w w' := by
  have HI := hid ((MI.start hp hL).put (by decide) 3 (.int .i64 o)).drew
  have hf := hp.idle.frozen
  (have y0 := hp.idle.rest 0; have y1 := hp.idle.rest 1; have y2 := hp.idle.rest 2; have y3 := hp.idle.rest 3; have y4 := hp.idle.rest 4; have y5 := hp.idle.rest 5; have y6 := hp.idle.rest 6; have y7 := hp.idle.rest 7; have y8 := hp.idle.rest 8; simp only [soR, Nat.reduceAdd, Nat.zero_add, List.getElem?_cons_zero, List.getElem?_cons_succ] at y0 y1 y2 y3 y4 y5 y6 y7 y8)
  clear hp hL
  go_enter Tryz.func167, Tryz.ntmps167
  go_wp2_with fail
  refine wp_region_T 14 (fun w' => MI w w' x who (soR l o n o false false false (.pointer none) (.pointer none)) 202 l P T G) (fun w' => Pend w' x who (soR l o n o false false false (.pointer none) (.pointer none)) 202 (.add (pr P o 5) 1 227) ∧ Kept [x] w w') (by kernel_rfl) (by kernel_rfl) rfl (by kernel_rfl) HI.out ?_
  clear HI
  (repeat (first | (apply walkD_pure; rfl; rfl; (intro _; go_simp; first | done | rfl); (intro K hK; go_simp; refine hK _ ?_; clear hK K)) | (apply walkD_skip; rfl; rfl; (intro K hK; go_simp; refine hK _ ?_; clear hK K)) | (apply walkD_read1 [false] (by kernel_rfl); rfl; rfl; (intro w' hD; (have y0 := hD.pend.idle.rest 0; have y1 := hD.pend.idle.rest 1; have y2 := hD.pend.idle.rest 2; have y3 := hD.pend.idle.rest 3; have y4 := hD.pend.idle.rest 4; have y5 := hD.pend.idle.rest 5; have y6 := hD.pend.idle.rest 6; have y7 := hD.pend.idle.rest 7; have y8 := hD.pend.idle.rest 8; simp only [soR, Nat.reduceAdd, Nat.zero_add, List.getElem?_cons_zero, List.getElem?_cons_succ] at y0 y1 y2 y3 y4 y5 y6 y7 y8); go_simp; rfl); (intro K hK; go_simp; refine hK _ ?_; clear hK K)) | (apply walkD_call1 [false] (by kernel_rfl); rfl; (intro _; go_simp; first | rfl | exact ⟨rfl, rfl⟩); (intro w' hD; first | (go_at_call 25; refine (proc_run _ _ _ _ _ _ _ hD.lay).mono ?_; rintro e w2 ⟨rfl, hb⟩; exact ⟨rfl, hD.quiet hb⟩) | (go_at_call 76; refine (thread_run _ _ _ _ _ _ _ hD.lay).mono ?_; rintro e w2 ⟨rfl, hb⟩; exact ⟨rfl, hD.quiet hb⟩) | (go_at_call 255; refine (ring_run _ _ _ _ _ _ (by assumption) _ hD.lay).mono ?_; rintro e w2 ⟨rfl, hb⟩; exact ⟨rfl, hD.quiet hb⟩) | (go_at_call 168; refine (g_run _ _ _ _ _ _ _ hD.lay).mono ?_; rintro e w2 ⟨rfl, hb⟩; exact ⟨rfl, hD.quiet hb⟩) | (go_at_call 133; refine (word_run _ 0 0 0 _ _).mono ?_; rintro e w2 ⟨rfl, rfl⟩; exact ⟨rfl, hD⟩) | (go_at_call 183; refine (iload_run hD.pend.idle _ _).mono ?_; rintro e w2 ⟨rfl, hP, hK⟩; exact ⟨rfl, hP, hD.kept.trans hK (by intro i hi; exact .inl hi)⟩) | (go_at_call 132; refine (iadd_run hD.pend.idle _ _ _).mono ?_; rintro e w2 ⟨rfl, hP, hK⟩; exact ⟨rfl, hP, hD.kept.trans hK (by intro i hi; exact .inl hi)⟩) | (go_at_call 188; refine (istore_run hD.pend.idle _ _ _).mono ?_; rintro e w2 ⟨rfl, hP, hK⟩; exact ⟨rfl, hP, hD.kept.trans hK (by intro i hi; exact .inl hi)⟩) | (go_at_call 166; refine (iswap_run hD.pend.idle _ _ _ _).mono ?_; rintro e w2 ⟨rfl, hP, hK⟩; exact ⟨rfl, hP, hD.kept.trans hK (by intro i hi; exact .inl hi)⟩)); (intro K hK; go_simp; refine hK _ ?_; clear hK K))))
  (rintro w2 ⟨h1, h2⟩; go_wp2; go_returns; exact ⟨⟨_, rfl⟩, h1, h2⟩)
theorem so_swapped0_run (x l : Nat) (P T G who : Int) (o n : Int) (w : World)  (hp : Pend w x who (soR l o n (-1) false false false (.pointer none) (.pointer none)) 202 .done) (hL : Lay w l P T G) :
    Calls Tryz.prog 167 #[.pointer (some ⟨x, 0, none⟩), .bool false] w fun e w' => (∃ r, e = .returned r) ∧ Pend w' x who (soR l o n (-1) false false false (.pointer none) (.pointer none)) 202 (.load (wordN 9) 228) ∧ Kept [x] w w' := by
  have HI := hid (MI.start hp hL).drew
  have hf := hp.idle.frozen
  (have y0 := hp.idle.rest 0; have y1 := hp.idle.rest 1; have y2 := hp.idle.rest 2; have y3 := hp.idle.rest 3; have y4 := hp.idle.rest 4; have y5 := hp.idle.rest 5; have y6 := hp.idle.rest 6; have y7 := hp.idle.rest 7; have y8 := hp.idle.rest 8; simp only [soR, Nat.reduceAdd, Nat.zero_add, List.getElem?_cons_zero, List.getElem?_cons_succ] at y0 y1 y2 y3 y4 y5 y6 y7 y8)
  clear hp hL
  go_enter Tryz.func167, Tryz.ntmps167
  go_wp2_with fail
  refine wp_region_T 10 (fun w' => MI w w' x who (soR l o n (-1) false false false (.pointer none) (.pointer none)) 202 l P T G) (fun w' => Pend w' x who (soR l o n (-1) false false false (.pointer none) (.pointer none)) 202 (.load (wordN 9) 228) ∧ Kept [x] w w') (by kernel_rfl) (by kernel_rfl) rfl (by kernel_rfl) HI.out ?_
  clear HI
  (repeat (first | (apply walkD_pure; rfl; rfl; (intro _; go_simp; first | done | rfl); (intro K hK; go_simp; refine hK _ ?_; clear hK K)) | (apply walkD_skip; rfl; rfl; (intro K hK; go_simp; refine hK _ ?_; clear hK K)) | (apply walkD_read1 [false] (by kernel_rfl); rfl; rfl; (intro w' hD; (have y0 := hD.pend.idle.rest 0; have y1 := hD.pend.idle.rest 1; have y2 := hD.pend.idle.rest 2; have y3 := hD.pend.idle.rest 3; have y4 := hD.pend.idle.rest 4; have y5 := hD.pend.idle.rest 5; have y6 := hD.pend.idle.rest 6; have y7 := hD.pend.idle.rest 7; have y8 := hD.pend.idle.rest 8; simp only [soR, Nat.reduceAdd, Nat.zero_add, List.getElem?_cons_zero, List.getElem?_cons_succ] at y0 y1 y2 y3 y4 y5 y6 y7 y8); go_simp; rfl); (intro K hK; go_simp; refine hK _ ?_; clear hK K)) | (apply walkD_call1 [false] (by kernel_rfl); rfl; (intro _; go_simp; first | rfl | exact ⟨rfl, rfl⟩); (intro w' hD; first | (go_at_call 25; refine (proc_run _ _ _ _ _ _ _ hD.lay).mono ?_; rintro e w2 ⟨rfl, hb⟩; exact ⟨rfl, hD.quiet hb⟩) | (go_at_call 76; refine (thread_run _ _ _ _ _ _ _ hD.lay).mono ?_; rintro e w2 ⟨rfl, hb⟩; exact ⟨rfl, hD.quiet hb⟩) | (go_at_call 255; refine (ring_run _ _ _ _ _ _ (by assumption) _ hD.lay).mono ?_; rintro e w2 ⟨rfl, hb⟩; exact ⟨rfl, hD.quiet hb⟩) | (go_at_call 168; refine (g_run _ _ _ _ _ _ _ hD.lay).mono ?_; rintro e w2 ⟨rfl, hb⟩; exact ⟨rfl, hD.quiet hb⟩) | (go_at_call 133; refine (word_run _ 0 0 0 _ _).mono ?_; rintro e w2 ⟨rfl, rfl⟩; exact ⟨rfl, hD⟩) | (go_at_call 183; refine (iload_run hD.pend.idle _ _).mono ?_; rintro e w2 ⟨rfl, hP, hK⟩; exact ⟨rfl, hP, hD.kept.trans hK (by intro i hi; exact .inl hi)⟩) | (go_at_call 132; refine (iadd_run hD.pend.idle _ _ _).mono ?_; rintro e w2 ⟨rfl, hP, hK⟩; exact ⟨rfl, hP, hD.kept.trans hK (by intro i hi; exact .inl hi)⟩) | (go_at_call 188; refine (istore_run hD.pend.idle _ _ _).mono ?_; rintro e w2 ⟨rfl, hP, hK⟩; exact ⟨rfl, hP, hD.kept.trans hK (by intro i hi; exact .inl hi)⟩) | (go_at_call 166; refine (iswap_run hD.pend.idle _ _ _ _).mono ?_; rintro e w2 ⟨rfl, hP, hK⟩; exact ⟨rfl, hP, hD.kept.trans hK (by intro i hi; exact .inl hi)⟩)); (intro K hK; go_simp; refine hK _ ?_; clear hK K))))
  (rintro w2 ⟨h1, h2⟩; go_wp2; go_returns; exact ⟨⟨_, rfl⟩, h1, h2⟩)
theorem so_lets_run (x l : Nat) (P T G who : Int) (o n v : Int) (w : World)  (hp : Pend w x who (soR l o n v false false false (.pointer none) (.pointer none)) 202 .done) (hL : Lay w l P T G) :
    Calls Tryz.prog 261 #[.pointer (some ⟨x, 0, none⟩)] w fun e w' => (∃ r, e = .returned r) ∧ Pend w' x who (soR l o n v false false false (.pointer none) (.pointer none)) 202 (.store (gg P T G n 0) 2 295) ∧ Kept [x] w w' := by
  have HI := hid (MI.start hp hL).drew
  have hf := hp.idle.frozen
  (have y0 := hp.idle.rest 0; have y1 := hp.idle.rest 1; have y2 := hp.idle.rest 2; have y3 := hp.idle.rest 3; have y4 := hp.idle.rest 4; have y5 := hp.idle.rest 5; have y6 := hp.idle.rest 6; have y7 := hp.idle.rest 7; have y8 := hp.idle.rest 8; simp only [soR, Nat.reduceAdd, Nat.zero_add, List.getElem?_cons_zero, List.getElem?_cons_succ] at y0 y1 y2 y3 y4 y5 y6 y7 y8)
  clear hp hL
  go_enter Tryz.func261, Tryz.ntmps261
  go_wp2_with fail
  refine wp_region_T 14 (fun w' => MI w w' x who (soR l o n v false false false (.pointer none) (.pointer none)) 202 l P T G) (fun w' => Pend w' x who (soR l o n v false false false (.pointer none) (.pointer none)) 202 (.store (gg P T G n 0) 2 295) ∧ Kept [x] w w') (by kernel_rfl) (by kernel_rfl) rfl (by kernel_rfl) HI.out ?_
  clear HI
  (repeat (first | (apply walkD_pure; rfl; rfl; (intro _; go_simp; first | done | rfl); (intro K hK; go_simp; refine hK _ ?_; clear hK K)) | (apply walkD_skip; rfl; rfl; (intro K hK; go_simp; refine hK _ ?_; clear hK K)) | (apply walkD_read1 [false] (by kernel_rfl); rfl; rfl; (intro w' hD; (have y0 := hD.pend.idle.rest 0; have y1 := hD.pend.idle.rest 1; have y2 := hD.pend.idle.rest 2; have y3 := hD.pend.idle.rest 3; have y4 := hD.pend.idle.rest 4; have y5 := hD.pend.idle.rest 5; have y6 := hD.pend.idle.rest 6; have y7 := hD.pend.idle.rest 7; have y8 := hD.pend.idle.rest 8; simp only [soR, Nat.reduceAdd, Nat.zero_add, List.getElem?_cons_zero, List.getElem?_cons_succ] at y0 y1 y2 y3 y4 y5 y6 y7 y8); go_simp; rfl); (intro K hK; go_simp; refine hK _ ?_; clear hK K)) | (apply walkD_call1 [false] (by kernel_rfl); rfl; (intro _; go_simp; first | rfl | exact ⟨rfl, rfl⟩); (intro w' hD; first | (go_at_call 25; refine (proc_run _ _ _ _ _ _ _ hD.lay).mono ?_; rintro e w2 ⟨rfl, hb⟩; exact ⟨rfl, hD.quiet hb⟩) | (go_at_call 76; refine (thread_run _ _ _ _ _ _ _ hD.lay).mono ?_; rintro e w2 ⟨rfl, hb⟩; exact ⟨rfl, hD.quiet hb⟩) | (go_at_call 255; refine (ring_run _ _ _ _ _ _ (by assumption) _ hD.lay).mono ?_; rintro e w2 ⟨rfl, hb⟩; exact ⟨rfl, hD.quiet hb⟩) | (go_at_call 168; refine (g_run _ _ _ _ _ _ _ hD.lay).mono ?_; rintro e w2 ⟨rfl, hb⟩; exact ⟨rfl, hD.quiet hb⟩) | (go_at_call 133; refine (word_run _ 0 0 0 _ _).mono ?_; rintro e w2 ⟨rfl, rfl⟩; exact ⟨rfl, hD⟩) | (go_at_call 183; refine (iload_run hD.pend.idle _ _).mono ?_; rintro e w2 ⟨rfl, hP, hK⟩; exact ⟨rfl, hP, hD.kept.trans hK (by intro i hi; exact .inl hi)⟩) | (go_at_call 132; refine (iadd_run hD.pend.idle _ _ _).mono ?_; rintro e w2 ⟨rfl, hP, hK⟩; exact ⟨rfl, hP, hD.kept.trans hK (by intro i hi; exact .inl hi)⟩) | (go_at_call 188; refine (istore_run hD.pend.idle _ _ _).mono ?_; rintro e w2 ⟨rfl, hP, hK⟩; exact ⟨rfl, hP, hD.kept.trans hK (by intro i hi; exact .inl hi)⟩) | (go_at_call 166; refine (iswap_run hD.pend.idle _ _ _ _).mono ?_; rintro e w2 ⟨rfl, hP, hK⟩; exact ⟨rfl, hP, hD.kept.trans hK (by intro i hi; exact .inl hi)⟩)); (intro K hK; go_simp; refine hK _ ?_; clear hK K))))
  (rintro w2 ⟨h1, h2⟩; go_wp2; go_returns; exact ⟨⟨_, rfl⟩, h1, h2⟩)
theorem so_counted_run (x l lo : Nat) (P T G who : Int) (o n v a : Int) (w : World)  (hlo : lo ≤ w.heap.size) (hp : Pend w x who (soR l o n v false false false (.pointer none) (.pointer none)) 202 .done) (hL : Lay w l P T G) :
    Calls Tryz.prog 227 #[.pointer (some ⟨x, 0, none⟩), .int .u64 a] w fun e w' => (∃ r, e = .returned r) ∧ (Pend w' x who (soR l o n v false false false (.pointer none) (.pointer none)) 202 (.store (gg P T G n 0) 2 295)) ∧ Kept [x] w w' := by
  have HI := hid (MI.start hp hL)
  have hf := hp.idle.frozen
  (have y0 := hp.idle.rest 0; have y1 := hp.idle.rest 1; have y2 := hp.idle.rest 2; have y3 := hp.idle.rest 3; have y4 := hp.idle.rest 4; have y5 := hp.idle.rest 5; have y6 := hp.idle.rest 6; have y7 := hp.idle.rest 7; have y8 := hp.idle.rest 8; simp only [soR, Nat.reduceAdd, Nat.zero_add, List.getElem?_cons_zero, List.getElem?_cons_succ] at y0 y1 y2 y3 y4 y5 y6 y7 y8)
  clear hp hL
  go_enter Tryz.func227, Tryz.ntmps227
  go_wp2_with fail
  refine (so_lets_run x l P T G who o n v _ HI.out.pend HI.out.lay).mono ?_
  rintro e w9 ⟨⟨r, rfl⟩, hy, hK⟩
  have HX := hid (And.intro hy (HI.out.kept.trans hK (by intro i hi; exact .inl hi)))
  clear HI hy hK
  go_wp2
  go_returns
  exact ⟨⟨_, rfl⟩, HX.out⟩
theorem so_run_run (x l : Nat) (P T G who : Int) (o n v : Int) (w : World)  (hp : Pend w x who (soR l o n v false false false (.pointer none) (.pointer none)) 202 .done) (hL : Lay w l P T G) :
    Calls Tryz.prog 295 #[.pointer (some ⟨x, 0, none⟩)] w fun e w' => (∃ r, e = .returned r) ∧ Pend w' x who (soR l o n v true true false (.pointer none) (.pointer none)) 202 (.done) ∧ Kept [x] w w' := by
  have HI := hid (((MI.start hp hL).put (by decide) 4 (.bool true)).put (by decide) 5 (.bool true))
  have hf := hp.idle.frozen
  (have y0 := hp.idle.rest 0; have y1 := hp.idle.rest 1; have y2 := hp.idle.rest 2; have y3 := hp.idle.rest 3; have y4 := hp.idle.rest 4; have y5 := hp.idle.rest 5; have y6 := hp.idle.rest 6; have y7 := hp.idle.rest 7; have y8 := hp.idle.rest 8; simp only [soR, Nat.reduceAdd, Nat.zero_add, List.getElem?_cons_zero, List.getElem?_cons_succ] at y0 y1 y2 y3 y4 y5 y6 y7 y8)
  clear hp hL
  go_enter Tryz.func295, Tryz.ntmps295
  go_wp2
  go_returns
  exact ⟨⟨_, rfl⟩, HI.out.pend, HI.out.kept⟩
theorem so_waits_run (x l : Nat) (P T G who : Int) (o n v : Int) (w : World)  (hp : Pend w x who (soR l o n v false false false (.pointer none) (.pointer none)) 202 .done) (hL : Lay w l P T G) :
    Calls Tryz.prog 262 #[.pointer (some ⟨x, 0, none⟩)] w fun e w' => (∃ r, e = .returned r) ∧ Pend w' x who (soR l o n v false false false (.pointer none) (.pointer none)) 202 (.store (gg P T G n 0) 1 296) ∧ Kept [x] w w' := by
  have HI := hid (MI.start hp hL).drew
  have hf := hp.idle.frozen
  (have y0 := hp.idle.rest 0; have y1 := hp.idle.rest 1; have y2 := hp.idle.rest 2; have y3 := hp.idle.rest 3; have y4 := hp.idle.rest 4; have y5 := hp.idle.rest 5; have y6 := hp.idle.rest 6; have y7 := hp.idle.rest 7; have y8 := hp.idle.rest 8; simp only [soR, Nat.reduceAdd, Nat.zero_add, List.getElem?_cons_zero, List.getElem?_cons_succ] at y0 y1 y2 y3 y4 y5 y6 y7 y8)
  clear hp hL
  go_enter Tryz.func262, Tryz.ntmps262
  go_wp2_with fail
  refine wp_region_T 14 (fun w' => MI w w' x who (soR l o n v false false false (.pointer none) (.pointer none)) 202 l P T G) (fun w' => Pend w' x who (soR l o n v false false false (.pointer none) (.pointer none)) 202 (.store (gg P T G n 0) 1 296) ∧ Kept [x] w w') (by kernel_rfl) (by kernel_rfl) rfl (by kernel_rfl) HI.out ?_
  clear HI
  (repeat (first | (apply walkD_pure; rfl; rfl; (intro _; go_simp; first | done | rfl); (intro K hK; go_simp; refine hK _ ?_; clear hK K)) | (apply walkD_skip; rfl; rfl; (intro K hK; go_simp; refine hK _ ?_; clear hK K)) | (apply walkD_read1 [false] (by kernel_rfl); rfl; rfl; (intro w' hD; (have y0 := hD.pend.idle.rest 0; have y1 := hD.pend.idle.rest 1; have y2 := hD.pend.idle.rest 2; have y3 := hD.pend.idle.rest 3; have y4 := hD.pend.idle.rest 4; have y5 := hD.pend.idle.rest 5; have y6 := hD.pend.idle.rest 6; have y7 := hD.pend.idle.rest 7; have y8 := hD.pend.idle.rest 8; simp only [soR, Nat.reduceAdd, Nat.zero_add, List.getElem?_cons_zero, List.getElem?_cons_succ] at y0 y1 y2 y3 y4 y5 y6 y7 y8); go_simp; rfl); (intro K hK; go_simp; refine hK _ ?_; clear hK K)) | (apply walkD_call1 [false] (by kernel_rfl); rfl; (intro _; go_simp; first | rfl | exact ⟨rfl, rfl⟩); (intro w' hD; first | (go_at_call 25; refine (proc_run _ _ _ _ _ _ _ hD.lay).mono ?_; rintro e w2 ⟨rfl, hb⟩; exact ⟨rfl, hD.quiet hb⟩) | (go_at_call 76; refine (thread_run _ _ _ _ _ _ _ hD.lay).mono ?_; rintro e w2 ⟨rfl, hb⟩; exact ⟨rfl, hD.quiet hb⟩) | (go_at_call 255; refine (ring_run _ _ _ _ _ _ (by assumption) _ hD.lay).mono ?_; rintro e w2 ⟨rfl, hb⟩; exact ⟨rfl, hD.quiet hb⟩) | (go_at_call 168; refine (g_run _ _ _ _ _ _ _ hD.lay).mono ?_; rintro e w2 ⟨rfl, hb⟩; exact ⟨rfl, hD.quiet hb⟩) | (go_at_call 133; refine (word_run _ 0 0 0 _ _).mono ?_; rintro e w2 ⟨rfl, rfl⟩; exact ⟨rfl, hD⟩) | (go_at_call 183; refine (iload_run hD.pend.idle _ _).mono ?_; rintro e w2 ⟨rfl, hP, hK⟩; exact ⟨rfl, hP, hD.kept.trans hK (by intro i hi; exact .inl hi)⟩) | (go_at_call 132; refine (iadd_run hD.pend.idle _ _ _).mono ?_; rintro e w2 ⟨rfl, hP, hK⟩; exact ⟨rfl, hP, hD.kept.trans hK (by intro i hi; exact .inl hi)⟩) | (go_at_call 188; refine (istore_run hD.pend.idle _ _ _).mono ?_; rintro e w2 ⟨rfl, hP, hK⟩; exact ⟨rfl, hP, hD.kept.trans hK (by intro i hi; exact .inl hi)⟩) | (go_at_call 166; refine (iswap_run hD.pend.idle _ _ _ _).mono ?_; rintro e w2 ⟨rfl, hP, hK⟩; exact ⟨rfl, hP, hD.kept.trans hK (by intro i hi; exact .inl hi)⟩)); (intro K hK; go_simp; refine hK _ ?_; clear hK K))))
  (rintro w2 ⟨h1, h2⟩; go_wp2; go_returns; exact ⟨⟨_, rfl⟩, h1, h2⟩)
theorem so_idle0_run (x l lo : Nat) (P T G who : Int) (o n : Int) (w : World)  (hlo : lo ≤ w.heap.size) (hp : Pend w x who (soR l o n (-1) false false false (.pointer none) (.pointer none)) 202 .done) (hL : Lay w l P T G) :
    Calls Tryz.prog 228 #[.pointer (some ⟨x, 0, none⟩), .int .u64 0] w fun e w' => (∃ r, e = .returned r) ∧ (Pend w' x who (soR l o n (-1) false false false (.pointer none) (.pointer none)) 202 (.store (gg P T G n 0) 1 296)) ∧ Kept [x] w w' := by
  have HI := hid (MI.start hp hL)
  have hf := hp.idle.frozen
  (have y0 := hp.idle.rest 0; have y1 := hp.idle.rest 1; have y2 := hp.idle.rest 2; have y3 := hp.idle.rest 3; have y4 := hp.idle.rest 4; have y5 := hp.idle.rest 5; have y6 := hp.idle.rest 6; have y7 := hp.idle.rest 7; have y8 := hp.idle.rest 8; simp only [soR, Nat.reduceAdd, Nat.zero_add, List.getElem?_cons_zero, List.getElem?_cons_succ] at y0 y1 y2 y3 y4 y5 y6 y7 y8)
  clear hp hL
  go_enter Tryz.func228, Tryz.ntmps228
  go_wp2_with fail
  refine (so_waits_run x l P T G who o n (-1) _ HI.out.pend HI.out.lay).mono ?_
  rintro e w9 ⟨⟨r, rfl⟩, hy, hK⟩
  have HX := hid (And.intro hy (HI.out.kept.trans hK (by intro i hi; exact .inl hi)))
  clear HI hy hK
  go_wp2
  go_returns
  exact ⟨⟨_, rfl⟩, HX.out⟩
theorem so_idle1_run (x l lo : Nat) (P T G who : Int) (o n a : Int) (w : World) (hw : 0 ≤ who ∧ who ≤ 1000) (hz : a ≠ 0) (hlo : lo ≤ w.heap.size) (hp : Pend w x who (soR l o n (-1) false false false (.pointer none) (.pointer none)) 202 .done) (hL : Lay w l P T G) :
    Calls Tryz.prog 228 #[.pointer (some ⟨x, 0, none⟩), .int .u64 a] w fun e w' => (∃ r, e = .returned r) ∧ (∃ y, Pend2 w' x who (soR l o n (-1) false false false (.pointer none) (.pointer none)) 202 (.sub (aqS lo l 0 P T G who) y .ask 263)) ∧ Kept [x] w w' := by
  have d1 : ((a : Int) == 0) = false := by simpa using hz
  have SW := hid (show (aqS lo l 0 P T G who).sys.want .ask ≠ none by exact fun h => by cases h)
  have HI0 := hid (MI.start hp hL)
  have HI := hid (MI.drewS (N := w.heap.size) HI0.out (by first | rfl | simp))
  clear HI0
  have hf := hp.idle.frozen
  (have y0 := hp.idle.rest 0; have y1 := hp.idle.rest 1; have y2 := hp.idle.rest 2; have y3 := hp.idle.rest 3; have y4 := hp.idle.rest 4; have y5 := hp.idle.rest 5; have y6 := hp.idle.rest 6; have y7 := hp.idle.rest 7; have y8 := hp.idle.rest 8; simp only [soR, Nat.reduceAdd, Nat.zero_add, List.getElem?_cons_zero, List.getElem?_cons_succ] at y0 y1 y2 y3 y4 y5 y6 y7 y8)
  clear hp hL
  go_enter Tryz.func228, Tryz.ntmps228
  go_wp2_with fail
  refine wp_region_D [11, 15] (tcl2 (fun w' => MI w w' x who (soR l o n (-1) false false false (.pointer none) (.pointer none)) 202 l P T G ∧ w'.heap.size = w.heap.size) (fun w' => MI w w' x who (soR l o n (-1) false false false (.pointer none) (.pointer none)) 202 l P T G ∧ (aqS lo l 0 P T G who).at_ w' w.heap.size .ask) (fun w' => Pend2 w' x who (soR l o n (-1) false false false (.pointer none) (.pointer none)) 202 (.sub (aqS lo l 0 P T G who) w.heap.size .ask 263) ∧ Kept [x] w w')) (by kernel_rfl) (by kernel_rfl) rfl (by kernel_rfl) HI.out ?_
  clear HI
  repeat (first | (apply walkD_pure; rfl; rfl; (intro _; go_simp; first | done | rfl); (intro K hK; go_simp; refine hK _ ?_; clear hK K)) | (apply walkD_skip; rfl; rfl; (intro K hK; go_simp; refine hK _ ?_; clear hK K)) | (apply walkD_read1 [false, false] (by kernel_rfl); rfl; rfl; (intro w' hD; (have y0 := hD.1.pend.idle.rest 0; have y1 := hD.1.pend.idle.rest 1; have y2 := hD.1.pend.idle.rest 2; have y3 := hD.1.pend.idle.rest 3; have y4 := hD.1.pend.idle.rest 4; have y5 := hD.1.pend.idle.rest 5; have y6 := hD.1.pend.idle.rest 6; have y7 := hD.1.pend.idle.rest 7; have y8 := hD.1.pend.idle.rest 8; simp only [soR, Nat.reduceAdd, Nat.zero_add, List.getElem?_cons_zero, List.getElem?_cons_succ] at y0 y1 y2 y3 y4 y5 y6 y7 y8); go_simp; rfl); (intro K hK; go_simp; refine hK _ ?_; clear hK K)) | (apply walkD_call1 [false, false] (by kernel_rfl); rfl; (intro _; go_simp; first | rfl | exact ⟨rfl, rfl⟩); (intro w' hD; first | (go_at_call 222; refine (ifwho_run hD.1.pend).mono ?_; rintro e w2 ⟨rfl, rfl⟩; exact ⟨rfl, hD⟩) | (go_at_call 125; have q := aq_made lo l 0 P T G who w' hD.1.lay (by rw [hD.2]; exact hlo); rw [hD.2] at q; refine q.mono ?_; rintro e w2 ⟨rfl, hA, hb⟩; exact ⟨rfl, hD.1.quiet (by rw [hD.2]; exact hb), hA⟩)); (intro K hK; go_simp; refine hK _ ?_; clear hK K)) | (apply walkD_call1 [true, false] (by kernel_rfl); rfl; (intro _; go_simp; first | rfl | exact ⟨rfl, rfl⟩); (intro w' hD; go_at_call 124; refine (irun_run (S := aqS lo l 0 P T G who) (aq_sub lo l 0 P T G who hw) hD.1.pend hD.2 SW.out (of_decide_eq_true rfl)).mono ?_; rintro e w2 ⟨rfl, h1, h2, h3⟩; exact ⟨rfl, ⟨h1, h2, SW.out⟩, hD.1.kept.trans h3 (by intro i hi; exact .inl hi)⟩); (intro K hK; go_simp; refine hK _ ?_; clear hK K)))
  rintro w2 ⟨h1, h2⟩
  go_wp2
  go_returns
  exact ⟨⟨_, rfl⟩, ⟨_, h1⟩, h2⟩
theorem so_locked_run (x l lo : Nat) (P T G who : Int) (o n : Int) (w : World)  (hlo : lo ≤ w.heap.size) (hp : Pend w x who (soR l o n (-1) false false false (.pointer none) (.pointer none)) 202 .done) (hL : Lay w l P T G) :
    Calls Tryz.prog 263 #[.pointer (some ⟨x, 0, none⟩)] w fun e w' => (∃ r, e = .returned r) ∧ (∃ y, Pend2 w' x who (soR l o n (-1) false false false (.pointer (some ⟨y, 0, none⟩)) (.pointer none)) 202 (.sub (pgS lo l P T G who) y .h 297)) ∧ Kept [x] w w' := by
  have SW := hid (show (pgS lo l P T G who).sys.want .h ≠ none by exact fun h => by cases h)
  have HI := hid (MI.drewS (N := w.heap.size) (MI.start hp hL) (by first | rfl | simp))
  have hf := hp.idle.frozen
  (have y0 := hp.idle.rest 0; have y1 := hp.idle.rest 1; have y2 := hp.idle.rest 2; have y3 := hp.idle.rest 3; have y4 := hp.idle.rest 4; have y5 := hp.idle.rest 5; have y6 := hp.idle.rest 6; have y7 := hp.idle.rest 7; have y8 := hp.idle.rest 8; simp only [soR, Nat.reduceAdd, Nat.zero_add, List.getElem?_cons_zero, List.getElem?_cons_succ] at y0 y1 y2 y3 y4 y5 y6 y7 y8)
  clear hp hL
  go_enter Tryz.func263, Tryz.ntmps263
  go_wp2_with fail
  refine wp_region_D [9, 12] (tcl2 (fun w' => MI w w' x who (soR l o n (-1) false false false (.pointer none) (.pointer none)) 202 l P T G ∧ w'.heap.size = w.heap.size) (fun w' => MI w w' x who (soR l o n (-1) false false false (.pointer none) (.pointer none)) 202 l P T G ∧ (pgS lo l P T G who).at_ w' w.heap.size .h) (fun w' => MI w w' x who (soR l o n (-1) false false false (.pointer (some ⟨w.heap.size, 0, none⟩)) (.pointer none)) 202 l P T G ∧ (pgS lo l P T G who).at_ w' w.heap.size .h)) (by kernel_rfl) (by kernel_rfl) rfl (by kernel_rfl) HI.out ?_
  clear HI
  repeat (first | (apply walkD_pure; rfl; rfl; (intro _; go_simp; first | done | rfl); (intro K hK; go_simp; refine hK _ ?_; clear hK K)) | (apply walkD_skip; rfl; rfl; (intro K hK; go_simp; refine hK _ ?_; clear hK K)) | (apply walkD_read1 [false, false] (by kernel_rfl); rfl; rfl; (intro w' hD; (have y0 := hD.1.pend.idle.rest 0; have y1 := hD.1.pend.idle.rest 1; have y2 := hD.1.pend.idle.rest 2; have y3 := hD.1.pend.idle.rest 3; have y4 := hD.1.pend.idle.rest 4; have y5 := hD.1.pend.idle.rest 5; have y6 := hD.1.pend.idle.rest 6; have y7 := hD.1.pend.idle.rest 7; have y8 := hD.1.pend.idle.rest 8; simp only [soR, Nat.reduceAdd, Nat.zero_add, List.getElem?_cons_zero, List.getElem?_cons_succ] at y0 y1 y2 y3 y4 y5 y6 y7 y8); go_simp; rfl); (intro K hK; go_simp; refine hK _ ?_; clear hK K)) | (apply walkD_call1 [false, false] (by kernel_rfl); rfl; (intro _; go_simp; first | rfl | exact ⟨rfl, rfl⟩); (intro w' hD; first | (go_at_call 222; refine (ifwho_run hD.1.pend).mono ?_; rintro e w2 ⟨rfl, rfl⟩; exact ⟨rfl, hD⟩) | (go_at_call 252; have q := pg_made lo l P T G who w' hD.1.lay (by rw [hD.2]; exact hlo); rw [hD.2] at q; refine q.mono ?_; rintro e w2 ⟨rfl, hA, hb⟩; exact ⟨rfl, hD.1.quiet (by rw [hD.2]; exact hb), hA⟩)); (intro K hK; go_simp; refine hK _ ?_; clear hK K)) | (apply walkD_turn1 (v := undef) [true, false] (by kernel_rfl); rfl; (intro w' hD; (have y0 := hD.1.pend.idle.rest 0; have y1 := hD.1.pend.idle.rest 1; have y2 := hD.1.pend.idle.rest 2; have y3 := hD.1.pend.idle.rest 3; have y4 := hD.1.pend.idle.rest 4; have y5 := hD.1.pend.idle.rest 5; have y6 := hD.1.pend.idle.rest 6; have y7 := hD.1.pend.idle.rest 7; have y8 := hD.1.pend.idle.rest 8; simp only [soR, Nat.reduceAdd, Nat.zero_add, List.getElem?_cons_zero, List.getElem?_cons_succ] at y0 y1 y2 y3 y4 y5 y6 y7 y8); have yf := hD.1.pend.idle.frozen; unfold Go.Proofs.YtlhnnggceebpjaaGreat.Flag.opAt; go_simp; exact ⟨⟨hD.1.put (by decide) 7 _, sub_set (pg_sub lo l P T G who) hD.2 hD.1.pend (of_decide_eq_true rfl) _ _⟩, rfl⟩); (intro K hK; go_simp; refine hK _ ?_; clear hK K)))
  rintro w4 ⟨h1, h2⟩
  obtain ⟨y, hy⟩ : ∃ y, y = w.heap.size := ⟨_, rfl⟩
  rw [← hy] at h1 h2 ⊢
  have HI2 := hid (And.intro h1.drew (SubOk.at_quiet (pg_sub lo l P T G who) h2 (below_drewN (Below.refl _ _) 1)))
  have hf := h1.pend.idle.frozen
  clear h1 h2 hy
  go_wp2_with fail
  refine wp_region_T 10 (fun w' => MI w w' x who (soR l o n (-1) false false false (.pointer (some ⟨y, 0, none⟩)) (.pointer none)) 202 l P T G ∧ (pgS lo l P T G who).at_ w' y .h) (fun w' => Pend2 w' x who (soR l o n (-1) false false false (.pointer (some ⟨y, 0, none⟩)) (.pointer none)) 202 (.sub (pgS lo l P T G who) y .h 297) ∧ Kept [x] w w') (by kernel_rfl) (by kernel_rfl) rfl (by kernel_rfl) HI2.out ?_
  clear HI2
  repeat (first | (apply walkD_pure; rfl; rfl; (intro _; go_simp; first | done | rfl); (intro K hK; go_simp; refine hK _ ?_; clear hK K)) | (apply walkD_skip; rfl; rfl; (intro K hK; go_simp; refine hK _ ?_; clear hK K)) | (apply walkD_read1 [false] (by kernel_rfl); rfl; rfl; (intro w' hD; (have y0 := hD.1.pend.idle.rest 0; have y1 := hD.1.pend.idle.rest 1; have y2 := hD.1.pend.idle.rest 2; have y3 := hD.1.pend.idle.rest 3; have y4 := hD.1.pend.idle.rest 4; have y5 := hD.1.pend.idle.rest 5; have y6 := hD.1.pend.idle.rest 6; have y7 := hD.1.pend.idle.rest 7; have y8 := hD.1.pend.idle.rest 8; simp only [soR, Nat.reduceAdd, Nat.zero_add, List.getElem?_cons_zero, List.getElem?_cons_succ] at y0 y1 y2 y3 y4 y5 y6 y7 y8); go_simp; rfl); (intro K hK; go_simp; refine hK _ ?_; clear hK K)) | (apply walkD_call1 [false] (by kernel_rfl); rfl; (intro _; go_simp; first | rfl | exact ⟨rfl, rfl⟩); (intro w' hD; go_at_call 124; refine (irun_run (S := pgS lo l P T G who) (pg_sub lo l P T G who) hD.1.pend hD.2 SW.out (of_decide_eq_true rfl)).mono ?_; rintro e w2 ⟨rfl, h1, h2, h3⟩; exact ⟨rfl, ⟨h1, h2, SW.out⟩, hD.1.kept.trans h3 (by intro i hi; exact .inl hi)⟩); (intro K hK; go_simp; refine hK _ ?_; clear hK K)))
  rintro w3 ⟨h1, h2⟩
  go_wp2
  go_returns
  exact ⟨⟨_, rfl⟩, ⟨_, h1⟩, h2⟩
theorem so_got_run (x l lo : Nat) (P T G who : Int) (o n : Int) (k : Nat) (w : World)  (hlo : lo ≤ w.heap.size) (hp : Pend w x who (soR l o n (-1) false false false (.pointer (some ⟨k, 0, none⟩)) (.pointer none)) 202 .done) (hL : Lay w l P T G) :
    Calls Tryz.prog 297 #[.pointer (some ⟨x, 0, none⟩)] w fun e w' => (∃ r, e = .returned r) ∧ (∃ y, Pend2 w' x who (soR l o n (-1) false false false (.pointer (some ⟨k, 0, none⟩)) (.pointer none)) 202 (.sub (rlS lo l 0 P T G who) y .puts 320)) ∧ Kept [x] w w' := by
  have SW := hid (show (rlS lo l 0 P T G who).sys.want .puts ≠ none by exact fun h => by cases h)
  have HI0 := hid (MI.start hp hL)
  have HI := hid (MI.drewS (N := w.heap.size) HI0.out (by first | rfl | simp))
  clear HI0
  have hf := hp.idle.frozen
  (have y0 := hp.idle.rest 0; have y1 := hp.idle.rest 1; have y2 := hp.idle.rest 2; have y3 := hp.idle.rest 3; have y4 := hp.idle.rest 4; have y5 := hp.idle.rest 5; have y6 := hp.idle.rest 6; have y7 := hp.idle.rest 7; have y8 := hp.idle.rest 8; simp only [soR, Nat.reduceAdd, Nat.zero_add, List.getElem?_cons_zero, List.getElem?_cons_succ] at y0 y1 y2 y3 y4 y5 y6 y7 y8)
  clear hp hL
  go_enter Tryz.func297, Tryz.ntmps297
  go_wp2_with fail
  refine wp_region_D [11, 15] (tcl2 (fun w' => MI w w' x who (soR l o n (-1) false false false (.pointer (some ⟨k, 0, none⟩)) (.pointer none)) 202 l P T G ∧ w'.heap.size = w.heap.size) (fun w' => MI w w' x who (soR l o n (-1) false false false (.pointer (some ⟨k, 0, none⟩)) (.pointer none)) 202 l P T G ∧ (rlS lo l 0 P T G who).at_ w' w.heap.size .puts) (fun w' => Pend2 w' x who (soR l o n (-1) false false false (.pointer (some ⟨k, 0, none⟩)) (.pointer none)) 202 (.sub (rlS lo l 0 P T G who) w.heap.size .puts 320) ∧ Kept [x] w w')) (by kernel_rfl) (by kernel_rfl) rfl (by kernel_rfl) HI.out ?_
  clear HI
  repeat (first | (apply walkD_pure; rfl; rfl; (intro _; go_simp; first | done | rfl); (intro K hK; go_simp; refine hK _ ?_; clear hK K)) | (apply walkD_skip; rfl; rfl; (intro K hK; go_simp; refine hK _ ?_; clear hK K)) | (apply walkD_read1 [false, false] (by kernel_rfl); rfl; rfl; (intro w' hD; (have y0 := hD.1.pend.idle.rest 0; have y1 := hD.1.pend.idle.rest 1; have y2 := hD.1.pend.idle.rest 2; have y3 := hD.1.pend.idle.rest 3; have y4 := hD.1.pend.idle.rest 4; have y5 := hD.1.pend.idle.rest 5; have y6 := hD.1.pend.idle.rest 6; have y7 := hD.1.pend.idle.rest 7; have y8 := hD.1.pend.idle.rest 8; simp only [soR, Nat.reduceAdd, Nat.zero_add, List.getElem?_cons_zero, List.getElem?_cons_succ] at y0 y1 y2 y3 y4 y5 y6 y7 y8); go_simp; rfl); (intro K hK; go_simp; refine hK _ ?_; clear hK K)) | (apply walkD_call1 [false, false] (by kernel_rfl); rfl; (intro _; go_simp; first | rfl | exact ⟨rfl, rfl⟩); (intro w' hD; first | (go_at_call 222; refine (ifwho_run hD.1.pend).mono ?_; rintro e w2 ⟨rfl, rfl⟩; exact ⟨rfl, hD⟩) | (go_at_call 308; have q := rl_made lo l 0 P T G who w' hD.1.lay (by rw [hD.2]; exact hlo); rw [hD.2] at q; refine q.mono ?_; rintro e w2 ⟨rfl, hA, hb⟩; exact ⟨rfl, hD.1.quiet (by rw [hD.2]; exact hb), hA⟩)); (intro K hK; go_simp; refine hK _ ?_; clear hK K)) | (apply walkD_call1 [true, false] (by kernel_rfl); rfl; (intro _; go_simp; first | rfl | exact ⟨rfl, rfl⟩); (intro w' hD; go_at_call 124; refine (irun_run (S := rlS lo l 0 P T G who) (rl_sub lo l 0 P T G who) hD.1.pend hD.2 SW.out (of_decide_eq_true rfl)).mono ?_; rintro e w2 ⟨rfl, h1, h2, h3⟩; exact ⟨rfl, ⟨h1, h2, SW.out⟩, hD.1.kept.trans h3 (by intro i hi; exact .inl hi)⟩); (intro K hK; go_simp; refine hK _ ?_; clear hK K)))
  rintro w2 ⟨h1, h2⟩
  go_wp2
  go_returns
  exact ⟨⟨_, rfl⟩, ⟨_, h1⟩, h2⟩
theorem so_left0_run (x l lo : Nat) (P T G who : Int) (o n : Int) (k : Nat) (u : Idlep.PgSt) (w : World) (hA : (pgS lo l P T G who).at_ w k u) (ht : u.p = -1) (hlo : lo ≤ w.heap.size) (hp : Pend w x who (soR l o n (-1) false false false (.pointer (some ⟨k, 0, none⟩)) (.pointer none)) 202 .done) (hL : Lay w l P T G) :
    Calls Tryz.prog 320 #[.pointer (some ⟨x, 0, none⟩)] w fun e w' => (∃ r, e = .returned r) ∧ (Pend w' x who (soR l o n (-1) false false false (.pointer none) (.pointer none)) 202 (.store (gg P T G n 0) 1 296)) ∧ Kept [x] w w' := by
  have HG := hid (Idlep.pg_p_run hA)
  rw [ht] at HG
  clear hA ht
  have HI := hid (((MI.start hp hL).put (by decide) 3 (.int .i64 (-1))).put (by decide) 7 ((.pointer none)))
  have hf := hp.idle.frozen
  (have y0 := hp.idle.rest 0; have y1 := hp.idle.rest 1; have y2 := hp.idle.rest 2; have y3 := hp.idle.rest 3; have y4 := hp.idle.rest 4; have y5 := hp.idle.rest 5; have y6 := hp.idle.rest 6; have y7 := hp.idle.rest 7; have y8 := hp.idle.rest 8; simp only [soR, Nat.reduceAdd, Nat.zero_add, List.getElem?_cons_zero, List.getElem?_cons_succ] at y0 y1 y2 y3 y4 y5 y6 y7 y8)
  clear hp hL
  go_enter Tryz.func320, Tryz.ntmps320
  go_wp2_with (go_at_call 131; refine HG.out.mono ?_; rintro e w1 ⟨rfl, rfl⟩)
  refine (so_waits_run x l P T G who o n (-1) _ HI.out.pend HI.out.lay).mono ?_
  rintro e w9 ⟨⟨r, rfl⟩, hy, hK⟩
  have HX := hid (And.intro hy (HI.out.kept.trans hK (by intro i hi; exact .inl hi)))
  clear HI hy hK
  go_wp2
  go_returns
  exact ⟨⟨_, rfl⟩, HX.out⟩
theorem so_left1_run (x l : Nat) (P T G who : Int) (o n v : Int) (k lo : Nat) (u : Idlep.PgSt) (w : World) (hA : (pgS lo l P T G who).at_ w k u) (ht : u.p = v) (hn : v ≠ -1) (hp : Pend w x who (soR l o n (-1) false false false (.pointer (some ⟨k, 0, none⟩)) (.pointer none)) 202 .done) (hL : Lay w l P T G) :
    Calls Tryz.prog 320 #[.pointer (some ⟨x, 0, none⟩)] w fun e w' => (∃ r, e = .returned r) ∧ Pend w' x who (soR l o n v false false false (.pointer none) (.pointer none)) 202 (.store (pr P v 0) 1 261) ∧ Kept [x] w w' := by
  have HG := hid (Idlep.pg_p_run hA)
  rw [ht] at HG
  clear hA ht
  have d1 : ((v : Int) == -1) = false := by simpa using hn
  have HI := hid (((MI.start hp hL).put (by decide) 3 (.int .i64 v)).put (by decide) 7 ((.pointer none))).drew
  have hf := hp.idle.frozen
  (have y0 := hp.idle.rest 0; have y1 := hp.idle.rest 1; have y2 := hp.idle.rest 2; have y3 := hp.idle.rest 3; have y4 := hp.idle.rest 4; have y5 := hp.idle.rest 5; have y6 := hp.idle.rest 6; have y7 := hp.idle.rest 7; have y8 := hp.idle.rest 8; simp only [soR, Nat.reduceAdd, Nat.zero_add, List.getElem?_cons_zero, List.getElem?_cons_succ] at y0 y1 y2 y3 y4 y5 y6 y7 y8)
  clear hp hL
  go_enter Tryz.func320, Tryz.ntmps320
  go_wp2_with (go_at_call 131; refine HG.out.mono ?_; rintro e w1 ⟨rfl, rfl⟩)
  refine wp_region_T 14 (fun w' => MI w w' x who (soR l o n v false false false (.pointer none) (.pointer none)) 202 l P T G) (fun w' => Pend w' x who (soR l o n v false false false (.pointer none) (.pointer none)) 202 (.store (pr P v 0) 1 261) ∧ Kept [x] w w') (by kernel_rfl) (by kernel_rfl) rfl (by kernel_rfl) HI.out ?_
  clear HI
  (repeat (first | (apply walkD_pure; rfl; rfl; (intro _; go_simp; first | done | rfl); (intro K hK; go_simp; refine hK _ ?_; clear hK K)) | (apply walkD_skip; rfl; rfl; (intro K hK; go_simp; refine hK _ ?_; clear hK K)) | (apply walkD_read1 [false] (by kernel_rfl); rfl; rfl; (intro w' hD; (have y0 := hD.pend.idle.rest 0; have y1 := hD.pend.idle.rest 1; have y2 := hD.pend.idle.rest 2; have y3 := hD.pend.idle.rest 3; have y4 := hD.pend.idle.rest 4; have y5 := hD.pend.idle.rest 5; have y6 := hD.pend.idle.rest 6; have y7 := hD.pend.idle.rest 7; have y8 := hD.pend.idle.rest 8; simp only [soR, Nat.reduceAdd, Nat.zero_add, List.getElem?_cons_zero, List.getElem?_cons_succ] at y0 y1 y2 y3 y4 y5 y6 y7 y8); go_simp; rfl); (intro K hK; go_simp; refine hK _ ?_; clear hK K)) | (apply walkD_call1 [false] (by kernel_rfl); rfl; (intro _; go_simp; first | rfl | exact ⟨rfl, rfl⟩); (intro w' hD; first | (go_at_call 25; refine (proc_run _ _ _ _ _ _ _ hD.lay).mono ?_; rintro e w2 ⟨rfl, hb⟩; exact ⟨rfl, hD.quiet hb⟩) | (go_at_call 76; refine (thread_run _ _ _ _ _ _ _ hD.lay).mono ?_; rintro e w2 ⟨rfl, hb⟩; exact ⟨rfl, hD.quiet hb⟩) | (go_at_call 255; refine (ring_run _ _ _ _ _ _ (by assumption) _ hD.lay).mono ?_; rintro e w2 ⟨rfl, hb⟩; exact ⟨rfl, hD.quiet hb⟩) | (go_at_call 168; refine (g_run _ _ _ _ _ _ _ hD.lay).mono ?_; rintro e w2 ⟨rfl, hb⟩; exact ⟨rfl, hD.quiet hb⟩) | (go_at_call 133; refine (word_run _ 0 0 0 _ _).mono ?_; rintro e w2 ⟨rfl, rfl⟩; exact ⟨rfl, hD⟩) | (go_at_call 183; refine (iload_run hD.pend.idle _ _).mono ?_; rintro e w2 ⟨rfl, hP, hK⟩; exact ⟨rfl, hP, hD.kept.trans hK (by intro i hi; exact .inl hi)⟩) | (go_at_call 132; refine (iadd_run hD.pend.idle _ _ _).mono ?_; rintro e w2 ⟨rfl, hP, hK⟩; exact ⟨rfl, hP, hD.kept.trans hK (by intro i hi; exact .inl hi)⟩) | (go_at_call 188; refine (istore_run hD.pend.idle _ _ _).mono ?_; rintro e w2 ⟨rfl, hP, hK⟩; exact ⟨rfl, hP, hD.kept.trans hK (by intro i hi; exact .inl hi)⟩) | (go_at_call 166; refine (iswap_run hD.pend.idle _ _ _ _).mono ?_; rintro e w2 ⟨rfl, hP, hK⟩; exact ⟨rfl, hP, hD.kept.trans hK (by intro i hi; exact .inl hi)⟩)); (intro K hK; go_simp; refine hK _ ?_; clear hK K))))
  (rintro w2 ⟨h1, h2⟩; go_wp2; go_returns; exact ⟨⟨_, rfl⟩, h1, h2⟩)
theorem so_comes_run (x l lo : Nat) (P T G who : Int) (o n : Int) (w : World) (hw : 0 ≤ who ∧ who ≤ 1000) (hlo : lo ≤ w.heap.size) (hp : Pend w x who (soR l o n (-1) false false false (.pointer none) (.pointer none)) 202 .done) (hL : Lay w l P T G) :
    Calls Tryz.prog 296 #[.pointer (some ⟨x, 0, none⟩)] w fun e w' => (∃ r, e = .returned r) ∧ (∃ y, Pend2 w' x who (soR l o n (-1) true false true (.pointer none) (.pointer none)) 202 (.sub (aqS lo l 0 P T G who) y .ask 319)) ∧ Kept [x] w w' := by
  have SW := hid (show (aqS lo l 0 P T G who).sys.want .ask ≠ none by exact fun h => by cases h)
  have HI0 := hid (((MI.start hp hL).put (by decide) 4 (.bool true)).put (by decide) 6 (.bool true))
  have HI := hid (MI.drewS (N := w.heap.size) HI0.out (by first | rfl | simp))
  clear HI0
  have hf := hp.idle.frozen
  (have y0 := hp.idle.rest 0; have y1 := hp.idle.rest 1; have y2 := hp.idle.rest 2; have y3 := hp.idle.rest 3; have y4 := hp.idle.rest 4; have y5 := hp.idle.rest 5; have y6 := hp.idle.rest 6; have y7 := hp.idle.rest 7; have y8 := hp.idle.rest 8; simp only [soR, Nat.reduceAdd, Nat.zero_add, List.getElem?_cons_zero, List.getElem?_cons_succ] at y0 y1 y2 y3 y4 y5 y6 y7 y8)
  clear hp hL
  go_enter Tryz.func296, Tryz.ntmps296
  go_wp2_with fail
  refine wp_region_D [11, 15] (tcl2 (fun w' => MI w w' x who (soR l o n (-1) true false true (.pointer none) (.pointer none)) 202 l P T G ∧ w'.heap.size = w.heap.size) (fun w' => MI w w' x who (soR l o n (-1) true false true (.pointer none) (.pointer none)) 202 l P T G ∧ (aqS lo l 0 P T G who).at_ w' w.heap.size .ask) (fun w' => Pend2 w' x who (soR l o n (-1) true false true (.pointer none) (.pointer none)) 202 (.sub (aqS lo l 0 P T G who) w.heap.size .ask 319) ∧ Kept [x] w w')) (by kernel_rfl) (by kernel_rfl) rfl (by kernel_rfl) HI.out ?_
  clear HI
  repeat (first | (apply walkD_pure; rfl; rfl; (intro _; go_simp; first | done | rfl); (intro K hK; go_simp; refine hK _ ?_; clear hK K)) | (apply walkD_skip; rfl; rfl; (intro K hK; go_simp; refine hK _ ?_; clear hK K)) | (apply walkD_read1 [false, false] (by kernel_rfl); rfl; rfl; (intro w' hD; (have y0 := hD.1.pend.idle.rest 0; have y1 := hD.1.pend.idle.rest 1; have y2 := hD.1.pend.idle.rest 2; have y3 := hD.1.pend.idle.rest 3; have y4 := hD.1.pend.idle.rest 4; have y5 := hD.1.pend.idle.rest 5; have y6 := hD.1.pend.idle.rest 6; have y7 := hD.1.pend.idle.rest 7; have y8 := hD.1.pend.idle.rest 8; simp only [soR, Nat.reduceAdd, Nat.zero_add, List.getElem?_cons_zero, List.getElem?_cons_succ] at y0 y1 y2 y3 y4 y5 y6 y7 y8); go_simp; rfl); (intro K hK; go_simp; refine hK _ ?_; clear hK K)) | (apply walkD_call1 [false, false] (by kernel_rfl); rfl; (intro _; go_simp; first | rfl | exact ⟨rfl, rfl⟩); (intro w' hD; first | (go_at_call 222; refine (ifwho_run hD.1.pend).mono ?_; rintro e w2 ⟨rfl, rfl⟩; exact ⟨rfl, hD⟩) | (go_at_call 125; have q := aq_made lo l 0 P T G who w' hD.1.lay (by rw [hD.2]; exact hlo); rw [hD.2] at q; refine q.mono ?_; rintro e w2 ⟨rfl, hA, hb⟩; exact ⟨rfl, hD.1.quiet (by rw [hD.2]; exact hb), hA⟩)); (intro K hK; go_simp; refine hK _ ?_; clear hK K)) | (apply walkD_call1 [true, false] (by kernel_rfl); rfl; (intro _; go_simp; first | rfl | exact ⟨rfl, rfl⟩); (intro w' hD; go_at_call 124; refine (irun_run (S := aqS lo l 0 P T G who) (aq_sub lo l 0 P T G who hw) hD.1.pend hD.2 SW.out (of_decide_eq_true rfl)).mono ?_; rintro e w2 ⟨rfl, h1, h2, h3⟩; exact ⟨rfl, ⟨h1, h2, SW.out⟩, hD.1.kept.trans h3 (by intro i hi; exact .inl hi)⟩); (intro K hK; go_simp; refine hK _ ?_; clear hK K)))
  rintro w2 ⟨h1, h2⟩
  go_wp2
  go_returns
  exact ⟨⟨_, rfl⟩, ⟨_, h1⟩, h2⟩
theorem so_lockedAgain_run (x l lo : Nat) (P T G who : Int) (o n : Int) (w : World)  (hlo : lo ≤ w.heap.size) (hp : Pend w x who (soR l o n (-1) true false true (.pointer none) (.pointer none)) 202 .done) (hL : Lay w l P T G) :
    Calls Tryz.prog 319 #[.pointer (some ⟨x, 0, none⟩)] w fun e w' => (∃ r, e = .returned r) ∧ (∃ y, Pend2 w' x who (soR l o n (-1) true false true (.pointer (some ⟨y, 0, none⟩)) (.pointer none)) 202 (.sub (pgS lo l P T G who) y .h 341)) ∧ Kept [x] w w' := by
  have SW := hid (show (pgS lo l P T G who).sys.want .h ≠ none by exact fun h => by cases h)
  have HI := hid (MI.drewS (N := w.heap.size) (MI.start hp hL) (by first | rfl | simp))
  have hf := hp.idle.frozen
  (have y0 := hp.idle.rest 0; have y1 := hp.idle.rest 1; have y2 := hp.idle.rest 2; have y3 := hp.idle.rest 3; have y4 := hp.idle.rest 4; have y5 := hp.idle.rest 5; have y6 := hp.idle.rest 6; have y7 := hp.idle.rest 7; have y8 := hp.idle.rest 8; simp only [soR, Nat.reduceAdd, Nat.zero_add, List.getElem?_cons_zero, List.getElem?_cons_succ] at y0 y1 y2 y3 y4 y5 y6 y7 y8)
  clear hp hL
  go_enter Tryz.func319, Tryz.ntmps319
  go_wp2_with fail
  refine wp_region_D [9, 12] (tcl2 (fun w' => MI w w' x who (soR l o n (-1) true false true (.pointer none) (.pointer none)) 202 l P T G ∧ w'.heap.size = w.heap.size) (fun w' => MI w w' x who (soR l o n (-1) true false true (.pointer none) (.pointer none)) 202 l P T G ∧ (pgS lo l P T G who).at_ w' w.heap.size .h) (fun w' => MI w w' x who (soR l o n (-1) true false true (.pointer (some ⟨w.heap.size, 0, none⟩)) (.pointer none)) 202 l P T G ∧ (pgS lo l P T G who).at_ w' w.heap.size .h)) (by kernel_rfl) (by kernel_rfl) rfl (by kernel_rfl) HI.out ?_
  clear HI
  repeat (first | (apply walkD_pure; rfl; rfl; (intro _; go_simp; first | done | rfl); (intro K hK; go_simp; refine hK _ ?_; clear hK K)) | (apply walkD_skip; rfl; rfl; (intro K hK; go_simp; refine hK _ ?_; clear hK K)) | (apply walkD_read1 [false, false] (by kernel_rfl); rfl; rfl; (intro w' hD; (have y0 := hD.1.pend.idle.rest 0; have y1 := hD.1.pend.idle.rest 1; have y2 := hD.1.pend.idle.rest 2; have y3 := hD.1.pend.idle.rest 3; have y4 := hD.1.pend.idle.rest 4; have y5 := hD.1.pend.idle.rest 5; have y6 := hD.1.pend.idle.rest 6; have y7 := hD.1.pend.idle.rest 7; have y8 := hD.1.pend.idle.rest 8; simp only [soR, Nat.reduceAdd, Nat.zero_add, List.getElem?_cons_zero, List.getElem?_cons_succ] at y0 y1 y2 y3 y4 y5 y6 y7 y8); go_simp; rfl); (intro K hK; go_simp; refine hK _ ?_; clear hK K)) | (apply walkD_call1 [false, false] (by kernel_rfl); rfl; (intro _; go_simp; first | rfl | exact ⟨rfl, rfl⟩); (intro w' hD; first | (go_at_call 222; refine (ifwho_run hD.1.pend).mono ?_; rintro e w2 ⟨rfl, rfl⟩; exact ⟨rfl, hD⟩) | (go_at_call 252; have q := pg_made lo l P T G who w' hD.1.lay (by rw [hD.2]; exact hlo); rw [hD.2] at q; refine q.mono ?_; rintro e w2 ⟨rfl, hA, hb⟩; exact ⟨rfl, hD.1.quiet (by rw [hD.2]; exact hb), hA⟩)); (intro K hK; go_simp; refine hK _ ?_; clear hK K)) | (apply walkD_turn1 (v := undef) [true, false] (by kernel_rfl); rfl; (intro w' hD; (have y0 := hD.1.pend.idle.rest 0; have y1 := hD.1.pend.idle.rest 1; have y2 := hD.1.pend.idle.rest 2; have y3 := hD.1.pend.idle.rest 3; have y4 := hD.1.pend.idle.rest 4; have y5 := hD.1.pend.idle.rest 5; have y6 := hD.1.pend.idle.rest 6; have y7 := hD.1.pend.idle.rest 7; have y8 := hD.1.pend.idle.rest 8; simp only [soR, Nat.reduceAdd, Nat.zero_add, List.getElem?_cons_zero, List.getElem?_cons_succ] at y0 y1 y2 y3 y4 y5 y6 y7 y8); have yf := hD.1.pend.idle.frozen; unfold Go.Proofs.YtlhnnggceebpjaaGreat.Flag.opAt; go_simp; exact ⟨⟨hD.1.put (by decide) 7 _, sub_set (pg_sub lo l P T G who) hD.2 hD.1.pend (of_decide_eq_true rfl) _ _⟩, rfl⟩); (intro K hK; go_simp; refine hK _ ?_; clear hK K)))
  rintro w4 ⟨h1, h2⟩
  obtain ⟨y, hy⟩ : ∃ y, y = w.heap.size := ⟨_, rfl⟩
  rw [← hy] at h1 h2 ⊢
  have HI2 := hid (And.intro h1.drew (SubOk.at_quiet (pg_sub lo l P T G who) h2 (below_drewN (Below.refl _ _) 1)))
  have hf := h1.pend.idle.frozen
  clear h1 h2 hy
  go_wp2_with fail
  refine wp_region_T 10 (fun w' => MI w w' x who (soR l o n (-1) true false true (.pointer (some ⟨y, 0, none⟩)) (.pointer none)) 202 l P T G ∧ (pgS lo l P T G who).at_ w' y .h) (fun w' => Pend2 w' x who (soR l o n (-1) true false true (.pointer (some ⟨y, 0, none⟩)) (.pointer none)) 202 (.sub (pgS lo l P T G who) y .h 341) ∧ Kept [x] w w') (by kernel_rfl) (by kernel_rfl) rfl (by kernel_rfl) HI2.out ?_
  clear HI2
  repeat (first | (apply walkD_pure; rfl; rfl; (intro _; go_simp; first | done | rfl); (intro K hK; go_simp; refine hK _ ?_; clear hK K)) | (apply walkD_skip; rfl; rfl; (intro K hK; go_simp; refine hK _ ?_; clear hK K)) | (apply walkD_read1 [false] (by kernel_rfl); rfl; rfl; (intro w' hD; (have y0 := hD.1.pend.idle.rest 0; have y1 := hD.1.pend.idle.rest 1; have y2 := hD.1.pend.idle.rest 2; have y3 := hD.1.pend.idle.rest 3; have y4 := hD.1.pend.idle.rest 4; have y5 := hD.1.pend.idle.rest 5; have y6 := hD.1.pend.idle.rest 6; have y7 := hD.1.pend.idle.rest 7; have y8 := hD.1.pend.idle.rest 8; simp only [soR, Nat.reduceAdd, Nat.zero_add, List.getElem?_cons_zero, List.getElem?_cons_succ] at y0 y1 y2 y3 y4 y5 y6 y7 y8); go_simp; rfl); (intro K hK; go_simp; refine hK _ ?_; clear hK K)) | (apply walkD_call1 [false] (by kernel_rfl); rfl; (intro _; go_simp; first | rfl | exact ⟨rfl, rfl⟩); (intro w' hD; go_at_call 124; refine (irun_run (S := pgS lo l P T G who) (pg_sub lo l P T G who) hD.1.pend hD.2 SW.out (of_decide_eq_true rfl)).mono ?_; rintro e w2 ⟨rfl, h1, h2, h3⟩; exact ⟨rfl, ⟨h1, h2, SW.out⟩, hD.1.kept.trans h3 (by intro i hi; exact .inl hi)⟩); (intro K hK; go_simp; refine hK _ ?_; clear hK K)))
  rintro w3 ⟨h1, h2⟩
  go_wp2
  go_returns
  exact ⟨⟨_, rfl⟩, ⟨_, h1⟩, h2⟩
theorem so_gotAgain1_run (x l lo : Nat) (P T G who : Int) (o n v : Int) (k : Nat) (u : Idlep.PgSt) (w : World) (hA : (pgS lo l P T G who).at_ w k u) (ht : u.p = v) (hn : v ≠ -1) (hlo : lo ≤ w.heap.size) (hp : Pend w x who (soR l o n (-1) true false true (.pointer (some ⟨k, 0, none⟩)) (.pointer none)) 202 .done) (hL : Lay w l P T G) :
    Calls Tryz.prog 341 #[.pointer (some ⟨x, 0, none⟩)] w fun e w' => (∃ r, e = .returned r) ∧ (∃ y, Pend2 w' x who (soR l o n v true false true (.pointer none) (.pointer none)) 202 (.sub (rlS lo l 0 P T G who) y .puts 361)) ∧ Kept [x] w w' := by
  have HG := hid (Idlep.pg_p_run hA)
  rw [ht] at HG
  clear hA ht
  have d1 : ((v : Int) != -1) = true := by simpa using hn
  have SW := hid (show (rlS lo l 0 P T G who).sys.want .puts ≠ none by exact fun h => by cases h)
  have HI0 := hid (((MI.start hp hL).put (by decide) 3 (.int .i64 v)).put (by decide) 7 ((.pointer none)))
  have HI := hid (MI.drewS (N := w.heap.size) HI0.out (by first | rfl | simp))
  clear HI0
  have hf := hp.idle.frozen
  (have y0 := hp.idle.rest 0; have y1 := hp.idle.rest 1; have y2 := hp.idle.rest 2; have y3 := hp.idle.rest 3; have y4 := hp.idle.rest 4; have y5 := hp.idle.rest 5; have y6 := hp.idle.rest 6; have y7 := hp.idle.rest 7; have y8 := hp.idle.rest 8; simp only [soR, Nat.reduceAdd, Nat.zero_add, List.getElem?_cons_zero, List.getElem?_cons_succ] at y0 y1 y2 y3 y4 y5 y6 y7 y8)
  clear hp hL
  go_enter Tryz.func341, Tryz.ntmps341
  go_wp2_with (go_at_call 131; refine HG.out.mono ?_; rintro e w1 ⟨rfl, rfl⟩)
  refine wp_region_D [11, 15] (tcl2 (fun w' => MI w w' x who (soR l o n v true false true (.pointer none) (.pointer none)) 202 l P T G ∧ w'.heap.size = w.heap.size) (fun w' => MI w w' x who (soR l o n v true false true (.pointer none) (.pointer none)) 202 l P T G ∧ (rlS lo l 0 P T G who).at_ w' w.heap.size .puts) (fun w' => Pend2 w' x who (soR l o n v true false true (.pointer none) (.pointer none)) 202 (.sub (rlS lo l 0 P T G who) w.heap.size .puts 361) ∧ Kept [x] w w')) (by kernel_rfl) (by kernel_rfl) rfl (by kernel_rfl) HI.out ?_
  clear HI
  repeat (first | (apply walkD_pure; rfl; rfl; (intro _; go_simp; first | done | rfl); (intro K hK; go_simp; refine hK _ ?_; clear hK K)) | (apply walkD_skip; rfl; rfl; (intro K hK; go_simp; refine hK _ ?_; clear hK K)) | (apply walkD_read1 [false, false] (by kernel_rfl); rfl; rfl; (intro w' hD; (have y0 := hD.1.pend.idle.rest 0; have y1 := hD.1.pend.idle.rest 1; have y2 := hD.1.pend.idle.rest 2; have y3 := hD.1.pend.idle.rest 3; have y4 := hD.1.pend.idle.rest 4; have y5 := hD.1.pend.idle.rest 5; have y6 := hD.1.pend.idle.rest 6; have y7 := hD.1.pend.idle.rest 7; have y8 := hD.1.pend.idle.rest 8; simp only [soR, Nat.reduceAdd, Nat.zero_add, List.getElem?_cons_zero, List.getElem?_cons_succ] at y0 y1 y2 y3 y4 y5 y6 y7 y8); go_simp; rfl); (intro K hK; go_simp; refine hK _ ?_; clear hK K)) | (apply walkD_call1 [false, false] (by kernel_rfl); rfl; (intro _; go_simp; first | rfl | exact ⟨rfl, rfl⟩); (intro w' hD; first | (go_at_call 222; refine (ifwho_run hD.1.pend).mono ?_; rintro e w2 ⟨rfl, rfl⟩; exact ⟨rfl, hD⟩) | (go_at_call 308; have q := rl_made lo l 0 P T G who w' hD.1.lay (by rw [hD.2]; exact hlo); rw [hD.2] at q; refine q.mono ?_; rintro e w2 ⟨rfl, hA, hb⟩; exact ⟨rfl, hD.1.quiet (by rw [hD.2]; exact hb), hA⟩)); (intro K hK; go_simp; refine hK _ ?_; clear hK K)) | (apply walkD_call1 [true, false] (by kernel_rfl); rfl; (intro _; go_simp; first | rfl | exact ⟨rfl, rfl⟩); (intro w' hD; go_at_call 124; refine (irun_run (S := rlS lo l 0 P T G who) (rl_sub lo l 0 P T G who) hD.1.pend hD.2 SW.out (of_decide_eq_true rfl)).mono ?_; rintro e w2 ⟨rfl, h1, h2, h3⟩; exact ⟨rfl, ⟨h1, h2, SW.out⟩, hD.1.kept.trans h3 (by intro i hi; exact .inl hi)⟩); (intro K hK; go_simp; refine hK _ ?_; clear hK K)))
  rintro w2 ⟨h1, h2⟩
  go_wp2
  go_returns
  exact ⟨⟨_, rfl⟩, ⟨_, h1⟩, h2⟩
theorem so_hasOne_run (x l : Nat) (P T G who : Int) (o n v : Int) (w : World)  (hp : Pend w x who (soR l o n v true false true (.pointer none) (.pointer none)) 202 .done) (hL : Lay w l P T G) :
    Calls Tryz.prog 361 #[.pointer (some ⟨x, 0, none⟩)] w fun e w' => (∃ r, e = .returned r) ∧ Pend w' x who (soR l o n v true false true (.pointer none) (.pointer none)) 202 (.store (pr P v 0) 1 380) ∧ Kept [x] w w' := by
  have HI := hid (MI.start hp hL).drew
  have hf := hp.idle.frozen
  (have y0 := hp.idle.rest 0; have y1 := hp.idle.rest 1; have y2 := hp.idle.rest 2; have y3 := hp.idle.rest 3; have y4 := hp.idle.rest 4; have y5 := hp.idle.rest 5; have y6 := hp.idle.rest 6; have y7 := hp.idle.rest 7; have y8 := hp.idle.rest 8; simp only [soR, Nat.reduceAdd, Nat.zero_add, List.getElem?_cons_zero, List.getElem?_cons_succ] at y0 y1 y2 y3 y4 y5 y6 y7 y8)
  clear hp hL
  go_enter Tryz.func361, Tryz.ntmps361
  go_wp2_with fail
  refine wp_region_T 14 (fun w' => MI w w' x who (soR l o n v true false true (.pointer none) (.pointer none)) 202 l P T G) (fun w' => Pend w' x who (soR l o n v true false true (.pointer none) (.pointer none)) 202 (.store (pr P v 0) 1 380) ∧ Kept [x] w w') (by kernel_rfl) (by kernel_rfl) rfl (by kernel_rfl) HI.out ?_
  clear HI
  (repeat (first | (apply walkD_pure; rfl; rfl; (intro _; go_simp; first | done | rfl); (intro K hK; go_simp; refine hK _ ?_; clear hK K)) | (apply walkD_skip; rfl; rfl; (intro K hK; go_simp; refine hK _ ?_; clear hK K)) | (apply walkD_read1 [false] (by kernel_rfl); rfl; rfl; (intro w' hD; (have y0 := hD.pend.idle.rest 0; have y1 := hD.pend.idle.rest 1; have y2 := hD.pend.idle.rest 2; have y3 := hD.pend.idle.rest 3; have y4 := hD.pend.idle.rest 4; have y5 := hD.pend.idle.rest 5; have y6 := hD.pend.idle.rest 6; have y7 := hD.pend.idle.rest 7; have y8 := hD.pend.idle.rest 8; simp only [soR, Nat.reduceAdd, Nat.zero_add, List.getElem?_cons_zero, List.getElem?_cons_succ] at y0 y1 y2 y3 y4 y5 y6 y7 y8); go_simp; rfl); (intro K hK; go_simp; refine hK _ ?_; clear hK K)) | (apply walkD_call1 [false] (by kernel_rfl); rfl; (intro _; go_simp; first | rfl | exact ⟨rfl, rfl⟩); (intro w' hD; first | (go_at_call 25; refine (proc_run _ _ _ _ _ _ _ hD.lay).mono ?_; rintro e w2 ⟨rfl, hb⟩; exact ⟨rfl, hD.quiet hb⟩) | (go_at_call 76; refine (thread_run _ _ _ _ _ _ _ hD.lay).mono ?_; rintro e w2 ⟨rfl, hb⟩; exact ⟨rfl, hD.quiet hb⟩) | (go_at_call 255; refine (ring_run _ _ _ _ _ _ (by assumption) _ hD.lay).mono ?_; rintro e w2 ⟨rfl, hb⟩; exact ⟨rfl, hD.quiet hb⟩) | (go_at_call 168; refine (g_run _ _ _ _ _ _ _ hD.lay).mono ?_; rintro e w2 ⟨rfl, hb⟩; exact ⟨rfl, hD.quiet hb⟩) | (go_at_call 133; refine (word_run _ 0 0 0 _ _).mono ?_; rintro e w2 ⟨rfl, rfl⟩; exact ⟨rfl, hD⟩) | (go_at_call 183; refine (iload_run hD.pend.idle _ _).mono ?_; rintro e w2 ⟨rfl, hP, hK⟩; exact ⟨rfl, hP, hD.kept.trans hK (by intro i hi; exact .inl hi)⟩) | (go_at_call 132; refine (iadd_run hD.pend.idle _ _ _).mono ?_; rintro e w2 ⟨rfl, hP, hK⟩; exact ⟨rfl, hP, hD.kept.trans hK (by intro i hi; exact .inl hi)⟩) | (go_at_call 188; refine (istore_run hD.pend.idle _ _ _).mono ?_; rintro e w2 ⟨rfl, hP, hK⟩; exact ⟨rfl, hP, hD.kept.trans hK (by intro i hi; exact .inl hi)⟩) | (go_at_call 166; refine (iswap_run hD.pend.idle _ _ _ _).mono ?_; rintro e w2 ⟨rfl, hP, hK⟩; exact ⟨rfl, hP, hD.kept.trans hK (by intro i hi; exact .inl hi)⟩)); (intro K hK; go_simp; refine hK _ ?_; clear hK K))))
  (rintro w2 ⟨h1, h2⟩; go_wp2; go_returns; exact ⟨⟨_, rfl⟩, h1, h2⟩)
theorem so_leaves_run (x l lo : Nat) (P T G who : Int) (o n : Int) (gl : Value) (w : World)  (hlo : lo ≤ w.heap.size) (hp : Pend w x who (soR l o n (-1) true false true (.pointer none) gl) 202 .done) (hL : Lay w l P T G) :
    Calls Tryz.prog 362 #[.pointer (some ⟨x, 0, none⟩)] w fun e w' => (∃ r, e = .returned r) ∧ (∃ y, Pend2 w' x who (soR l o n (-1) true false true (.pointer none) gl) 202 (.sub (rlS lo l 0 P T G who) y .puts 380)) ∧ Kept [x] w w' := by
  have SW := hid (show (rlS lo l 0 P T G who).sys.want .puts ≠ none by exact fun h => by cases h)
  have HI0 := hid (MI.start hp hL)
  have HI := hid (MI.drewS (N := w.heap.size) HI0.out (by first | rfl | simp))
  clear HI0
  have hf := hp.idle.frozen
  (have y0 := hp.idle.rest 0; have y1 := hp.idle.rest 1; have y2 := hp.idle.rest 2; have y3 := hp.idle.rest 3; have y4 := hp.idle.rest 4; have y5 := hp.idle.rest 5; have y6 := hp.idle.rest 6; have y7 := hp.idle.rest 7; have y8 := hp.idle.rest 8; simp only [soR, Nat.reduceAdd, Nat.zero_add, List.getElem?_cons_zero, List.getElem?_cons_succ] at y0 y1 y2 y3 y4 y5 y6 y7 y8)
  clear hp hL
  go_enter Tryz.func362, Tryz.ntmps362
  go_wp2_with fail
  refine wp_region_D [11, 15] (tcl2 (fun w' => MI w w' x who (soR l o n (-1) true false true (.pointer none) gl) 202 l P T G ∧ w'.heap.size = w.heap.size) (fun w' => MI w w' x who (soR l o n (-1) true false true (.pointer none) gl) 202 l P T G ∧ (rlS lo l 0 P T G who).at_ w' w.heap.size .puts) (fun w' => Pend2 w' x who (soR l o n (-1) true false true (.pointer none) gl) 202 (.sub (rlS lo l 0 P T G who) w.heap.size .puts 380) ∧ Kept [x] w w')) (by kernel_rfl) (by kernel_rfl) rfl (by kernel_rfl) HI.out ?_
  clear HI
  repeat (first | (apply walkD_pure; rfl; rfl; (intro _; go_simp; first | done | rfl); (intro K hK; go_simp; refine hK _ ?_; clear hK K)) | (apply walkD_skip; rfl; rfl; (intro K hK; go_simp; refine hK _ ?_; clear hK K)) | (apply walkD_read1 [false, false] (by kernel_rfl); rfl; rfl; (intro w' hD; (have y0 := hD.1.pend.idle.rest 0; have y1 := hD.1.pend.idle.rest 1; have y2 := hD.1.pend.idle.rest 2; have y3 := hD.1.pend.idle.rest 3; have y4 := hD.1.pend.idle.rest 4; have y5 := hD.1.pend.idle.rest 5; have y6 := hD.1.pend.idle.rest 6; have y7 := hD.1.pend.idle.rest 7; have y8 := hD.1.pend.idle.rest 8; simp only [soR, Nat.reduceAdd, Nat.zero_add, List.getElem?_cons_zero, List.getElem?_cons_succ] at y0 y1 y2 y3 y4 y5 y6 y7 y8); go_simp; rfl); (intro K hK; go_simp; refine hK _ ?_; clear hK K)) | (apply walkD_call1 [false, false] (by kernel_rfl); rfl; (intro _; go_simp; first | rfl | exact ⟨rfl, rfl⟩); (intro w' hD; first | (go_at_call 222; refine (ifwho_run hD.1.pend).mono ?_; rintro e w2 ⟨rfl, rfl⟩; exact ⟨rfl, hD⟩) | (go_at_call 308; have q := rl_made lo l 0 P T G who w' hD.1.lay (by rw [hD.2]; exact hlo); rw [hD.2] at q; refine q.mono ?_; rintro e w2 ⟨rfl, hA, hb⟩; exact ⟨rfl, hD.1.quiet (by rw [hD.2]; exact hb), hA⟩)); (intro K hK; go_simp; refine hK _ ?_; clear hK K)) | (apply walkD_call1 [true, false] (by kernel_rfl); rfl; (intro _; go_simp; first | rfl | exact ⟨rfl, rfl⟩); (intro w' hD; go_at_call 124; refine (irun_run (S := rlS lo l 0 P T G who) (rl_sub lo l 0 P T G who) hD.1.pend hD.2 SW.out (of_decide_eq_true rfl)).mono ?_; rintro e w2 ⟨rfl, h1, h2, h3⟩; exact ⟨rfl, ⟨h1, h2, SW.out⟩, hD.1.kept.trans h3 (by intro i hi; exact .inl hi)⟩); (intro K hK; go_simp; refine hK _ ?_; clear hK K)))
  rintro w2 ⟨h1, h2⟩
  go_wp2
  go_returns
  exact ⟨⟨_, rfl⟩, ⟨_, h1⟩, h2⟩
theorem so_thruD : ThruD 62 := by
  intro x o w H
  have H := hid H
  go_enter Tryz.func62, Tryz.ntmps62
  go_wp2_with fail
  refine H.out.mono ?_
  rintro e w1 ⟨rfl, rfl⟩
  go_wp2
  go_ret
  exact ⟨rfl, rfl⟩
theorem sostep_nil (m : Option Addr) (w : World) : Calls Tryz.prog 59 #[.pointer none, .pointer m] w fun e w' => e = .returned (.bool true) ∧ w = w' := by
  go_enter Tryz.func59, Tryz.ntmps59
  go_wp2
  go_ret
  exact ⟨rfl, rfl⟩
theorem sodone_nil (w : World) : Calls Tryz.prog 62 #[.pointer none] w fun e w' => e = .returned (.bool true) ∧ w = w' := by
  go_enter Tryz.func62, Tryz.ntmps62
  go_wp2
  go_ret
  exact ⟨rfl, rfl⟩
theorem so_step : StepOf 85 59 := ⟨fun y w => rfl, enters_of Tryz.func59 (by kernel_rfl) rfl⟩
theorem so_quiet : NoSleeper 85 := fun y w => run_typeAssert_lacksB Tryz.underlying265 (by kernel_rfl) (by kernel_rfl) _ _ w
theorem so_thru : Thru 59 := by
  intro x m o w R H
  have H := hid H
  go_enter Tryz.func59, Tryz.ntmps59
  go_wp2_with fail
  refine H.out.mono ?_
  rintro e w1 ⟨rfl, h1⟩
  have HX := hid h1
  clear h1
  go_wp2
  go_ret
  exact ⟨rfl, HX.out⟩
theorem so_ends_run (x : Nat) (who : Int) (rest : List Value) (T : TypeId) (w : World) (hp : Pend w x who rest T .done) : Calls Tryz.prog 380 #[.pointer (some ⟨x, 0, none⟩)] w fun e w' => (∃ r, e = .returned r) ∧ Pend w' x who rest T .done ∧ Kept [x] w w' := by
  have HP := hid hp
  clear hp
  go_enter Tryz.func380, Tryz.ntmps380
  go_wp2
  go_returns
  exact ⟨⟨_, rfl⟩, HP.out, Kept.refl _ _⟩
theorem lit1 (w : World) (a : Int) : RowOf (encI .i64) 1 (w.alloc (.cells #[.int .i64 a] 3)) (some ⟨w.heap.size, 0, none⟩) [a] := by
  have hnew := Blk.new w [.int .i64 a] 3
  intro i hi
  refine ⟨_, rfl, ?_⟩
  intro j v hv
  have hj : j = 0 := by
    have := (List.getElem?_eq_some_iff.1 hv).1
    simp [encI] at this
    exact this
  subst hj
  have hi0 : i = 0 := by simp at hi; omega
  subst hi0
  rw [show (⟨w.heap.size, 0, none⟩ : Addr).add (0 * 1 + 0) = ⟨w.heap.size, 0, none⟩ by unfold Addr.add; simp]
  exact (hnew.cell _).trans hv
section
variable {P : Program} {ops : Array Oper} {md : Region.Mode} {ix : List Nat} {D : List Bool → World → Prop} {Q : Act → Prop} {o : Oper} {rest : List Oper} {k : Nat} {a : Act}
theorem walkD_read2 {v : Value} (b1 b2 : List Bool) (hp : poss md ops ix k = [b1, b2]) (hw : Region.wanted o (yielded ops a.tmps) = true) (hk : ix.contains k = false) (h1 : ∀ w, D b1 w → (execOp a.eval o).run P w = .ok (.value v) w) (h2 : ∀ w, D b2 w → (execOp a.eval o).run P w = .ok (.value v) w)
    (h : ∀ K : Act → Prop, (∀ a, walkD P md ops ix D Q rest (k + 1) a → K a) → K (a.put o.dst v)) : walkD P md ops ix D Q (o :: rest) k a :=
  walkD_read hw hk (fun b hb w hD => by
    rw [hp] at hb
    simp only [List.mem_cons, List.not_mem_nil, or_false] at hb
    rcases hb with rfl | rfl
    · exact h1 w hD
    · exact h2 w hD) h
theorem walkD_call2 {v : Value} {f : FuncId} {args : Array Value} (b1 b2 : List Bool) (hp : poss md ops ix k = [b1, b2]) (hw : Region.wanted o (yielded ops a.tmps) = true) (hr : ∀ w, (execOp a.eval o).run P w = .ok (.enter f args) w)
    (h1 : ∀ w, D b1 w → Calls P f args w fun e w' => e = .returned v ∧ D (came ix k b1) w') (h2 : ∀ w, D b2 w → Calls P f args w fun e w' => e = .returned v ∧ D (came ix k b2) w')
    (h : ∀ K : Act → Prop, (∀ a, walkD P md ops ix D Q rest (k + 1) a → K a) → K (a.put o.dst v)) : walkD P md ops ix D Q (o :: rest) k a :=
  walkD_call hw hr (fun b hb w hD => by
    rw [hp] at hb
    simp only [List.mem_cons, List.not_mem_nil, or_false] at hb
    rcases hb with rfl | rfl
    · exact h1 w hD
    · exact h2 w hD) h
end
/-- A region with three operations that turn the world, one behind the other. -/
def tcl3 (I0 I1 I2 R : World → Prop) : List Bool → World → Prop
  | [false, _, _], w => I0 w
  | [true, false, _], w => I1 w
  | [true, true, false], w => I2 w
  | _, w => R w
theorem so_gotAgain0_run (x l lo : Nat) (P T G who : Int) (o n : Int) (k : Nat) (u : Idlep.PgSt) (w : World) (hA : (pgS lo l P T G who).at_ w k u) (ht : u.p = -1) (hlo : lo ≤ w.heap.size) (hp : Pend w x who (soR l o n (-1) true false true (.pointer (some ⟨k, 0, none⟩)) (.pointer none)) 202 .done) (hL : Lay w l P T G) :
    Calls Tryz.prog 341 #[.pointer (some ⟨x, 0, none⟩)] w fun e w' => (∃ r, e = .returned r) ∧ (∃ y, Pend2 w' x who (soR l o n (-1) true false true (.pointer none) (.pointer (some ⟨y, 0, none⟩))) 202 (.sub (qpS lo l P T G who [n]) y (.ln 0) 362)) ∧ Kept [x] w w' := by
  have HG := hid (Idlep.pg_p_run hA)
  rw [ht] at HG
  clear hA ht
  have HI := hid (MI.drewS (N := w.heap.size) (((MI.start hp hL).put (by decide) 3 (.int .i64 (-1))).put (by decide) 7 (.pointer none)) (by simp))
  have SW := hid (show (qpS lo l P T G who [n]).sys.want (.ln 0) ≠ none by exact fun h => by cases h)
  have hf := hp.idle.frozen
  (have y0 := hp.idle.rest 0; have y1 := hp.idle.rest 1; have y2 := hp.idle.rest 2; have y3 := hp.idle.rest 3; have y4 := hp.idle.rest 4; have y5 := hp.idle.rest 5; have y6 := hp.idle.rest 6; have y7 := hp.idle.rest 7; have y8 := hp.idle.rest 8; simp only [soR, Nat.reduceAdd, Nat.zero_add, List.getElem?_cons_zero, List.getElem?_cons_succ] at y0 y1 y2 y3 y4 y5 y6 y7 y8)
  have HLO := hid hlo
  clear hp hL hlo
  go_enter Tryz.func341, Tryz.ntmps341
  go_wp2_with (go_at_call 131; refine HG.out.mono ?_; rintro e w1 ⟨rfl, rfl⟩)
  refine wp_region_D [13, 14, 17] (tcl3 (fun w' => MI w w' x who (soR l o n (-1) true false true (.pointer none) (.pointer none)) 202 l P T G ∧ w'.heap.size = w.heap.size) (fun w' => MI w w' x who (soR l o n (-1) true false true (.pointer none) (.pointer none)) 202 l P T G ∧ w'.heap.size = w.heap.size + 1 ∧ RowOf (encI .i64) 1 w' (some ⟨w.heap.size, 0, none⟩) [n]) (fun w' => MI w w' x who (soR l o n (-1) true false true (.pointer none) (.pointer none)) 202 l P T G ∧ (qpS lo l P T G who [n]).at_ w' (w.heap.size + 3) (.ln 0)) (fun w' => MI w w' x who (soR l o n (-1) true false true (.pointer none) (.pointer (some ⟨w.heap.size + 3, 0, none⟩))) 202 l P T G ∧ (qpS lo l P T G who [n]).at_ w' (w.heap.size + 3) (.ln 0))) (by kernel_rfl) (by kernel_rfl) rfl (by kernel_rfl) HI.out ?_
  clear HI
  repeat (first | (apply walkD_pure; rfl; rfl; (intro _; go_simp; first | done | rfl); (intro K hK; go_simp; refine hK _ ?_; clear hK K)) | (apply walkD_skip; rfl; rfl; (intro K hK; go_simp; refine hK _ ?_; clear hK K)) | (apply walkD_read2 (v := .pointer (some ⟨l, 0, none⟩)) [false, false, false] [true, false, false] (by kernel_rfl); rfl; rfl; (focus (intro w' hD; (have y0 := hD.1.pend.idle.rest 0; have y1 := hD.1.pend.idle.rest 1; have y2 := hD.1.pend.idle.rest 2; have y3 := hD.1.pend.idle.rest 3; have y4 := hD.1.pend.idle.rest 4; have y5 := hD.1.pend.idle.rest 5; have y6 := hD.1.pend.idle.rest 6; have y7 := hD.1.pend.idle.rest 7; have y8 := hD.1.pend.idle.rest 8; simp only [soR, Nat.reduceAdd, Nat.zero_add, List.getElem?_cons_zero, List.getElem?_cons_succ] at y0 y1 y2 y3 y4 y5 y6 y7 y8); go_simp; (try rfl); done)); (focus (intro w' hD; (have y0 := hD.1.pend.idle.rest 0; have y1 := hD.1.pend.idle.rest 1; have y2 := hD.1.pend.idle.rest 2; have y3 := hD.1.pend.idle.rest 3; have y4 := hD.1.pend.idle.rest 4; have y5 := hD.1.pend.idle.rest 5; have y6 := hD.1.pend.idle.rest 6; have y7 := hD.1.pend.idle.rest 7; have y8 := hD.1.pend.idle.rest 8; simp only [soR, Nat.reduceAdd, Nat.zero_add, List.getElem?_cons_zero, List.getElem?_cons_succ] at y0 y1 y2 y3 y4 y5 y6 y7 y8); go_simp; (try rfl); done)); (intro K hK; go_simp; refine hK _ ?_; clear hK K)) | (apply walkD_read1 (v := .int .i64 n) [false, false, false] (by kernel_rfl); rfl; rfl; (focus (intro w' hD; (have y0 := hD.1.pend.idle.rest 0; have y1 := hD.1.pend.idle.rest 1; have y2 := hD.1.pend.idle.rest 2; have y3 := hD.1.pend.idle.rest 3; have y4 := hD.1.pend.idle.rest 4; have y5 := hD.1.pend.idle.rest 5; have y6 := hD.1.pend.idle.rest 6; have y7 := hD.1.pend.idle.rest 7; have y8 := hD.1.pend.idle.rest 8; simp only [soR, Nat.reduceAdd, Nat.zero_add, List.getElem?_cons_zero, List.getElem?_cons_succ] at y0 y1 y2 y3 y4 y5 y6 y7 y8); go_simp; (try rfl); done)); (intro K hK; go_simp; refine hK _ ?_; clear hK K)) | (apply walkD_call2 [false, false, false] [true, false, false] (by kernel_rfl); rfl; (intro _; go_simp; first | rfl | exact ⟨rfl, rfl⟩); (intro w' hD; go_at_call 222; refine (ifwho_run hD.1.pend).mono ?_; rintro e w2 ⟨rfl, rfl⟩; exact ⟨rfl, hD⟩); (intro w' hD; go_at_call 222; refine (ifwho_run hD.1.pend).mono ?_; rintro e w2 ⟨rfl, rfl⟩; exact ⟨rfl, hD⟩); (intro K hK; go_simp; refine hK _ ?_; clear hK K)) | (apply walkD_turn1 [false, false, false] (by kernel_rfl); rfl; (intro w' hD; (have y0 := hD.1.pend.idle.rest 0; have y1 := hD.1.pend.idle.rest 1; have y2 := hD.1.pend.idle.rest 2; have y3 := hD.1.pend.idle.rest 3; have y4 := hD.1.pend.idle.rest 4; have y5 := hD.1.pend.idle.rest 5; have y6 := hD.1.pend.idle.rest 6; have y7 := hD.1.pend.idle.rest 7; have y8 := hD.1.pend.idle.rest 8; simp only [soR, Nat.reduceAdd, Nat.zero_add, List.getElem?_cons_zero, List.getElem?_cons_succ] at y0 y1 y2 y3 y4 y5 y6 y7 y8); unfold Go.Proofs.YtlhnnggceebpjaaGreat.Flag.opAt; go_simp; rw [hD.2]; exact ⟨⟨hD.1.quiet (below_one _ _), by simp [hD.2], by rw [← hD.2]; exact lit1 w' n⟩, rfl⟩); (intro K hK; go_simp; refine hK _ ?_; clear hK K)) | (apply walkD_call1 [true, false, false] (by kernel_rfl); rfl; (intro _; go_simp; first | rfl | exact ⟨rfl, rfl⟩); (intro w' hD; go_at_call 277; have q := qp_made lo l P T G who ⟨w.heap.size, 0, none⟩ 1 [n] w' (by simp) (by simp) hD.2.2 hD.1.lay (by rw [hD.2.1]; exact Nat.le_succ_of_le HLO.out); rw [hD.2.1] at q; refine q.mono ?_; rintro e w2 ⟨rfl, hA, hb⟩; exact ⟨rfl, hD.1.quiet (by rw [hD.2.1]; exact hb), hA⟩); (intro K hK; go_simp; refine hK _ ?_; clear hK K)) | (apply walkD_turn1 (v := undef) [true, true, false] (by kernel_rfl); rfl; (intro w' hD; (have y0 := hD.1.pend.idle.rest 0; have y1 := hD.1.pend.idle.rest 1; have y2 := hD.1.pend.idle.rest 2; have y3 := hD.1.pend.idle.rest 3; have y4 := hD.1.pend.idle.rest 4; have y5 := hD.1.pend.idle.rest 5; have y6 := hD.1.pend.idle.rest 6; have y7 := hD.1.pend.idle.rest 7; have y8 := hD.1.pend.idle.rest 8; simp only [soR, Nat.reduceAdd, Nat.zero_add, List.getElem?_cons_zero, List.getElem?_cons_succ] at y0 y1 y2 y3 y4 y5 y6 y7 y8); have yf := hD.1.pend.idle.frozen; unfold Go.Proofs.YtlhnnggceebpjaaGreat.Flag.opAt; go_simp; exact ⟨⟨hD.1.put (by decide) 8 _, sub_set (qp_sub lo l P T G who [n] (by simp)) hD.2 hD.1.pend (of_decide_eq_true rfl) _ _⟩, rfl⟩); (intro K hK; go_simp; refine hK _ ?_; clear hK K)))
  rintro w4 ⟨h1, h2⟩
  obtain ⟨y, hy⟩ : ∃ y, y = w.heap.size + 3 := ⟨_, rfl⟩
  rw [← hy] at h1 h2 ⊢
  have HI2 := hid (And.intro h1.drew (SubOk.at_quiet (qp_sub lo l P T G who [n] (by simp)) h2 (below_drewN (Below.refl _ _) 1)))
  have hf := h1.pend.idle.frozen
  clear h1 h2 hy
  go_wp2_with fail
  refine wp_region_T 10 (fun w' => MI w w' x who (soR l o n (-1) true false true (.pointer none) (.pointer (some ⟨y, 0, none⟩))) 202 l P T G ∧ (qpS lo l P T G who [n]).at_ w' y (.ln 0)) (fun w' => Pend2 w' x who (soR l o n (-1) true false true (.pointer none) (.pointer (some ⟨y, 0, none⟩))) 202 (.sub (qpS lo l P T G who [n]) y (.ln 0) 362) ∧ Kept [x] w w') (by kernel_rfl) (by kernel_rfl) rfl (by kernel_rfl) HI2.out ?_
  clear HI2
  repeat (first | (apply walkD_pure; rfl; rfl; (intro _; go_simp; first | done | rfl); (intro K hK; go_simp; refine hK _ ?_; clear hK K)) | (apply walkD_skip; rfl; rfl; (intro K hK; go_simp; refine hK _ ?_; clear hK K)) | (apply walkD_read1 [false] (by kernel_rfl); rfl; rfl; (intro w' hD; (have y0 := hD.1.pend.idle.rest 0; have y1 := hD.1.pend.idle.rest 1; have y2 := hD.1.pend.idle.rest 2; have y3 := hD.1.pend.idle.rest 3; have y4 := hD.1.pend.idle.rest 4; have y5 := hD.1.pend.idle.rest 5; have y6 := hD.1.pend.idle.rest 6; have y7 := hD.1.pend.idle.rest 7; have y8 := hD.1.pend.idle.rest 8; simp only [soR, Nat.reduceAdd, Nat.zero_add, List.getElem?_cons_zero, List.getElem?_cons_succ] at y0 y1 y2 y3 y4 y5 y6 y7 y8); go_simp; rfl); (intro K hK; go_simp; refine hK _ ?_; clear hK K)) | (apply walkD_call1 [false] (by kernel_rfl); rfl; (intro _; go_simp; first | rfl | exact ⟨rfl, rfl⟩); (intro w' hD; go_at_call 124; refine (irun_run (S := qpS lo l P T G who [n]) (qp_sub lo l P T G who [n] (by simp)) hD.1.pend hD.2 SW.out (of_decide_eq_true rfl)).mono ?_; rintro e w2 ⟨rfl, h1, h2, h3⟩; exact ⟨rfl, ⟨h1, h2, SW.out⟩, hD.1.kept.trans h3 (by intro i hi; exact .inl hi)⟩); (intro K hK; go_simp; refine hK _ ?_; clear hK K)))
  rintro w3 ⟨h1, h2⟩
  go_wp2
  go_returns
  exact ⟨⟨_, rfl⟩, ⟨_, h1⟩, h2⟩
theorem so_own (lo l : Nat) (P T G who o n : Int) : ∀ Ty ∈ rdT (soM lo l P T G who o n).wr, Ty ∉ theirs := by
  show ∀ Ty ∈ rdT [202, 247, 250, 331, 258, 3], Ty ∉ theirs
  decide
theorem so_inT1 : ∀ T ∈ rdT [250], T ∈ rdT [202, 247, 250, 331, 258, 3] ∧ T ≠ 202 := by decide
theorem so_inT2 : ∀ T ∈ rdT [258, 3], T ∈ rdT [202, 247, 250, 331, 258, 3] ∧ T ≠ 202 := by decide
theorem pg_fin {P : Int} {s : Idlep.PgSt} {a : Int} : True := trivial
theorem qp_fin {P T G : Int} {n : Int} {s : QpSt} {a : Int} (hw : (qpY P T G [n]).want s ≠ none) (hn : (qpY P T G [n]).want (qpNext [n] s a) = none) : qpNext [n] s a = .done := by
  cases s with
  | none => exact absurd rfl hw
  | ln k => exfalso; revert hn; unfold qpNext; simp only; split <;> (intro h; cases h)
  | t => cases hn
  | b v => cases hn
  | ly => cases hn
  | c => rfl
  | done => rfl
theorem so_goes (lo l x : Nat) (P T G who o n : Int) (hw : 0 ≤ who ∧ who ≤ 1000) : Goes2 (soM lo l P T G who o n) lo l x P T G who := by
  refine ⟨so_own lo l P T G who o n, by simp [soM], by show 1 ∉ [202, 247, 250, 331, 258, 3] ∧ 204 ∉ [202, 247, 250, 331, 258, 3] ∧ 214 ∉ [202, 247, 250, 331, 258, 3]; decide, ?_, ?_, ?_, ?_, ?_⟩
  · intro st T hT
    cases st with
    | rl1 u s => exact so_inT1 T hT
    | rl3 s => exact so_inT2 T hT
    | fq => exact so_inT2 T hT
    | _ => exact absurd (show T ∈ [] from hT) (by simp)
  · intro st a hok ha
    show soOk P T G n (soNext P T G who o n st a)
    cases st with
    | qp s =>
      unfold soNext runs
      simp only
      split
      · trivial
      · rename_i h
        intro h2
        rw [h2] at h
        exact h rfl
    | gt2 s =>
      unfold soNext runs soGot2
      simp only
      split
      · split
        · intro h; cases h
        · trivial
      · trivial
    | sw => unfold soNext; simp only; split <;> trivial
    | id => unfold soNext; simp only; split <;> trivial
    | rl1 u s => unfold soNext runs soLeft; simp only; (repeat' split) <;> trivial
    | aq1 s => unfold soNext runs; simp only; (repeat' split) <;> trivial
    | gt1 s => unfold soNext runs; simp only; (repeat' split) <;> trivial
    | aq2 s => unfold soNext runs; simp only; (repeat' split) <;> trivial
    | rl2 v s => unfold soNext runs; simp only; (repeat' split) <;> trivial
    | rl3 s => unfold soNext runs; simp only; (repeat' split) <;> trivial
    | _ => trivial
  · intro st e
    cases st <;> rfl
  · intro st e w w' Z hi hk hZ
    cases st with
    | rl1 u s => exact (pg_sub lo l P T G who).kept hi hk hZ
    | rl3 s => exact (qp_sub lo l P T G who [n] (by simp)).kept hi hk hZ
    | fq => exact (qp_sub lo l P T G who [n] (by simp)).kept hi hk hZ
    | _ => trivial
  · intro st e hok
    cases st with
    | sw =>
      refine .inr ⟨by show (0 : Int) ≤ 1 ∧ (1 : Int) < 18446744073709551616; omega, enters_of Tryz.func167 (by kernel_rfl) rfl, ?_⟩
      intro a w ha hlo hp hi hL
      by_cases hz : a = 1
      · subst hz
        refine (so_swapped1_run x l P T G who o n w hp hL).mono ?_
        rintro e3 w' ⟨he, h1, h2⟩
        exact ⟨he, ⟨e, h1, trivial⟩, h2⟩
      · have e1 : soNext P T G who o n .sw a = .id := if_neg hz
        have e4 : ((a == 1) : Bool) = false := by simpa using hz
        show Calls Tryz.prog 167 #[.pointer (some ⟨x, 0, none⟩), .bool (a == 1)] w _
        rw [e4]
        refine (so_swapped0_run x l P T G who o n w hp hL).mono ?_
        rintro e3 w' ⟨he, h1, h2⟩
        refine ⟨he, ⟨e, ?_⟩, h2⟩
        show (soM lo l P T G who o n).is_ x who w' (soNext P T G who o n .sw a) e
        rw [e1]
        exact ⟨h1, trivial⟩
    | ad =>
      refine .inr ⟨by show (0 : Int) ≤ 1 ∧ (1 : Int) < 18446744073709551616; omega, enters_of Tryz.func227 (by kernel_rfl) rfl, ?_⟩
      intro a w ha hlo hp hi hL
      refine (so_counted_run x l lo P T G who o n o a w hlo hp hL).mono ?_
      rintro e3 w' ⟨he, h1, h2⟩
      exact ⟨he, ⟨e, h1, trivial⟩, h2⟩
    | ru v =>
      refine .inr ⟨by show (0 : Int) ≤ 2 ∧ (2 : Int) < 18446744073709551616; omega, enters_of Tryz.func295 (by kernel_rfl) rfl, ?_⟩
      intro a w ha hlo hp hi hL
      refine (so_run_run x l P T G who o n v w hp hL).mono ?_
      rintro e3 w' ⟨he, h1, h2⟩
      exact ⟨he, ⟨e, h1, trivial⟩, h2⟩
    | fr v => exact .inl rfl
    | id =>
      refine .inr ⟨by show (0 : Int) ≤ 0 ∧ (0 : Int) < 18446744073709551616; omega, enters_of Tryz.func228 (by kernel_rfl) rfl, ?_⟩
      intro a w ha hlo hp hi hL
      by_cases hz : a = 0
      · subst hz
        refine (so_idle0_run x l lo P T G who o n w hlo hp hL).mono ?_
        rintro e3 w' ⟨he, h1, h2⟩
        exact ⟨he, ⟨e, h1, trivial⟩, h2⟩
      · have e1 : soNext P T G who o n .id a = .aq1 .ask := if_neg hz
        refine (so_idle1_run x l lo P T G who o n a w hw hz hlo hp hL).mono ?_
        rintro e3 w' ⟨he, ⟨y, h1⟩, h2⟩
        refine ⟨he, ⟨(y, e.2), ?_⟩, h2⟩
        show (soM lo l P T G who o n).is_ x who w' (soNext P T G who o n .id a) (y, e.2)
        rw [e1]
        exact ⟨h1, trivial⟩
    | aq1 s =>
      refine ⟨aq_sub lo l 0 P T G who hw, ?_, enters_of Tryz.func263 (by kernel_rfl) rfl, ?_⟩
      · show ∀ T ∈ [247], T ∈ [202, 247, 250, 331, 258, 3] ∧ T ≠ 202 ∧ T ∉ []
        decide
      intro a ha
      refine ⟨?_, ?_⟩
      · intro hn
        have e1 : soNext P T G who o n (.aq1 s) a = SoSt.aq1 (aqNext s a) := runs_on (M := aq0 who) (k := (fun _ => SoSt.gt1 .h)) (emb := SoSt.aq1) (s := (aqNext s a)) hn
        refine ⟨?_, ?_, fun _ h => ?_⟩
        · show (soM lo l P T G who o n).nx (soNext P T G who o n (.aq1 s) a) e = _
          rw [e1]; rfl
        · show (soM lo l P T G who o n).rest (soNext P T G who o n (.aq1 s) a) e = _
          rw [e1]; rfl
        · show (soM lo l P T G who o n).inv (soNext P T G who o n (.aq1 s) a) e _
          rw [e1]; first | trivial | exact h
      · intro hn w hlo hp hA hi hL
        have e0 : soNext P T G who o n (.aq1 s) a = ((fun _ => SoSt.gt1 .h)) (aqNext s a) := runs_off (M := aq0 who) (k := (fun _ => SoSt.gt1 .h)) (emb := SoSt.aq1) (s := (aqNext s a)) hn
        have e1 := e0
        refine (so_locked_run x l lo P T G who o n w hlo hp hL).mono ?_
        rintro e3 w' ⟨he, ⟨y, h1⟩, h2⟩
        refine ⟨he, ⟨(y, e.2), ?_⟩, h2⟩
        show (soM lo l P T G who o n).is_ x who w' (soNext P T G who o n (.aq1 s) a) (y, e.2)
        rw [e1]
        exact ⟨h1, trivial⟩
    | gt1 s =>
      refine ⟨pg_sub lo l P T G who, ?_, enters_of Tryz.func297 (by kernel_rfl) rfl, ?_⟩
      · show ∀ T ∈ [250], T ∈ [202, 247, 250, 331, 258, 3] ∧ T ≠ 202 ∧ T ∉ []
        decide
      intro a ha
      refine ⟨?_, ?_⟩
      · intro hn
        have e1 : soNext P T G who o n (.gt1 s) a = SoSt.gt1 (Idlep.pgNext s a) := runs_on (M := pgY P) (k := (fun s => SoSt.rl1 s .puts)) (emb := SoSt.gt1) (s := (Idlep.pgNext s a)) hn
        refine ⟨?_, ?_, fun _ h => ?_⟩
        · show (soM lo l P T G who o n).nx (soNext P T G who o n (.gt1 s) a) e = _
          rw [e1]; rfl
        · show (soM lo l P T G who o n).rest (soNext P T G who o n (.gt1 s) a) e = _
          rw [e1]; rfl
        · show (soM lo l P T G who o n).inv (soNext P T G who o n (.gt1 s) a) e _
          rw [e1]; first | trivial | exact h
      · intro hn w hlo hp hA hi hL
        have e0 : soNext P T G who o n (.gt1 s) a = ((fun s => SoSt.rl1 s .puts)) (Idlep.pgNext s a) := runs_off (M := pgY P) (k := (fun s => SoSt.rl1 s .puts)) (emb := SoSt.gt1) (s := (Idlep.pgNext s a)) hn
        have hA : (pgS lo l P T G who).at_ w e.1 (Idlep.pgNext s a) := hA
        have e1 := e0
        refine (so_got_run x l lo P T G who o n e.1 w hlo hp hL).mono ?_
        rintro e3 w' ⟨he, ⟨y, h1⟩, h2⟩
        refine ⟨he, ⟨(y, e.1, 0), ?_⟩, h2⟩
        show (soM lo l P T G who o n).is_ x who w' (soNext P T G who o n (.gt1 s) a) (y, e.1, 0)
        rw [e1]
        exact ⟨h1, sub_kept1 (pg_sub lo l P T G who) hA hp (by show 202 ∉ rdT [250]; decide) h2⟩
    | rl1 u s =>
      refine ⟨rl_sub lo l 0 P T G who, ?_, enters_of Tryz.func320 (by kernel_rfl) rfl, ?_⟩
      · show ∀ T ∈ [331], T ∈ [202, 247, 250, 331, 258, 3] ∧ T ≠ 202 ∧ T ∉ (rdT [250])
        decide
      intro a ha
      refine ⟨?_, ?_⟩
      · intro hn
        have e1 : soNext P T G who o n (.rl1 u s) a = (SoSt.rl1 u) (rlNext s a) := runs_on (M := rl0) (k := (fun _ => soLeft u)) (emb := (SoSt.rl1 u)) (s := (rlNext s a)) hn
        refine ⟨?_, ?_, fun _ h => ?_⟩
        · show (soM lo l P T G who o n).nx (soNext P T G who o n (.rl1 u s) a) e = _
          rw [e1]; rfl
        · show (soM lo l P T G who o n).rest (soNext P T G who o n (.rl1 u s) a) e = _
          rw [e1]; rfl
        · show (soM lo l P T G who o n).inv (soNext P T G who o n (.rl1 u s) a) e _
          rw [e1]; first | trivial | exact h
      · intro hn w hlo hp hA hi hL
        have e0 : soNext P T G who o n (.rl1 u s) a = ((fun _ => soLeft u)) (rlNext s a) := runs_off (M := rl0) (k := (fun _ => soLeft u)) (emb := (SoSt.rl1 u)) (s := (rlNext s a)) hn
        have hi : (pgS lo l P T G who).at_ w e.2.1 u := hi
        by_cases h : u.p = -1
        · have e1 : soNext P T G who o n (.rl1 u s) a = .wt := by rw [e0]; exact if_pos h
          refine (so_left0_run x l lo P T G who o n e.2.1 u w hi h hlo hp hL).mono ?_
          rintro e3 w' ⟨he, h1, h2⟩
          refine ⟨he, ⟨e, ?_⟩, h2⟩
          show (soM lo l P T G who o n).is_ x who w' (soNext P T G who o n (.rl1 u s) a) e
          rw [e1]
          exact ⟨h1, trivial⟩
        · have e1 : soNext P T G who o n (.rl1 u s) a = .st u.p := by rw [e0]; exact if_neg h
          refine (so_left1_run x l P T G who o n u.p e.2.1 lo u w hi rfl h hp hL).mono ?_
          rintro e3 w' ⟨he, h1, h2⟩
          refine ⟨he, ⟨e, ?_⟩, h2⟩
          show (soM lo l P T G who o n).is_ x who w' (soNext P T G who o n (.rl1 u s) a) e
          rw [e1]
          exact ⟨h1, trivial⟩
    | st v =>
      refine .inr ⟨by show (0 : Int) ≤ 1 ∧ (1 : Int) < 18446744073709551616; omega, enters_of Tryz.func261 (by kernel_rfl) rfl, ?_⟩
      intro a w ha hlo hp hi hL
      refine (so_lets_run x l P T G who o n v w hp hL).mono ?_
      rintro e3 w' ⟨he, h1, h2⟩
      exact ⟨he, ⟨e, h1, trivial⟩, h2⟩
    | wt =>
      refine .inr ⟨by show (0 : Int) ≤ 1 ∧ (1 : Int) < 18446744073709551616; omega, enters_of Tryz.func296 (by kernel_rfl) rfl, ?_⟩
      intro a w ha hlo hp hi hL
      refine (so_comes_run x l lo P T G who o n w hw hlo hp hL).mono ?_
      rintro e3 w' ⟨he, ⟨y, h1⟩, h2⟩
      exact ⟨he, ⟨(y, e.2), h1, trivial⟩, h2⟩
    | aq2 s =>
      refine ⟨aq_sub lo l 0 P T G who hw, ?_, enters_of Tryz.func319 (by kernel_rfl) rfl, ?_⟩
      · show ∀ T ∈ [247], T ∈ [202, 247, 250, 331, 258, 3] ∧ T ≠ 202 ∧ T ∉ []
        decide
      intro a ha
      refine ⟨?_, ?_⟩
      · intro hn
        have e1 : soNext P T G who o n (.aq2 s) a = SoSt.aq2 (aqNext s a) := runs_on (M := aq0 who) (k := (fun _ => SoSt.gt2 .h)) (emb := SoSt.aq2) (s := (aqNext s a)) hn
        refine ⟨?_, ?_, fun _ h => ?_⟩
        · show (soM lo l P T G who o n).nx (soNext P T G who o n (.aq2 s) a) e = _
          rw [e1]; rfl
        · show (soM lo l P T G who o n).rest (soNext P T G who o n (.aq2 s) a) e = _
          rw [e1]; rfl
        · show (soM lo l P T G who o n).inv (soNext P T G who o n (.aq2 s) a) e _
          rw [e1]; first | trivial | exact h
      · intro hn w hlo hp hA hi hL
        have e0 : soNext P T G who o n (.aq2 s) a = ((fun _ => SoSt.gt2 .h)) (aqNext s a) := runs_off (M := aq0 who) (k := (fun _ => SoSt.gt2 .h)) (emb := SoSt.aq2) (s := (aqNext s a)) hn
        have e1 := e0
        refine (so_lockedAgain_run x l lo P T G who o n w hlo hp hL).mono ?_
        rintro e3 w' ⟨he, ⟨y, h1⟩, h2⟩
        refine ⟨he, ⟨(y, e.2), ?_⟩, h2⟩
        show (soM lo l P T G who o n).is_ x who w' (soNext P T G who o n (.aq2 s) a) (y, e.2)
        rw [e1]
        exact ⟨h1, trivial⟩
    | gt2 s =>
      refine ⟨pg_sub lo l P T G who, ?_, enters_of Tryz.func341 (by kernel_rfl) rfl, ?_⟩
      · show ∀ T ∈ [250], T ∈ [202, 247, 250, 331, 258, 3] ∧ T ≠ 202 ∧ T ∉ []
        decide
      intro a ha
      refine ⟨?_, ?_⟩
      · intro hn
        have e1 : soNext P T G who o n (.gt2 s) a = SoSt.gt2 (Idlep.pgNext s a) := runs_on (M := pgY P) (k := soGot2) (emb := SoSt.gt2) (s := (Idlep.pgNext s a)) hn
        refine ⟨?_, ?_, fun _ h => ?_⟩
        · show (soM lo l P T G who o n).nx (soNext P T G who o n (.gt2 s) a) e = _
          rw [e1]; rfl
        · show (soM lo l P T G who o n).rest (soNext P T G who o n (.gt2 s) a) e = _
          rw [e1]; rfl
        · show (soM lo l P T G who o n).inv (soNext P T G who o n (.gt2 s) a) e _
          rw [e1]; first | trivial | exact h
      · intro hn w hlo hp hA hi hL
        have e0 : soNext P T G who o n (.gt2 s) a = (soGot2) (Idlep.pgNext s a) := runs_off (M := pgY P) (k := soGot2) (emb := SoSt.gt2) (s := (Idlep.pgNext s a)) hn
        have hA : (pgS lo l P T G who).at_ w e.1 (Idlep.pgNext s a) := hA
        by_cases h : (Idlep.pgNext s a).p = -1
        · have e1 : soNext P T G who o n (.gt2 s) a = .qp (.ln 0) := by rw [e0]; exact if_pos h
          refine (so_gotAgain0_run x l lo P T G who o n e.1 (Idlep.pgNext s a) w hA h hlo hp hL).mono ?_
          rintro e3 w' ⟨he, ⟨y, h1⟩, h2⟩
          refine ⟨he, ⟨(y, e.2), ?_⟩, h2⟩
          show (soM lo l P T G who o n).is_ x who w' (soNext P T G who o n (.gt2 s) a) (y, e.2)
          rw [e1]
          exact ⟨h1, trivial⟩
        · have e1 : soNext P T G who o n (.gt2 s) a = .rl2 (Idlep.pgNext s a).p .puts := by rw [e0]; exact if_neg h
          refine (so_gotAgain1_run x l lo P T G who o n (Idlep.pgNext s a).p e.1 (Idlep.pgNext s a) w hA rfl h hlo hp hL).mono ?_
          rintro e3 w' ⟨he, ⟨y, h1⟩, h2⟩
          refine ⟨he, ⟨(y, e.2), ?_⟩, h2⟩
          show (soM lo l P T G who o n).is_ x who w' (soNext P T G who o n (.gt2 s) a) (y, e.2)
          rw [e1]
          exact ⟨h1, trivial⟩
    | rl2 v s =>
      refine ⟨rl_sub lo l 0 P T G who, ?_, enters_of Tryz.func361 (by kernel_rfl) rfl, ?_⟩
      · show ∀ T ∈ [331], T ∈ [202, 247, 250, 331, 258, 3] ∧ T ≠ 202 ∧ T ∉ []
        decide
      intro a ha
      refine ⟨?_, ?_⟩
      · intro hn
        have e1 : soNext P T G who o n (.rl2 v s) a = (SoSt.rl2 v) (rlNext s a) := runs_on (M := rl0) (k := (fun _ => SoSt.ho v)) (emb := (SoSt.rl2 v)) (s := (rlNext s a)) hn
        refine ⟨?_, ?_, fun _ h => ?_⟩
        · show (soM lo l P T G who o n).nx (soNext P T G who o n (.rl2 v s) a) e = _
          rw [e1]; rfl
        · show (soM lo l P T G who o n).rest (soNext P T G who o n (.rl2 v s) a) e = _
          rw [e1]; rfl
        · show (soM lo l P T G who o n).inv (soNext P T G who o n (.rl2 v s) a) e _
          rw [e1]; first | trivial | exact h
      · intro hn w hlo hp hA hi hL
        have e0 : soNext P T G who o n (.rl2 v s) a = ((fun _ => SoSt.ho v)) (rlNext s a) := runs_off (M := rl0) (k := (fun _ => SoSt.ho v)) (emb := (SoSt.rl2 v)) (s := (rlNext s a)) hn
        have e1 := e0
        refine (so_hasOne_run x l P T G who o n v w hp hL).mono ?_
        rintro e3 w' ⟨he, h1, h2⟩
        refine ⟨he, ⟨e, ?_⟩, h2⟩
        show (soM lo l P T G who o n).is_ x who w' (soNext P T G who o n (.rl2 v s) a) e
        rw [e1]
        exact ⟨h1, trivial⟩
    | ho v =>
      refine .inr ⟨by show (0 : Int) ≤ 1 ∧ (1 : Int) < 18446744073709551616; omega, enters_of Tryz.func380 (by kernel_rfl) rfl, ?_⟩
      intro a w ha hlo hp hi hL
      refine (so_ends_run x who _ _ w hp).mono ?_
      rintro e3 w' ⟨he, h1, h2⟩
      exact ⟨he, ⟨e, h1, trivial⟩, h2⟩
    | fh v => exact .inl rfl
    | qp s =>
      refine ⟨qp_sub lo l P T G who [n] (by simp), ?_, enters_of Tryz.func362 (by kernel_rfl) rfl, ?_⟩
      · show ∀ T ∈ [258, 3], T ∈ [202, 247, 250, 331, 258, 3] ∧ T ≠ 202 ∧ T ∉ []
        decide
      intro a ha
      refine ⟨?_, ?_⟩
      · intro hn
        have e1 : soNext P T G who o n (.qp s) a = SoSt.qp (qpNext [n] s a) := runs_on (M := qpY P T G [n]) (k := (fun _ => SoSt.rl3 .puts)) (emb := SoSt.qp) (s := (qpNext [n] s a)) hn
        refine ⟨?_, ?_, fun _ h => ?_⟩
        · show (soM lo l P T G who o n).nx (soNext P T G who o n (.qp s) a) e = _
          rw [e1]; rfl
        · show (soM lo l P T G who o n).rest (soNext P T G who o n (.qp s) a) e = _
          rw [e1]; rfl
        · show (soM lo l P T G who o n).inv (soNext P T G who o n (.qp s) a) e _
          rw [e1]; first | trivial | exact h
      · intro hn w hlo hp hA hi hL
        have e0 : soNext P T G who o n (.qp s) a = ((fun _ => SoSt.rl3 .puts)) (qpNext [n] s a) := runs_off (M := qpY P T G [n]) (k := (fun _ => SoSt.rl3 .puts)) (emb := SoSt.qp) (s := (qpNext [n] s a)) hn
        have hA : (qpS lo l P T G who [n]).at_ w e.1 .done := by rw [← qp_fin hok hn]; exact hA
        have e1 := e0
        refine (so_leaves_run x l lo P T G who o n (.pointer (some ⟨e.1, 0, none⟩)) w hlo hp hL).mono ?_
        rintro e3 w' ⟨he, ⟨y, h1⟩, h2⟩
        refine ⟨he, ⟨(y, e.2.1, e.1), ?_⟩, h2⟩
        show (soM lo l P T G who o n).is_ x who w' (soNext P T G who o n (.qp s) a) (y, e.2.1, e.1)
        rw [e1]
        exact ⟨h1, sub_kept1 (qp_sub lo l P T G who [n] (by simp)) hA hp (by show 202 ∉ rdT [258, 3]; decide) h2⟩
    | rl3 s =>
      refine ⟨rl_sub lo l 0 P T G who, ?_, enters_of Tryz.func380 (by kernel_rfl) rfl, ?_⟩
      · show ∀ T ∈ [331], T ∈ [202, 247, 250, 331, 258, 3] ∧ T ≠ 202 ∧ T ∉ (rdT [258, 3])
        decide
      intro a ha
      refine ⟨?_, ?_⟩
      · intro hn
        have e1 : soNext P T G who o n (.rl3 s) a = SoSt.rl3 (rlNext s a) := runs_on (M := rl0) (k := (fun _ => SoSt.fq)) (emb := SoSt.rl3) (s := (rlNext s a)) hn
        refine ⟨?_, ?_, fun _ h => ?_⟩
        · show (soM lo l P T G who o n).nx (soNext P T G who o n (.rl3 s) a) e = _
          rw [e1]; rfl
        · show (soM lo l P T G who o n).rest (soNext P T G who o n (.rl3 s) a) e = _
          rw [e1]; rfl
        · show (soM lo l P T G who o n).inv (soNext P T G who o n (.rl3 s) a) e _
          rw [e1]; first | trivial | exact h
      · intro hn w hlo hp hA hi hL
        have e0 : soNext P T G who o n (.rl3 s) a = ((fun _ => SoSt.fq)) (rlNext s a) := runs_off (M := rl0) (k := (fun _ => SoSt.fq)) (emb := SoSt.rl3) (s := (rlNext s a)) hn
        have e1 := e0
        refine (so_ends_run x who _ _ w hp).mono ?_
        rintro e3 w' ⟨he, h1, h2⟩
        refine ⟨he, ⟨e, ?_⟩, h2⟩
        show (soM lo l P T G who o n).is_ x who w' (soNext P T G who o n (.rl3 s) a) e
        rw [e1]
        exact ⟨h1, sub_kept1 (qp_sub lo l P T G who [n] (by simp)) hi hp (by show 202 ∉ rdT [258, 3]; decide) h2⟩
    | fq => exact .inl rfl
end Go.Proofs.YtlhnnggceebpjaaGreat.Sysc
