/- One is pulled from the global queue; what is told of a putting. -/
import Derived.Test.YtlhnnggceebpjaaGlobqD
set_option maxRecDepth 100000
set_option maxHeartbeats 4000000
set_option linter.unusedVariables false
set_option linter.unusedSimpArgs false
namespace Go.Proofs.Ytlhnnggceebpjaa.Globq
open Go.RowKit Go.Shelf Go.Proofs.Ytlhnnggceebpjaa.TK Go.Proofs.Ytlhnnggceebpjaa.Flag Go.Proofs.Ytlhnnggceebpjaa.Read Go.Proofs.Ytlhnnggceebpjaa.Words Go.Proofs.Ytlhnnggceebpjaa.Mem Go.Proofs.Ytlhnnggceebpjaa.Flow Go.Proofs.Ytlhnnggceebpjaa.Layout Go.Proofs.Ytlhnnggceebpjaa.Lock Go.Proofs.Ytlhnnggceebpjaa.Run Go.Proofs.Ytlhnnggceebpjaa.Sys Go.Proofs.Ytlhnnggceebpjaa.Mach Go.Proofs.Ytlhnnggceebpjaa.Doc Go.Proofs.Ytlhnnggceebpjaa.Ref05 Go.Proofs.Ytlhnnggceebpjaa.Subs Go.Proofs.Ytlhnnggceebpjaa.IWords Go.Proofs.Ytlhnnggceebpjaa.Idlep
def Lists (w0 : World) (hl : List Int) (e : Ending) (w' : World) : Prop := ∃ a' c', e = .returned (.slice a' hl.length c') ∧ RowOf (encI .i64) 1 w' a' hl ∧ Below w0.heap.size w0 w'
theorem lists_nil (w : World) : Lists w [] (.returned (.slice none 0 0)) w := ⟨none, 0, rfl, fun i hi => absurd hi (by simp), Below.refl _ _⟩
theorem qp_h_run {lo l x : Nat} {P T G who : Int} {gs : List Int} {st : QpSt} {w : World} (hA : (qpM lo l P T G who gs).at_ lo l x P T G who w st) (hn : gs.length ≤ 1000) :
    Calls Try.prog 69 #[.pointer (some ⟨x, 0, none⟩)] w fun e w' => Lists w (qpH gs st) e w' := by
  obtain ⟨⟨e, hp, hi⟩, _⟩ := hA
  obtain ⟨ea, ec⟩ := e
  have hp : Pend w x who (puR l ea gs.length ec (qpK gs st) (qpL st)) 169 (qpOwn P T G gs st) := hp
  have y1 := hp.idle.rest 1
  have y3 := hp.idle.rest 3
  simp only [puR, Nat.reduceAdd, Nat.zero_add, List.getElem?_cons_zero, List.getElem?_cons_succ] at y1 y3
  have HC := hid (iclone_any ea ec gs w hi.2 (by omega) hi.1.row)
  unfold qpH
  obtain ⟨n, hnl⟩ : ∃ n, n = gs.length := ⟨_, rfl⟩
  rw [← hnl] at y1 HC
  obtain ⟨q, hq⟩ : ∃ q, q = qpL st := ⟨_, rfl⟩
  rw [← hq] at y3 ⊢
  have HNL := hid hnl
  clear hp hi hq hnl
  cases q with
  | true =>
    go_enter Try.func69, Try.ntmps69
    go_wp2
    go_ret
    exact lists_nil w
  | false =>
    go_enter Try.func69, Try.ntmps69
    go_wp2_with fail
    refine HC.out.mono ?_
    rintro e w1 ⟨a', cap, rfl, hB, _, hb⟩
    have HR := hid (And.intro hB.row hb)
    clear hB hb
    go_wp2
    go_ret
    exact ⟨a', cap, by rw [HNL.out]; rfl, HR.out⟩
theorem qp_h_nil (w : World) : Calls Try.prog 69 #[.pointer none] w fun e w' => e = .returned (.slice none 0 0) ∧ w = w' := by
  go_enter Try.func69, Try.ntmps69
  go_wp2
  go_ret
  exact ⟨rfl, rfl⟩
inductive QlSt
  | h
  | n (a : Int)
  | st (a b : Int)
  | tl (a : Int)
  | c (a b : Int)
  | done (a b : Int)
  | none
def qlNext : QlSt → Int → QlSt
  | .h, x => if x = 0 then .none else .n x
  | .n a, x => .st a x
  | .st a b, _ => if b = 0 then .tl a else .c a b
  | .tl a, _ => .c a 0
  | .c a b, _ => .done a b
  | .done a b, _ => .done a b
  | .none, _ => .none
def qlNx (P T G : Int) : QlSt → Nx
  | .h => .load (wordN 6) 126
  | .n a => .load (gg P T G (nOf a) 1) 172
  | .st a b => .store (wordN 6) b 200
  | .tl a => .store (wordN 7) 0 216
  | .c a b => .add (wordN 8) 4294967295 230
  | _ => .done
def QlSt.a : QlSt → Int
  | .n a => a
  | .st a _ => a
  | .tl a => a
  | .c a _ => a
  | .done a _ => a
  | _ => 0
def QlSt.b : QlSt → Int
  | .st _ b => b
  | .c _ b => b
  | .done _ b => b
  | _ => 0
def QlSt.g : QlSt → Int
  | .tl a => nOf a
  | .c a _ => nOf a
  | .done a _ => nOf a
  | _ => -1
def qlR (l : Nat) (a b g : Int) : List Value := [.pointer (some ⟨l, 0, none⟩), .int .u64 a, .int .u64 b, .int .i64 g]
def qlOk : QlSt → Prop
  | .st _ b => W64 b
  | _ => True
def qlM (l : Nat) (P T G : Int) : Mch QlSt := ⟨171, qlNx P T G, fun st => qlR l st.a st.b st.g, qlNext, qlOk⟩
theorem ql_first0_run (x l : Nat) (P T G who : Int) (a b g : Int) (w : World)  (hp : Pend w x who (qlR l a b g) 171 .done) (hL : Lay w l P T G) :
    Calls Try.prog 126 #[.pointer (some ⟨x, 0, none⟩), .int .u64 0] w fun e w' => (∃ r, e = .returned r) ∧ Pend w' x who (qlR l a b g) 171 (.done) ∧ Kept [x] w w' := by
  have HI := hid (MI.start hp hL)
  have hf := hp.idle.frozen
  (have y0 := hp.idle.rest 0; have y1 := hp.idle.rest 1; have y2 := hp.idle.rest 2; have y3 := hp.idle.rest 3; simp only [qlR, Nat.reduceAdd, Nat.zero_add, List.getElem?_cons_zero, List.getElem?_cons_succ] at y0 y1 y2 y3)
  clear hp hL
  go_enter Try.func126, Try.ntmps126
  go_wp2
  go_returns
  exact ⟨⟨_, rfl⟩, HI.out.pend, HI.out.kept⟩
theorem ql_first1_run (x l : Nat) (P T G who : Int) (a b g v : Int) (w : World) (hv : v ≠ 0) (hp : Pend w x who (qlR l a b g) 171 .done) (hL : Lay w l P T G) :
    Calls Try.prog 126 #[.pointer (some ⟨x, 0, none⟩), .int .u64 v] w fun e w' => (∃ r, e = .returned r) ∧ Pend w' x who (qlR l v b g) 171 (.load (gg P T G (nOf v) 1) 172) ∧ Kept [x] w w' := by
  have h0 : ((v : Int) == 0) = false := by simp [hv]
  have n1 : IntKind.i64.wrap (IntKind.i64.wrap v - 1) = nOf v := rfl
  have n2 : wrap64 (wrap64 v - 1) = nOf v := by unfold nOf; simp only [IntWalk.i64_left]
  have HI := hid ((MI.start hp hL).put (by decide) 1 (.int .u64 v)).drew
  have hf := hp.idle.frozen
  (have y0 := hp.idle.rest 0; have y1 := hp.idle.rest 1; have y2 := hp.idle.rest 2; have y3 := hp.idle.rest 3; simp only [qlR, Nat.reduceAdd, Nat.zero_add, List.getElem?_cons_zero, List.getElem?_cons_succ] at y0 y1 y2 y3)
  clear hp hL
  go_enter Try.func126, Try.ntmps126
  go_wp2_with fail
  refine wp_region_T 13 (fun w' => MI w w' x who (qlR l v b g) 171 l P T G) (fun w' => Pend w' x who (qlR l v b g) 171 (.load (gg P T G (nOf v) 1) 172) ∧ Kept [x] w w') (by kernel_rfl) (by kernel_rfl) rfl (by kernel_rfl) HI.out ?_
  clear HI
  (repeat (first | (apply walkD_pure; rfl; rfl; (intro _; go_simp; first | done | rfl); (intro K hK; go_simp; refine hK _ ?_; clear hK K)) | (apply walkD_skip; rfl; rfl; (intro K hK; go_simp; refine hK _ ?_; clear hK K)) | (apply walkD_read1 [false] (by kernel_rfl); rfl; rfl; (intro w' hD; (have y0 := hD.pend.idle.rest 0; have y1 := hD.pend.idle.rest 1; have y2 := hD.pend.idle.rest 2; have y3 := hD.pend.idle.rest 3; simp only [qlR, Nat.reduceAdd, Nat.zero_add, List.getElem?_cons_zero, List.getElem?_cons_succ] at y0 y1 y2 y3); go_simp; rfl); (intro K hK; go_simp; refine hK _ ?_; clear hK K)) | (apply walkD_call1 [false] (by kernel_rfl); rfl; (intro _; go_simp; first | rfl | exact ⟨rfl, rfl⟩); (intro w' hD; first | (go_at_call 112; refine (proc_run _ _ _ _ _ _ _ hD.lay).mono ?_; rintro e w2 ⟨rfl, hb⟩; exact ⟨rfl, hD.quiet hb⟩) | (go_at_call 157; refine (thread_run _ _ _ _ _ _ _ hD.lay).mono ?_; rintro e w2 ⟨rfl, hb⟩; exact ⟨rfl, hD.quiet hb⟩) | (go_at_call 120; refine (ring_run _ _ _ _ _ _ (by assumption) _ hD.lay).mono ?_; rintro e w2 ⟨rfl, hb⟩; exact ⟨rfl, hD.quiet hb⟩) | (go_at_call 117; refine (g_run _ _ _ _ _ _ _ hD.lay).mono ?_; rintro e w2 ⟨rfl, hb⟩; exact ⟨rfl, hD.quiet hb⟩) | (go_at_call 106; refine (word_run _ 0 0 0 _ _).mono ?_; rintro e w2 ⟨rfl, rfl⟩; exact ⟨rfl, hD⟩) | (go_at_call 105; refine (iload_run hD.pend.idle _ _).mono ?_; rintro e w2 ⟨rfl, hP, hK⟩; exact ⟨rfl, hP, hD.kept.trans hK (by intro i hi; exact .inl hi)⟩) | (go_at_call 98; refine (iadd_run hD.pend.idle _ _ _).mono ?_; rintro e w2 ⟨rfl, hP, hK⟩; exact ⟨rfl, hP, hD.kept.trans hK (by intro i hi; exact .inl hi)⟩) | (go_at_call 102; refine (istore_run hD.pend.idle _ _ _).mono ?_; rintro e w2 ⟨rfl, hP, hK⟩; exact ⟨rfl, hP, hD.kept.trans hK (by intro i hi; exact .inl hi)⟩) | (go_at_call 201; refine (iswap_run hD.pend.idle _ _ _ _).mono ?_; rintro e w2 ⟨rfl, hP, hK⟩; exact ⟨rfl, hP, hD.kept.trans hK (by intro i hi; exact .inl hi)⟩)); (intro K hK; go_simp; refine hK _ ?_; clear hK K))))
  (rintro w2 ⟨h1, h2⟩; go_wp2; go_returns; exact ⟨⟨_, rfl⟩, h1, h2⟩)
theorem ql_second_run (x l : Nat) (P T G who : Int) (a b g v : Int) (w : World)  (hp : Pend w x who (qlR l a b g) 171 .done) (hL : Lay w l P T G) :
    Calls Try.prog 172 #[.pointer (some ⟨x, 0, none⟩), .int .u64 v] w fun e w' => (∃ r, e = .returned r) ∧ Pend w' x who (qlR l a v g) 171 (.store (wordN 6) v 200) ∧ Kept [x] w w' := by
  have HI := hid ((MI.start hp hL).put (by decide) 2 (.int .u64 v)).drew
  have hf := hp.idle.frozen
  (have y0 := hp.idle.rest 0; have y1 := hp.idle.rest 1; have y2 := hp.idle.rest 2; have y3 := hp.idle.rest 3; simp only [qlR, Nat.reduceAdd, Nat.zero_add, List.getElem?_cons_zero, List.getElem?_cons_succ] at y0 y1 y2 y3)
  clear hp hL
  go_enter Try.func172, Try.ntmps172
  go_wp2_with fail
  refine wp_region_T 11 (fun w' => MI w w' x who (qlR l a v g) 171 l P T G) (fun w' => Pend w' x who (qlR l a v g) 171 (.store (wordN 6) v 200) ∧ Kept [x] w w') (by kernel_rfl) (by kernel_rfl) rfl (by kernel_rfl) HI.out ?_
  clear HI
  (repeat (first | (apply walkD_pure; rfl; rfl; (intro _; go_simp; first | done | rfl); (intro K hK; go_simp; refine hK _ ?_; clear hK K)) | (apply walkD_skip; rfl; rfl; (intro K hK; go_simp; refine hK _ ?_; clear hK K)) | (apply walkD_read1 [false] (by kernel_rfl); rfl; rfl; (intro w' hD; (have y0 := hD.pend.idle.rest 0; have y1 := hD.pend.idle.rest 1; have y2 := hD.pend.idle.rest 2; have y3 := hD.pend.idle.rest 3; simp only [qlR, Nat.reduceAdd, Nat.zero_add, List.getElem?_cons_zero, List.getElem?_cons_succ] at y0 y1 y2 y3); go_simp; rfl); (intro K hK; go_simp; refine hK _ ?_; clear hK K)) | (apply walkD_call1 [false] (by kernel_rfl); rfl; (intro _; go_simp; first | rfl | exact ⟨rfl, rfl⟩); (intro w' hD; first | (go_at_call 112; refine (proc_run _ _ _ _ _ _ _ hD.lay).mono ?_; rintro e w2 ⟨rfl, hb⟩; exact ⟨rfl, hD.quiet hb⟩) | (go_at_call 157; refine (thread_run _ _ _ _ _ _ _ hD.lay).mono ?_; rintro e w2 ⟨rfl, hb⟩; exact ⟨rfl, hD.quiet hb⟩) | (go_at_call 120; refine (ring_run _ _ _ _ _ _ (by assumption) _ hD.lay).mono ?_; rintro e w2 ⟨rfl, hb⟩; exact ⟨rfl, hD.quiet hb⟩) | (go_at_call 117; refine (g_run _ _ _ _ _ _ _ hD.lay).mono ?_; rintro e w2 ⟨rfl, hb⟩; exact ⟨rfl, hD.quiet hb⟩) | (go_at_call 106; refine (word_run _ 0 0 0 _ _).mono ?_; rintro e w2 ⟨rfl, rfl⟩; exact ⟨rfl, hD⟩) | (go_at_call 105; refine (iload_run hD.pend.idle _ _).mono ?_; rintro e w2 ⟨rfl, hP, hK⟩; exact ⟨rfl, hP, hD.kept.trans hK (by intro i hi; exact .inl hi)⟩) | (go_at_call 98; refine (iadd_run hD.pend.idle _ _ _).mono ?_; rintro e w2 ⟨rfl, hP, hK⟩; exact ⟨rfl, hP, hD.kept.trans hK (by intro i hi; exact .inl hi)⟩) | (go_at_call 102; refine (istore_run hD.pend.idle _ _ _).mono ?_; rintro e w2 ⟨rfl, hP, hK⟩; exact ⟨rfl, hP, hD.kept.trans hK (by intro i hi; exact .inl hi)⟩) | (go_at_call 201; refine (iswap_run hD.pend.idle _ _ _ _).mono ?_; rintro e w2 ⟨rfl, hP, hK⟩; exact ⟨rfl, hP, hD.kept.trans hK (by intro i hi; exact .inl hi)⟩)); (intro K hK; go_simp; refine hK _ ?_; clear hK K))))
  (rintro w2 ⟨h1, h2⟩; go_wp2; go_returns; exact ⟨⟨_, rfl⟩, h1, h2⟩)
theorem ql_counts_run (x l : Nat) (P T G who : Int) (a b g : Int) (w : World)  (hp : Pend w x who (qlR l a b g) 171 .done) (hL : Lay w l P T G) :
    Calls Try.prog 216 #[.pointer (some ⟨x, 0, none⟩)] w fun e w' => (∃ r, e = .returned r) ∧ Pend w' x who (qlR l a b g) 171 (.add (wordN 8) 4294967295 230) ∧ Kept [x] w w' := by
  have HI := hid (MI.start hp hL).drew
  have hf := hp.idle.frozen
  (have y0 := hp.idle.rest 0; have y1 := hp.idle.rest 1; have y2 := hp.idle.rest 2; have y3 := hp.idle.rest 3; simp only [qlR, Nat.reduceAdd, Nat.zero_add, List.getElem?_cons_zero, List.getElem?_cons_succ] at y0 y1 y2 y3)
  clear hp hL
  go_enter Try.func216, Try.ntmps216
  go_wp2_with fail
  refine wp_region_T 10 (fun w' => MI w w' x who (qlR l a b g) 171 l P T G) (fun w' => Pend w' x who (qlR l a b g) 171 (.add (wordN 8) 4294967295 230) ∧ Kept [x] w w') (by kernel_rfl) (by kernel_rfl) rfl (by kernel_rfl) HI.out ?_
  clear HI
  (repeat (first | (apply walkD_pure; rfl; rfl; (intro _; go_simp; first | done | rfl); (intro K hK; go_simp; refine hK _ ?_; clear hK K)) | (apply walkD_skip; rfl; rfl; (intro K hK; go_simp; refine hK _ ?_; clear hK K)) | (apply walkD_read1 [false] (by kernel_rfl); rfl; rfl; (intro w' hD; (have y0 := hD.pend.idle.rest 0; have y1 := hD.pend.idle.rest 1; have y2 := hD.pend.idle.rest 2; have y3 := hD.pend.idle.rest 3; simp only [qlR, Nat.reduceAdd, Nat.zero_add, List.getElem?_cons_zero, List.getElem?_cons_succ] at y0 y1 y2 y3); go_simp; rfl); (intro K hK; go_simp; refine hK _ ?_; clear hK K)) | (apply walkD_call1 [false] (by kernel_rfl); rfl; (intro _; go_simp; first | rfl | exact ⟨rfl, rfl⟩); (intro w' hD; first | (go_at_call 112; refine (proc_run _ _ _ _ _ _ _ hD.lay).mono ?_; rintro e w2 ⟨rfl, hb⟩; exact ⟨rfl, hD.quiet hb⟩) | (go_at_call 157; refine (thread_run _ _ _ _ _ _ _ hD.lay).mono ?_; rintro e w2 ⟨rfl, hb⟩; exact ⟨rfl, hD.quiet hb⟩) | (go_at_call 120; refine (ring_run _ _ _ _ _ _ (by assumption) _ hD.lay).mono ?_; rintro e w2 ⟨rfl, hb⟩; exact ⟨rfl, hD.quiet hb⟩) | (go_at_call 117; refine (g_run _ _ _ _ _ _ _ hD.lay).mono ?_; rintro e w2 ⟨rfl, hb⟩; exact ⟨rfl, hD.quiet hb⟩) | (go_at_call 106; refine (word_run _ 0 0 0 _ _).mono ?_; rintro e w2 ⟨rfl, rfl⟩; exact ⟨rfl, hD⟩) | (go_at_call 105; refine (iload_run hD.pend.idle _ _).mono ?_; rintro e w2 ⟨rfl, hP, hK⟩; exact ⟨rfl, hP, hD.kept.trans hK (by intro i hi; exact .inl hi)⟩) | (go_at_call 98; refine (iadd_run hD.pend.idle _ _ _).mono ?_; rintro e w2 ⟨rfl, hP, hK⟩; exact ⟨rfl, hP, hD.kept.trans hK (by intro i hi; exact .inl hi)⟩) | (go_at_call 102; refine (istore_run hD.pend.idle _ _ _).mono ?_; rintro e w2 ⟨rfl, hP, hK⟩; exact ⟨rfl, hP, hD.kept.trans hK (by intro i hi; exact .inl hi)⟩) | (go_at_call 201; refine (iswap_run hD.pend.idle _ _ _ _).mono ?_; rintro e w2 ⟨rfl, hP, hK⟩; exact ⟨rfl, hP, hD.kept.trans hK (by intro i hi; exact .inl hi)⟩)); (intro K hK; go_simp; refine hK _ ?_; clear hK K))))
  (rintro w2 ⟨h1, h2⟩; go_wp2; go_returns; exact ⟨⟨_, rfl⟩, h1, h2⟩)
theorem ql_pulled0_run (x l : Nat) (P T G who : Int) (a g : Int) (w : World)  (hp : Pend w x who (qlR l a 0 g) 171 .done) (hL : Lay w l P T G) :
    Calls Try.prog 200 #[.pointer (some ⟨x, 0, none⟩)] w fun e w' => (∃ r, e = .returned r) ∧ Pend w' x who (qlR l a 0 (nOf a)) 171 (.store (wordN 7) 0 216) ∧ Kept [x] w w' := by
  have n1 : IntKind.i64.wrap (IntKind.i64.wrap a - 1) = nOf a := rfl
  have n2 : wrap64 (wrap64 a - 1) = nOf a := by unfold nOf; simp only [IntWalk.i64_left]
  have HI := hid ((MI.start hp hL).put (by decide) 3 (.int .i64 (nOf a))).drew
  have hf := hp.idle.frozen
  (have y0 := hp.idle.rest 0; have y1 := hp.idle.rest 1; have y2 := hp.idle.rest 2; have y3 := hp.idle.rest 3; simp only [qlR, Nat.reduceAdd, Nat.zero_add, List.getElem?_cons_zero, List.getElem?_cons_succ] at y0 y1 y2 y3)
  clear hp hL
  go_enter Try.func200, Try.ntmps200
  go_wp2_with fail
  refine wp_region_T 10 (fun w' => MI w w' x who (qlR l a 0 (nOf a)) 171 l P T G) (fun w' => Pend w' x who (qlR l a 0 (nOf a)) 171 (.store (wordN 7) 0 216) ∧ Kept [x] w w') (by kernel_rfl) (by kernel_rfl) rfl (by kernel_rfl) HI.out ?_
  clear HI
  (repeat (first | (apply walkD_pure; rfl; rfl; (intro _; go_simp; first | done | rfl); (intro K hK; go_simp; refine hK _ ?_; clear hK K)) | (apply walkD_skip; rfl; rfl; (intro K hK; go_simp; refine hK _ ?_; clear hK K)) | (apply walkD_read1 [false] (by kernel_rfl); rfl; rfl; (intro w' hD; (have y0 := hD.pend.idle.rest 0; have y1 := hD.pend.idle.rest 1; have y2 := hD.pend.idle.rest 2; have y3 := hD.pend.idle.rest 3; simp only [qlR, Nat.reduceAdd, Nat.zero_add, List.getElem?_cons_zero, List.getElem?_cons_succ] at y0 y1 y2 y3); go_simp; rfl); (intro K hK; go_simp; refine hK _ ?_; clear hK K)) | (apply walkD_call1 [false] (by kernel_rfl); rfl; (intro _; go_simp; first | rfl | exact ⟨rfl, rfl⟩); (intro w' hD; first | (go_at_call 112; refine (proc_run _ _ _ _ _ _ _ hD.lay).mono ?_; rintro e w2 ⟨rfl, hb⟩; exact ⟨rfl, hD.quiet hb⟩) | (go_at_call 157; refine (thread_run _ _ _ _ _ _ _ hD.lay).mono ?_; rintro e w2 ⟨rfl, hb⟩; exact ⟨rfl, hD.quiet hb⟩) | (go_at_call 120; refine (ring_run _ _ _ _ _ _ (by assumption) _ hD.lay).mono ?_; rintro e w2 ⟨rfl, hb⟩; exact ⟨rfl, hD.quiet hb⟩) | (go_at_call 117; refine (g_run _ _ _ _ _ _ _ hD.lay).mono ?_; rintro e w2 ⟨rfl, hb⟩; exact ⟨rfl, hD.quiet hb⟩) | (go_at_call 106; refine (word_run _ 0 0 0 _ _).mono ?_; rintro e w2 ⟨rfl, rfl⟩; exact ⟨rfl, hD⟩) | (go_at_call 105; refine (iload_run hD.pend.idle _ _).mono ?_; rintro e w2 ⟨rfl, hP, hK⟩; exact ⟨rfl, hP, hD.kept.trans hK (by intro i hi; exact .inl hi)⟩) | (go_at_call 98; refine (iadd_run hD.pend.idle _ _ _).mono ?_; rintro e w2 ⟨rfl, hP, hK⟩; exact ⟨rfl, hP, hD.kept.trans hK (by intro i hi; exact .inl hi)⟩) | (go_at_call 102; refine (istore_run hD.pend.idle _ _ _).mono ?_; rintro e w2 ⟨rfl, hP, hK⟩; exact ⟨rfl, hP, hD.kept.trans hK (by intro i hi; exact .inl hi)⟩) | (go_at_call 201; refine (iswap_run hD.pend.idle _ _ _ _).mono ?_; rintro e w2 ⟨rfl, hP, hK⟩; exact ⟨rfl, hP, hD.kept.trans hK (by intro i hi; exact .inl hi)⟩)); (intro K hK; go_simp; refine hK _ ?_; clear hK K))))
  (rintro w2 ⟨h1, h2⟩; go_wp2; go_returns; exact ⟨⟨_, rfl⟩, h1, h2⟩)
theorem ql_pulled1_run (x l lo : Nat) (P T G who : Int) (a b g : Int) (w : World) (hb : b ≠ 0) (hlo : lo ≤ w.heap.size) (hp : Pend w x who (qlR l a b g) 171 .done) (hL : Lay w l P T G) :
    Calls Try.prog 200 #[.pointer (some ⟨x, 0, none⟩)] w fun e w' => (∃ r, e = .returned r) ∧ (Pend w' x who (qlR l a b (nOf a)) 171 (.add (wordN 8) 4294967295 230)) ∧ Kept [x] w w' := by
  have h0 : ((b : Int) == 0) = false := by simp [hb]
  have n1 : IntKind.i64.wrap (IntKind.i64.wrap a - 1) = nOf a := rfl
  have n2 : wrap64 (wrap64 a - 1) = nOf a := by unfold nOf; simp only [IntWalk.i64_left]
  have HI := hid ((MI.start hp hL).put (by decide) 3 (.int .i64 (nOf a)))
  have hf := hp.idle.frozen
  (have y0 := hp.idle.rest 0; have y1 := hp.idle.rest 1; have y2 := hp.idle.rest 2; have y3 := hp.idle.rest 3; simp only [qlR, Nat.reduceAdd, Nat.zero_add, List.getElem?_cons_zero, List.getElem?_cons_succ] at y0 y1 y2 y3)
  clear hp hL
  go_enter Try.func200, Try.ntmps200
  go_wp2_with fail
  refine (ql_counts_run x l P T G who a b (nOf a) _ HI.out.pend HI.out.lay).mono ?_
  rintro e w9 ⟨⟨r, rfl⟩, hy, hK⟩
  have HX := hid (And.intro hy (HI.out.kept.trans hK (by intro i hi; exact .inl hi)))
  clear HI hy hK
  go_wp2
  go_returns
  exact ⟨⟨_, rfl⟩, HX.out⟩
theorem ql_ends_run (x l : Nat) (P T G who : Int) (a b g v : Int) (w : World)  (hp : Pend w x who (qlR l a b g) 171 .done) (hL : Lay w l P T G) :
    Calls Try.prog 230 #[.pointer (some ⟨x, 0, none⟩), .int .u64 v] w fun e w' => (∃ r, e = .returned r) ∧ Pend w' x who (qlR l a b g) 171 (.done) ∧ Kept [x] w w' := by
  have HI := hid (MI.start hp hL)
  have hf := hp.idle.frozen
  (have y0 := hp.idle.rest 0; have y1 := hp.idle.rest 1; have y2 := hp.idle.rest 2; have y3 := hp.idle.rest 3; simp only [qlR, Nat.reduceAdd, Nat.zero_add, List.getElem?_cons_zero, List.getElem?_cons_succ] at y0 y1 y2 y3)
  clear hp hL
  go_enter Try.func230, Try.ntmps230
  go_wp2
  go_returns
  exact ⟨⟨_, rfl⟩, HI.out.pend, HI.out.kept⟩
theorem ql_new_run (l : Nat) (P T G who : Int)  (w : World) (hL : Lay w l P T G) :
    Calls Try.prog 59 #[.pointer (some ⟨l, 0, none⟩), .int .i64 who] w fun e w' => e = .returned (.pointer (some ⟨w.heap.size, 0, none⟩)) ∧ Pend w' w.heap.size who (qlR l 0 0 (-1)) 171 (.load (wordN 6) 126) ∧ Below w.heap.size w w' := by
  have h0 : FlAt (w.alloc (.cells (fl fl0 ++ qlR l 0 0 (-1)).toArray 171)) w.heap.size fl0 (qlR l 0 0 (-1)) 171 := Blk.new w _ _
  have hL0 := hL.quiet (below_one w (.cells (fl fl0 ++ qlR l 0 0 (-1)).toArray 171))
  have hlx : l ≠ w.heap.size := Nat.ne_of_lt hL.1.lt
  clear hL
  go_enter Try.func59, Try.ntmps59
  go_wp2_with fail
  refine (iof_run h0 who).mono ?_
  rintro e w1 ⟨rfl, hp, hK⟩
  have hL1 := hL0.kept hK (by simpa using hlx)
  have hlow : Below w.heap.size w w1 := (below_one _ _).trans (hK.below (by simp) (by simp))
  have HI := hid (MI.start hp hL1).drew
  clear h0 hL0 hp hL1 hK
  go_wp2_with fail
  refine wp_region_T 7 (fun w' => MI w1 w' w.heap.size who (qlR l 0 0 (-1)) 171 l P T G) (fun w' => Pend w' w.heap.size who (qlR l 0 0 (-1)) 171 (.load (wordN 6) 126) ∧ Kept [w.heap.size] w1 w') (by kernel_rfl) (by kernel_rfl) rfl (by kernel_rfl) HI.out ?_
  clear HI
  (repeat (first | (apply walkD_pure; rfl; rfl; (intro _; go_simp; first | done | rfl); (intro K hK; go_simp; refine hK _ ?_; clear hK K)) | (apply walkD_skip; rfl; rfl; (intro K hK; go_simp; refine hK _ ?_; clear hK K)) | (apply walkD_read1 [false] (by kernel_rfl); rfl; rfl; (intro w' hD; (have y0 := hD.pend.idle.rest 0; have y1 := hD.pend.idle.rest 1; have y2 := hD.pend.idle.rest 2; have y3 := hD.pend.idle.rest 3; simp only [qlR, Nat.reduceAdd, Nat.zero_add, List.getElem?_cons_zero, List.getElem?_cons_succ] at y0 y1 y2 y3); go_simp; rfl); (intro K hK; go_simp; refine hK _ ?_; clear hK K)) | (apply walkD_call1 [false] (by kernel_rfl); rfl; (intro _; go_simp; first | rfl | exact ⟨rfl, rfl⟩); (intro w' hD; first | (go_at_call 112; refine (proc_run _ _ _ _ _ _ _ hD.lay).mono ?_; rintro e w2 ⟨rfl, hb⟩; exact ⟨rfl, hD.quiet hb⟩) | (go_at_call 157; refine (thread_run _ _ _ _ _ _ _ hD.lay).mono ?_; rintro e w2 ⟨rfl, hb⟩; exact ⟨rfl, hD.quiet hb⟩) | (go_at_call 120; refine (ring_run _ _ _ _ _ _ (by assumption) _ hD.lay).mono ?_; rintro e w2 ⟨rfl, hb⟩; exact ⟨rfl, hD.quiet hb⟩) | (go_at_call 117; refine (g_run _ _ _ _ _ _ _ hD.lay).mono ?_; rintro e w2 ⟨rfl, hb⟩; exact ⟨rfl, hD.quiet hb⟩) | (go_at_call 106; refine (word_run _ 0 0 0 _ _).mono ?_; rintro e w2 ⟨rfl, rfl⟩; exact ⟨rfl, hD⟩) | (go_at_call 105; refine (iload_run hD.pend.idle _ _).mono ?_; rintro e w2 ⟨rfl, hP, hK⟩; exact ⟨rfl, hP, hD.kept.trans hK (by intro i hi; exact .inl hi)⟩) | (go_at_call 98; refine (iadd_run hD.pend.idle _ _ _).mono ?_; rintro e w2 ⟨rfl, hP, hK⟩; exact ⟨rfl, hP, hD.kept.trans hK (by intro i hi; exact .inl hi)⟩) | (go_at_call 102; refine (istore_run hD.pend.idle _ _ _).mono ?_; rintro e w2 ⟨rfl, hP, hK⟩; exact ⟨rfl, hP, hD.kept.trans hK (by intro i hi; exact .inl hi)⟩) | (go_at_call 201; refine (iswap_run hD.pend.idle _ _ _ _).mono ?_; rintro e w2 ⟨rfl, hP, hK⟩; exact ⟨rfl, hP, hD.kept.trans hK (by intro i hi; exact .inl hi)⟩)); (intro K hK; go_simp; refine hK _ ?_; clear hK K))))
  rintro w2 ⟨h1, h2⟩
  go_wp2
  go_ret
  exact ⟨rfl, h1, hlow.trans (h2.below (by simp) hlow.size)⟩
theorem ql_goes (l x : Nat) (P T G who : Int) : Goes (qlM l P T G) l x P T G who := by
  refine ⟨by show ∀ T ∈ ownT 171, _; decide, by show 171 ≠ _ ∧ 171 ≠ _ ∧ 171 ≠ _; decide, ?_, ?_, ?_, ?_⟩
  · intro st hok
    cases st with
    | st a b => exact hok
    | _ => simp [qlM, qlNx, Nx.val]
  · intro st a hok ha
    cases st with
    | h => show qlOk (if a = 0 then .none else .n a); split <;> trivial
    | n v => exact ha
    | st v b => show qlOk (if b = 0 then .tl v else .c v b); split <;> trivial
    | _ => trivial
  · intro st hst
    cases st with
    | h => exact enters_of Try.func126 (by kernel_rfl) rfl
    | n a => exact enters_of Try.func172 (by kernel_rfl) rfl
    | st a b => exact enters_of Try.func200 (by kernel_rfl) rfl
    | tl a => exact enters_of Try.func216 (by kernel_rfl) rfl
    | c a b => exact enters_of Try.func230 (by kernel_rfl) rfl
    | done a b => exact absurd rfl hst
    | none => exact absurd rfl hst
  · intro st v w hst hok hv hpe hL
    cases st with
    | h =>
      by_cases hz : v = 0
      · subst hz
        exact ql_first0_run x l P T G who 0 0 (-1) w hpe hL
      · have e1 : (qlM l P T G).next .h v = .n v := if_neg hz
        rw [e1]
        exact ql_first1_run x l P T G who 0 0 (-1) v w hz hpe hL
    | n a => exact ql_second_run x l P T G who a 0 (-1) v w hpe hL
    | st a b =>
      by_cases hz : b = 0
      · subst hz
        exact ql_pulled0_run x l P T G who a (-1) w hpe hL
      · have e1 : (qlM l P T G).next (.st a b) v = .c a b := if_neg hz
        rw [e1]
        exact ql_pulled1_run x l 0 P T G who a b (-1) w hz (Nat.zero_le _) hpe hL
    | tl a => exact ql_counts_run x l P T G who a 0 (nOf a) w hpe hL
    | c a b => exact ql_ends_run x l P T G who a b (nOf a) v w hpe hL
    | done a b => exact absurd rfl hst
    | none => exact absurd rfl hst
theorem qlstep_run (lo l x m g : Nat) (P T G who : Int)  {st : _} {s : St} {w : World} (hgo : Goes (qlM l P T G) l x P T G who) (hA : Mch.at_ (qlM l P T G) lo l x P T G who w st) (hM : MemAt w m g s) (hc : s.clock < 1000000) (hbd : s.bad < 1000000) :
    Calls Try.prog 60 #[.pointer (some ⟨x, 0, none⟩), .pointer (some ⟨m, 0, none⟩)] w fun e w' => (∃ b, e = .returned (.bool b)) ∧ Mch.at_ (qlM l P T G) lo l x P T G who w' (stepOf (Mch.sys (qlM l P T G)) who st s).1 ∧ MemAt w' m g (stepOf (Mch.sys (qlM l P T G)) who st s).2 ∧ KeptOwn (ownT 171) lo m g w w' := by
  obtain ⟨cs, hb⟩ := hA.1.blk
  have h2 := hA.2.1
  have H := hid (mch_fstep hgo hA hM hc hbd)
  have HK := hid (fun (w' : World) (hK : Kept [x, m, g] w w') => mch_kept (K := qlM l P T G) h2 hb hK)
  clear hA hM hb hgo
  obtain ⟨q, hq⟩ : ∃ q, q = stepOf (Mch.sys (qlM l P T G)) who st s := ⟨_, rfl⟩
  rw [← hq] at H ⊢
  obtain ⟨o, ho⟩ : ∃ o, o = (Mch.nx (qlM l P T G) q.1).over := ⟨_, rfl⟩
  rw [← ho] at H
  clear hq ho
  go_enter Try.func60, Try.ntmps60
  go_wp2_with fail
  refine H.out.mono ?_
  rintro e w1 ⟨rfl, h1, h2, h3⟩
  have HX := hid (And.intro h1 (And.intro h2 (HK.out w1 h3)))
  clear h1 h2 h3
  go_wp2
  go_ret
  exact ⟨⟨_, rfl⟩, HX.out⟩
theorem qldone_run {lo l x : Nat} {P T G who : Int}  {st : _} {w : World} (hA : Mch.at_ (qlM l P T G) lo l x P T G who w st) :
    Calls Try.prog 61 #[.pointer (some ⟨x, 0, none⟩)] w fun e w' => e = .returned (.bool (Mch.nx (qlM l P T G) st).over) ∧ w = w' := by
  have H := hid (pend_done hA.1)
  clear hA
  obtain ⟨o, ho⟩ : ∃ o, o = (Mch.nx (qlM l P T G) st).over := ⟨_, rfl⟩
  rw [← ho] at H ⊢
  clear ho
  go_enter Try.func61, Try.ntmps61
  go_wp2_with fail
  refine H.out.mono ?_
  rintro e w1 ⟨rfl, rfl⟩
  go_wp2
  go_ret
  exact ⟨rfl, rfl⟩
theorem qlstep_nil (m : Option Addr) (w : World) : Calls Try.prog 60 #[.pointer none, .pointer m] w fun e w' => e = .returned (.bool true) ∧ w = w' := by
  go_enter Try.func60, Try.ntmps60
  go_wp2
  go_ret
  exact ⟨rfl, rfl⟩
theorem qldone_nil (w : World) : Calls Try.prog 61 #[.pointer none] w fun e w' => e = .returned (.bool true) ∧ w = w' := by
  go_enter Try.func61, Try.ntmps61
  go_wp2
  go_ret
  exact ⟨rfl, rfl⟩
theorem ql_g_run {lo l x : Nat} {P T G who : Int} {st : QlSt} {w : World} (hA : Mch.at_ (qlM l P T G) lo l x P T G who w st) :
    Calls Try.prog 62 #[.pointer (some ⟨x, 0, none⟩)] w fun e w' => e = .returned (.int .i64 st.g) ∧ w = w' := by
  have y2 := hA.1.idle.rest 3
  have e1 : w.cell? ⟨x, 12, none⟩ = some (.int .i64 st.g) := y2
  obtain ⟨q, hq⟩ : ∃ q, q = st.g := ⟨_, rfl⟩
  rw [← hq] at e1 ⊢
  clear hA y2 hq
  go_enter Try.func62, Try.ntmps62
  go_wp2
  go_ret
  exact ⟨rfl, rfl⟩
theorem ql_g_nil (w : World) : Calls Try.prog 62 #[.pointer none] w fun e w' => e = .returned (.int .i64 (-1)) ∧ w = w' := by
  go_enter Try.func62, Try.ntmps62
  go_wp2
  go_ret
  exact ⟨rfl, rfl⟩
theorem rpull13_run (l : Nat) (P T G : Int) (B r : Nat) (v : Value) (a : RunSt) (got : List Int) (s0 : QlSt) (w : World) (h : RunAt w B r v a) (hg : Fits got a) (hs : a.stop = false → s0 = .h) (hP : (0 ≤ P ∧ P ≤ 1000) ∧ (0 ≤ T ∧ T ≤ 1000) ∧ G ≤ 100000) :
    Calls Try.prog 74 #[.pointer (some ⟨r, 0, none⟩), .agg #[.int .i64 P, .int .i64 T, .int .i64 G]] w fun e w' => ∃ gv b s1, e = .returned (.int .i64 gv) ∧ RunAt w' B r v b ∧ Kept [r] w w' ∧ Ran (qlM l P T G).sys got s0 a s1 b ∧ Fits got b ∧ (b.stop = false → a.stop = false ∧ (qlM l P T G).sys.want s1 = none) ∧ (a.stop = false → gv = s1.g) := by
  have HI := hid (DI.start (M := (qlM l P T G).sys) (P := P) (T := T) (G := G) h hg s0)
  have HP := hid hP
  have HS := hid hs
  obtain ⟨z0, z1, z2, z3⟩ := HI.out.cells
  clear h hg hs hP
  go_enter Try.func74, Try.ntmps74
  go_wp2_with fail
  refine (dl_run HI.out 6 (fun h => by rw [HS.out h, ← w6]; rfl)).mono ?_
  rintro e w2 ⟨b1, s1, x1, rfl, hI, ho1⟩
  have E1 := hid (show (b1.stop = false → a.stop = false ∧ s1 = if x1 = 0 then .none else .n x1) ∧ (b1.stop = true → x1 = 0 ∧ (a.stop = false → s1 = .h)) from ⟨fun h => by obtain ⟨h1, h2⟩ := ho1.1 h; exact ⟨h1, by rw [h2, HS.out h1]; rfl⟩, fun h => ⟨(ho1.2.2.1 h).2, fun h1 => by rw [(ho1.2.2.1 h).1, HS.out h1]⟩⟩)
  clear ho1
  (have HI := hid hI; obtain ⟨z0, z1, z2, z3⟩ := HI.out.cells; clear hI)
  by_cases hx : x1 = 0
  · subst hx
    rw [if_pos rfl] at E1
    have HE := hid (show (b1.stop = false → a.stop = false ∧ (qlM l P T G).sys.want s1 = none) ∧ (a.stop = false → s1.g = -1) from ⟨fun h => ⟨(E1.out.1 h).1, by rw [(E1.out.1 h).2]; rfl⟩, fun h => by
      cases hb : b1.stop with
      | false => rw [(E1.out.1 hb).2]; rfl
      | true => rw [(E1.out.2 hb).2 h]; rfl⟩)
    clear E1
    go_wp2
    go_ret
    exact ⟨-1, b1, s1, rfl, HI.out.run, HI.out.kept, HI.out.ran, HI.out.good, HE.out.1, fun h => (HE.out.2 h).symm⟩
  · have hb1 : b1.stop = false := by
      cases hb : b1.stop with
      | false => rfl
      | true => exact absurd (E1.out.2 hb).1 hx
    obtain ⟨ha, hs1⟩ := E1.out.1 hb1
    rw [if_neg hx] at hs1
    have q1 : ((x1 : Int) == 0) = false := by simp [hx]
    have m1 : IntKind.i64.wrap (IntKind.i64.wrap x1 - 1) = nOf x1 := rfl
    have m2 : wrap64 (wrap64 x1 - 1) = nOf x1 := by unfold nOf; simp only [IntWalk.i64_left]
    have HA := hid (And.intro ha hs1)
    clear E1 hx hb1 ha hs1
    go_wp2_with fail
    (refine (gat_run P T G _ _ _ HP.out.1 HP.out.2.1 HP.out.2.2 (by omega)).mono ?_; rintro e w1 ⟨rfl, hb⟩; (have HI := hid (HI.out.quiet hb); clear hb; obtain ⟨z0, z1, z2, z3⟩ := HI.out.cells))
    go_wp2_with fail
    refine (dl_run HI.out (gg P T G (nOf x1) 1) (fun h => by rw [HA.out.2]; rfl)).mono ?_
    rintro e w3 ⟨b2, s2, x2, rfl, hI, ho2⟩
    have E2 := hid (show (b2.stop = false → s2 = .st x1 x2) ∧ (b2.stop = true → s2 = .n x1 ∧ x2 = 0) from ⟨fun h => by rw [(ho2.1 h).2, HA.out.2]; rfl, fun h => ⟨by rw [(ho2.2.2.1 h).1, HA.out.2], (ho2.2.2.1 h).2⟩⟩)
    clear ho2
    (have HI := hid hI; obtain ⟨z0, z1, z2, z3⟩ := HI.out.cells; clear hI)
    go_wp2_with fail
    refine (ds_run HI.out 6 x2 (fun h => by rw [E2.out.1 h, ← w6]; rfl)).mono ?_
    rintro e w4 ⟨rfl, b3, s3, x3, hI, ho3⟩
    have E3 := hid (show (b3.stop = false → s3 = if x2 = 0 then .tl x1 else .c x1 x2) ∧ (b3.stop = true → s3.g = -1) from ⟨fun h => by rw [(ho3.1 h).2, E2.out.1 (ho3.1 h).1]; rfl, fun h => by
      rw [(ho3.2.2.1 h).1]
      cases hb : b2.stop with
      | false => rw [E2.out.1 hb]; rfl
      | true => rw [(E2.out.2 hb).1]; rfl⟩)
    clear ho3 E2
    (have HI := hid hI; obtain ⟨z0, z1, z2, z3⟩ := HI.out.cells; clear hI)
    by_cases hx2 : x2 = 0
    · subst hx2
      rw [if_pos rfl] at E3
      cases hb3 : b3.stop with
      | true =>
        rw [hb3] at z3
        have HZ := hid (And.intro hb3 (E3.out.2 hb3))
        clear hb3 E3
        go_wp2_with fail
        refine (ds_run HI.out 7 0 (fun h => absurd (HZ.out.1.symm.trans h) (by simp))).mono ?_
        rintro e w5 ⟨rfl, b4, s4, x4, hI, ho4⟩
        have E4 := hid (show b4.stop = true ∧ s4 = s3 from by
          cases hb : b4.stop with
          | false => exact absurd (HZ.out.1.symm.trans (ho4.1 hb).1) (by simp)
          | true => exact ⟨rfl, (ho4.2.2.1 hb).1⟩)
        clear ho4
        (have HI := hid hI; obtain ⟨z0, z1, z2, z3⟩ := HI.out.cells; clear hI)
        go_wp2_with fail
        refine (da_run HI.out 8 4294967295 (fun h => absurd (E4.out.1.symm.trans h) (by simp))).mono ?_
        rintro e w6 ⟨b5, s5, x5, rfl, hI, ho5⟩
        have E5 := hid (show b5.stop = true ∧ s5 = s3 from by
          cases hb : b5.stop with
          | false => exact absurd (E4.out.1.symm.trans (ho5.1 hb).1) (by simp)
          | true => exact ⟨rfl, (ho5.2.2.1 hb).1.trans E4.out.2⟩)
        clear ho5
        (have HI := hid hI; obtain ⟨z0, z1, z2, z3⟩ := HI.out.cells; clear hI)
        go_wp2
        go_ret
        exact ⟨-1, b5, s5, rfl, HI.out.run, HI.out.kept, HI.out.ran, HI.out.good, fun h => absurd (E5.out.1.symm.trans h) (by simp), fun _ => by rw [E5.out.2]; exact HZ.out.2.symm⟩
      | false =>
        rw [hb3] at z3
        have HZ := hid (E3.out.1 hb3)
        clear hb3 E3
        go_wp2_with fail
        refine (ds_run HI.out 7 0 (fun h => by rw [HZ.out, ← w7]; rfl)).mono ?_
        rintro e w5 ⟨rfl, b4, s4, x4, hI, ho4⟩
        have E4 := hid (show (b4.stop = false → s4 = .c x1 0) ∧ s4.g = nOf x1 from ⟨fun h => by rw [(ho4.1 h).2, HZ.out]; rfl, by
          cases hb : b4.stop with
          | false => rw [(ho4.1 hb).2, HZ.out]; rfl
          | true => rw [(ho4.2.2.1 hb).1, HZ.out]; rfl⟩)
        clear ho4
        (have HI := hid hI; obtain ⟨z0, z1, z2, z3⟩ := HI.out.cells; clear hI)
        go_wp2_with fail
        refine (da_run HI.out 8 4294967295 (fun h => by rw [E4.out.1 h, ← w8]; rfl)).mono ?_
        rintro e w6 ⟨b5, s5, x5, rfl, hI, ho5⟩
        have E5 := hid (And.intro (show b5.stop = false → (qlM l P T G).sys.want s5 = none from fun h => by rw [(ho5.1 h).2, E4.out.1 (ho5.1 h).1]; rfl) (show s5.g = nOf x1 from by
          cases hb : b5.stop with
          | false => rw [(ho5.1 hb).2, E4.out.1 (ho5.1 hb).1]; rfl
          | true => rw [(ho5.2.2.1 hb).1]; exact E4.out.2))
        clear ho5
        (have HI := hid hI; obtain ⟨z0, z1, z2, z3⟩ := HI.out.cells; clear hI)
        go_wp2
        go_ret
        exact ⟨_, b5, s5, by first | rfl | trivial, HI.out.run, HI.out.kept, HI.out.ran, HI.out.good, fun h => ⟨HA.out.1, E5.out.1 h⟩, fun _ => by rw [E5.out.2]⟩
    · have q2 : ((x2 : Int) == 0) = false := by simp [hx2]
      rw [if_neg hx2] at E3
      cases hb3 : b3.stop with
      | true =>
        rw [hb3] at z3
        have HZ := hid (And.intro hb3 (E3.out.2 hb3))
        clear hb3 E3 hx2
        go_wp2_with fail
        refine (da_run HI.out 8 4294967295 (fun h => absurd (HZ.out.1.symm.trans h) (by simp))).mono ?_
        rintro e w6 ⟨b5, s5, x5, rfl, hI, ho5⟩
        have E5 := hid (show b5.stop = true ∧ s5 = s3 from by
          cases hb : b5.stop with
          | false => exact absurd (HZ.out.1.symm.trans (ho5.1 hb).1) (by simp)
          | true => exact ⟨rfl, (ho5.2.2.1 hb).1⟩)
        clear ho5
        (have HI := hid hI; obtain ⟨z0, z1, z2, z3⟩ := HI.out.cells; clear hI)
        go_wp2
        go_ret
        exact ⟨-1, b5, s5, rfl, HI.out.run, HI.out.kept, HI.out.ran, HI.out.good, fun h => absurd (E5.out.1.symm.trans h) (by simp), fun _ => by rw [E5.out.2]; exact HZ.out.2.symm⟩
      | false =>
        rw [hb3] at z3
        obtain ⟨s4, hs4⟩ : ∃ s4, s4 = s3 := ⟨_, rfl⟩
        obtain ⟨b4, hb4⟩ : ∃ b4, b4 = b3 := ⟨_, rfl⟩
        have E4 := hid (show (b4.stop = false → s4 = .c x1 x2) ∧ s4.g = nOf x1 from by rw [hs4, hb4, E3.out.1 hb3]; exact ⟨fun _ => rfl, rfl⟩)
        rw [← hs4, ← hb4] at HI
        clear hb3 E3 hx2 hs4 hb4
        go_wp2_with fail
        refine (da_run HI.out 8 4294967295 (fun h => by rw [E4.out.1 h, ← w8]; rfl)).mono ?_
        rintro e w6 ⟨b5, s5, x5, rfl, hI, ho5⟩
        have E5 := hid (And.intro (show b5.stop = false → (qlM l P T G).sys.want s5 = none from fun h => by rw [(ho5.1 h).2, E4.out.1 (ho5.1 h).1]; rfl) (show s5.g = nOf x1 from by
          cases hb : b5.stop with
          | false => rw [(ho5.1 hb).2, E4.out.1 (ho5.1 hb).1]; rfl
          | true => rw [(ho5.2.2.1 hb).1]; exact E4.out.2))
        clear ho5
        (have HI := hid hI; obtain ⟨z0, z1, z2, z3⟩ := HI.out.cells; clear hI)
        go_wp2
        go_ret
        exact ⟨_, b5, s5, by first | rfl | trivial, HI.out.run, HI.out.kept, HI.out.ran, HI.out.good, fun h => ⟨HA.out.1, E5.out.1 h⟩, fun _ => by rw [E5.out.2]⟩
end Go.Proofs.Ytlhnnggceebpjaa.Globq
