/- Some are taken from the global queue for a processor: a machine that runs others. -/
import Derived.Test.YtnmkfmaohflejaaPull
set_option maxRecDepth 100000
set_option maxHeartbeats 4000000
set_option linter.unusedVariables false
set_option linter.unusedSimpArgs false
namespace Go.Proofs.Ytnmkfmaohflejaa.Globq
open Go.RowKit Go.Shelf Go.Proofs.Ytnmkfmaohflejaa.TK Go.Proofs.Ytnmkfmaohflejaa.Flag Go.Proofs.Ytnmkfmaohflejaa.Read Go.Proofs.Ytnmkfmaohflejaa.Words Go.Proofs.Ytnmkfmaohflejaa.Mem Go.Proofs.Ytnmkfmaohflejaa.Flow Go.Proofs.Ytnmkfmaohflejaa.Layout Go.Proofs.Ytnmkfmaohflejaa.Lock Go.Proofs.Ytnmkfmaohflejaa.Run Go.Proofs.Ytnmkfmaohflejaa.Sys Go.Proofs.Ytnmkfmaohflejaa.Mach Go.Proofs.Ytnmkfmaohflejaa.Doc Go.Proofs.Ytnmkfmaohflejaa.Ref05 Go.Proofs.Ytnmkfmaohflejaa.Subs Go.Proofs.Ytnmkfmaohflejaa.IWords Go.Proofs.Ytnmkfmaohflejaa.Idlep
theorem ql_step : StepOf 76 49 := ⟨fun y w => rfl, enters_of Try.func49 (by kernel_rfl) rfl⟩
theorem ql_quiet : NoSleeper 76 := fun y w => run_typeAssert_lacksB Try.underlying160 (by kernel_rfl) (by kernel_rfl) _ _ w
theorem ql_thru : Thru 49 := by
  intro x m o w R H
  have H := hid H
  go_enter Try.func49, Try.ntmps49
  go_wp2_with fail
  refine H.out.mono ?_
  rintro e w1 ⟨rfl, h1⟩
  have HX := hid h1
  clear h1
  go_wp2
  go_ret
  exact ⟨rfl, HX.out⟩
def qlS (lo l : Nat) (P T G who : Int) : Subm QlSt := (qlM l P T G).sub 76 49 lo l P T G who
theorem ql_sub (lo l : Nat) (P T G who : Int) : SubOk (qlS lo l P T G who) lo who := mch_sub ql_step ql_quiet ql_thru (fun y => ql_goes l y P T G who)
theorem ql_made (lo l : Nat) (P T G who : Int) (w : World) (hL : Lay w l P T G) (hlo : lo ≤ w.heap.size) :
    Calls Try.prog 48 #[.pointer (some ⟨l, 0, none⟩), .int .i64 who] w fun e w' => e = .returned (.pointer (some ⟨w.heap.size, 0, none⟩)) ∧ (qlS lo l P T G who).at_ w' w.heap.size .h ∧ Below w.heap.size w w' := by
  refine (ql_new_run l P T G who w hL).mono ?_
  rintro e w' ⟨rfl, h1, h2⟩
  exact ⟨rfl, ⟨h1, hlo, hL.quiet h2, trivial⟩, h2⟩
def qlY (P T G : Int) : Rsys QlSt := ⟨fun st => (qlNx P T G st).want, qlNext⟩
def nextQ (a : Int) : Int := IntKind.u64.wrap (a + 1) % 4294967296
def decQ (n : Int) : Int := IntKind.u64.wrap (n - 1)
/-- How many are taken, by the queue's size. -/
def tkMin (P w : Int) : Int := if 128 < (if IntKind.u64.wrap (w / P + 1) < w then IntKind.u64.wrap (w / P + 1) else w) then 128 else (if IntKind.u64.wrap (w / P + 1) < w then IntKind.u64.wrap (w / P + 1) else w)
def tkLeft (P q w : Int) : Int := if 0 < q then (if IntKind.u64.wrap q < tkMin P w then IntKind.u64.wrap q else tkMin P w) else tkMin P w
def tkR (l : Nat) (p q n : Int) (pl : Value) (g y t : Int) : List Value := [.pointer (some ⟨l, 0, none⟩), .int .i64 p, .int .i64 q, .int .u64 n, pl, .int .i64 g, .int .i64 y, .int .u64 t]
inductive TkSt
  | sz
  | pl1 (n : Int) (s : QlSt)
  | plN (n g t : Int) (s : QlSt)
  | tl (n g y t : Int)
  | rg (n g y t : Int)
  | ts (n g y t : Int)
  | fin (n g t : Int)
def tkGo (n g t : Int) : TkSt := if 0 < n ∧ g ≠ -1 then .plN (decQ n) g t .h else .fin n g t
def tkMore (n g t : Int) (s : QlSt) : TkSt := if s.g = -1 then .fin n g t else .tl n g s.g t
def tkNext (P T G q : Int) (st : TkSt) (a : Int) : TkSt :=
  match st with
  | .sz => if a = 0 then .fin 0 (-1) 0 else .pl1 (decQ (tkLeft P q a)) .h
  | .pl1 n s => runs (qlY P T G) (fun s => tkGo n s.g 0) (.pl1 n) (qlNext s a)
  | .plN n g t s => runs (qlY P T G) (tkMore n g t) (.plN n g t) (qlNext s a)
  | .tl n g y t => .rg n g y a
  | .rg n g y t => .ts n g y t
  | .ts n g y t => tkGo n g t
  | .fin n g t => .fin n g t
def tkOwn (P p : Int) : TkSt → Nx
  | .sz => .load (wordN 8) 124
  | .tl _ _ _ _ => .load (pr P p 2) 192
  | .rg _ _ y t => .store (rg P p t) (u1 y) 194
  | .ts _ _ _ t => .store (pr P p 2) (nextQ t) 197
  | _ => .done
def tkWant (P T G p : Int) : TkSt → Option Wnt
  | .pl1 _ s => (qlY P T G).want s
  | .plN _ _ _ s => (qlY P T G).want s
  | st => (tkOwn P p st).want
def tkY (P T G p q : Int) : Rsys TkSt := ⟨tkWant P T G p, tkNext P T G q⟩
def tkRest (l : Nat) (p q : Int) (st : TkSt) (e : Nat) : List Value :=
  match st with
  | .sz => tkR l p q 0 (.pointer none) (-1) (-1) 0
  | .pl1 n _ => tkR l p q n (.pointer (some ⟨e, 0, none⟩)) (-1) (-1) 0
  | .plN n g t _ => tkR l p q n (.pointer (some ⟨e, 0, none⟩)) g (-1) t
  | .tl n g y t => tkR l p q n (.pointer none) g y t
  | .rg n g y t => tkR l p q n (.pointer none) g y t
  | .ts n g y t => tkR l p q n (.pointer none) g y t
  | .fin n g t => tkR l p q n (.pointer none) g (-1) t
def tkOk : TkSt → Prop
  | .rg _ _ _ t => Rng t
  | .ts _ _ _ t => Rng t
  | _ => True
def tkM (lo l : Nat) (P T G who p q : Int) : Mch2 TkSt Nat :=
  ⟨153, [153, 135], fun st e => match st with
    | .pl1 _ s => .sub (qlS lo l P T G who) e s 147
    | .plN _ _ _ s => .sub (qlS lo l P T G who) e s 184
    | st => .own (tkOwn P p st),
   tkRest l p q, fun _ _ _ => True, fun _ => [], tkY P T G p q, tkOk⟩
theorem tk_new_run (l : Nat) (P T G who : Int) (p q : Int) (w : World) (hL : Lay w l P T G) :
    Calls Try.prog 90 #[.pointer (some ⟨l, 0, none⟩), .int .i64 who, .int .i64 p, .int .i64 q] w fun e w' => e = .returned (.pointer (some ⟨w.heap.size, 0, none⟩)) ∧ Pend w' w.heap.size who (tkR l p q 0 (.pointer none) (-1) (-1) 0) 153 (.load (wordN 8) 124) ∧ Below w.heap.size w w' := by
  have h0 : FlAt (w.alloc (.cells (fl fl0 ++ tkR l p q 0 (.pointer none) (-1) (-1) 0).toArray 153)) w.heap.size fl0 (tkR l p q 0 (.pointer none) (-1) (-1) 0) 153 := Blk.new w _ _
  have hL0 := hL.quiet (below_one w (.cells (fl fl0 ++ tkR l p q 0 (.pointer none) (-1) (-1) 0).toArray 153))
  have hlx : l ≠ w.heap.size := Nat.ne_of_lt hL.1.lt
  clear hL
  go_enter Try.func90, Try.ntmps90
  go_wp2_with fail
  refine (iof_run h0 who).mono ?_
  rintro e w1 ⟨rfl, hp, hK⟩
  have hL1 := hL0.kept hK (by simpa using hlx)
  have hlow : Below w.heap.size w w1 := (below_one _ _).trans (hK.below (by simp) (by simp))
  have HI := hid (MI.start hp hL1).drew
  clear h0 hL0 hp hL1 hK
  go_wp2_with fail
  refine wp_region_T 7 (fun w' => MI w1 w' w.heap.size who (tkR l p q 0 (.pointer none) (-1) (-1) 0) 153 l P T G) (fun w' => Pend w' w.heap.size who (tkR l p q 0 (.pointer none) (-1) (-1) 0) 153 (.load (wordN 8) 124) ∧ Kept [w.heap.size] w1 w') (by kernel_rfl) (by kernel_rfl) rfl (by kernel_rfl) HI.out ?_
  clear HI
  (repeat (first | (apply walkD_pure; rfl; rfl; (intro _; go_simp; first | done | rfl); (intro K hK; go_simp; refine hK _ ?_; clear hK K)) | (apply walkD_skip; rfl; rfl; (intro K hK; go_simp; refine hK _ ?_; clear hK K)) | (apply walkD_read1 [false] (by kernel_rfl); rfl; rfl; (intro w' hD; (have y0 := hD.pend.idle.rest 0; have y1 := hD.pend.idle.rest 1; have y2 := hD.pend.idle.rest 2; have y3 := hD.pend.idle.rest 3; have y4 := hD.pend.idle.rest 4; have y5 := hD.pend.idle.rest 5; have y6 := hD.pend.idle.rest 6; have y7 := hD.pend.idle.rest 7; simp only [tkR, Nat.reduceAdd, Nat.zero_add, List.getElem?_cons_zero, List.getElem?_cons_succ] at y0 y1 y2 y3 y4 y5 y6 y7); go_simp; rfl); (intro K hK; go_simp; refine hK _ ?_; clear hK K)) | (apply walkD_call1 [false] (by kernel_rfl); rfl; (intro _; go_simp; first | rfl | exact ⟨rfl, rfl⟩); (intro w' hD; first | (go_at_call 129; refine (qword_run _ _).mono ?_; rintro e w2 ⟨rfl, rfl⟩; exact ⟨rfl, hD⟩) | (go_at_call 83; refine (proc_run _ _ _ _ _ _ _ hD.lay).mono ?_; rintro e w2 ⟨rfl, hb⟩; exact ⟨rfl, hD.quiet hb⟩) | (go_at_call 114; refine (thread_run _ _ _ _ _ _ _ hD.lay).mono ?_; rintro e w2 ⟨rfl, hb⟩; exact ⟨rfl, hD.quiet hb⟩) | (go_at_call 148; refine (ring_run _ _ _ _ _ _ (by assumption) _ hD.lay).mono ?_; rintro e w2 ⟨rfl, hb⟩; exact ⟨rfl, hD.quiet hb⟩) | (go_at_call 88; refine (g_run _ _ _ _ _ _ _ hD.lay).mono ?_; rintro e w2 ⟨rfl, hb⟩; exact ⟨rfl, hD.quiet hb⟩) | (go_at_call 77; refine (word_run _ 0 0 0 _ _).mono ?_; rintro e w2 ⟨rfl, rfl⟩; exact ⟨rfl, hD⟩) | (go_at_call 76; refine (iload_run hD.pend.idle _ _).mono ?_; rintro e w2 ⟨rfl, hP, hK⟩; exact ⟨rfl, hP, hD.kept.trans hK (by intro i hi; exact .inl hi)⟩) | (go_at_call 69; refine (iadd_run hD.pend.idle _ _ _).mono ?_; rintro e w2 ⟨rfl, hP, hK⟩; exact ⟨rfl, hP, hD.kept.trans hK (by intro i hi; exact .inl hi)⟩) | (go_at_call 73; refine (istore_run hD.pend.idle _ _ _).mono ?_; rintro e w2 ⟨rfl, hP, hK⟩; exact ⟨rfl, hP, hD.kept.trans hK (by intro i hi; exact .inl hi)⟩) | (go_at_call 151; refine (iswap_run hD.pend.idle _ _ _ _).mono ?_; rintro e w2 ⟨rfl, hP, hK⟩; exact ⟨rfl, hP, hD.kept.trans hK (by intro i hi; exact .inl hi)⟩)); (intro K hK; go_simp; refine hK _ ?_; clear hK K))))
  rintro w2 ⟨h1, h2⟩
  go_wp2
  go_ret
  exact ⟨rfl, h1, hlow.trans (h2.below (by simp) hlow.size)⟩
theorem tk_pulls_run (x l lo : Nat) (P T G who : Int) (fn : Nat) (p q n g ly t : Int) (pl : Value) (w : World)  (hlo : lo ≤ w.heap.size) (hp : Pend w x who (tkR l p q n pl g ly t) 153 .done) (hL : Lay w l P T G) :
    Calls Try.prog 146 #[.pointer (some ⟨x, 0, none⟩), meth fn x] w fun e w' => (∃ r, e = .returned r) ∧ (∃ y, Pend2 w' x who (tkR l p q (decQ n) (.pointer (some ⟨y, 0, none⟩)) g ly t) 153 (.sub (qlS lo l P T G who) y .h fn)) ∧ Kept [x] w w' := by
  have n1 : IntKind.u64.wrap (n - 1) = decQ n := rfl
  have SW := hid (show (qlS lo l P T G who).sys.want .h ≠ none by exact fun h => by cases h)
  have HI := hid (MI.drewS (N := w.heap.size) ((MI.start hp hL).put (by decide) 3 (.int .u64 (decQ n))) (by first | rfl | simp))
  have hf := hp.idle.frozen
  (have y0 := hp.idle.rest 0; have y1 := hp.idle.rest 1; have y2 := hp.idle.rest 2; have y3 := hp.idle.rest 3; have y4 := hp.idle.rest 4; have y5 := hp.idle.rest 5; have y6 := hp.idle.rest 6; have y7 := hp.idle.rest 7; simp only [tkR, Nat.reduceAdd, Nat.zero_add, List.getElem?_cons_zero, List.getElem?_cons_succ] at y0 y1 y2 y3 y4 y5 y6 y7)
  clear hp hL
  go_enter Try.func146, Try.ntmps146
  go_wp2_with fail
  refine wp_region_D [9, 12] (tcl2 (fun w' => MI w w' x who (tkR l p q (decQ n) pl g ly t) 153 l P T G ∧ w'.heap.size = w.heap.size) (fun w' => MI w w' x who (tkR l p q (decQ n) pl g ly t) 153 l P T G ∧ (qlS lo l P T G who).at_ w' w.heap.size .h) (fun w' => MI w w' x who (tkR l p q (decQ n) (.pointer (some ⟨w.heap.size, 0, none⟩)) g ly t) 153 l P T G ∧ (qlS lo l P T G who).at_ w' w.heap.size .h)) (by kernel_rfl) (by kernel_rfl) rfl (by kernel_rfl) HI.out ?_
  clear HI
  repeat (first | (apply walkD_pure; rfl; rfl; (intro _; go_simp; first | done | rfl); (intro K hK; go_simp; refine hK _ ?_; clear hK K)) | (apply walkD_skip; rfl; rfl; (intro K hK; go_simp; refine hK _ ?_; clear hK K)) | (apply walkD_read1 [false, false] (by kernel_rfl); rfl; rfl; (intro w' hD; (have y0 := hD.1.pend.idle.rest 0; have y1 := hD.1.pend.idle.rest 1; have y2 := hD.1.pend.idle.rest 2; have y3 := hD.1.pend.idle.rest 3; have y4 := hD.1.pend.idle.rest 4; have y5 := hD.1.pend.idle.rest 5; have y6 := hD.1.pend.idle.rest 6; have y7 := hD.1.pend.idle.rest 7; simp only [tkR, Nat.reduceAdd, Nat.zero_add, List.getElem?_cons_zero, List.getElem?_cons_succ] at y0 y1 y2 y3 y4 y5 y6 y7); go_simp; rfl); (intro K hK; go_simp; refine hK _ ?_; clear hK K)) | (apply walkD_call1 [false, false] (by kernel_rfl); rfl; (intro _; go_simp; first | rfl | exact ⟨rfl, rfl⟩); (intro w' hD; first | (go_at_call 135; refine (ifwho_run hD.1.pend).mono ?_; rintro e w2 ⟨rfl, rfl⟩; exact ⟨rfl, hD⟩) | (go_at_call 48; have q := ql_made lo l P T G who w' hD.1.lay (by rw [hD.2]; exact hlo); rw [hD.2] at q; refine q.mono ?_; rintro e w2 ⟨rfl, hA, hb⟩; exact ⟨rfl, hD.1.quiet (by rw [hD.2]; exact hb), hA⟩)); (intro K hK; go_simp; refine hK _ ?_; clear hK K)) | (apply walkD_turn1 (v := undef) [true, false] (by kernel_rfl); rfl; (intro w' hD; (have y0 := hD.1.pend.idle.rest 0; have y1 := hD.1.pend.idle.rest 1; have y2 := hD.1.pend.idle.rest 2; have y3 := hD.1.pend.idle.rest 3; have y4 := hD.1.pend.idle.rest 4; have y5 := hD.1.pend.idle.rest 5; have y6 := hD.1.pend.idle.rest 6; have y7 := hD.1.pend.idle.rest 7; simp only [tkR, Nat.reduceAdd, Nat.zero_add, List.getElem?_cons_zero, List.getElem?_cons_succ] at y0 y1 y2 y3 y4 y5 y6 y7); have yf := hD.1.pend.idle.frozen; unfold Go.Proofs.Ytnmkfmaohflejaa.Flag.opAt; go_simp; exact ⟨⟨hD.1.put (by decide) 4 _, sub_set (ql_sub lo l P T G who) hD.2 hD.1.pend (of_decide_eq_true rfl) _ _⟩, rfl⟩); (intro K hK; go_simp; refine hK _ ?_; clear hK K)))
  rintro w4 ⟨h1, h2⟩
  obtain ⟨y, hy⟩ : ∃ y, y = w.heap.size := ⟨_, rfl⟩
  rw [← hy] at h1 h2 ⊢
  have HI2 := hid (And.intro h1.drew (SubOk.at_quiet (ql_sub lo l P T G who) h2 (below_drewN (Below.refl _ _) 1)))
  have hf := h1.pend.idle.frozen
  clear h1 h2 hy
  go_wp2_with fail
  refine wp_region_T 9 (fun w' => MI w w' x who (tkR l p q (decQ n) (.pointer (some ⟨y, 0, none⟩)) g ly t) 153 l P T G ∧ (qlS lo l P T G who).at_ w' y .h) (fun w' => Pend2 w' x who (tkR l p q (decQ n) (.pointer (some ⟨y, 0, none⟩)) g ly t) 153 (.sub (qlS lo l P T G who) y .h fn) ∧ Kept [x] w w') (by kernel_rfl) (by kernel_rfl) rfl (by kernel_rfl) HI2.out ?_
  clear HI2
  repeat (first | (apply walkD_pure; rfl; rfl; (intro _; go_simp; first | done | rfl); (intro K hK; go_simp; refine hK _ ?_; clear hK K)) | (apply walkD_skip; rfl; rfl; (intro K hK; go_simp; refine hK _ ?_; clear hK K)) | (apply walkD_read1 [false] (by kernel_rfl); rfl; rfl; (intro w' hD; (have y0 := hD.1.pend.idle.rest 0; have y1 := hD.1.pend.idle.rest 1; have y2 := hD.1.pend.idle.rest 2; have y3 := hD.1.pend.idle.rest 3; have y4 := hD.1.pend.idle.rest 4; have y5 := hD.1.pend.idle.rest 5; have y6 := hD.1.pend.idle.rest 6; have y7 := hD.1.pend.idle.rest 7; simp only [tkR, Nat.reduceAdd, Nat.zero_add, List.getElem?_cons_zero, List.getElem?_cons_succ] at y0 y1 y2 y3 y4 y5 y6 y7); go_simp; rfl); (intro K hK; go_simp; refine hK _ ?_; clear hK K)) | (apply walkD_call1 [false] (by kernel_rfl); rfl; (intro _; go_simp; first | rfl | exact ⟨rfl, rfl⟩); (intro w' hD; go_at_call 85; refine (irun_run (S := qlS lo l P T G who) (ql_sub lo l P T G who) hD.1.pend hD.2 SW.out (of_decide_eq_true rfl)).mono ?_; rintro e w2 ⟨rfl, h1, h2, h3⟩; exact ⟨rfl, ⟨h1, h2, SW.out⟩, hD.1.kept.trans h3 (by intro i hi; exact .inl hi)⟩); (intro K hK; go_simp; refine hK _ ?_; clear hK K)))
  rintro w3 ⟨h1, h2⟩
  go_wp2
  go_returns
  exact ⟨⟨_, rfl⟩, ⟨_, h1⟩, h2⟩
theorem tk_goOn1_run (x l lo : Nat) (P T G who : Int) (p q n g ly t : Int) (pl : Value) (w : World) (hn : 0 < n) (hg : g ≠ -1) (hlo : lo ≤ w.heap.size) (hp : Pend w x who (tkR l p q n pl g ly t) 153 .done) (hL : Lay w l P T G) :
    Calls Try.prog 167 #[.pointer (some ⟨x, 0, none⟩)] w fun e w' => (∃ r, e = .returned r) ∧ (∃ y, Pend2 w' x who (tkR l p q (decQ n) (.pointer (some ⟨y, 0, none⟩)) g ly t) 153 (.sub (qlS lo l P T G who) y .h 184)) ∧ Kept [x] w w' := by
  have d1 : decide (0 < n) = true := decide_eq_true hn
  have d2 : ((g : Int) != -1) = true := by simpa using hg
  have HI := hid (MI.start hp hL)
  have hf := hp.idle.frozen
  (have y0 := hp.idle.rest 0; have y1 := hp.idle.rest 1; have y2 := hp.idle.rest 2; have y3 := hp.idle.rest 3; have y4 := hp.idle.rest 4; have y5 := hp.idle.rest 5; have y6 := hp.idle.rest 6; have y7 := hp.idle.rest 7; simp only [tkR, Nat.reduceAdd, Nat.zero_add, List.getElem?_cons_zero, List.getElem?_cons_succ] at y0 y1 y2 y3 y4 y5 y6 y7)
  clear hp hL
  go_enter Try.func167, Try.ntmps167
  go_wp2_with fail
  refine (tk_pulls_run x l lo P T G who 184 p q n g ly t pl _ hlo HI.out.pend HI.out.lay).mono ?_
  rintro e w9 ⟨⟨r, rfl⟩, hy, hK⟩
  have HX := hid (And.intro hy (HI.out.kept.trans hK (by intro i hi; exact .inl hi)))
  clear HI hy hK
  go_wp2
  go_returns
  exact ⟨⟨_, rfl⟩, HX.out⟩
theorem tk_goOn0_run (x l : Nat) (P T G who : Int) (p q n g ly t : Int) (pl : Value) (w : World) (hn : n ≤ 0) (hp : Pend w x who (tkR l p q n pl g ly t) 153 .done) (hL : Lay w l P T G) :
    Calls Try.prog 167 #[.pointer (some ⟨x, 0, none⟩)] w fun e w' => (∃ r, e = .returned r) ∧ Pend w' x who (tkR l p q n pl g ly t) 153 (.done) ∧ Kept [x] w w' := by
  have d1 : decide (0 < n) = false := decide_eq_false (by omega)
  have HI := hid (MI.start hp hL)
  have hf := hp.idle.frozen
  (have y0 := hp.idle.rest 0; have y1 := hp.idle.rest 1; have y2 := hp.idle.rest 2; have y3 := hp.idle.rest 3; have y4 := hp.idle.rest 4; have y5 := hp.idle.rest 5; have y6 := hp.idle.rest 6; have y7 := hp.idle.rest 7; simp only [tkR, Nat.reduceAdd, Nat.zero_add, List.getElem?_cons_zero, List.getElem?_cons_succ] at y0 y1 y2 y3 y4 y5 y6 y7)
  clear hp hL
  go_enter Try.func167, Try.ntmps167
  go_wp2
  go_returns
  exact ⟨⟨_, rfl⟩, HI.out.pend, HI.out.kept⟩
theorem tk_goOnN_run (x l : Nat) (P T G who : Int) (p q n ly t : Int) (pl : Value) (w : World) (hn : 0 < n) (hp : Pend w x who (tkR l p q n pl (-1) ly t) 153 .done) (hL : Lay w l P T G) :
    Calls Try.prog 167 #[.pointer (some ⟨x, 0, none⟩)] w fun e w' => (∃ r, e = .returned r) ∧ Pend w' x who (tkR l p q n pl (-1) ly t) 153 (.done) ∧ Kept [x] w w' := by
  have d1 : decide (0 < n) = true := decide_eq_true hn
  have HI := hid (MI.start hp hL)
  have hf := hp.idle.frozen
  (have y0 := hp.idle.rest 0; have y1 := hp.idle.rest 1; have y2 := hp.idle.rest 2; have y3 := hp.idle.rest 3; have y4 := hp.idle.rest 4; have y5 := hp.idle.rest 5; have y6 := hp.idle.rest 6; have y7 := hp.idle.rest 7; simp only [tkR, Nat.reduceAdd, Nat.zero_add, List.getElem?_cons_zero, List.getElem?_cons_succ] at y0 y1 y2 y3 y4 y5 y6 y7)
  clear hp hL
  go_enter Try.func167, Try.ntmps167
  go_wp2
  go_returns
  exact ⟨⟨_, rfl⟩, HI.out.pend, HI.out.kept⟩
theorem tk_laid1_run (x l lo : Nat) (P T G who : Int) (p q n g ly t : Int) (pl : Value) (w : World) (hn : 0 < n) (hg : g ≠ -1) (hlo : lo ≤ w.heap.size) (hp : Pend w x who (tkR l p q n pl g ly t) 153 .done) (hL : Lay w l P T G) :
    Calls Try.prog 197 #[.pointer (some ⟨x, 0, none⟩)] w fun e w' => (∃ r, e = .returned r) ∧ (∃ y, Pend2 w' x who (tkR l p q (decQ n) (.pointer (some ⟨y, 0, none⟩)) g (-1) t) 153 (.sub (qlS lo l P T G who) y .h 184)) ∧ Kept [x] w w' := by
  have HI := hid ((MI.start hp hL).put (by decide) 6 (.int .i64 (-1)))
  have hf := hp.idle.frozen
  (have y0 := hp.idle.rest 0; have y1 := hp.idle.rest 1; have y2 := hp.idle.rest 2; have y3 := hp.idle.rest 3; have y4 := hp.idle.rest 4; have y5 := hp.idle.rest 5; have y6 := hp.idle.rest 6; have y7 := hp.idle.rest 7; simp only [tkR, Nat.reduceAdd, Nat.zero_add, List.getElem?_cons_zero, List.getElem?_cons_succ] at y0 y1 y2 y3 y4 y5 y6 y7)
  clear hp hL
  go_enter Try.func197, Try.ntmps197
  go_wp2_with fail
  refine (tk_goOn1_run x l lo P T G who p q n g (-1) t pl _ hn hg (by simpa using hlo) HI.out.pend HI.out.lay).mono ?_
  rintro e w9 ⟨⟨r, rfl⟩, hy, hK⟩
  have HX := hid (And.intro hy (HI.out.kept.trans hK (by intro i hi; exact .inl hi)))
  clear HI hy hK
  go_wp2
  go_returns
  exact ⟨⟨_, rfl⟩, HX.out⟩
theorem tk_laid0_run (x l lo : Nat) (P T G who : Int) (p q n g ly t : Int) (pl : Value) (w : World) (hn : n ≤ 0) (hlo : lo ≤ w.heap.size) (hp : Pend w x who (tkR l p q n pl g ly t) 153 .done) (hL : Lay w l P T G) :
    Calls Try.prog 197 #[.pointer (some ⟨x, 0, none⟩)] w fun e w' => (∃ r, e = .returned r) ∧ (Pend w' x who (tkR l p q n pl g (-1) t) 153 .done) ∧ Kept [x] w w' := by
  have HI := hid ((MI.start hp hL).put (by decide) 6 (.int .i64 (-1)))
  have hf := hp.idle.frozen
  (have y0 := hp.idle.rest 0; have y1 := hp.idle.rest 1; have y2 := hp.idle.rest 2; have y3 := hp.idle.rest 3; have y4 := hp.idle.rest 4; have y5 := hp.idle.rest 5; have y6 := hp.idle.rest 6; have y7 := hp.idle.rest 7; simp only [tkR, Nat.reduceAdd, Nat.zero_add, List.getElem?_cons_zero, List.getElem?_cons_succ] at y0 y1 y2 y3 y4 y5 y6 y7)
  clear hp hL
  go_enter Try.func197, Try.ntmps197
  go_wp2_with fail
  refine (tk_goOn0_run x l P T G who p q n g (-1) t pl _ hn HI.out.pend HI.out.lay).mono ?_
  rintro e w9 ⟨⟨r, rfl⟩, hy, hK⟩
  have HX := hid (And.intro hy (HI.out.kept.trans hK (by intro i hi; exact .inl hi)))
  clear HI hy hK
  go_wp2
  go_returns
  exact ⟨⟨_, rfl⟩, HX.out⟩
theorem tk_laidN_run (x l lo : Nat) (P T G who : Int) (p q n ly t : Int) (pl : Value) (w : World) (hn : 0 < n) (hlo : lo ≤ w.heap.size) (hp : Pend w x who (tkR l p q n pl (-1) ly t) 153 .done) (hL : Lay w l P T G) :
    Calls Try.prog 197 #[.pointer (some ⟨x, 0, none⟩)] w fun e w' => (∃ r, e = .returned r) ∧ (Pend w' x who (tkR l p q n pl (-1) (-1) t) 153 .done) ∧ Kept [x] w w' := by
  have HI := hid ((MI.start hp hL).put (by decide) 6 (.int .i64 (-1)))
  have hf := hp.idle.frozen
  (have y0 := hp.idle.rest 0; have y1 := hp.idle.rest 1; have y2 := hp.idle.rest 2; have y3 := hp.idle.rest 3; have y4 := hp.idle.rest 4; have y5 := hp.idle.rest 5; have y6 := hp.idle.rest 6; have y7 := hp.idle.rest 7; simp only [tkR, Nat.reduceAdd, Nat.zero_add, List.getElem?_cons_zero, List.getElem?_cons_succ] at y0 y1 y2 y3 y4 y5 y6 y7)
  clear hp hL
  go_enter Try.func197, Try.ntmps197
  go_wp2_with fail
  refine (tk_goOnN_run x l P T G who p q n (-1) t pl _ hn HI.out.pend HI.out.lay).mono ?_
  rintro e w9 ⟨⟨r, rfl⟩, hy, hK⟩
  have HX := hid (And.intro hy (HI.out.kept.trans hK (by intro i hi; exact .inl hi)))
  clear HI hy hK
  go_wp2
  go_returns
  exact ⟨⟨_, rfl⟩, HX.out⟩
theorem tk_first1_run (x l lo : Nat) (P T G who : Int) (p q n g ly t v : Int) (k : Nat) (s : QlSt) (w : World) (hA : (qlS lo l P T G who).at_ w k s) (ht : s.g = v) (hn : 0 < n) (hg : v ≠ -1) (hlo : lo ≤ w.heap.size) (hp : Pend w x who (tkR l p q n (.pointer (some ⟨k, 0, none⟩)) g ly t) 153 .done) (hL : Lay w l P T G) :
    Calls Try.prog 147 #[.pointer (some ⟨x, 0, none⟩)] w fun e w' => (∃ r, e = .returned r) ∧ (∃ y, Pend2 w' x who (tkR l p q (decQ n) (.pointer (some ⟨y, 0, none⟩)) v ly t) 153 (.sub (qlS lo l P T G who) y .h 184)) ∧ Kept [x] w w' := by
  have HG := hid (ql_g_run hA)
  rw [ht] at HG
  clear hA ht
  have HI := hid (((MI.start hp hL).put (by decide) 5 (.int .i64 v)).put (by decide) 4 ((.pointer none)))
  have hf := hp.idle.frozen
  (have y0 := hp.idle.rest 0; have y1 := hp.idle.rest 1; have y2 := hp.idle.rest 2; have y3 := hp.idle.rest 3; have y4 := hp.idle.rest 4; have y5 := hp.idle.rest 5; have y6 := hp.idle.rest 6; have y7 := hp.idle.rest 7; simp only [tkR, Nat.reduceAdd, Nat.zero_add, List.getElem?_cons_zero, List.getElem?_cons_succ] at y0 y1 y2 y3 y4 y5 y6 y7)
  clear hp hL
  go_enter Try.func147, Try.ntmps147
  go_wp2_with (go_at_call 51; refine HG.out.mono ?_; rintro e w1 ⟨rfl, rfl⟩)
  refine (tk_goOn1_run x l lo P T G who p q n v ly t (.pointer none) _ hn hg (by simpa using hlo) HI.out.pend HI.out.lay).mono ?_
  rintro e w9 ⟨⟨r, rfl⟩, hy, hK⟩
  have HX := hid (And.intro hy (HI.out.kept.trans hK (by intro i hi; exact .inl hi)))
  clear HI hy hK
  go_wp2
  go_returns
  exact ⟨⟨_, rfl⟩, HX.out⟩
theorem tk_first0_run (x l lo : Nat) (P T G who : Int) (p q n g ly t v : Int) (k : Nat) (s : QlSt) (w : World) (hA : (qlS lo l P T G who).at_ w k s) (ht : s.g = v) (hn : n ≤ 0) (hlo : lo ≤ w.heap.size) (hp : Pend w x who (tkR l p q n (.pointer (some ⟨k, 0, none⟩)) g ly t) 153 .done) (hL : Lay w l P T G) :
    Calls Try.prog 147 #[.pointer (some ⟨x, 0, none⟩)] w fun e w' => (∃ r, e = .returned r) ∧ (Pend w' x who (tkR l p q n (.pointer none) v ly t) 153 .done) ∧ Kept [x] w w' := by
  have HG := hid (ql_g_run hA)
  rw [ht] at HG
  clear hA ht
  have HI := hid (((MI.start hp hL).put (by decide) 5 (.int .i64 v)).put (by decide) 4 ((.pointer none)))
  have hf := hp.idle.frozen
  (have y0 := hp.idle.rest 0; have y1 := hp.idle.rest 1; have y2 := hp.idle.rest 2; have y3 := hp.idle.rest 3; have y4 := hp.idle.rest 4; have y5 := hp.idle.rest 5; have y6 := hp.idle.rest 6; have y7 := hp.idle.rest 7; simp only [tkR, Nat.reduceAdd, Nat.zero_add, List.getElem?_cons_zero, List.getElem?_cons_succ] at y0 y1 y2 y3 y4 y5 y6 y7)
  clear hp hL
  go_enter Try.func147, Try.ntmps147
  go_wp2_with (go_at_call 51; refine HG.out.mono ?_; rintro e w1 ⟨rfl, rfl⟩)
  refine (tk_goOn0_run x l P T G who p q n v ly t (.pointer none) _ hn HI.out.pend HI.out.lay).mono ?_
  rintro e w9 ⟨⟨r, rfl⟩, hy, hK⟩
  have HX := hid (And.intro hy (HI.out.kept.trans hK (by intro i hi; exact .inl hi)))
  clear HI hy hK
  go_wp2
  go_returns
  exact ⟨⟨_, rfl⟩, HX.out⟩
theorem tk_firstN_run (x l lo : Nat) (P T G who : Int) (p q n g ly t : Int) (k : Nat) (s : QlSt) (w : World) (hA : (qlS lo l P T G who).at_ w k s) (ht : s.g = -1) (hn : 0 < n) (hlo : lo ≤ w.heap.size) (hp : Pend w x who (tkR l p q n (.pointer (some ⟨k, 0, none⟩)) g ly t) 153 .done) (hL : Lay w l P T G) :
    Calls Try.prog 147 #[.pointer (some ⟨x, 0, none⟩)] w fun e w' => (∃ r, e = .returned r) ∧ (Pend w' x who (tkR l p q n (.pointer none) (-1) ly t) 153 .done) ∧ Kept [x] w w' := by
  have HG := hid (ql_g_run hA)
  rw [ht] at HG
  clear hA ht
  have HI := hid (((MI.start hp hL).put (by decide) 5 (.int .i64 (-1))).put (by decide) 4 ((.pointer none)))
  have hf := hp.idle.frozen
  (have y0 := hp.idle.rest 0; have y1 := hp.idle.rest 1; have y2 := hp.idle.rest 2; have y3 := hp.idle.rest 3; have y4 := hp.idle.rest 4; have y5 := hp.idle.rest 5; have y6 := hp.idle.rest 6; have y7 := hp.idle.rest 7; simp only [tkR, Nat.reduceAdd, Nat.zero_add, List.getElem?_cons_zero, List.getElem?_cons_succ] at y0 y1 y2 y3 y4 y5 y6 y7)
  clear hp hL
  go_enter Try.func147, Try.ntmps147
  go_wp2_with (go_at_call 51; refine HG.out.mono ?_; rintro e w1 ⟨rfl, rfl⟩)
  refine (tk_goOnN_run x l P T G who p q n ly t (.pointer none) _ hn HI.out.pend HI.out.lay).mono ?_
  rintro e w9 ⟨⟨r, rfl⟩, hy, hK⟩
  have HX := hid (And.intro hy (HI.out.kept.trans hK (by intro i hi; exact .inl hi)))
  clear HI hy hK
  go_wp2
  go_returns
  exact ⟨⟨_, rfl⟩, HX.out⟩
theorem tk_more1_run (x l : Nat) (P T G who : Int) (p q n g ly t v : Int) (k lo : Nat) (s : QlSt) (w : World) (hA : (qlS lo l P T G who).at_ w k s) (ht : s.g = v) (hv : v ≠ -1) (hp : Pend w x who (tkR l p q n (.pointer (some ⟨k, 0, none⟩)) g ly t) 153 .done) (hL : Lay w l P T G) :
    Calls Try.prog 184 #[.pointer (some ⟨x, 0, none⟩)] w fun e w' => (∃ r, e = .returned r) ∧ Pend w' x who (tkR l p q n (.pointer none) g v t) 153 (.load (pr P p 2) 192) ∧ Kept [x] w w' := by
  have HG := hid (ql_g_run hA)
  rw [ht] at HG
  clear hA ht
  have d1 : ((v : Int) != -1) = true := by simpa using hv
  have HI := hid (((MI.start hp hL).put (by decide) 6 (.int .i64 v)).put (by decide) 4 ((.pointer none))).drew
  have hf := hp.idle.frozen
  (have y0 := hp.idle.rest 0; have y1 := hp.idle.rest 1; have y2 := hp.idle.rest 2; have y3 := hp.idle.rest 3; have y4 := hp.idle.rest 4; have y5 := hp.idle.rest 5; have y6 := hp.idle.rest 6; have y7 := hp.idle.rest 7; simp only [tkR, Nat.reduceAdd, Nat.zero_add, List.getElem?_cons_zero, List.getElem?_cons_succ] at y0 y1 y2 y3 y4 y5 y6 y7)
  clear hp hL
  go_enter Try.func184, Try.ntmps184
  go_wp2_with (go_at_call 51; refine HG.out.mono ?_; rintro e w1 ⟨rfl, rfl⟩)
  refine wp_region_T 14 (fun w' => MI w w' x who (tkR l p q n (.pointer none) g v t) 153 l P T G) (fun w' => Pend w' x who (tkR l p q n (.pointer none) g v t) 153 (.load (pr P p 2) 192) ∧ Kept [x] w w') (by kernel_rfl) (by kernel_rfl) rfl (by kernel_rfl) HI.out ?_
  clear HI
  (repeat (first | (apply walkD_pure; rfl; rfl; (intro _; go_simp; first | done | rfl); (intro K hK; go_simp; refine hK _ ?_; clear hK K)) | (apply walkD_skip; rfl; rfl; (intro K hK; go_simp; refine hK _ ?_; clear hK K)) | (apply walkD_read1 [false] (by kernel_rfl); rfl; rfl; (intro w' hD; (have y0 := hD.pend.idle.rest 0; have y1 := hD.pend.idle.rest 1; have y2 := hD.pend.idle.rest 2; have y3 := hD.pend.idle.rest 3; have y4 := hD.pend.idle.rest 4; have y5 := hD.pend.idle.rest 5; have y6 := hD.pend.idle.rest 6; have y7 := hD.pend.idle.rest 7; simp only [tkR, Nat.reduceAdd, Nat.zero_add, List.getElem?_cons_zero, List.getElem?_cons_succ] at y0 y1 y2 y3 y4 y5 y6 y7); go_simp; rfl); (intro K hK; go_simp; refine hK _ ?_; clear hK K)) | (apply walkD_call1 [false] (by kernel_rfl); rfl; (intro _; go_simp; first | rfl | exact ⟨rfl, rfl⟩); (intro w' hD; first | (go_at_call 129; refine (qword_run _ _).mono ?_; rintro e w2 ⟨rfl, rfl⟩; exact ⟨rfl, hD⟩) | (go_at_call 83; refine (proc_run _ _ _ _ _ _ _ hD.lay).mono ?_; rintro e w2 ⟨rfl, hb⟩; exact ⟨rfl, hD.quiet hb⟩) | (go_at_call 114; refine (thread_run _ _ _ _ _ _ _ hD.lay).mono ?_; rintro e w2 ⟨rfl, hb⟩; exact ⟨rfl, hD.quiet hb⟩) | (go_at_call 148; refine (ring_run _ _ _ _ _ _ (by assumption) _ hD.lay).mono ?_; rintro e w2 ⟨rfl, hb⟩; exact ⟨rfl, hD.quiet hb⟩) | (go_at_call 88; refine (g_run _ _ _ _ _ _ _ hD.lay).mono ?_; rintro e w2 ⟨rfl, hb⟩; exact ⟨rfl, hD.quiet hb⟩) | (go_at_call 77; refine (word_run _ 0 0 0 _ _).mono ?_; rintro e w2 ⟨rfl, rfl⟩; exact ⟨rfl, hD⟩) | (go_at_call 76; refine (iload_run hD.pend.idle _ _).mono ?_; rintro e w2 ⟨rfl, hP, hK⟩; exact ⟨rfl, hP, hD.kept.trans hK (by intro i hi; exact .inl hi)⟩) | (go_at_call 69; refine (iadd_run hD.pend.idle _ _ _).mono ?_; rintro e w2 ⟨rfl, hP, hK⟩; exact ⟨rfl, hP, hD.kept.trans hK (by intro i hi; exact .inl hi)⟩) | (go_at_call 73; refine (istore_run hD.pend.idle _ _ _).mono ?_; rintro e w2 ⟨rfl, hP, hK⟩; exact ⟨rfl, hP, hD.kept.trans hK (by intro i hi; exact .inl hi)⟩) | (go_at_call 151; refine (iswap_run hD.pend.idle _ _ _ _).mono ?_; rintro e w2 ⟨rfl, hP, hK⟩; exact ⟨rfl, hP, hD.kept.trans hK (by intro i hi; exact .inl hi)⟩)); (intro K hK; go_simp; refine hK _ ?_; clear hK K))))
  (rintro w2 ⟨h1, h2⟩; go_wp2; go_returns; exact ⟨⟨_, rfl⟩, h1, h2⟩)
theorem tk_more0_run (x l : Nat) (P T G who : Int) (p q n g ly t : Int) (k lo : Nat) (s : QlSt) (w : World) (hA : (qlS lo l P T G who).at_ w k s) (ht : s.g = -1) (hp : Pend w x who (tkR l p q n (.pointer (some ⟨k, 0, none⟩)) g ly t) 153 .done) (hL : Lay w l P T G) :
    Calls Try.prog 184 #[.pointer (some ⟨x, 0, none⟩)] w fun e w' => (∃ r, e = .returned r) ∧ Pend w' x who (tkR l p q n (.pointer none) g (-1) t) 153 (.done) ∧ Kept [x] w w' := by
  have HG := hid (ql_g_run hA)
  rw [ht] at HG
  clear hA ht
  have HI := hid (((MI.start hp hL).put (by decide) 6 (.int .i64 (-1))).put (by decide) 4 ((.pointer none)))
  have hf := hp.idle.frozen
  (have y0 := hp.idle.rest 0; have y1 := hp.idle.rest 1; have y2 := hp.idle.rest 2; have y3 := hp.idle.rest 3; have y4 := hp.idle.rest 4; have y5 := hp.idle.rest 5; have y6 := hp.idle.rest 6; have y7 := hp.idle.rest 7; simp only [tkR, Nat.reduceAdd, Nat.zero_add, List.getElem?_cons_zero, List.getElem?_cons_succ] at y0 y1 y2 y3 y4 y5 y6 y7)
  clear hp hL
  go_enter Try.func184, Try.ntmps184
  go_wp2_with (go_at_call 51; refine HG.out.mono ?_; rintro e w1 ⟨rfl, rfl⟩)
  go_returns
  exact ⟨⟨_, rfl⟩, HI.out.pend, HI.out.kept⟩
theorem tk_tailed_run (x l : Nat) (P T G who : Int) (p q n g y t v : Int) (pl : Value) (w : World) (hv : 0 ≤ v ∧ v < 18446744073709551616) (hp : Pend w x who (tkR l p q n pl g y t) 153 .done) (hL : Lay w l P T G) :
    Calls Try.prog 192 #[.pointer (some ⟨x, 0, none⟩), .int .u64 v] w fun e w' => (∃ r, e = .returned r) ∧ Pend w' x who (tkR l p q n pl g y v) 153 (.store (rg P p v) (u1 y) 194) ∧ Kept [x] w w' := by
  have HI := hid ((MI.start hp hL).put (by decide) 7 (.int .u64 v)).drew
  have hf := hp.idle.frozen
  (have y0 := hp.idle.rest 0; have y1 := hp.idle.rest 1; have y2 := hp.idle.rest 2; have y3 := hp.idle.rest 3; have y4 := hp.idle.rest 4; have y5 := hp.idle.rest 5; have y6 := hp.idle.rest 6; have y7 := hp.idle.rest 7; simp only [tkR, Nat.reduceAdd, Nat.zero_add, List.getElem?_cons_zero, List.getElem?_cons_succ] at y0 y1 y2 y3 y4 y5 y6 y7)
  clear hp hL
  go_enter Try.func192, Try.ntmps192
  go_wp2_with fail
  refine wp_region_T 20 (fun w' => MI w w' x who (tkR l p q n pl g y v) 153 l P T G) (fun w' => Pend w' x who (tkR l p q n pl g y v) 153 (.store (rg P p v) (u1 y) 194) ∧ Kept [x] w w') (by kernel_rfl) (by kernel_rfl) rfl (by kernel_rfl) HI.out ?_
  clear HI
  (repeat (first | (apply walkD_pure; rfl; rfl; (intro _; go_simp; first | done | rfl); (intro K hK; go_simp; refine hK _ ?_; clear hK K)) | (apply walkD_skip; rfl; rfl; (intro K hK; go_simp; refine hK _ ?_; clear hK K)) | (apply walkD_read1 [false] (by kernel_rfl); rfl; rfl; (intro w' hD; (have y0 := hD.pend.idle.rest 0; have y1 := hD.pend.idle.rest 1; have y2 := hD.pend.idle.rest 2; have y3 := hD.pend.idle.rest 3; have y4 := hD.pend.idle.rest 4; have y5 := hD.pend.idle.rest 5; have y6 := hD.pend.idle.rest 6; have y7 := hD.pend.idle.rest 7; simp only [tkR, Nat.reduceAdd, Nat.zero_add, List.getElem?_cons_zero, List.getElem?_cons_succ] at y0 y1 y2 y3 y4 y5 y6 y7); go_simp; rfl); (intro K hK; go_simp; refine hK _ ?_; clear hK K)) | (apply walkD_call1 [false] (by kernel_rfl); rfl; (intro _; go_simp; first | rfl | exact ⟨rfl, rfl⟩); (intro w' hD; first | (go_at_call 129; refine (qword_run _ _).mono ?_; rintro e w2 ⟨rfl, rfl⟩; exact ⟨rfl, hD⟩) | (go_at_call 83; refine (proc_run _ _ _ _ _ _ _ hD.lay).mono ?_; rintro e w2 ⟨rfl, hb⟩; exact ⟨rfl, hD.quiet hb⟩) | (go_at_call 114; refine (thread_run _ _ _ _ _ _ _ hD.lay).mono ?_; rintro e w2 ⟨rfl, hb⟩; exact ⟨rfl, hD.quiet hb⟩) | (go_at_call 148; refine (ring_run _ _ _ _ _ _ (by assumption) _ hD.lay).mono ?_; rintro e w2 ⟨rfl, hb⟩; exact ⟨rfl, hD.quiet hb⟩) | (go_at_call 88; refine (g_run _ _ _ _ _ _ _ hD.lay).mono ?_; rintro e w2 ⟨rfl, hb⟩; exact ⟨rfl, hD.quiet hb⟩) | (go_at_call 77; refine (word_run _ 0 0 0 _ _).mono ?_; rintro e w2 ⟨rfl, rfl⟩; exact ⟨rfl, hD⟩) | (go_at_call 76; refine (iload_run hD.pend.idle _ _).mono ?_; rintro e w2 ⟨rfl, hP, hK⟩; exact ⟨rfl, hP, hD.kept.trans hK (by intro i hi; exact .inl hi)⟩) | (go_at_call 69; refine (iadd_run hD.pend.idle _ _ _).mono ?_; rintro e w2 ⟨rfl, hP, hK⟩; exact ⟨rfl, hP, hD.kept.trans hK (by intro i hi; exact .inl hi)⟩) | (go_at_call 73; refine (istore_run hD.pend.idle _ _ _).mono ?_; rintro e w2 ⟨rfl, hP, hK⟩; exact ⟨rfl, hP, hD.kept.trans hK (by intro i hi; exact .inl hi)⟩) | (go_at_call 151; refine (iswap_run hD.pend.idle _ _ _ _).mono ?_; rintro e w2 ⟨rfl, hP, hK⟩; exact ⟨rfl, hP, hD.kept.trans hK (by intro i hi; exact .inl hi)⟩)); (intro K hK; go_simp; refine hK _ ?_; clear hK K))))
  (rintro w2 ⟨h1, h2⟩; go_wp2; go_returns; exact ⟨⟨_, rfl⟩, h1, h2⟩)
theorem tk_stored_run (x l : Nat) (P T G who : Int) (p q n g y t : Int) (pl : Value) (w : World)  (hp : Pend w x who (tkR l p q n pl g y t) 153 .done) (hL : Lay w l P T G) :
    Calls Try.prog 194 #[.pointer (some ⟨x, 0, none⟩)] w fun e w' => (∃ r, e = .returned r) ∧ Pend w' x who (tkR l p q n pl g y t) 153 (.store (pr P p 2) (nextQ t) 197) ∧ Kept [x] w w' := by
  have n1 : IntKind.u64.wrap (t + 1) % 4294967296 = nextQ t := rfl
  have n2 : (IntKind.u64.wrap (t + 1)).tmod 4294967296 = nextQ t := Int.tmod_eq_emod_of_nonneg (by rw [IntKind.wrap_u64]; omega)
  have n3 : 0 ≤ IntKind.u64.wrap (t + 1) := by rw [IntKind.wrap_u64]; omega
  have HI := hid (MI.start hp hL).drew
  have hf := hp.idle.frozen
  (have y0 := hp.idle.rest 0; have y1 := hp.idle.rest 1; have y2 := hp.idle.rest 2; have y3 := hp.idle.rest 3; have y4 := hp.idle.rest 4; have y5 := hp.idle.rest 5; have y6 := hp.idle.rest 6; have y7 := hp.idle.rest 7; simp only [tkR, Nat.reduceAdd, Nat.zero_add, List.getElem?_cons_zero, List.getElem?_cons_succ] at y0 y1 y2 y3 y4 y5 y6 y7)
  clear hp hL
  go_enter Try.func194, Try.ntmps194
  go_wp2_with fail
  refine wp_region_T 20 (fun w' => MI w w' x who (tkR l p q n pl g y t) 153 l P T G) (fun w' => Pend w' x who (tkR l p q n pl g y t) 153 (.store (pr P p 2) (nextQ t) 197) ∧ Kept [x] w w') (by kernel_rfl) (by kernel_rfl) rfl (by kernel_rfl) HI.out ?_
  clear HI
  (repeat (first | (apply walkD_pure; rfl; rfl; (intro _; go_simp; first | done | rfl); (intro K hK; go_simp; refine hK _ ?_; clear hK K)) | (apply walkD_skip; rfl; rfl; (intro K hK; go_simp; refine hK _ ?_; clear hK K)) | (apply walkD_read1 [false] (by kernel_rfl); rfl; rfl; (intro w' hD; (have y0 := hD.pend.idle.rest 0; have y1 := hD.pend.idle.rest 1; have y2 := hD.pend.idle.rest 2; have y3 := hD.pend.idle.rest 3; have y4 := hD.pend.idle.rest 4; have y5 := hD.pend.idle.rest 5; have y6 := hD.pend.idle.rest 6; have y7 := hD.pend.idle.rest 7; simp only [tkR, Nat.reduceAdd, Nat.zero_add, List.getElem?_cons_zero, List.getElem?_cons_succ] at y0 y1 y2 y3 y4 y5 y6 y7); go_simp; rfl); (intro K hK; go_simp; refine hK _ ?_; clear hK K)) | (apply walkD_call1 [false] (by kernel_rfl); rfl; (intro _; go_simp; first | rfl | exact ⟨rfl, rfl⟩); (intro w' hD; first | (go_at_call 129; refine (qword_run _ _).mono ?_; rintro e w2 ⟨rfl, rfl⟩; exact ⟨rfl, hD⟩) | (go_at_call 83; refine (proc_run _ _ _ _ _ _ _ hD.lay).mono ?_; rintro e w2 ⟨rfl, hb⟩; exact ⟨rfl, hD.quiet hb⟩) | (go_at_call 114; refine (thread_run _ _ _ _ _ _ _ hD.lay).mono ?_; rintro e w2 ⟨rfl, hb⟩; exact ⟨rfl, hD.quiet hb⟩) | (go_at_call 148; refine (ring_run _ _ _ _ _ _ (by assumption) _ hD.lay).mono ?_; rintro e w2 ⟨rfl, hb⟩; exact ⟨rfl, hD.quiet hb⟩) | (go_at_call 88; refine (g_run _ _ _ _ _ _ _ hD.lay).mono ?_; rintro e w2 ⟨rfl, hb⟩; exact ⟨rfl, hD.quiet hb⟩) | (go_at_call 77; refine (word_run _ 0 0 0 _ _).mono ?_; rintro e w2 ⟨rfl, rfl⟩; exact ⟨rfl, hD⟩) | (go_at_call 76; refine (iload_run hD.pend.idle _ _).mono ?_; rintro e w2 ⟨rfl, hP, hK⟩; exact ⟨rfl, hP, hD.kept.trans hK (by intro i hi; exact .inl hi)⟩) | (go_at_call 69; refine (iadd_run hD.pend.idle _ _ _).mono ?_; rintro e w2 ⟨rfl, hP, hK⟩; exact ⟨rfl, hP, hD.kept.trans hK (by intro i hi; exact .inl hi)⟩) | (go_at_call 73; refine (istore_run hD.pend.idle _ _ _).mono ?_; rintro e w2 ⟨rfl, hP, hK⟩; exact ⟨rfl, hP, hD.kept.trans hK (by intro i hi; exact .inl hi)⟩) | (go_at_call 151; refine (iswap_run hD.pend.idle _ _ _ _).mono ?_; rintro e w2 ⟨rfl, hP, hK⟩; exact ⟨rfl, hP, hD.kept.trans hK (by intro i hi; exact .inl hi)⟩)); (intro K hK; go_simp; refine hK _ ?_; clear hK K))))
  (rintro w2 ⟨h1, h2⟩; go_wp2; go_returns; exact ⟨⟨_, rfl⟩, h1, h2⟩)
theorem tk_sized0_run (x l : Nat) (P T G who : Int) (p q : Int) (w : World)  (hp : Pend w x who (tkR l p q 0 (.pointer none) (-1) (-1) 0) 153 .done) (hL : Lay w l P T G) :
    Calls Try.prog 124 #[.pointer (some ⟨x, 0, none⟩), .int .u64 0] w fun e w' => (∃ r, e = .returned r) ∧ Pend w' x who (tkR l p q 0 (.pointer none) (-1) (-1) 0) 153 (.done) ∧ Kept [x] w w' := by
  have HI := hid (MI.start hp hL)
  have hf := hp.idle.frozen
  (have y0 := hp.idle.rest 0; have y1 := hp.idle.rest 1; have y2 := hp.idle.rest 2; have y3 := hp.idle.rest 3; have y4 := hp.idle.rest 4; have y5 := hp.idle.rest 5; have y6 := hp.idle.rest 6; have y7 := hp.idle.rest 7; simp only [tkR, Nat.reduceAdd, Nat.zero_add, List.getElem?_cons_zero, List.getElem?_cons_succ] at y0 y1 y2 y3 y4 y5 y6 y7)
  clear hp hL
  go_enter Try.func124, Try.ntmps124
  go_wp2
  go_returns
  exact ⟨⟨_, rfl⟩, HI.out.pend, HI.out.kept⟩
theorem fieldC0 (a b c : Value) (w : World) : (Instr.field 30 (.agg #[a, b, c]) 0).run Try.prog w = .ok a w := by first | kernel_rfl | rfl
theorem tk_sized1a_run (x l lo : Nat) (P T G who : Int) (p q v : Int) (w : World) (hv : 0 < v ∧ v < 18446744073709551616) (hP : 1 ≤ P) (c1 : IntKind.u64.wrap (v / P + 1) < v) (c2 : 128 < IntKind.u64.wrap (v / P + 1)) (hlo : lo ≤ w.heap.size) (hp : Pend w x who (tkR l p q 0 (.pointer none) (-1) (-1) 0) 153 .done) (hL : Lay w l P T G) :
    Calls Try.prog 124 #[.pointer (some ⟨x, 0, none⟩), .int .u64 v] w fun e w' => (∃ r, e = .returned r) ∧ (∃ y, Pend2 w' x who (tkR l p q (decQ (tkLeft P q v)) (.pointer (some ⟨y, 0, none⟩)) (-1) (-1) 0) 153 (.sub (qlS lo l P T G who) y .h 147)) ∧ Kept [x] w w' := by
  have d1 : ((v : Int) == 0) = false := by simp; omega
  have hf := hp.idle.frozen
  have hR := hL.2
  unfold Right at hR
  have f1 := fun w' => fieldC0 (.int .i64 P) (.int .i64 T) (.int .i64 G) w'
  have d2 : ¬ (P < 1) := by omega
  have d3 : IntKind.u64.wrap P = P := by rw [IntKind.wrap_u64]; omega
  have d4 : P ≠ 0 := by omega
  have d5 : ((P : Int) != 0) = true := by simpa using d4
  (have y0 := hp.idle.rest 0; have y1 := hp.idle.rest 1; have y2 := hp.idle.rest 2; have y3 := hp.idle.rest 3; have y4 := hp.idle.rest 4; have y5 := hp.idle.rest 5; have y6 := hp.idle.rest 6; have y7 := hp.idle.rest 7; simp only [tkR, Nat.reduceAdd, Nat.zero_add, List.getElem?_cons_zero, List.getElem?_cons_succ] at y0 y1 y2 y3 y4 y5 y6 y7)
  have HI := hid (MI.start hp hL)
  have HLO := hid hlo
  clear hp hL hlo hR
  have HM := hid (show tkMin P v = 128 by unfold tkMin; rw [if_pos c1, if_pos c2])
  by_cases hq : 0 < q
  · have dq : decide (0 < q) = true := decide_eq_true hq
    by_cases c4 : (IntKind.u64.wrap q) < 128
    · rw [show tkLeft P q v = (IntKind.u64.wrap q) by unfold tkLeft; rw [if_pos hq, HM.out, if_pos c4]]
      clear hq
      go_enter Try.func124, Try.ntmps124
      go_wp2_with (first | (go_at_call 80; refine (config_run l P T G _ HI.out.lay).mono ?_; rintro e w2 ⟨rfl, hb⟩; replace HI := hid (HI.out.quiet hb); clear hb y0 y1 y2 y3 y4 y5 y6 y7 hf; have hf := HI.out.pend.idle.frozen; (have y0 := HI.out.pend.idle.rest 0; have y1 := HI.out.pend.idle.rest 1; have y2 := HI.out.pend.idle.rest 2; have y3 := HI.out.pend.idle.rest 3; have y4 := HI.out.pend.idle.rest 4; have y5 := HI.out.pend.idle.rest 5; have y6 := HI.out.pend.idle.rest 6; have y7 := HI.out.pend.idle.rest 7; simp only [tkR, Nat.reduceAdd, Nat.zero_add, List.getElem?_cons_zero, List.getElem?_cons_succ] at y0 y1 y2 y3 y4 y5 y6 y7)))
      have HI := hid (HI.out.put (by decide) 3 (.int .u64 (128))).drew
      clear y0 y1 y2 y3 y4 y5 y6 y7 hf
      refine wp_region_T 13 (fun w' => MI w w' x who (tkR l p q (128) (.pointer none) (-1) (-1) 0) 153 l P T G) (fun w' => MI w w' x who (tkR l p q ((IntKind.u64.wrap q)) (.pointer none) (-1) (-1) 0) 153 l P T G) (by kernel_rfl) (by kernel_rfl) rfl (by kernel_rfl) HI.out ?_
      clear HI d1 f1 d2 d3 d4 d5 c1 c2 dq
      repeat (first | (apply walkD_pure; rfl; rfl; (intro _; go_simp; first | done | rfl); (intro K hK; go_simp; refine hK _ ?_; clear hK K)) | (apply walkD_skip; rfl; rfl; (intro K hK; go_simp; refine hK _ ?_; clear hK K)) | (apply walkD_read1 [false] (by kernel_rfl); rfl; rfl; (intro w' hD; (have y0 := hD.pend.idle.rest 0; have y1 := hD.pend.idle.rest 1; have y2 := hD.pend.idle.rest 2; have y3 := hD.pend.idle.rest 3; have y4 := hD.pend.idle.rest 4; have y5 := hD.pend.idle.rest 5; have y6 := hD.pend.idle.rest 6; have y7 := hD.pend.idle.rest 7; simp only [tkR, Nat.reduceAdd, Nat.zero_add, List.getElem?_cons_zero, List.getElem?_cons_succ] at y0 y1 y2 y3 y4 y5 y6 y7); go_simp; rfl); (intro K hK; go_simp; refine hK _ ?_; clear hK K)) | (apply walkD_turn1 (v := undef) [false] (by kernel_rfl); rfl; (intro w' hD; (have y0 := hD.pend.idle.rest 0; have y1 := hD.pend.idle.rest 1; have y2 := hD.pend.idle.rest 2; have y3 := hD.pend.idle.rest 3; have y4 := hD.pend.idle.rest 4; have y5 := hD.pend.idle.rest 5; have y6 := hD.pend.idle.rest 6; have y7 := hD.pend.idle.rest 7; simp only [tkR, Nat.reduceAdd, Nat.zero_add, List.getElem?_cons_zero, List.getElem?_cons_succ] at y0 y1 y2 y3 y4 y5 y6 y7); have yf := hD.pend.idle.frozen; unfold Go.Proofs.Ytnmkfmaohflejaa.Flag.opAt; go_simp; exact ⟨hD.put (by decide) 3 (.int .u64 ((IntKind.u64.wrap q))), rfl⟩); (intro K hK; go_simp; refine hK _ ?_; clear hK K)))
      intro w4 hI
      have HI := hid hI
      have hf := hI.pend.idle.frozen
      have y3 := hI.pend.idle.rest 3
      simp only [tkR, Nat.reduceAdd, Nat.zero_add, List.getElem?_cons_zero, List.getElem?_cons_succ] at y3
      clear hI
      go_wp2_with fail
      clear hf y3
      have hlo2 : lo ≤ _ := Nat.le_trans HLO.out HI.out.kept.size
      refine (tk_pulls_run x l lo P T G who 147 p q _ (-1) (-1) 0 (.pointer none) _ hlo2 HI.out.pend HI.out.lay).mono ?_
      rintro e w9 ⟨⟨r, rfl⟩, hy, hK⟩
      have HX := hid (And.intro hy (HI.out.kept.trans hK (by intro i hi; exact .inl hi)))
      clear HI hy hK hlo2
      go_wp2
      go_returns
      exact ⟨⟨_, rfl⟩, HX.out⟩
    · rw [show tkLeft P q v = 128 by unfold tkLeft; rw [if_pos hq, HM.out, if_neg c4]]
      clear hq
      go_enter Try.func124, Try.ntmps124
      go_wp2_with (first | (go_at_call 80; refine (config_run l P T G _ HI.out.lay).mono ?_; rintro e w2 ⟨rfl, hb⟩; replace HI := hid (HI.out.quiet hb); clear hb y0 y1 y2 y3 y4 y5 y6 y7 hf; have hf := HI.out.pend.idle.frozen; (have y0 := HI.out.pend.idle.rest 0; have y1 := HI.out.pend.idle.rest 1; have y2 := HI.out.pend.idle.rest 2; have y3 := HI.out.pend.idle.rest 3; have y4 := HI.out.pend.idle.rest 4; have y5 := HI.out.pend.idle.rest 5; have y6 := HI.out.pend.idle.rest 6; have y7 := HI.out.pend.idle.rest 7; simp only [tkR, Nat.reduceAdd, Nat.zero_add, List.getElem?_cons_zero, List.getElem?_cons_succ] at y0 y1 y2 y3 y4 y5 y6 y7)))
      have HI := hid (HI.out.put (by decide) 3 (.int .u64 (128))).drew
      clear y0 y1 y2 y3 y4 y5 y6 y7 hf
      refine wp_region_T 13 (fun w' => MI w w' x who (tkR l p q (128) (.pointer none) (-1) (-1) 0) 153 l P T G) (fun w' => MI w w' x who (tkR l p q (128) (.pointer none) (-1) (-1) 0) 153 l P T G) (by kernel_rfl) (by kernel_rfl) rfl (by kernel_rfl) HI.out ?_
      clear HI d1 f1 d2 d3 d4 d5 c1 c2 dq
      repeat (first | (apply walkD_pure; rfl; rfl; (intro _; go_simp; first | done | rfl); (intro K hK; go_simp; refine hK _ ?_; clear hK K)) | (apply walkD_skip; rfl; rfl; (intro K hK; go_simp; refine hK _ ?_; clear hK K)) | (apply walkD_read1 [false] (by kernel_rfl); rfl; rfl; (intro w' hD; (have y0 := hD.pend.idle.rest 0; have y1 := hD.pend.idle.rest 1; have y2 := hD.pend.idle.rest 2; have y3 := hD.pend.idle.rest 3; have y4 := hD.pend.idle.rest 4; have y5 := hD.pend.idle.rest 5; have y6 := hD.pend.idle.rest 6; have y7 := hD.pend.idle.rest 7; simp only [tkR, Nat.reduceAdd, Nat.zero_add, List.getElem?_cons_zero, List.getElem?_cons_succ] at y0 y1 y2 y3 y4 y5 y6 y7); go_simp; rfl); (intro K hK; go_simp; refine hK _ ?_; clear hK K)) | (apply walkD_turn1 (v := undef) [false] (by kernel_rfl); rfl; (intro w' hD; (have y0 := hD.pend.idle.rest 0; have y1 := hD.pend.idle.rest 1; have y2 := hD.pend.idle.rest 2; have y3 := hD.pend.idle.rest 3; have y4 := hD.pend.idle.rest 4; have y5 := hD.pend.idle.rest 5; have y6 := hD.pend.idle.rest 6; have y7 := hD.pend.idle.rest 7; simp only [tkR, Nat.reduceAdd, Nat.zero_add, List.getElem?_cons_zero, List.getElem?_cons_succ] at y0 y1 y2 y3 y4 y5 y6 y7); have yf := hD.pend.idle.frozen; unfold Go.Proofs.Ytnmkfmaohflejaa.Flag.opAt; go_simp; (try rw [if_neg (Int.not_lt.2 c4)]); exact ⟨hD.put (by decide) 3 (.int .u64 (128)), rfl⟩); (intro K hK; go_simp; refine hK _ ?_; clear hK K)))
      intro w4 hI
      have HI := hid hI
      have hf := hI.pend.idle.frozen
      have y3 := hI.pend.idle.rest 3
      simp only [tkR, Nat.reduceAdd, Nat.zero_add, List.getElem?_cons_zero, List.getElem?_cons_succ] at y3
      clear hI
      go_wp2_with fail
      clear hf y3
      have hlo2 : lo ≤ _ := Nat.le_trans HLO.out HI.out.kept.size
      refine (tk_pulls_run x l lo P T G who 147 p q _ (-1) (-1) 0 (.pointer none) _ hlo2 HI.out.pend HI.out.lay).mono ?_
      rintro e w9 ⟨⟨r, rfl⟩, hy, hK⟩
      have HX := hid (And.intro hy (HI.out.kept.trans hK (by intro i hi; exact .inl hi)))
      clear HI hy hK hlo2
      go_wp2
      go_returns
      exact ⟨⟨_, rfl⟩, HX.out⟩
  · have dq : decide (0 < q) = false := decide_eq_false hq
    rw [show tkLeft P q v = 128 by unfold tkLeft; rw [if_neg hq, HM.out]]
    clear hq
    go_enter Try.func124, Try.ntmps124
    go_wp2_with (first | (go_at_call 80; refine (config_run l P T G _ HI.out.lay).mono ?_; rintro e w2 ⟨rfl, hb⟩; replace HI := hid (HI.out.quiet hb); clear hb y0 y1 y2 y3 y4 y5 y6 y7 hf; have hf := HI.out.pend.idle.frozen; (have y0 := HI.out.pend.idle.rest 0; have y1 := HI.out.pend.idle.rest 1; have y2 := HI.out.pend.idle.rest 2; have y3 := HI.out.pend.idle.rest 3; have y4 := HI.out.pend.idle.rest 4; have y5 := HI.out.pend.idle.rest 5; have y6 := HI.out.pend.idle.rest 6; have y7 := HI.out.pend.idle.rest 7; simp only [tkR, Nat.reduceAdd, Nat.zero_add, List.getElem?_cons_zero, List.getElem?_cons_succ] at y0 y1 y2 y3 y4 y5 y6 y7)))
    have HI := hid (HI.out.put (by decide) 3 (.int .u64 (128)))
    clear y0 y1 y2 y3 y4 y5 y6 y7 hf
    have hlo2 : lo ≤ _ := Nat.le_trans HLO.out HI.out.kept.size
    refine (tk_pulls_run x l lo P T G who 147 p q _ (-1) (-1) 0 (.pointer none) _ hlo2 HI.out.pend HI.out.lay).mono ?_
    rintro e w9 ⟨⟨r, rfl⟩, hy, hK⟩
    have HX := hid (And.intro hy (HI.out.kept.trans hK (by intro i hi; exact .inl hi)))
    clear HI hy hK hlo2
    go_wp2
    go_returns
    exact ⟨⟨_, rfl⟩, HX.out⟩
theorem tk_sized1b_run (x l lo : Nat) (P T G who : Int) (p q v : Int) (w : World) (hv : 0 < v ∧ v < 18446744073709551616) (hP : 1 ≤ P) (c1 : IntKind.u64.wrap (v / P + 1) < v) (c2 : ¬ 128 < IntKind.u64.wrap (v / P + 1)) (hlo : lo ≤ w.heap.size) (hp : Pend w x who (tkR l p q 0 (.pointer none) (-1) (-1) 0) 153 .done) (hL : Lay w l P T G) :
    Calls Try.prog 124 #[.pointer (some ⟨x, 0, none⟩), .int .u64 v] w fun e w' => (∃ r, e = .returned r) ∧ (∃ y, Pend2 w' x who (tkR l p q (decQ (tkLeft P q v)) (.pointer (some ⟨y, 0, none⟩)) (-1) (-1) 0) 153 (.sub (qlS lo l P T G who) y .h 147)) ∧ Kept [x] w w' := by
  have d1 : ((v : Int) == 0) = false := by simp; omega
  have hf := hp.idle.frozen
  have hR := hL.2
  unfold Right at hR
  have f1 := fun w' => fieldC0 (.int .i64 P) (.int .i64 T) (.int .i64 G) w'
  have d2 : ¬ (P < 1) := by omega
  have d3 : IntKind.u64.wrap P = P := by rw [IntKind.wrap_u64]; omega
  have d4 : P ≠ 0 := by omega
  have d5 : ((P : Int) != 0) = true := by simpa using d4
  (have y0 := hp.idle.rest 0; have y1 := hp.idle.rest 1; have y2 := hp.idle.rest 2; have y3 := hp.idle.rest 3; have y4 := hp.idle.rest 4; have y5 := hp.idle.rest 5; have y6 := hp.idle.rest 6; have y7 := hp.idle.rest 7; simp only [tkR, Nat.reduceAdd, Nat.zero_add, List.getElem?_cons_zero, List.getElem?_cons_succ] at y0 y1 y2 y3 y4 y5 y6 y7)
  have HI := hid (MI.start hp hL)
  have HLO := hid hlo
  clear hp hL hlo hR
  have HM := hid (show tkMin P v = IntKind.u64.wrap (v / P + 1) by unfold tkMin; rw [if_pos c1, if_neg c2])
  by_cases hq : 0 < q
  · have dq : decide (0 < q) = true := decide_eq_true hq
    by_cases c4 : (IntKind.u64.wrap q) < IntKind.u64.wrap (v / P + 1)
    · rw [show tkLeft P q v = (IntKind.u64.wrap q) by unfold tkLeft; rw [if_pos hq, HM.out, if_pos c4]]
      clear hq
      go_enter Try.func124, Try.ntmps124
      go_wp2_with (first | (go_at_call 80; refine (config_run l P T G _ HI.out.lay).mono ?_; rintro e w2 ⟨rfl, hb⟩; replace HI := hid (HI.out.quiet hb); clear hb y0 y1 y2 y3 y4 y5 y6 y7 hf; have hf := HI.out.pend.idle.frozen; (have y0 := HI.out.pend.idle.rest 0; have y1 := HI.out.pend.idle.rest 1; have y2 := HI.out.pend.idle.rest 2; have y3 := HI.out.pend.idle.rest 3; have y4 := HI.out.pend.idle.rest 4; have y5 := HI.out.pend.idle.rest 5; have y6 := HI.out.pend.idle.rest 6; have y7 := HI.out.pend.idle.rest 7; simp only [tkR, Nat.reduceAdd, Nat.zero_add, List.getElem?_cons_zero, List.getElem?_cons_succ] at y0 y1 y2 y3 y4 y5 y6 y7)))
      have HI := hid (HI.out.put (by decide) 3 (.int .u64 (IntKind.u64.wrap (v / P + 1)))).drew
      clear y0 y1 y2 y3 y4 y5 y6 y7 hf
      refine wp_region_T 13 (fun w' => MI w w' x who (tkR l p q (IntKind.u64.wrap (v / P + 1)) (.pointer none) (-1) (-1) 0) 153 l P T G) (fun w' => MI w w' x who (tkR l p q ((IntKind.u64.wrap q)) (.pointer none) (-1) (-1) 0) 153 l P T G) (by kernel_rfl) (by kernel_rfl) rfl (by kernel_rfl) HI.out ?_
      clear HI d1 f1 d2 d3 d4 d5 c1 c2 dq
      repeat (first | (apply walkD_pure; rfl; rfl; (intro _; go_simp; first | done | rfl); (intro K hK; go_simp; refine hK _ ?_; clear hK K)) | (apply walkD_skip; rfl; rfl; (intro K hK; go_simp; refine hK _ ?_; clear hK K)) | (apply walkD_read1 [false] (by kernel_rfl); rfl; rfl; (intro w' hD; (have y0 := hD.pend.idle.rest 0; have y1 := hD.pend.idle.rest 1; have y2 := hD.pend.idle.rest 2; have y3 := hD.pend.idle.rest 3; have y4 := hD.pend.idle.rest 4; have y5 := hD.pend.idle.rest 5; have y6 := hD.pend.idle.rest 6; have y7 := hD.pend.idle.rest 7; simp only [tkR, Nat.reduceAdd, Nat.zero_add, List.getElem?_cons_zero, List.getElem?_cons_succ] at y0 y1 y2 y3 y4 y5 y6 y7); go_simp; rfl); (intro K hK; go_simp; refine hK _ ?_; clear hK K)) | (apply walkD_turn1 (v := undef) [false] (by kernel_rfl); rfl; (intro w' hD; (have y0 := hD.pend.idle.rest 0; have y1 := hD.pend.idle.rest 1; have y2 := hD.pend.idle.rest 2; have y3 := hD.pend.idle.rest 3; have y4 := hD.pend.idle.rest 4; have y5 := hD.pend.idle.rest 5; have y6 := hD.pend.idle.rest 6; have y7 := hD.pend.idle.rest 7; simp only [tkR, Nat.reduceAdd, Nat.zero_add, List.getElem?_cons_zero, List.getElem?_cons_succ] at y0 y1 y2 y3 y4 y5 y6 y7); have yf := hD.pend.idle.frozen; unfold Go.Proofs.Ytnmkfmaohflejaa.Flag.opAt; go_simp; exact ⟨hD.put (by decide) 3 (.int .u64 ((IntKind.u64.wrap q))), rfl⟩); (intro K hK; go_simp; refine hK _ ?_; clear hK K)))
      intro w4 hI
      have HI := hid hI
      have hf := hI.pend.idle.frozen
      have y3 := hI.pend.idle.rest 3
      simp only [tkR, Nat.reduceAdd, Nat.zero_add, List.getElem?_cons_zero, List.getElem?_cons_succ] at y3
      clear hI
      go_wp2_with fail
      clear hf y3
      have hlo2 : lo ≤ _ := Nat.le_trans HLO.out HI.out.kept.size
      refine (tk_pulls_run x l lo P T G who 147 p q _ (-1) (-1) 0 (.pointer none) _ hlo2 HI.out.pend HI.out.lay).mono ?_
      rintro e w9 ⟨⟨r, rfl⟩, hy, hK⟩
      have HX := hid (And.intro hy (HI.out.kept.trans hK (by intro i hi; exact .inl hi)))
      clear HI hy hK hlo2
      go_wp2
      go_returns
      exact ⟨⟨_, rfl⟩, HX.out⟩
    · rw [show tkLeft P q v = IntKind.u64.wrap (v / P + 1) by unfold tkLeft; rw [if_pos hq, HM.out, if_neg c4]]
      clear hq
      go_enter Try.func124, Try.ntmps124
      go_wp2_with (first | (go_at_call 80; refine (config_run l P T G _ HI.out.lay).mono ?_; rintro e w2 ⟨rfl, hb⟩; replace HI := hid (HI.out.quiet hb); clear hb y0 y1 y2 y3 y4 y5 y6 y7 hf; have hf := HI.out.pend.idle.frozen; (have y0 := HI.out.pend.idle.rest 0; have y1 := HI.out.pend.idle.rest 1; have y2 := HI.out.pend.idle.rest 2; have y3 := HI.out.pend.idle.rest 3; have y4 := HI.out.pend.idle.rest 4; have y5 := HI.out.pend.idle.rest 5; have y6 := HI.out.pend.idle.rest 6; have y7 := HI.out.pend.idle.rest 7; simp only [tkR, Nat.reduceAdd, Nat.zero_add, List.getElem?_cons_zero, List.getElem?_cons_succ] at y0 y1 y2 y3 y4 y5 y6 y7)))
      have HI := hid (HI.out.put (by decide) 3 (.int .u64 (IntKind.u64.wrap (v / P + 1)))).drew
      clear y0 y1 y2 y3 y4 y5 y6 y7 hf
      refine wp_region_T 13 (fun w' => MI w w' x who (tkR l p q (IntKind.u64.wrap (v / P + 1)) (.pointer none) (-1) (-1) 0) 153 l P T G) (fun w' => MI w w' x who (tkR l p q (IntKind.u64.wrap (v / P + 1)) (.pointer none) (-1) (-1) 0) 153 l P T G) (by kernel_rfl) (by kernel_rfl) rfl (by kernel_rfl) HI.out ?_
      clear HI d1 f1 d2 d3 d4 d5 c1 c2 dq
      repeat (first | (apply walkD_pure; rfl; rfl; (intro _; go_simp; first | done | rfl); (intro K hK; go_simp; refine hK _ ?_; clear hK K)) | (apply walkD_skip; rfl; rfl; (intro K hK; go_simp; refine hK _ ?_; clear hK K)) | (apply walkD_read1 [false] (by kernel_rfl); rfl; rfl; (intro w' hD; (have y0 := hD.pend.idle.rest 0; have y1 := hD.pend.idle.rest 1; have y2 := hD.pend.idle.rest 2; have y3 := hD.pend.idle.rest 3; have y4 := hD.pend.idle.rest 4; have y5 := hD.pend.idle.rest 5; have y6 := hD.pend.idle.rest 6; have y7 := hD.pend.idle.rest 7; simp only [tkR, Nat.reduceAdd, Nat.zero_add, List.getElem?_cons_zero, List.getElem?_cons_succ] at y0 y1 y2 y3 y4 y5 y6 y7); go_simp; rfl); (intro K hK; go_simp; refine hK _ ?_; clear hK K)) | (apply walkD_turn1 (v := undef) [false] (by kernel_rfl); rfl; (intro w' hD; (have y0 := hD.pend.idle.rest 0; have y1 := hD.pend.idle.rest 1; have y2 := hD.pend.idle.rest 2; have y3 := hD.pend.idle.rest 3; have y4 := hD.pend.idle.rest 4; have y5 := hD.pend.idle.rest 5; have y6 := hD.pend.idle.rest 6; have y7 := hD.pend.idle.rest 7; simp only [tkR, Nat.reduceAdd, Nat.zero_add, List.getElem?_cons_zero, List.getElem?_cons_succ] at y0 y1 y2 y3 y4 y5 y6 y7); have yf := hD.pend.idle.frozen; unfold Go.Proofs.Ytnmkfmaohflejaa.Flag.opAt; go_simp; (try rw [if_neg (Int.not_lt.2 c4)]); exact ⟨hD.put (by decide) 3 (.int .u64 (IntKind.u64.wrap (v / P + 1))), rfl⟩); (intro K hK; go_simp; refine hK _ ?_; clear hK K)))
      intro w4 hI
      have HI := hid hI
      have hf := hI.pend.idle.frozen
      have y3 := hI.pend.idle.rest 3
      simp only [tkR, Nat.reduceAdd, Nat.zero_add, List.getElem?_cons_zero, List.getElem?_cons_succ] at y3
      clear hI
      go_wp2_with fail
      clear hf y3
      have hlo2 : lo ≤ _ := Nat.le_trans HLO.out HI.out.kept.size
      refine (tk_pulls_run x l lo P T G who 147 p q _ (-1) (-1) 0 (.pointer none) _ hlo2 HI.out.pend HI.out.lay).mono ?_
      rintro e w9 ⟨⟨r, rfl⟩, hy, hK⟩
      have HX := hid (And.intro hy (HI.out.kept.trans hK (by intro i hi; exact .inl hi)))
      clear HI hy hK hlo2
      go_wp2
      go_returns
      exact ⟨⟨_, rfl⟩, HX.out⟩
  · have dq : decide (0 < q) = false := decide_eq_false hq
    rw [show tkLeft P q v = IntKind.u64.wrap (v / P + 1) by unfold tkLeft; rw [if_neg hq, HM.out]]
    clear hq
    go_enter Try.func124, Try.ntmps124
    go_wp2_with (first | (go_at_call 80; refine (config_run l P T G _ HI.out.lay).mono ?_; rintro e w2 ⟨rfl, hb⟩; replace HI := hid (HI.out.quiet hb); clear hb y0 y1 y2 y3 y4 y5 y6 y7 hf; have hf := HI.out.pend.idle.frozen; (have y0 := HI.out.pend.idle.rest 0; have y1 := HI.out.pend.idle.rest 1; have y2 := HI.out.pend.idle.rest 2; have y3 := HI.out.pend.idle.rest 3; have y4 := HI.out.pend.idle.rest 4; have y5 := HI.out.pend.idle.rest 5; have y6 := HI.out.pend.idle.rest 6; have y7 := HI.out.pend.idle.rest 7; simp only [tkR, Nat.reduceAdd, Nat.zero_add, List.getElem?_cons_zero, List.getElem?_cons_succ] at y0 y1 y2 y3 y4 y5 y6 y7)))
    have HI := hid (HI.out.put (by decide) 3 (.int .u64 (IntKind.u64.wrap (v / P + 1))))
    clear y0 y1 y2 y3 y4 y5 y6 y7 hf
    have hlo2 : lo ≤ _ := Nat.le_trans HLO.out HI.out.kept.size
    refine (tk_pulls_run x l lo P T G who 147 p q _ (-1) (-1) 0 (.pointer none) _ hlo2 HI.out.pend HI.out.lay).mono ?_
    rintro e w9 ⟨⟨r, rfl⟩, hy, hK⟩
    have HX := hid (And.intro hy (HI.out.kept.trans hK (by intro i hi; exact .inl hi)))
    clear HI hy hK hlo2
    go_wp2
    go_returns
    exact ⟨⟨_, rfl⟩, HX.out⟩
theorem tk_sized1c_run (x l lo : Nat) (P T G who : Int) (p q v : Int) (w : World) (hv : 0 < v ∧ v < 18446744073709551616) (hP : 1 ≤ P) (c1 : ¬ IntKind.u64.wrap (v / P + 1) < v) (c2 : 128 < v) (hlo : lo ≤ w.heap.size) (hp : Pend w x who (tkR l p q 0 (.pointer none) (-1) (-1) 0) 153 .done) (hL : Lay w l P T G) :
    Calls Try.prog 124 #[.pointer (some ⟨x, 0, none⟩), .int .u64 v] w fun e w' => (∃ r, e = .returned r) ∧ (∃ y, Pend2 w' x who (tkR l p q (decQ (tkLeft P q v)) (.pointer (some ⟨y, 0, none⟩)) (-1) (-1) 0) 153 (.sub (qlS lo l P T G who) y .h 147)) ∧ Kept [x] w w' := by
  have d1 : ((v : Int) == 0) = false := by simp; omega
  have hf := hp.idle.frozen
  have hR := hL.2
  unfold Right at hR
  have f1 := fun w' => fieldC0 (.int .i64 P) (.int .i64 T) (.int .i64 G) w'
  have d2 : ¬ (P < 1) := by omega
  have d3 : IntKind.u64.wrap P = P := by rw [IntKind.wrap_u64]; omega
  have d4 : P ≠ 0 := by omega
  have d5 : ((P : Int) != 0) = true := by simpa using d4
  (have y0 := hp.idle.rest 0; have y1 := hp.idle.rest 1; have y2 := hp.idle.rest 2; have y3 := hp.idle.rest 3; have y4 := hp.idle.rest 4; have y5 := hp.idle.rest 5; have y6 := hp.idle.rest 6; have y7 := hp.idle.rest 7; simp only [tkR, Nat.reduceAdd, Nat.zero_add, List.getElem?_cons_zero, List.getElem?_cons_succ] at y0 y1 y2 y3 y4 y5 y6 y7)
  have HI := hid (MI.start hp hL)
  have HLO := hid hlo
  clear hp hL hlo hR
  have HM := hid (show tkMin P v = 128 by unfold tkMin; rw [if_neg c1, if_pos c2])
  by_cases hq : 0 < q
  · have dq : decide (0 < q) = true := decide_eq_true hq
    by_cases c4 : (IntKind.u64.wrap q) < 128
    · rw [show tkLeft P q v = (IntKind.u64.wrap q) by unfold tkLeft; rw [if_pos hq, HM.out, if_pos c4]]
      clear hq
      go_enter Try.func124, Try.ntmps124
      go_wp2_with (first | (go_at_call 80; refine (config_run l P T G _ HI.out.lay).mono ?_; rintro e w2 ⟨rfl, hb⟩; replace HI := hid (HI.out.quiet hb); clear hb y0 y1 y2 y3 y4 y5 y6 y7 hf; have hf := HI.out.pend.idle.frozen; (have y0 := HI.out.pend.idle.rest 0; have y1 := HI.out.pend.idle.rest 1; have y2 := HI.out.pend.idle.rest 2; have y3 := HI.out.pend.idle.rest 3; have y4 := HI.out.pend.idle.rest 4; have y5 := HI.out.pend.idle.rest 5; have y6 := HI.out.pend.idle.rest 6; have y7 := HI.out.pend.idle.rest 7; simp only [tkR, Nat.reduceAdd, Nat.zero_add, List.getElem?_cons_zero, List.getElem?_cons_succ] at y0 y1 y2 y3 y4 y5 y6 y7)))
      have HI := hid (HI.out.put (by decide) 3 (.int .u64 (128))).drew
      clear y0 y1 y2 y3 y4 y5 y6 y7 hf
      refine wp_region_T 13 (fun w' => MI w w' x who (tkR l p q (128) (.pointer none) (-1) (-1) 0) 153 l P T G) (fun w' => MI w w' x who (tkR l p q ((IntKind.u64.wrap q)) (.pointer none) (-1) (-1) 0) 153 l P T G) (by kernel_rfl) (by kernel_rfl) rfl (by kernel_rfl) HI.out ?_
      clear HI d1 f1 d2 d3 d4 d5 c1 c2 dq
      repeat (first | (apply walkD_pure; rfl; rfl; (intro _; go_simp; first | done | rfl); (intro K hK; go_simp; refine hK _ ?_; clear hK K)) | (apply walkD_skip; rfl; rfl; (intro K hK; go_simp; refine hK _ ?_; clear hK K)) | (apply walkD_read1 [false] (by kernel_rfl); rfl; rfl; (intro w' hD; (have y0 := hD.pend.idle.rest 0; have y1 := hD.pend.idle.rest 1; have y2 := hD.pend.idle.rest 2; have y3 := hD.pend.idle.rest 3; have y4 := hD.pend.idle.rest 4; have y5 := hD.pend.idle.rest 5; have y6 := hD.pend.idle.rest 6; have y7 := hD.pend.idle.rest 7; simp only [tkR, Nat.reduceAdd, Nat.zero_add, List.getElem?_cons_zero, List.getElem?_cons_succ] at y0 y1 y2 y3 y4 y5 y6 y7); go_simp; rfl); (intro K hK; go_simp; refine hK _ ?_; clear hK K)) | (apply walkD_turn1 (v := undef) [false] (by kernel_rfl); rfl; (intro w' hD; (have y0 := hD.pend.idle.rest 0; have y1 := hD.pend.idle.rest 1; have y2 := hD.pend.idle.rest 2; have y3 := hD.pend.idle.rest 3; have y4 := hD.pend.idle.rest 4; have y5 := hD.pend.idle.rest 5; have y6 := hD.pend.idle.rest 6; have y7 := hD.pend.idle.rest 7; simp only [tkR, Nat.reduceAdd, Nat.zero_add, List.getElem?_cons_zero, List.getElem?_cons_succ] at y0 y1 y2 y3 y4 y5 y6 y7); have yf := hD.pend.idle.frozen; unfold Go.Proofs.Ytnmkfmaohflejaa.Flag.opAt; go_simp; exact ⟨hD.put (by decide) 3 (.int .u64 ((IntKind.u64.wrap q))), rfl⟩); (intro K hK; go_simp; refine hK _ ?_; clear hK K)))
      intro w4 hI
      have HI := hid hI
      have hf := hI.pend.idle.frozen
      have y3 := hI.pend.idle.rest 3
      simp only [tkR, Nat.reduceAdd, Nat.zero_add, List.getElem?_cons_zero, List.getElem?_cons_succ] at y3
      clear hI
      go_wp2_with fail
      clear hf y3
      have hlo2 : lo ≤ _ := Nat.le_trans HLO.out HI.out.kept.size
      refine (tk_pulls_run x l lo P T G who 147 p q _ (-1) (-1) 0 (.pointer none) _ hlo2 HI.out.pend HI.out.lay).mono ?_
      rintro e w9 ⟨⟨r, rfl⟩, hy, hK⟩
      have HX := hid (And.intro hy (HI.out.kept.trans hK (by intro i hi; exact .inl hi)))
      clear HI hy hK hlo2
      go_wp2
      go_returns
      exact ⟨⟨_, rfl⟩, HX.out⟩
    · rw [show tkLeft P q v = 128 by unfold tkLeft; rw [if_pos hq, HM.out, if_neg c4]]
      clear hq
      go_enter Try.func124, Try.ntmps124
      go_wp2_with (first | (go_at_call 80; refine (config_run l P T G _ HI.out.lay).mono ?_; rintro e w2 ⟨rfl, hb⟩; replace HI := hid (HI.out.quiet hb); clear hb y0 y1 y2 y3 y4 y5 y6 y7 hf; have hf := HI.out.pend.idle.frozen; (have y0 := HI.out.pend.idle.rest 0; have y1 := HI.out.pend.idle.rest 1; have y2 := HI.out.pend.idle.rest 2; have y3 := HI.out.pend.idle.rest 3; have y4 := HI.out.pend.idle.rest 4; have y5 := HI.out.pend.idle.rest 5; have y6 := HI.out.pend.idle.rest 6; have y7 := HI.out.pend.idle.rest 7; simp only [tkR, Nat.reduceAdd, Nat.zero_add, List.getElem?_cons_zero, List.getElem?_cons_succ] at y0 y1 y2 y3 y4 y5 y6 y7)))
      have HI := hid (HI.out.put (by decide) 3 (.int .u64 (128))).drew
      clear y0 y1 y2 y3 y4 y5 y6 y7 hf
      refine wp_region_T 13 (fun w' => MI w w' x who (tkR l p q (128) (.pointer none) (-1) (-1) 0) 153 l P T G) (fun w' => MI w w' x who (tkR l p q (128) (.pointer none) (-1) (-1) 0) 153 l P T G) (by kernel_rfl) (by kernel_rfl) rfl (by kernel_rfl) HI.out ?_
      clear HI d1 f1 d2 d3 d4 d5 c1 c2 dq
      repeat (first | (apply walkD_pure; rfl; rfl; (intro _; go_simp; first | done | rfl); (intro K hK; go_simp; refine hK _ ?_; clear hK K)) | (apply walkD_skip; rfl; rfl; (intro K hK; go_simp; refine hK _ ?_; clear hK K)) | (apply walkD_read1 [false] (by kernel_rfl); rfl; rfl; (intro w' hD; (have y0 := hD.pend.idle.rest 0; have y1 := hD.pend.idle.rest 1; have y2 := hD.pend.idle.rest 2; have y3 := hD.pend.idle.rest 3; have y4 := hD.pend.idle.rest 4; have y5 := hD.pend.idle.rest 5; have y6 := hD.pend.idle.rest 6; have y7 := hD.pend.idle.rest 7; simp only [tkR, Nat.reduceAdd, Nat.zero_add, List.getElem?_cons_zero, List.getElem?_cons_succ] at y0 y1 y2 y3 y4 y5 y6 y7); go_simp; rfl); (intro K hK; go_simp; refine hK _ ?_; clear hK K)) | (apply walkD_turn1 (v := undef) [false] (by kernel_rfl); rfl; (intro w' hD; (have y0 := hD.pend.idle.rest 0; have y1 := hD.pend.idle.rest 1; have y2 := hD.pend.idle.rest 2; have y3 := hD.pend.idle.rest 3; have y4 := hD.pend.idle.rest 4; have y5 := hD.pend.idle.rest 5; have y6 := hD.pend.idle.rest 6; have y7 := hD.pend.idle.rest 7; simp only [tkR, Nat.reduceAdd, Nat.zero_add, List.getElem?_cons_zero, List.getElem?_cons_succ] at y0 y1 y2 y3 y4 y5 y6 y7); have yf := hD.pend.idle.frozen; unfold Go.Proofs.Ytnmkfmaohflejaa.Flag.opAt; go_simp; (try rw [if_neg (Int.not_lt.2 c4)]); exact ⟨hD.put (by decide) 3 (.int .u64 (128)), rfl⟩); (intro K hK; go_simp; refine hK _ ?_; clear hK K)))
      intro w4 hI
      have HI := hid hI
      have hf := hI.pend.idle.frozen
      have y3 := hI.pend.idle.rest 3
      simp only [tkR, Nat.reduceAdd, Nat.zero_add, List.getElem?_cons_zero, List.getElem?_cons_succ] at y3
      clear hI
      go_wp2_with fail
      clear hf y3
      have hlo2 : lo ≤ _ := Nat.le_trans HLO.out HI.out.kept.size
      refine (tk_pulls_run x l lo P T G who 147 p q _ (-1) (-1) 0 (.pointer none) _ hlo2 HI.out.pend HI.out.lay).mono ?_
      rintro e w9 ⟨⟨r, rfl⟩, hy, hK⟩
      have HX := hid (And.intro hy (HI.out.kept.trans hK (by intro i hi; exact .inl hi)))
      clear HI hy hK hlo2
      go_wp2
      go_returns
      exact ⟨⟨_, rfl⟩, HX.out⟩
  · have dq : decide (0 < q) = false := decide_eq_false hq
    rw [show tkLeft P q v = 128 by unfold tkLeft; rw [if_neg hq, HM.out]]
    clear hq
    go_enter Try.func124, Try.ntmps124
    go_wp2_with (first | (go_at_call 80; refine (config_run l P T G _ HI.out.lay).mono ?_; rintro e w2 ⟨rfl, hb⟩; replace HI := hid (HI.out.quiet hb); clear hb y0 y1 y2 y3 y4 y5 y6 y7 hf; have hf := HI.out.pend.idle.frozen; (have y0 := HI.out.pend.idle.rest 0; have y1 := HI.out.pend.idle.rest 1; have y2 := HI.out.pend.idle.rest 2; have y3 := HI.out.pend.idle.rest 3; have y4 := HI.out.pend.idle.rest 4; have y5 := HI.out.pend.idle.rest 5; have y6 := HI.out.pend.idle.rest 6; have y7 := HI.out.pend.idle.rest 7; simp only [tkR, Nat.reduceAdd, Nat.zero_add, List.getElem?_cons_zero, List.getElem?_cons_succ] at y0 y1 y2 y3 y4 y5 y6 y7)))
    have HI := hid (HI.out.put (by decide) 3 (.int .u64 (128)))
    clear y0 y1 y2 y3 y4 y5 y6 y7 hf
    have hlo2 : lo ≤ _ := Nat.le_trans HLO.out HI.out.kept.size
    refine (tk_pulls_run x l lo P T G who 147 p q _ (-1) (-1) 0 (.pointer none) _ hlo2 HI.out.pend HI.out.lay).mono ?_
    rintro e w9 ⟨⟨r, rfl⟩, hy, hK⟩
    have HX := hid (And.intro hy (HI.out.kept.trans hK (by intro i hi; exact .inl hi)))
    clear HI hy hK hlo2
    go_wp2
    go_returns
    exact ⟨⟨_, rfl⟩, HX.out⟩
theorem tk_sized1d_run (x l lo : Nat) (P T G who : Int) (p q v : Int) (w : World) (hv : 0 < v ∧ v < 18446744073709551616) (hP : 1 ≤ P) (c1 : ¬ IntKind.u64.wrap (v / P + 1) < v) (c2 : ¬ 128 < v) (hlo : lo ≤ w.heap.size) (hp : Pend w x who (tkR l p q 0 (.pointer none) (-1) (-1) 0) 153 .done) (hL : Lay w l P T G) :
    Calls Try.prog 124 #[.pointer (some ⟨x, 0, none⟩), .int .u64 v] w fun e w' => (∃ r, e = .returned r) ∧ (∃ y, Pend2 w' x who (tkR l p q (decQ (tkLeft P q v)) (.pointer (some ⟨y, 0, none⟩)) (-1) (-1) 0) 153 (.sub (qlS lo l P T G who) y .h 147)) ∧ Kept [x] w w' := by
  have d1 : ((v : Int) == 0) = false := by simp; omega
  have hf := hp.idle.frozen
  have hR := hL.2
  unfold Right at hR
  have f1 := fun w' => fieldC0 (.int .i64 P) (.int .i64 T) (.int .i64 G) w'
  have d2 : ¬ (P < 1) := by omega
  have d3 : IntKind.u64.wrap P = P := by rw [IntKind.wrap_u64]; omega
  have d4 : P ≠ 0 := by omega
  have d5 : ((P : Int) != 0) = true := by simpa using d4
  (have y0 := hp.idle.rest 0; have y1 := hp.idle.rest 1; have y2 := hp.idle.rest 2; have y3 := hp.idle.rest 3; have y4 := hp.idle.rest 4; have y5 := hp.idle.rest 5; have y6 := hp.idle.rest 6; have y7 := hp.idle.rest 7; simp only [tkR, Nat.reduceAdd, Nat.zero_add, List.getElem?_cons_zero, List.getElem?_cons_succ] at y0 y1 y2 y3 y4 y5 y6 y7)
  have HI := hid (MI.start hp hL)
  have HLO := hid hlo
  clear hp hL hlo hR
  have HM := hid (show tkMin P v = v by unfold tkMin; rw [if_neg c1, if_neg c2])
  by_cases hq : 0 < q
  · have dq : decide (0 < q) = true := decide_eq_true hq
    by_cases c4 : (IntKind.u64.wrap q) < v
    · rw [show tkLeft P q v = (IntKind.u64.wrap q) by unfold tkLeft; rw [if_pos hq, HM.out, if_pos c4]]
      clear hq
      go_enter Try.func124, Try.ntmps124
      go_wp2_with (first | (go_at_call 80; refine (config_run l P T G _ HI.out.lay).mono ?_; rintro e w2 ⟨rfl, hb⟩; replace HI := hid (HI.out.quiet hb); clear hb y0 y1 y2 y3 y4 y5 y6 y7 hf; have hf := HI.out.pend.idle.frozen; (have y0 := HI.out.pend.idle.rest 0; have y1 := HI.out.pend.idle.rest 1; have y2 := HI.out.pend.idle.rest 2; have y3 := HI.out.pend.idle.rest 3; have y4 := HI.out.pend.idle.rest 4; have y5 := HI.out.pend.idle.rest 5; have y6 := HI.out.pend.idle.rest 6; have y7 := HI.out.pend.idle.rest 7; simp only [tkR, Nat.reduceAdd, Nat.zero_add, List.getElem?_cons_zero, List.getElem?_cons_succ] at y0 y1 y2 y3 y4 y5 y6 y7)))
      have HI := hid (HI.out.put (by decide) 3 (.int .u64 (v))).drew
      clear y0 y1 y2 y3 y4 y5 y6 y7 hf
      refine wp_region_T 13 (fun w' => MI w w' x who (tkR l p q (v) (.pointer none) (-1) (-1) 0) 153 l P T G) (fun w' => MI w w' x who (tkR l p q ((IntKind.u64.wrap q)) (.pointer none) (-1) (-1) 0) 153 l P T G) (by kernel_rfl) (by kernel_rfl) rfl (by kernel_rfl) HI.out ?_
      clear HI d1 f1 d2 d3 d4 d5 c1 c2 dq
      repeat (first | (apply walkD_pure; rfl; rfl; (intro _; go_simp; first | done | rfl); (intro K hK; go_simp; refine hK _ ?_; clear hK K)) | (apply walkD_skip; rfl; rfl; (intro K hK; go_simp; refine hK _ ?_; clear hK K)) | (apply walkD_read1 [false] (by kernel_rfl); rfl; rfl; (intro w' hD; (have y0 := hD.pend.idle.rest 0; have y1 := hD.pend.idle.rest 1; have y2 := hD.pend.idle.rest 2; have y3 := hD.pend.idle.rest 3; have y4 := hD.pend.idle.rest 4; have y5 := hD.pend.idle.rest 5; have y6 := hD.pend.idle.rest 6; have y7 := hD.pend.idle.rest 7; simp only [tkR, Nat.reduceAdd, Nat.zero_add, List.getElem?_cons_zero, List.getElem?_cons_succ] at y0 y1 y2 y3 y4 y5 y6 y7); go_simp; rfl); (intro K hK; go_simp; refine hK _ ?_; clear hK K)) | (apply walkD_turn1 (v := undef) [false] (by kernel_rfl); rfl; (intro w' hD; (have y0 := hD.pend.idle.rest 0; have y1 := hD.pend.idle.rest 1; have y2 := hD.pend.idle.rest 2; have y3 := hD.pend.idle.rest 3; have y4 := hD.pend.idle.rest 4; have y5 := hD.pend.idle.rest 5; have y6 := hD.pend.idle.rest 6; have y7 := hD.pend.idle.rest 7; simp only [tkR, Nat.reduceAdd, Nat.zero_add, List.getElem?_cons_zero, List.getElem?_cons_succ] at y0 y1 y2 y3 y4 y5 y6 y7); have yf := hD.pend.idle.frozen; unfold Go.Proofs.Ytnmkfmaohflejaa.Flag.opAt; go_simp; exact ⟨hD.put (by decide) 3 (.int .u64 ((IntKind.u64.wrap q))), rfl⟩); (intro K hK; go_simp; refine hK _ ?_; clear hK K)))
      intro w4 hI
      have HI := hid hI
      have hf := hI.pend.idle.frozen
      have y3 := hI.pend.idle.rest 3
      simp only [tkR, Nat.reduceAdd, Nat.zero_add, List.getElem?_cons_zero, List.getElem?_cons_succ] at y3
      clear hI
      go_wp2_with fail
      clear hf y3
      have hlo2 : lo ≤ _ := Nat.le_trans HLO.out HI.out.kept.size
      refine (tk_pulls_run x l lo P T G who 147 p q _ (-1) (-1) 0 (.pointer none) _ hlo2 HI.out.pend HI.out.lay).mono ?_
      rintro e w9 ⟨⟨r, rfl⟩, hy, hK⟩
      have HX := hid (And.intro hy (HI.out.kept.trans hK (by intro i hi; exact .inl hi)))
      clear HI hy hK hlo2
      go_wp2
      go_returns
      exact ⟨⟨_, rfl⟩, HX.out⟩
    · rw [show tkLeft P q v = v by unfold tkLeft; rw [if_pos hq, HM.out, if_neg c4]]
      clear hq
      go_enter Try.func124, Try.ntmps124
      go_wp2_with (first | (go_at_call 80; refine (config_run l P T G _ HI.out.lay).mono ?_; rintro e w2 ⟨rfl, hb⟩; replace HI := hid (HI.out.quiet hb); clear hb y0 y1 y2 y3 y4 y5 y6 y7 hf; have hf := HI.out.pend.idle.frozen; (have y0 := HI.out.pend.idle.rest 0; have y1 := HI.out.pend.idle.rest 1; have y2 := HI.out.pend.idle.rest 2; have y3 := HI.out.pend.idle.rest 3; have y4 := HI.out.pend.idle.rest 4; have y5 := HI.out.pend.idle.rest 5; have y6 := HI.out.pend.idle.rest 6; have y7 := HI.out.pend.idle.rest 7; simp only [tkR, Nat.reduceAdd, Nat.zero_add, List.getElem?_cons_zero, List.getElem?_cons_succ] at y0 y1 y2 y3 y4 y5 y6 y7)))
      have HI := hid (HI.out.put (by decide) 3 (.int .u64 (v))).drew
      clear y0 y1 y2 y3 y4 y5 y6 y7 hf
      refine wp_region_T 13 (fun w' => MI w w' x who (tkR l p q (v) (.pointer none) (-1) (-1) 0) 153 l P T G) (fun w' => MI w w' x who (tkR l p q (v) (.pointer none) (-1) (-1) 0) 153 l P T G) (by kernel_rfl) (by kernel_rfl) rfl (by kernel_rfl) HI.out ?_
      clear HI d1 f1 d2 d3 d4 d5 c1 c2 dq
      repeat (first | (apply walkD_pure; rfl; rfl; (intro _; go_simp; first | done | rfl); (intro K hK; go_simp; refine hK _ ?_; clear hK K)) | (apply walkD_skip; rfl; rfl; (intro K hK; go_simp; refine hK _ ?_; clear hK K)) | (apply walkD_read1 [false] (by kernel_rfl); rfl; rfl; (intro w' hD; (have y0 := hD.pend.idle.rest 0; have y1 := hD.pend.idle.rest 1; have y2 := hD.pend.idle.rest 2; have y3 := hD.pend.idle.rest 3; have y4 := hD.pend.idle.rest 4; have y5 := hD.pend.idle.rest 5; have y6 := hD.pend.idle.rest 6; have y7 := hD.pend.idle.rest 7; simp only [tkR, Nat.reduceAdd, Nat.zero_add, List.getElem?_cons_zero, List.getElem?_cons_succ] at y0 y1 y2 y3 y4 y5 y6 y7); go_simp; rfl); (intro K hK; go_simp; refine hK _ ?_; clear hK K)) | (apply walkD_turn1 (v := undef) [false] (by kernel_rfl); rfl; (intro w' hD; (have y0 := hD.pend.idle.rest 0; have y1 := hD.pend.idle.rest 1; have y2 := hD.pend.idle.rest 2; have y3 := hD.pend.idle.rest 3; have y4 := hD.pend.idle.rest 4; have y5 := hD.pend.idle.rest 5; have y6 := hD.pend.idle.rest 6; have y7 := hD.pend.idle.rest 7; simp only [tkR, Nat.reduceAdd, Nat.zero_add, List.getElem?_cons_zero, List.getElem?_cons_succ] at y0 y1 y2 y3 y4 y5 y6 y7); have yf := hD.pend.idle.frozen; unfold Go.Proofs.Ytnmkfmaohflejaa.Flag.opAt; go_simp; (try rw [if_neg (Int.not_lt.2 c4)]); exact ⟨hD.put (by decide) 3 (.int .u64 (v)), rfl⟩); (intro K hK; go_simp; refine hK _ ?_; clear hK K)))
      intro w4 hI
      have HI := hid hI
      have hf := hI.pend.idle.frozen
      have y3 := hI.pend.idle.rest 3
      simp only [tkR, Nat.reduceAdd, Nat.zero_add, List.getElem?_cons_zero, List.getElem?_cons_succ] at y3
      clear hI
      go_wp2_with fail
      clear hf y3
      have hlo2 : lo ≤ _ := Nat.le_trans HLO.out HI.out.kept.size
      refine (tk_pulls_run x l lo P T G who 147 p q _ (-1) (-1) 0 (.pointer none) _ hlo2 HI.out.pend HI.out.lay).mono ?_
      rintro e w9 ⟨⟨r, rfl⟩, hy, hK⟩
      have HX := hid (And.intro hy (HI.out.kept.trans hK (by intro i hi; exact .inl hi)))
      clear HI hy hK hlo2
      go_wp2
      go_returns
      exact ⟨⟨_, rfl⟩, HX.out⟩
  · have dq : decide (0 < q) = false := decide_eq_false hq
    rw [show tkLeft P q v = v by unfold tkLeft; rw [if_neg hq, HM.out]]
    clear hq
    go_enter Try.func124, Try.ntmps124
    go_wp2_with (first | (go_at_call 80; refine (config_run l P T G _ HI.out.lay).mono ?_; rintro e w2 ⟨rfl, hb⟩; replace HI := hid (HI.out.quiet hb); clear hb y0 y1 y2 y3 y4 y5 y6 y7 hf; have hf := HI.out.pend.idle.frozen; (have y0 := HI.out.pend.idle.rest 0; have y1 := HI.out.pend.idle.rest 1; have y2 := HI.out.pend.idle.rest 2; have y3 := HI.out.pend.idle.rest 3; have y4 := HI.out.pend.idle.rest 4; have y5 := HI.out.pend.idle.rest 5; have y6 := HI.out.pend.idle.rest 6; have y7 := HI.out.pend.idle.rest 7; simp only [tkR, Nat.reduceAdd, Nat.zero_add, List.getElem?_cons_zero, List.getElem?_cons_succ] at y0 y1 y2 y3 y4 y5 y6 y7)))
    have HI := hid (HI.out.put (by decide) 3 (.int .u64 (v)))
    clear y0 y1 y2 y3 y4 y5 y6 y7 hf
    have hlo2 : lo ≤ _ := Nat.le_trans HLO.out HI.out.kept.size
    refine (tk_pulls_run x l lo P T G who 147 p q _ (-1) (-1) 0 (.pointer none) _ hlo2 HI.out.pend HI.out.lay).mono ?_
    rintro e w9 ⟨⟨r, rfl⟩, hy, hK⟩
    have HX := hid (And.intro hy (HI.out.kept.trans hK (by intro i hi; exact .inl hi)))
    clear HI hy hK hlo2
    go_wp2
    go_returns
    exact ⟨⟨_, rfl⟩, HX.out⟩
end Go.Proofs.Ytnmkfmaohflejaa.Globq
