/- Goroutines are put behind the global queue: a machine that has a list. -/
import Derived.Test.YtnmkfmaohflejaaSubs
import Derived.Test.YtnmkfmaohflejaaClone
set_option maxRecDepth 100000
set_option maxHeartbeats 4000000
set_option linter.unusedVariables false
set_option linter.unusedSimpArgs false
namespace Go.Proofs.Ytnmkfmaohflejaa.Globq
open Go.RowKit Go.Shelf Go.Proofs.Ytnmkfmaohflejaa.TK Go.Proofs.Ytnmkfmaohflejaa.Flag Go.Proofs.Ytnmkfmaohflejaa.Read Go.Proofs.Ytnmkfmaohflejaa.Words Go.Proofs.Ytnmkfmaohflejaa.Mem Go.Proofs.Ytnmkfmaohflejaa.Flow Go.Proofs.Ytnmkfmaohflejaa.Layout Go.Proofs.Ytnmkfmaohflejaa.Lock Go.Proofs.Ytnmkfmaohflejaa.Run Go.Proofs.Ytnmkfmaohflejaa.Sys Go.Proofs.Ytnmkfmaohflejaa.Mach Go.Proofs.Ytnmkfmaohflejaa.Ref05 Go.Proofs.Ytnmkfmaohflejaa.Subs Go.Proofs.Ytnmkfmaohflejaa.IWords Go.Proofs.Ytnmkfmaohflejaa.Idlep
def nOf (a : Int) : Int := IntKind.i64.wrap (IntKind.i64.wrap a - 1)
theorem qword_run (g : Int) (w : World) : Calls Try.prog 129 #[.int .i64 g] w fun e w' => e = .returned (.int .u64 (u1 g)) ∧ w = w' := by
  have n1 : IntKind.u64.wrap (IntKind.u64.wrap g + 1) = u1 g := rfl
  go_enter Try.func129, Try.ntmps129
  go_wp2
  go_ret
  exact ⟨rfl, rfl⟩
def puR (l : Nat) (a : Option Addr) (n c : Nat) (k : Int) (ld : Bool) : List Value := [.pointer (some ⟨l, 0, none⟩), .slice a n c, .int .i64 k, .bool ld]
inductive QpSt
  | none
  | ln (k : Nat)
  | t
  | b (w : Int)
  | ly
  | c
  | done
def gAt (gs : List Int) (k : Nat) : Int := gs.getD k 0
def nxt (gs : List Int) (k : Nat) : Int := if k + 1 < gs.length then u1 (gAt gs (k + 1)) else 0
def qpNext (gs : List Int) (st : QpSt) (a : Int) : QpSt :=
  match st with
  | .none => .none
  | .ln k => if k + 1 < gs.length then .ln (k + 1) else .t
  | .t => .b a
  | .b _ => .ly
  | .ly => .c
  | .c => .done
  | .done => .done
def qpOwn (P T G : Int) (gs : List Int) : QpSt → Nx
  | .ln k => .store (gg P T G (gAt gs k) 1) (nxt gs k) 96
  | .t => .load (wordN 7) 128
  | .b w => .store (if w = 0 then wordN 6 else gg P T G (nOf w) 1) (u1 (gAt gs 0)) 149
  | .ly => .store (wordN 7) (u1 (gAt gs (gs.length - 1))) 168
  | .c => .add (wordN 8) gs.length 185
  | _ => .done
def qpY (P T G : Int) (gs : List Int) : Rsys QpSt := ⟨fun st => (qpOwn P T G gs st).want, qpNext gs⟩
def qpK (gs : List Int) : QpSt → Int
  | .none => 0
  | .ln k => k + 1
  | _ => gs.length
def qpL : QpSt → Bool
  | .ly => true
  | .c => true
  | .done => true
  | _ => false
def qpOk (gs : List Int) : QpSt → Prop
  | .none => gs.length = 0
  | .ln k => k < gs.length
  | .b w => Rng w ∧ 1 ≤ gs.length
  | _ => 1 ≤ gs.length
def qpStart (gs : List Int) : QpSt := if gs.length = 0 then .none else .ln 0
def qpM (lo l : Nat) (P T G who : Int) (gs : List Int) : Mch2 QpSt (Option Addr × Nat) :=
  ⟨133, [133, 3], fun st _ => .own (qpOwn P T G gs st), fun st e => puR l e.1 gs.length e.2 (qpK gs st) (qpL st), fun _ e w => RowB w e.1 gs lo ∧ (e.1 = none → e.2 = 0), fun _ => [3], qpY P T G gs, qpOk gs⟩
/-- In the midst of a method: the flow, the layout, the list. -/
structure LI (w0 w : World) (x : Nat) (who : Int) (l b c : Nat) (gs : List Int) (n lo : Nat) (k : Int) (ld : Bool) (P T G : Int) : Prop where
  mi : MI w0 w x who (puR l (some ⟨b, 0, none⟩) n c k ld) 133 l P T G
  len : gs.length = n
  row : RowB w (some ⟨b, 0, none⟩) gs lo
section
variable {w0 w w' : World} {x : Nat} {who : Int} {l b c : Nat} {gs : List Int} {n lo : Nat} {k : Int} {ld : Bool} {P T G : Int}
theorem LI.quiet (h : LI w0 w x who l b c gs n lo k ld P T G) (hb : Below w.heap.size w w') : LI w0 w' x who l b c gs n lo k ld P T G := ⟨h.mi.quiet hb, h.len, h.row.quiet hb⟩
theorem LI.drewN (h : LI w0 w x who l b c gs n lo k ld P T G) (m : Nat) : LI w0 (w.drewN m) x who l b c gs n lo k ld P T G := h.quiet (below_drewN (Below.refl _ _) m)
theorem LI.drew (h : LI w0 w x who l b c gs n lo k ld P T G) : LI w0 w.drew x who l b c gs n lo k ld P T G := h.drewN 1
theorem LI.g (h : LI w0 w x who l b c gs n lo k ld P T G) (i : Nat) (hi : i < n) : w.cell? ⟨b, i, none⟩ = some (.int .i64 (gAt gs i)) := by
  obtain ⟨b', hb', hc⟩ := h.row.at_ i (by rw [h.len]; exact hi)
  cases hb'
  exact hc
theorem LI.ne (h : LI w0 w x who l b c gs n lo k ld P T G) : x ≠ b := by
  obtain ⟨cs, hb⟩ := h.mi.pend.blk
  obtain ⟨_, cs', hb'⟩ := h.row.blk _ rfl
  exact Blk.ne hb hb' (by decide)
theorem LI.at_ (h : LI w0 w x who l b c gs n lo k ld P T G) (k' : Int) : LI w0 (w.setCell ⟨x, 11, none⟩ (.int .i64 k')) x who l b c gs n lo k' ld P T G := by
  refine ⟨h.mi.put (by decide) 2 _, h.len, h.row.keptS (S := [x]) ((Kept.refl _ _).set (.inl (by simp)) _) ?_⟩
  intro i hi cs hb
  simp at hi
  subst hi
  obtain ⟨cs', hb'⟩ := h.mi.pend.blk
  exact Blk.ne hb' hb (by decide) rfl
theorem LI.laid (h : LI w0 w x who l b c gs n lo k ld P T G) (ld' : Bool) : LI w0 (w.setCell ⟨x, 12, none⟩ (.bool ld')) x who l b c gs n lo k ld' P T G := by
  refine ⟨h.mi.put (by decide) 3 _, h.len, h.row.keptS (S := [x]) ((Kept.refl _ _).set (.inl (by simp)) _) ?_⟩
  intro i hi cs hb
  simp at hi
  subst hi
  obtain ⟨cs', hb'⟩ := h.mi.pend.blk
  exact Blk.ne hb' hb (by decide) rfl
end
theorem links0_run (x l : Nat) (P T G who : Int) (a : Option Addr) (c : Nat) (w : World) (hp : Pend w x who (puR l a 0 c 0 false) 133 .done) :
    Calls Try.prog 96 #[.pointer (some ⟨x, 0, none⟩)] w fun e w' => (∃ r, e = .returned r) ∧ Pend w' x who (puR l a 0 c 0 false) 133 .done ∧ Kept [x] w w' := by
  have hf := hp.idle.frozen
  (have y0 := hp.idle.rest 0; have y1 := hp.idle.rest 1; have y2 := hp.idle.rest 2; have y3 := hp.idle.rest 3; simp only [puR, Nat.reduceAdd, Nat.zero_add, List.getElem?_cons_zero, List.getElem?_cons_succ] at y0 y1 y2 y3)
  have HP := hid hp
  clear hp
  go_enter Try.func96, Try.ntmps96
  go_wp2
  go_returns
  exact ⟨⟨_, rfl⟩, HP.out, Kept.refl _ _⟩
theorem links1_run (x l lo : Nat) (P T G who : Int) (b c : Nat) (gs : List Int) (n k : Nat) (w : World) (hl : gs.length = n) (hk : k + 1 < n) (hn : n ≤ 1000) (hr : RowB w (some ⟨b, 0, none⟩) gs lo) (hp : Pend w x who (puR l (some ⟨b, 0, none⟩) n c k false) 133 .done) (hL : Lay w l P T G) :
    Calls Try.prog 96 #[.pointer (some ⟨x, 0, none⟩)] w fun e w' => (∃ r, e = .returned r) ∧ Pend w' x who (puR l (some ⟨b, 0, none⟩) n c (k + 1) false) 133 (.store (gg P T G (gAt gs k) 1) (nxt gs k) 96) ∧ Kept [x] w w' := by
  have e1 : nxt gs k = u1 (gAt gs (k + 1)) := if_pos (by rw [hl]; exact hk)
  rw [e1]
  clear e1
  have k2 : (0 : Int) ≤ (k : Int) + 1 := by omega
  have k3 : (k : Int) + 1 < (n : Int) := by omega
  have n3 : ((k : Int) + 1).toNat = k + 1 := by omega
  have d2 : decide (((k : Int) + 1) < (n : Int)) = true := decide_eq_true (by omega)
  have k0 : (0 : Int) ≤ (k : Int) := by omega
  have k1 : (k : Int) < (n : Int) := by omega
  have KL := hid (show k < n by omega)
  have d0 : ((n : Int) == 0) = false := by have := KL.out; simp; omega
  have d1 : ((k : Int) == (n : Int)) = false := by simp; omega
  have hD : LI w w x who l b c gs n lo k false P T G := ⟨MI.start hp hL, hl, hr⟩
  have n1 : IntKind.i64.wrap ((k : Int) + 1) = (k : Int) + 1 := by rw [IntKind.wrap_i64]; omega
  have n2 : wrap64 ((k : Int) + 1) = (k : Int) + 1 := by rw [← IntWalk.i64_left]; exact n1
  have hf := hp.idle.frozen
  (have y0 := hD.mi.pend.idle.rest 0; have y1 := hD.mi.pend.idle.rest 1; have y2 := hD.mi.pend.idle.rest 2; have y3 := hD.mi.pend.idle.rest 3; simp only [puR, Nat.reduceAdd, Nat.zero_add, List.getElem?_cons_zero, List.getElem?_cons_succ] at y0 y1 y2 y3)
  have g2 := hD.g (k + 1) hk
  have HI := hid hD
  clear hD hp hL hr hl hk hn
  go_enter Try.func96, Try.ntmps96
  go_wp2_with fail
  go_quiet (fail)
  go_wp2_with fail
  go_quiet (fail)
  go_wp2_with fail
  go_quiet (first | (go_at_call 129; exact (qword_run _ _).mono (fun e w2 h => ⟨h.1, _, h.2.symm⟩)))
  go_wp2_with fail
  clear g2 y0 y1 y2 y3 d0 d1 d2 hf
  refine wp_region_T 14 (fun w' => LI w w' x who l b c gs n lo k false P T G) (fun w' => LI w w' x who l b c gs n lo k false P T G) (by kernel_rfl) (by kernel_rfl) rfl (by kernel_rfl) (by repeat (first | exact HI.out | apply LI.drew | apply LI.drewN)) ?_
  repeat (first | (apply walkD_pure; rfl; rfl; (intro _; go_simp; first | done | rfl); (intro K hK; go_simp; refine hK _ ?_; clear hK K)) | (apply walkD_skip; rfl; rfl; (intro K hK; go_simp; refine hK _ ?_; clear hK K)) | (apply walkD_read1 [false] (by kernel_rfl); rfl; rfl; (intro w' hD; (have y0 := hD.mi.pend.idle.rest 0; have y1 := hD.mi.pend.idle.rest 1; have y2 := hD.mi.pend.idle.rest 2; have y3 := hD.mi.pend.idle.rest 3; simp only [puR, Nat.reduceAdd, Nat.zero_add, List.getElem?_cons_zero, List.getElem?_cons_succ] at y0 y1 y2 y3); have g1 := hD.g k KL.out; go_simp; rfl); (intro K hK; go_simp; refine hK _ ?_; clear hK K)) | (apply walkD_call1 [false] (by kernel_rfl); rfl; (intro _; go_simp; first | rfl | exact ⟨rfl, rfl⟩); (intro w' hD; (go_at_call 88; refine (g_run _ _ _ _ _ _ _ hD.mi.lay).mono ?_; rintro e w2 ⟨rfl, hb⟩; exact ⟨rfl, hD.quiet hb⟩)); (intro K hK; go_simp; refine hK _ ?_; clear hK K)))
  clear HI
  intro w4 hI
  have HI := hid hI
  have hf := hI.mi.pend.idle.frozen
  have y2 := hI.mi.pend.idle.rest 2
  simp only [puR, Nat.reduceAdd, Nat.zero_add, List.getElem?_cons_zero, List.getElem?_cons_succ] at y2
  clear hI
  have HJ := hid (HI.out.at_ ((k : Int) + 1))
  clear HI
  go_wp2_with fail
  refine (istore_run HJ.out.mi.pend.idle _ _ _).mono ?_
  rintro e w5 ⟨rfl, h1, h2⟩
  have HX := hid (And.intro h1 (HJ.out.mi.kept.trans h2 (by intro i hi; exact .inl hi)))
  clear HJ h1 h2
  go_wp2
  go_returns
  exact ⟨⟨_, rfl⟩, HX.out⟩
theorem links2_run (x l lo : Nat) (P T G who : Int) (b c : Nat) (gs : List Int) (n k : Nat) (w : World) (hl : gs.length = n) (hk : k + 1 = n) (hn : n ≤ 1000) (hr : RowB w (some ⟨b, 0, none⟩) gs lo) (hp : Pend w x who (puR l (some ⟨b, 0, none⟩) n c k false) 133 .done) (hL : Lay w l P T G) :
    Calls Try.prog 96 #[.pointer (some ⟨x, 0, none⟩)] w fun e w' => (∃ r, e = .returned r) ∧ Pend w' x who (puR l (some ⟨b, 0, none⟩) n c (k + 1) false) 133 (.store (gg P T G (gAt gs k) 1) (nxt gs k) 96) ∧ Kept [x] w w' := by
  have e1 : nxt gs k = 0 := if_neg (by rw [hl]; omega)
  rw [e1]
  clear e1
  have d2 : decide (((k : Int) + 1) < (n : Int)) = false := decide_eq_false (by omega)
  have k0 : (0 : Int) ≤ (k : Int) := by omega
  have k1 : (k : Int) < (n : Int) := by omega
  have KL := hid (show k < n by omega)
  have d0 : ((n : Int) == 0) = false := by have := KL.out; simp; omega
  have d1 : ((k : Int) == (n : Int)) = false := by simp; omega
  have hD : LI w w x who l b c gs n lo k false P T G := ⟨MI.start hp hL, hl, hr⟩
  have n1 : IntKind.i64.wrap ((k : Int) + 1) = (k : Int) + 1 := by rw [IntKind.wrap_i64]; omega
  have n2 : wrap64 ((k : Int) + 1) = (k : Int) + 1 := by rw [← IntWalk.i64_left]; exact n1
  have hf := hp.idle.frozen
  (have y0 := hD.mi.pend.idle.rest 0; have y1 := hD.mi.pend.idle.rest 1; have y2 := hD.mi.pend.idle.rest 2; have y3 := hD.mi.pend.idle.rest 3; simp only [puR, Nat.reduceAdd, Nat.zero_add, List.getElem?_cons_zero, List.getElem?_cons_succ] at y0 y1 y2 y3)
  have HI := hid hD
  clear hD hp hL hr hl hk hn
  go_enter Try.func96, Try.ntmps96
  go_wp2_with fail
  go_quiet (fail)
  go_wp2_with fail
  go_quiet (fail)
  go_wp2_with fail
  clear y0 y1 y2 y3 d0 d1 d2 hf
  refine wp_region_T 14 (fun w' => LI w w' x who l b c gs n lo k false P T G) (fun w' => LI w w' x who l b c gs n lo k false P T G) (by kernel_rfl) (by kernel_rfl) rfl (by kernel_rfl) (by repeat (first | exact HI.out | apply LI.drew | apply LI.drewN)) ?_
  repeat (first | (apply walkD_pure; rfl; rfl; (intro _; go_simp; first | done | rfl); (intro K hK; go_simp; refine hK _ ?_; clear hK K)) | (apply walkD_skip; rfl; rfl; (intro K hK; go_simp; refine hK _ ?_; clear hK K)) | (apply walkD_read1 [false] (by kernel_rfl); rfl; rfl; (intro w' hD; (have y0 := hD.mi.pend.idle.rest 0; have y1 := hD.mi.pend.idle.rest 1; have y2 := hD.mi.pend.idle.rest 2; have y3 := hD.mi.pend.idle.rest 3; simp only [puR, Nat.reduceAdd, Nat.zero_add, List.getElem?_cons_zero, List.getElem?_cons_succ] at y0 y1 y2 y3); have g1 := hD.g k KL.out; go_simp; rfl); (intro K hK; go_simp; refine hK _ ?_; clear hK K)) | (apply walkD_call1 [false] (by kernel_rfl); rfl; (intro _; go_simp; first | rfl | exact ⟨rfl, rfl⟩); (intro w' hD; (go_at_call 88; refine (g_run _ _ _ _ _ _ _ hD.mi.lay).mono ?_; rintro e w2 ⟨rfl, hb⟩; exact ⟨rfl, hD.quiet hb⟩)); (intro K hK; go_simp; refine hK _ ?_; clear hK K)))
  clear HI
  intro w4 hI
  have HI := hid hI
  have hf := hI.mi.pend.idle.frozen
  have y2 := hI.mi.pend.idle.rest 2
  simp only [puR, Nat.reduceAdd, Nat.zero_add, List.getElem?_cons_zero, List.getElem?_cons_succ] at y2
  clear hI
  have HJ := hid (HI.out.at_ ((k : Int) + 1))
  clear HI
  go_wp2_with fail
  refine (istore_run HJ.out.mi.pend.idle _ _ _).mono ?_
  rintro e w5 ⟨rfl, h1, h2⟩
  have HX := hid (And.intro h1 (HJ.out.mi.kept.trans h2 (by intro i hi; exact .inl hi)))
  clear HJ h1 h2
  go_wp2
  go_returns
  exact ⟨⟨_, rfl⟩, HX.out⟩
theorem links3_run (x l lo : Nat) (P T G who : Int) (b c : Nat) (n : Nat) (w : World) (h1 : 1 ≤ n) (hn : n ≤ 1000) (hp : Pend w x who (puR l (some ⟨b, 0, none⟩) n c n false) 133 .done) (hL : Lay w l P T G) :
    Calls Try.prog 96 #[.pointer (some ⟨x, 0, none⟩)] w fun e w' => (∃ r, e = .returned r) ∧ Pend w' x who (puR l (some ⟨b, 0, none⟩) n c n false) 133 (.load (wordN 7) 128) ∧ Kept [x] w w' := by
  have d0 : ((n : Int) == 0) = false := by simp; omega
  have HI := hid (MI.start hp hL)
  have hf := hp.idle.frozen
  (have y0 := hp.idle.rest 0; have y1 := hp.idle.rest 1; have y2 := hp.idle.rest 2; have y3 := hp.idle.rest 3; simp only [puR, Nat.reduceAdd, Nat.zero_add, List.getElem?_cons_zero, List.getElem?_cons_succ] at y0 y1 y2 y3)
  clear hp hL
  go_enter Try.func96, Try.ntmps96
  go_wp2_with fail
  go_quiet (fail)
  go_wp2_with fail
  refine wp_region_T 10 (fun w' => MI w w' x who (puR l (some ⟨b, 0, none⟩) n c n false) 133 l P T G) (fun w' => Pend w' x who (puR l (some ⟨b, 0, none⟩) n c n false) 133 (.load (wordN 7) 128) ∧ Kept [x] w w') (by kernel_rfl) (by kernel_rfl) rfl (by kernel_rfl) (by first | exact HI.out.drew | exact (HI.out.quiet (below_drewN (Below.refl _ _) _)).drew) ?_
  clear HI
  (repeat (first | (apply walkD_pure; rfl; rfl; (intro _; go_simp; first | done | rfl); (intro K hK; go_simp; refine hK _ ?_; clear hK K)) | (apply walkD_skip; rfl; rfl; (intro K hK; go_simp; refine hK _ ?_; clear hK K)) | (apply walkD_read1 [false] (by kernel_rfl); rfl; rfl; (intro w' hD; (have y0 := hD.pend.idle.rest 0; have y1 := hD.pend.idle.rest 1; have y2 := hD.pend.idle.rest 2; have y3 := hD.pend.idle.rest 3; simp only [puR, Nat.reduceAdd, Nat.zero_add, List.getElem?_cons_zero, List.getElem?_cons_succ] at y0 y1 y2 y3); go_simp; rfl); (intro K hK; go_simp; refine hK _ ?_; clear hK K)) | (apply walkD_call1 [false] (by kernel_rfl); rfl; (intro _; go_simp; first | rfl | exact ⟨rfl, rfl⟩); (intro w' hD; first | (go_at_call 129; refine (qword_run _ _).mono ?_; rintro e w2 ⟨rfl, rfl⟩; exact ⟨rfl, hD⟩) | (go_at_call 83; refine (proc_run _ _ _ _ _ _ _ hD.lay).mono ?_; rintro e w2 ⟨rfl, hb⟩; exact ⟨rfl, hD.quiet hb⟩) | (go_at_call 114; refine (thread_run _ _ _ _ _ _ _ hD.lay).mono ?_; rintro e w2 ⟨rfl, hb⟩; exact ⟨rfl, hD.quiet hb⟩) | (go_at_call 148; refine (ring_run _ _ _ _ _ _ (by assumption) _ hD.lay).mono ?_; rintro e w2 ⟨rfl, hb⟩; exact ⟨rfl, hD.quiet hb⟩) | (go_at_call 88; refine (g_run _ _ _ _ _ _ _ hD.lay).mono ?_; rintro e w2 ⟨rfl, hb⟩; exact ⟨rfl, hD.quiet hb⟩) | (go_at_call 77; refine (word_run _ 0 0 0 _ _).mono ?_; rintro e w2 ⟨rfl, rfl⟩; exact ⟨rfl, hD⟩) | (go_at_call 76; refine (iload_run hD.pend.idle _ _).mono ?_; rintro e w2 ⟨rfl, hP, hK⟩; exact ⟨rfl, hP, hD.kept.trans hK (by intro i hi; exact .inl hi)⟩) | (go_at_call 69; refine (iadd_run hD.pend.idle _ _ _).mono ?_; rintro e w2 ⟨rfl, hP, hK⟩; exact ⟨rfl, hP, hD.kept.trans hK (by intro i hi; exact .inl hi)⟩) | (go_at_call 73; refine (istore_run hD.pend.idle _ _ _).mono ?_; rintro e w2 ⟨rfl, hP, hK⟩; exact ⟨rfl, hP, hD.kept.trans hK (by intro i hi; exact .inl hi)⟩) | (go_at_call 151; refine (iswap_run hD.pend.idle _ _ _ _).mono ?_; rintro e w2 ⟨rfl, hP, hK⟩; exact ⟨rfl, hP, hD.kept.trans hK (by intro i hi; exact .inl hi)⟩)); (intro K hK; go_simp; refine hK _ ?_; clear hK K))))
  (rintro w2 ⟨h1, h2⟩; go_wp2; go_returns; exact ⟨⟨_, rfl⟩, h1, h2⟩)
theorem behind0_run (x l lo : Nat) (P T G who : Int) (b c : Nat) (gs : List Int) (n : Nat) (w : World) (hl : gs.length = n) (h1 : 1 ≤ n) (hr : RowB w (some ⟨b, 0, none⟩) gs lo) (hp : Pend w x who (puR l (some ⟨b, 0, none⟩) n c n false) 133 .done) (hL : Lay w l P T G) :
    Calls Try.prog 128 #[.pointer (some ⟨x, 0, none⟩), .int .u64 0] w fun e w' => (∃ r, e = .returned r) ∧ Pend w' x who (puR l (some ⟨b, 0, none⟩) n c n false) 133 (.store (wordN 6) (u1 (gAt gs 0)) 149) ∧ Kept [x] w w' := by
  have KL := hid (show 0 < n by omega)
  have kN : 0 < n := by omega
  have kM : n ≠ 0 := by omega
  have k1 : (0 : Int) < (n : Int) := by omega
  have hD : LI w w x who l b c gs n lo n false P T G := ⟨MI.start hp hL, hl, hr⟩
  have hf := hp.idle.frozen
  (have y0 := hD.mi.pend.idle.rest 0; have y1 := hD.mi.pend.idle.rest 1; have y2 := hD.mi.pend.idle.rest 2; have y3 := hD.mi.pend.idle.rest 3; simp only [puR, Nat.reduceAdd, Nat.zero_add, List.getElem?_cons_zero, List.getElem?_cons_succ] at y0 y1 y2 y3)
  have HI := hid hD
  clear hD hp hL hr hl
  go_enter Try.func128, Try.ntmps128
  go_wp2_with (first | (go_at_call 77; refine (word_run _ 0 0 0 _ _).mono ?_; rintro e w2 ⟨rfl, rfl⟩))
  refine wp_region_T 13 (fun w' => LI w w' x who l b c gs n lo n false P T G) (fun w' => Pend w' x who (puR l (some ⟨b, 0, none⟩) n c n false) 133 (.store (wordN 6) (u1 (gAt gs 0)) 149) ∧ Kept [x] w w') (by kernel_rfl) (by kernel_rfl) rfl (by kernel_rfl) (by repeat (first | exact HI.out | apply LI.drew)) ?_
  clear HI
  (repeat (first | (apply walkD_pure; rfl; rfl; (intro _; go_simp; first | done | rfl); (intro K hK; go_simp; refine hK _ ?_; clear hK K)) | (apply walkD_skip; rfl; rfl; (intro K hK; go_simp; refine hK _ ?_; clear hK K)) | (apply walkD_read1 [false] (by kernel_rfl); rfl; rfl; (intro w' hD; (have y0 := hD.mi.pend.idle.rest 0; have y1 := hD.mi.pend.idle.rest 1; have y2 := hD.mi.pend.idle.rest 2; have y3 := hD.mi.pend.idle.rest 3; simp only [puR, Nat.reduceAdd, Nat.zero_add, List.getElem?_cons_zero, List.getElem?_cons_succ] at y0 y1 y2 y3); have g1 := hD.g 0 KL.out; go_simp; rfl); (intro K hK; go_simp; refine hK _ ?_; clear hK K)) | (apply walkD_call1 [false] (by kernel_rfl); rfl; (intro _; go_simp; first | rfl | exact ⟨rfl, rfl⟩); (intro w' hD; first | (go_at_call 77; refine (word_run _ 0 0 0 _ _).mono ?_; rintro e w2 ⟨rfl, rfl⟩; exact ⟨rfl, hD⟩) | (go_at_call 129; refine (qword_run _ _).mono ?_; rintro e w2 ⟨rfl, rfl⟩; exact ⟨rfl, hD⟩) | (go_at_call 73; refine (istore_run hD.mi.pend.idle _ _ _).mono ?_; rintro e w2 ⟨rfl, hP, hK⟩; exact ⟨rfl, hP, hD.mi.kept.trans hK (by intro i hi; exact .inl hi)⟩)); (intro K hK; go_simp; refine hK _ ?_; clear hK K))))
  (rintro w2 ⟨h1, h2⟩; go_wp2; go_returns; exact ⟨⟨_, rfl⟩, h1, h2⟩)
theorem behind1_run (x l lo : Nat) (P T G who : Int) (b c : Nat) (gs : List Int) (n : Nat) (v : Int) (w : World) (hl : gs.length = n) (hv : v ≠ 0) (h1 : 1 ≤ n) (hr : RowB w (some ⟨b, 0, none⟩) gs lo) (hp : Pend w x who (puR l (some ⟨b, 0, none⟩) n c n false) 133 .done) (hL : Lay w l P T G) :
    Calls Try.prog 128 #[.pointer (some ⟨x, 0, none⟩), .int .u64 v] w fun e w' => (∃ r, e = .returned r) ∧ Pend w' x who (puR l (some ⟨b, 0, none⟩) n c n false) 133 (.store (gg P T G (nOf v) 1) (u1 (gAt gs 0)) 149) ∧ Kept [x] w w' := by
  have KL := hid (show 0 < n by omega)
  have kN : 0 < n := by omega
  have kM : n ≠ 0 := by omega
  have k1 : (0 : Int) < (n : Int) := by omega
  have q1 : ((v : Int) != 0) = true := by simpa using hv
  have m1 : IntKind.i64.wrap (IntKind.i64.wrap v - 1) = nOf v := rfl
  have m2 : wrap64 (wrap64 v - 1) = nOf v := by unfold nOf; simp only [IntWalk.i64_left]
  have hD : LI w w x who l b c gs n lo n false P T G := ⟨MI.start hp hL, hl, hr⟩
  have hf := hp.idle.frozen
  (have y0 := hD.mi.pend.idle.rest 0; have y1 := hD.mi.pend.idle.rest 1; have y2 := hD.mi.pend.idle.rest 2; have y3 := hD.mi.pend.idle.rest 3; simp only [puR, Nat.reduceAdd, Nat.zero_add, List.getElem?_cons_zero, List.getElem?_cons_succ] at y0 y1 y2 y3)
  have HI := hid hD
  clear hD hp hL hr hl hv
  go_enter Try.func128, Try.ntmps128
  go_wp2_with (first | (go_at_call 77; refine (word_run _ 0 0 0 _ _).mono ?_; rintro e w2 ⟨rfl, rfl⟩))
  refine (g_run l P T G _ _ _ HI.out.mi.lay).mono ?_
  rintro e w3 ⟨rfl, hb3⟩
  have HI := hid (HI.out.quiet hb3)
  clear hb3
  go_wp2_with fail
  refine wp_region_T 13 (fun w' => LI w w' x who l b c gs n lo n false P T G) (fun w' => Pend w' x who (puR l (some ⟨b, 0, none⟩) n c n false) 133 (.store (gg P T G (nOf v) 1) (u1 (gAt gs 0)) 149) ∧ Kept [x] w w') (by kernel_rfl) (by kernel_rfl) rfl (by kernel_rfl) (by repeat (first | exact HI.out | apply LI.drew)) ?_
  clear HI
  (repeat (first | (apply walkD_pure; rfl; rfl; (intro _; go_simp; first | done | rfl); (intro K hK; go_simp; refine hK _ ?_; clear hK K)) | (apply walkD_skip; rfl; rfl; (intro K hK; go_simp; refine hK _ ?_; clear hK K)) | (apply walkD_read1 [false] (by kernel_rfl); rfl; rfl; (intro w' hD; (have y0 := hD.mi.pend.idle.rest 0; have y1 := hD.mi.pend.idle.rest 1; have y2 := hD.mi.pend.idle.rest 2; have y3 := hD.mi.pend.idle.rest 3; simp only [puR, Nat.reduceAdd, Nat.zero_add, List.getElem?_cons_zero, List.getElem?_cons_succ] at y0 y1 y2 y3); have g1 := hD.g 0 KL.out; go_simp; rfl); (intro K hK; go_simp; refine hK _ ?_; clear hK K)) | (apply walkD_call1 [false] (by kernel_rfl); rfl; (intro _; go_simp; first | rfl | exact ⟨rfl, rfl⟩); (intro w' hD; first | (go_at_call 77; refine (word_run _ 0 0 0 _ _).mono ?_; rintro e w2 ⟨rfl, rfl⟩; exact ⟨rfl, hD⟩) | (go_at_call 129; refine (qword_run _ _).mono ?_; rintro e w2 ⟨rfl, rfl⟩; exact ⟨rfl, hD⟩) | (go_at_call 73; refine (istore_run hD.mi.pend.idle _ _ _).mono ?_; rintro e w2 ⟨rfl, hP, hK⟩; exact ⟨rfl, hP, hD.mi.kept.trans hK (by intro i hi; exact .inl hi)⟩)); (intro K hK; go_simp; refine hK _ ?_; clear hK K))))
  (rintro w2 ⟨h1, h2⟩; go_wp2; go_returns; exact ⟨⟨_, rfl⟩, h1, h2⟩)
theorem lays_run (x l lo : Nat) (P T G who : Int) (b c : Nat) (gs : List Int) (n : Nat) (w : World) (hl : gs.length = n) (h1 : 1 ≤ n) (hn : n ≤ 1000) (hr : RowB w (some ⟨b, 0, none⟩) gs lo) (hp : Pend w x who (puR l (some ⟨b, 0, none⟩) n c n false) 133 .done) (hL : Lay w l P T G) :
    Calls Try.prog 149 #[.pointer (some ⟨x, 0, none⟩)] w fun e w' => (∃ r, e = .returned r) ∧ Pend w' x who (puR l (some ⟨b, 0, none⟩) n c n true) 133 (.store (wordN 7) (u1 (gAt gs (n - 1))) 168) ∧ Kept [x] w w' := by
  have KL := hid (show n - 1 < n by omega)
  have kN : 0 < n := by omega
  have kM : (1 : Int) ≤ (n : Int) := by omega
  have kP : 1 ≤ n := by omega
  have k0 : (0 : Int) ≤ (n : Int) - 1 := by omega
  have k1 : (n : Int) - 1 < (n : Int) := by omega
  have k2 : (n : Int) ≤ 1000 := by omega
  have n3 : ((n : Int) - 1).toNat = n - 1 := by omega
  have n1 : IntKind.i64.wrap ((n : Int) - 1) = (n : Int) - 1 := by rw [IntKind.wrap_i64]; omega
  have n2 : wrap64 ((n : Int) - 1) = (n : Int) - 1 := by rw [← IntWalk.i64_left]; exact n1
  have hD : LI w w x who l b c gs n lo n false P T G := ⟨MI.start hp hL, hl, hr⟩
  have hf := hp.idle.frozen
  (have y0 := hD.mi.pend.idle.rest 0; have y1 := hD.mi.pend.idle.rest 1; have y2 := hD.mi.pend.idle.rest 2; have y3 := hD.mi.pend.idle.rest 3; simp only [puR, Nat.reduceAdd, Nat.zero_add, List.getElem?_cons_zero, List.getElem?_cons_succ] at y0 y1 y2 y3)
  have HI := hid (hD.laid true)
  clear hD hp hL hr hl hn
  go_enter Try.func149, Try.ntmps149
  go_wp2_with fail
  refine wp_region_T 23 (fun w' => LI w w' x who l b c gs n lo n true P T G) (fun w' => Pend w' x who (puR l (some ⟨b, 0, none⟩) n c n true) 133 (.store (wordN 7) (u1 (gAt gs (n - 1))) 168) ∧ Kept [x] w w') (by kernel_rfl) (by kernel_rfl) rfl (by kernel_rfl) HI.out.drew ?_
  clear HI
  (repeat (first | (apply walkD_pure; rfl; rfl; (intro _; go_simp; first | done | rfl); (intro K hK; go_simp; refine hK _ ?_; clear hK K)) | (apply walkD_skip; rfl; rfl; (intro K hK; go_simp; refine hK _ ?_; clear hK K)) | (apply walkD_read1 [false] (by kernel_rfl); rfl; rfl; (intro w' hD; (have y0 := hD.mi.pend.idle.rest 0; have y1 := hD.mi.pend.idle.rest 1; have y2 := hD.mi.pend.idle.rest 2; have y3 := hD.mi.pend.idle.rest 3; simp only [puR, Nat.reduceAdd, Nat.zero_add, List.getElem?_cons_zero, List.getElem?_cons_succ] at y0 y1 y2 y3); have g1 := hD.g (n - 1) KL.out; go_simp; rfl); (intro K hK; go_simp; refine hK _ ?_; clear hK K)) | (apply walkD_call1 [false] (by kernel_rfl); rfl; (intro _; go_simp; first | rfl | exact ⟨rfl, rfl⟩); (intro w' hD; first | (go_at_call 77; refine (word_run _ 0 0 0 _ _).mono ?_; rintro e w2 ⟨rfl, rfl⟩; exact ⟨rfl, hD⟩) | (go_at_call 129; refine (qword_run _ _).mono ?_; rintro e w2 ⟨rfl, rfl⟩; exact ⟨rfl, hD⟩) | (go_at_call 73; refine (istore_run hD.mi.pend.idle _ _ _).mono ?_; rintro e w2 ⟨rfl, hP, hK⟩; exact ⟨rfl, hP, hD.mi.kept.trans hK (by intro i hi; exact .inl hi)⟩)); (intro K hK; go_simp; refine hK _ ?_; clear hK K))))
  (rintro w2 ⟨h1, h2⟩; go_wp2; go_returns; exact ⟨⟨_, rfl⟩, h1, h2⟩)
theorem qp_counts_run (x l : Nat) (P T G who : Int) (b c n : Nat) (w : World) (hn : n ≤ 1000) (hp : Pend w x who (puR l (some ⟨b, 0, none⟩) n c n true) 133 .done) (hL : Lay w l P T G) :
    Calls Try.prog 168 #[.pointer (some ⟨x, 0, none⟩)] w fun e w' => (∃ r, e = .returned r) ∧ Pend w' x who (puR l (some ⟨b, 0, none⟩) n c n true) 133 (.add (wordN 8) n 185) ∧ Kept [x] w w' := by
  have n1 : IntKind.u64.wrap (n : Int) = n := by rw [IntKind.wrap_u64]; omega
  have HI := hid (MI.start hp hL).drew
  have hf := hp.idle.frozen
  (have y0 := hp.idle.rest 0; have y1 := hp.idle.rest 1; have y2 := hp.idle.rest 2; have y3 := hp.idle.rest 3; simp only [puR, Nat.reduceAdd, Nat.zero_add, List.getElem?_cons_zero, List.getElem?_cons_succ] at y0 y1 y2 y3)
  clear hp hL
  go_enter Try.func168, Try.ntmps168
  go_wp2_with fail
  refine wp_region_T 16 (fun w' => MI w w' x who (puR l (some ⟨b, 0, none⟩) n c n true) 133 l P T G) (fun w' => Pend w' x who (puR l (some ⟨b, 0, none⟩) n c n true) 133 (.add (wordN 8) n 185) ∧ Kept [x] w w') (by kernel_rfl) (by kernel_rfl) rfl (by kernel_rfl) HI.out ?_
  clear HI
  (repeat (first | (apply walkD_pure; rfl; rfl; (intro _; go_simp; first | done | rfl); (intro K hK; go_simp; refine hK _ ?_; clear hK K)) | (apply walkD_skip; rfl; rfl; (intro K hK; go_simp; refine hK _ ?_; clear hK K)) | (apply walkD_read1 [false] (by kernel_rfl); rfl; rfl; (intro w' hD; (have y0 := hD.pend.idle.rest 0; have y1 := hD.pend.idle.rest 1; have y2 := hD.pend.idle.rest 2; have y3 := hD.pend.idle.rest 3; simp only [puR, Nat.reduceAdd, Nat.zero_add, List.getElem?_cons_zero, List.getElem?_cons_succ] at y0 y1 y2 y3); go_simp; rfl); (intro K hK; go_simp; refine hK _ ?_; clear hK K)) | (apply walkD_call1 [false] (by kernel_rfl); rfl; (intro _; go_simp; first | rfl | exact ⟨rfl, rfl⟩); (intro w' hD; first | (go_at_call 129; refine (qword_run _ _).mono ?_; rintro e w2 ⟨rfl, rfl⟩; exact ⟨rfl, hD⟩) | (go_at_call 83; refine (proc_run _ _ _ _ _ _ _ hD.lay).mono ?_; rintro e w2 ⟨rfl, hb⟩; exact ⟨rfl, hD.quiet hb⟩) | (go_at_call 114; refine (thread_run _ _ _ _ _ _ _ hD.lay).mono ?_; rintro e w2 ⟨rfl, hb⟩; exact ⟨rfl, hD.quiet hb⟩) | (go_at_call 148; refine (ring_run _ _ _ _ _ _ (by assumption) _ hD.lay).mono ?_; rintro e w2 ⟨rfl, hb⟩; exact ⟨rfl, hD.quiet hb⟩) | (go_at_call 88; refine (g_run _ _ _ _ _ _ _ hD.lay).mono ?_; rintro e w2 ⟨rfl, hb⟩; exact ⟨rfl, hD.quiet hb⟩) | (go_at_call 77; refine (word_run _ 0 0 0 _ _).mono ?_; rintro e w2 ⟨rfl, rfl⟩; exact ⟨rfl, hD⟩) | (go_at_call 76; refine (iload_run hD.pend.idle _ _).mono ?_; rintro e w2 ⟨rfl, hP, hK⟩; exact ⟨rfl, hP, hD.kept.trans hK (by intro i hi; exact .inl hi)⟩) | (go_at_call 69; refine (iadd_run hD.pend.idle _ _ _).mono ?_; rintro e w2 ⟨rfl, hP, hK⟩; exact ⟨rfl, hP, hD.kept.trans hK (by intro i hi; exact .inl hi)⟩) | (go_at_call 73; refine (istore_run hD.pend.idle _ _ _).mono ?_; rintro e w2 ⟨rfl, hP, hK⟩; exact ⟨rfl, hP, hD.kept.trans hK (by intro i hi; exact .inl hi)⟩) | (go_at_call 151; refine (iswap_run hD.pend.idle _ _ _ _).mono ?_; rintro e w2 ⟨rfl, hP, hK⟩; exact ⟨rfl, hP, hD.kept.trans hK (by intro i hi; exact .inl hi)⟩)); (intro K hK; go_simp; refine hK _ ?_; clear hK K))))
  (rintro w2 ⟨h1, h2⟩; go_wp2; go_returns; exact ⟨⟨_, rfl⟩, h1, h2⟩)
theorem qp_ends_run (x l : Nat) (P T G who : Int) (b c n : Nat) (v : Int) (w : World)  (hp : Pend w x who (puR l (some ⟨b, 0, none⟩) n c n true) 133 .done) (hL : Lay w l P T G) :
    Calls Try.prog 185 #[.pointer (some ⟨x, 0, none⟩), .int .u64 v] w fun e w' => (∃ r, e = .returned r) ∧ Pend w' x who (puR l (some ⟨b, 0, none⟩) n c n true) 133 (.done) ∧ Kept [x] w w' := by
  have HI := hid (MI.start hp hL)
  have hf := hp.idle.frozen
  (have y0 := hp.idle.rest 0; have y1 := hp.idle.rest 1; have y2 := hp.idle.rest 2; have y3 := hp.idle.rest 3; simp only [puR, Nat.reduceAdd, Nat.zero_add, List.getElem?_cons_zero, List.getElem?_cons_succ] at y0 y1 y2 y3)
  clear hp hL
  go_enter Try.func185, Try.ntmps185
  go_wp2
  go_returns
  exact ⟨⟨_, rfl⟩, HI.out.pend, HI.out.kept⟩
theorem qpstep_nil (m : Option Addr) (w : World) : Calls Try.prog 47 #[.pointer none, .pointer m] w fun e w' => e = .returned (.bool true) ∧ w = w' := by
  go_enter Try.func47, Try.ntmps47
  go_wp2
  go_ret
  exact ⟨rfl, rfl⟩
theorem qp_step : StepOf 74 47 := ⟨fun y w => rfl, enters_of Try.func47 (by kernel_rfl) rfl⟩
theorem qp_quiet : NoSleeper 74 := fun y w => run_typeAssert_lacksB Try.underlying160 (by kernel_rfl) (by kernel_rfl) _ _ w
theorem qp_thru : Thru 47 := by
  intro x m o w R H
  have H := hid H
  go_enter Try.func47, Try.ntmps47
  go_wp2_with fail
  refine H.out.mono ?_
  rintro e w1 ⟨rfl, h1⟩
  have HX := hid h1
  clear h1
  go_wp2
  go_ret
  exact ⟨rfl, HX.out⟩
theorem links_start (x l lo : Nat) (P T G who : Int) (b c : Nat) (gs : List Int) (w : World) (h1 : 1 ≤ gs.length) (hn : gs.length ≤ 1000) (hr : RowB w (some ⟨b, 0, none⟩) gs lo) (hp : Pend w x who (puR l (some ⟨b, 0, none⟩) gs.length c 0 false) 133 .done) (hL : Lay w l P T G) :
    Calls Try.prog 96 #[.pointer (some ⟨x, 0, none⟩)] w fun e w' => (∃ r, e = .returned r) ∧ Pend w' x who (puR l (some ⟨b, 0, none⟩) gs.length c (qpK gs (.ln 0)) false) 133 (qpOwn P T G gs (.ln 0)) ∧ Kept [x] w w' := by
  by_cases h : 0 + 1 < gs.length
  · exact links1_run x l lo P T G who b c gs gs.length 0 w rfl h hn hr hp hL
  · exact links2_run x l lo P T G who b c gs gs.length 0 w rfl (by omega) hn hr hp hL
theorem qp_own (lo l : Nat) (P T G who : Int) (gs : List Int) : ∀ Ty ∈ rdT (qpM lo l P T G who gs).wr, Ty ∉ theirs := by
  show ∀ Ty ∈ rdT [133, 3], Ty ∉ theirs
  decide
theorem nxt_range (gs : List Int) (k : Nat) : Rng (nxt gs k) := by
  unfold nxt
  split
  · exact u1_range _
  · exact ⟨by omega, by omega⟩
theorem row_own {lo l : Nat} {P T G who : Int} {gs : List Int} {w : World} {e : Option Addr × Nat} (h : RowB w e.1 gs lo ∧ (e.1 = none → e.2 = 0)) (h1 : 1 ≤ gs.length) : ∃ b, e.1 = some ⟨b, 0, none⟩ := by
  obtain ⟨b, hb, _⟩ := h.1.at_ 0 (by omega)
  exact ⟨b, hb⟩
theorem row_kept1 {lo : Nat} {gs : List Int} {w w' : World} {x : Nat} {who : Int} {rest : List Value} {n : Nx} {a : Option Addr} (h : RowB w a gs lo) (hp : Pend w x who rest 133 n) (hk : Kept [x] w w') : RowB w' a gs lo := by
  refine h.keptS hk ?_
  intro i hi cs hb
  simp at hi
  subst hi
  obtain ⟨cs', hb'⟩ := hp.blk
  exact Blk.ne hb' hb (by decide) rfl
theorem row_kept2 {lo : Nat} {gs : List Int} {w w' : World} {x : Nat} {f : Fl} {rest : List Value} {a : Option Addr} (h : RowB w a gs lo) (hp : FlAt w x f rest 133) (hk : Kept [x] w w') : RowB w' a gs lo := by
  refine h.keptS hk ?_
  intro i hi cs hb
  simp at hi
  subst hi
  exact Blk.ne hp hb (by decide) rfl
theorem qp_goes (lo l x : Nat) (P T G who : Int) (gs : List Int) (hn : gs.length ≤ 1000) : Goes2 (qpM lo l P T G who gs) lo l x P T G who := by
  refine ⟨qp_own lo l P T G who gs, by simp [qpM], by show 1 ∉ [133, 3] ∧ 166 ∉ [133, 3] ∧ 143 ∉ [133, 3]; decide, ?_, ?_, ?_, ?_, ?_⟩
  · intro st T hT
    have h : ∀ T ∈ [3], T ∈ rdT [133, 3] ∧ T ≠ 133 := by decide
    exact h T hT
  · intro st a hok ha
    show qpOk gs (qpNext gs st a)
    cases st with
    | none => exact hok
    | ln k =>
      have hk : k < gs.length := hok
      unfold qpNext
      simp only
      split
      · assumption
      · show 1 ≤ gs.length; omega
    | t => exact ⟨ha, hok⟩
    | b w => exact hok.2
    | ly => exact hok
    | c => exact hok
    | done => exact hok
  · intro st e
    cases st <;> rfl
  · intro st e w w' Z hi hk hZ
    exact ⟨hi.1.keptS hk (fun i h cs hb => hZ i h 3 (by simp [qpM]) cs hb), hi.2⟩
  · intro st e hok
    cases st with
    | none => exact .inl rfl
    | done => exact .inl rfl
    | ln k =>
      have hk : k < gs.length := hok
      refine .inr ⟨nxt_range gs k, enters_of Try.func96 (by kernel_rfl) rfl, ?_⟩
      intro a w ha hlo hp hi hL
      obtain ⟨b, hb⟩ := row_own (l := l) (P := P) (T := T) (G := G) (who := who) hi (by omega)
      obtain ⟨ea, ec⟩ := e
      have hb : ea = some ⟨b, 0, none⟩ := hb
      subst hb
      have hi1 : RowB w (some ⟨b, 0, none⟩) gs lo := hi.1
      have hp : Pend w x who (puR l (some ⟨b, 0, none⟩) gs.length ec ((k : Int) + 1) false) 133 .done := hp
      by_cases h : k + 1 < gs.length
      · have e1 : qpNext gs (.ln k) a = .ln (k + 1) := if_pos h
        by_cases h2 : k + 1 + 1 < gs.length
        · refine (links1_run x l lo P T G who b ec gs gs.length (k + 1) w rfl h2 hn hi1 hp hL).mono ?_
          rintro e3 w' ⟨he, h3, h4⟩
          refine ⟨he, ⟨(some ⟨b, 0, none⟩, ec), ?_⟩, h4⟩
          show (qpM lo l P T G who gs).is_ x who w' (qpNext gs (.ln k) a) (some ⟨b, 0, none⟩, ec)
          rw [e1]
          exact ⟨h3, row_kept1 hi1 hp h4, hi.2⟩
        · refine (links2_run x l lo P T G who b ec gs gs.length (k + 1) w rfl (by omega) hn hi1 hp hL).mono ?_
          rintro e3 w' ⟨he, h3, h4⟩
          refine ⟨he, ⟨(some ⟨b, 0, none⟩, ec), ?_⟩, h4⟩
          show (qpM lo l P T G who gs).is_ x who w' (qpNext gs (.ln k) a) (some ⟨b, 0, none⟩, ec)
          rw [e1]
          exact ⟨h3, row_kept1 hi1 hp h4, hi.2⟩
      · have e1 : qpNext gs (.ln k) a = .t := if_neg h
        have hkn : ((k : Int) + 1) = (gs.length : Int) := by omega
        rw [hkn] at hp
        refine (links3_run x l lo P T G who b ec gs.length w (by omega) hn hp hL).mono ?_
        rintro e3 w' ⟨he, h3, h4⟩
        refine ⟨he, ⟨(some ⟨b, 0, none⟩, ec), ?_⟩, h4⟩
        show (qpM lo l P T G who gs).is_ x who w' (qpNext gs (.ln k) a) (some ⟨b, 0, none⟩, ec)
        rw [e1]
        exact ⟨h3, row_kept1 hi1 hp h4, hi.2⟩
    | t =>
      have h1 : 1 ≤ gs.length := hok
      refine .inr ⟨by show (0 : Int) ≤ 0 ∧ (0 : Int) < 18446744073709551616; omega, enters_of Try.func128 (by kernel_rfl) rfl, ?_⟩
      intro a w ha hlo hp hi hL
      obtain ⟨b, hb⟩ := row_own (l := l) (P := P) (T := T) (G := G) (who := who) hi h1
      obtain ⟨ea, ec⟩ := e
      have hb : ea = some ⟨b, 0, none⟩ := hb
      subst hb
      have hi1 : RowB w (some ⟨b, 0, none⟩) gs lo := hi.1
      have hp : Pend w x who (puR l (some ⟨b, 0, none⟩) gs.length ec gs.length false) 133 .done := hp
      by_cases hz : a = 0
      · subst hz
        refine (behind0_run x l lo P T G who b ec gs gs.length w rfl h1 hi1 hp hL).mono ?_
        rintro e3 w' ⟨he, h3, h4⟩
        exact ⟨he, ⟨(some ⟨b, 0, none⟩, ec), h3, row_kept1 hi1 hp h4, hi.2⟩, h4⟩
      · have e1 : qpOwn P T G gs (.b a) = .store (gg P T G (nOf a) 1) (u1 (gAt gs 0)) 149 := by unfold qpOwn; simp only; rw [if_neg hz]
        refine (behind1_run x l lo P T G who b ec gs gs.length a w rfl hz h1 hi1 hp hL).mono ?_
        rintro e3 w' ⟨he, h3, h4⟩
        exact ⟨he, ⟨(some ⟨b, 0, none⟩, ec), by show Pend w' x who (puR l (some ⟨b, 0, none⟩) gs.length ec gs.length false) 133 (qpOwn P T G gs (.b a)); rw [e1]; exact h3, row_kept1 hi1 hp h4, hi.2⟩, h4⟩
    | b v =>
      have h1 : 1 ≤ gs.length := hok.2
      refine .inr ⟨u1_range _, enters_of Try.func149 (by kernel_rfl) rfl, ?_⟩
      intro a w ha hlo hp hi hL
      obtain ⟨b, hb⟩ := row_own (l := l) (P := P) (T := T) (G := G) (who := who) hi h1
      obtain ⟨ea, ec⟩ := e
      have hb : ea = some ⟨b, 0, none⟩ := hb
      subst hb
      have hi1 : RowB w (some ⟨b, 0, none⟩) gs lo := hi.1
      have hp : Pend w x who (puR l (some ⟨b, 0, none⟩) gs.length ec gs.length false) 133 .done := hp
      refine (lays_run x l lo P T G who b ec gs gs.length w rfl h1 hn hi1 hp hL).mono ?_
      rintro e3 w' ⟨he, h3, h4⟩
      exact ⟨he, ⟨(some ⟨b, 0, none⟩, ec), h3, row_kept1 hi1 hp h4, hi.2⟩, h4⟩
    | ly =>
      have h1 : 1 ≤ gs.length := hok
      refine .inr ⟨u1_range _, enters_of Try.func168 (by kernel_rfl) rfl, ?_⟩
      intro a w ha hlo hp hi hL
      obtain ⟨b, hb⟩ := row_own (l := l) (P := P) (T := T) (G := G) (who := who) hi h1
      obtain ⟨ea, ec⟩ := e
      have hb : ea = some ⟨b, 0, none⟩ := hb
      subst hb
      have hi1 : RowB w (some ⟨b, 0, none⟩) gs lo := hi.1
      have hp : Pend w x who (puR l (some ⟨b, 0, none⟩) gs.length ec gs.length true) 133 .done := hp
      refine (qp_counts_run x l P T G who b ec gs.length w hn hp hL).mono ?_
      rintro e3 w' ⟨he, h3, h4⟩
      exact ⟨he, ⟨(some ⟨b, 0, none⟩, ec), h3, row_kept1 hi1 hp h4, hi.2⟩, h4⟩
    | c =>
      have h1 : 1 ≤ gs.length := hok
      refine .inr ⟨by show (0 : Int) ≤ (gs.length : Int) ∧ (gs.length : Int) < 18446744073709551616; omega, enters_of Try.func185 (by kernel_rfl) rfl, ?_⟩
      intro a w ha hlo hp hi hL
      obtain ⟨b, hb⟩ := row_own (l := l) (P := P) (T := T) (G := G) (who := who) hi h1
      obtain ⟨ea, ec⟩ := e
      have hb : ea = some ⟨b, 0, none⟩ := hb
      subst hb
      have hi1 : RowB w (some ⟨b, 0, none⟩) gs lo := hi.1
      have hp : Pend w x who (puR l (some ⟨b, 0, none⟩) gs.length ec gs.length true) 133 .done := hp
      refine (qp_ends_run x l P T G who b ec gs.length a w hp hL).mono ?_
      rintro e3 w' ⟨he, h3, h4⟩
      exact ⟨he, ⟨(some ⟨b, 0, none⟩, ec), h3, row_kept1 hi1 hp h4, hi.2⟩, h4⟩
def qpS (lo l : Nat) (P T G who : Int) (gs : List Int) : Subm QpSt := (qpM lo l P T G who gs).sub 74 47 lo l P T G who
theorem qp_sub (lo l : Nat) (P T G who : Int) (gs : List Int) (hn : gs.length ≤ 1000) : SubOk (qpS lo l P T G who gs) lo who := m2_sub qp_step qp_quiet qp_thru (fun y _ => qp_goes lo l y P T G who gs hn) (qp_own lo l P T G who gs)
/-- Some are put: where the machine lies is known. -/
theorem qp_made (lo l : Nat) (P T G who : Int) (ad : Addr) (c0 : Nat) (gs : List Int) (w : World) (h1 : 1 ≤ gs.length) (hn : gs.length ≤ 1000) (hr : RowOf (encI .i64) 1 w (some ad) gs) (hL : Lay w l P T G) (hlo : lo ≤ w.heap.size) :
    Calls Try.prog 46 #[.pointer (some ⟨l, 0, none⟩), .int .i64 who, .slice (some ad) gs.length c0] w fun e w' => e = .returned (.pointer (some ⟨w.heap.size + 2, 0, none⟩)) ∧ (qpS lo l P T G who gs).at_ w' (w.heap.size + 2) (.ln 0) ∧ Below w.heap.size w w' := by
  have HC := hid (iclone_new ad c0 gs w (by omega) (by omega) hr)
  have HL := hid hL
  have H1 := hid (And.intro h1 hn)
  have H0 := hid hlo
  clear hr hL h1 hn hlo
  go_enter Try.func46, Try.ntmps46
  go_wp2_with fail
  refine HC.out.mono ?_
  rintro e w1 ⟨cap, rfl, hB, hs, hb⟩
  have hx1 : w1.heap.size = w.heap.size + 2 := hs
  have h0 : FlAt (w1.alloc (.cells (fl fl0 ++ puR l (some ⟨w.heap.size + 1, 0, none⟩) gs.length cap 0 false).toArray 133)) w1.heap.size fl0 (puR l (some ⟨w.heap.size + 1, 0, none⟩) gs.length cap 0 false) 133 := Blk.new w1 _ _
  have hq := below_one w1 (.cells (fl fl0 ++ puR l (some ⟨w.heap.size + 1, 0, none⟩) gs.length cap 0 false).toArray 133)
  have hL1 := (HL.out.quiet hb).quiet hq
  have hB1 := hB.quiet hq
  have hlow := hb.trans (hq.mono hb.size)
  have hlx : l ≠ w1.heap.size := Nat.ne_of_lt (HL.out.quiet hb).1.lt
  have hbx : w.heap.size + 1 < w1.heap.size := by omega
  rw [hx1] at h0 hlx hbx
  have HX := hid (And.intro hL1 (And.intro hB1 (And.intro hlow (And.intro hlx h0))))
  have HS := hid hx1
  clear hb hB hs hq hL1 hB1 hlow hlx h0 hbx
  go_wp2_with fail
  clear hx1
  refine (iof_run HX.out.2.2.2.2 who).mono ?_
  rintro e w2 ⟨rfl, hp, hK⟩
  have hL2 := HX.out.1.kept hK (by simpa using HX.out.2.2.2.1)
  have hB2 := row_kept2 HX.out.2.1 HX.out.2.2.2.2 hK
  have hlow2 := HX.out.2.2.1.trans (hK.below (by simp) (by have := HS.out; simp; omega))
  have HY := hid (And.intro hp (And.intro hL2 (And.intro hB2 hlow2)))
  clear hp hL2 hB2 hlow2 hK HX
  go_wp2_with fail
  refine (links_start (w.heap.size + 2) l w.heap.size P T G who (w.heap.size + 1) cap gs _ H1.out.1 H1.out.2 HY.out.2.2.1 HY.out.1 HY.out.2.1).mono ?_
  rintro e w3 ⟨⟨r, rfl⟩, h3, h4⟩
  have HZ := hid (show (qpS lo l P T G who gs).at_ w3 (w.heap.size + 2) (.ln 0) ∧ Below w.heap.size w w3 from ⟨⟨⟨(some ⟨w.heap.size + 1, 0, none⟩, cap), h3, (row_kept1 HY.out.2.2.1 HY.out.1 h4).lower H0.out, fun h => by cases h⟩, Nat.le_trans H0.out (by omega), HY.out.2.1.kept h4 (by have := Blk.lt (HL.out).1; simp; omega), H1.out.1⟩, HY.out.2.2.2.trans (h4.below (by simp) HY.out.2.2.2.size)⟩)
  clear h3 h4 HY
  go_wp2
  go_ret
  exact ⟨rfl, HZ.out⟩
end Go.Proofs.Ytnmkfmaohflejaa.Globq
