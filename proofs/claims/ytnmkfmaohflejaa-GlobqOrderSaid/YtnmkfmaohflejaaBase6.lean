/- Texts of mine, laid into one: Ring, RingB, Idlem, IdlemB, IdlemC, MapL. -/
import Derived.Test.YtnmkfmaohflejaaBase5
import Derived.Maps.OwnOps
import Derived.Maps.Views
section
/- Looking at a ring: a machine by its states. -/
set_option maxRecDepth 100000
set_option maxHeartbeats 4000000
set_option linter.unusedVariables false
set_option linter.unusedSimpArgs false
namespace Go.Proofs.Ytnmkfmaohflejaa.Ring
open Go.RowKit Go.Shelf Go.Proofs.Ytnmkfmaohflejaa.TK Go.Proofs.Ytnmkfmaohflejaa.Flag Go.Proofs.Ytnmkfmaohflejaa.Words Go.Proofs.Ytnmkfmaohflejaa.Mem Go.Proofs.Ytnmkfmaohflejaa.Flow Go.Proofs.Ytnmkfmaohflejaa.Layout Go.Proofs.Ytnmkfmaohflejaa.Lock Go.Proofs.Ytnmkfmaohflejaa.Run Go.Proofs.Ytnmkfmaohflejaa.Sys Go.Proofs.Ytnmkfmaohflejaa.Mach
def pr (P p f : Int) : Int := placeN true 20 p P 264 f 8
def lkR (l : Nat) (p a b c : Int) (d : Bool) : List Value := [.pointer (some ⟨l, 0, none⟩), .int .i64 p, .int .u64 a, .int .u64 b, .int .u64 c, .bool d]
inductive LkSt
  | h
  | t (a : Int)
  | n (a b : Int)
  | a (a b c : Int)
  | done (a b c : Int) (d : Bool)
def lkRest (l : Nat) (p : Int) : LkSt → List Value
  | .h => lkR l p 0 0 0 false
  | .t a => lkR l p a 0 0 false
  | .n a b => lkR l p a b 0 false
  | .a a b c => lkR l p a b c false
  | .done a b c d => lkR l p a b c d
def emptyOf (a b c v : Int) : Bool := (v == b) && (a == b) && (c == 0)
def lkNext (st : LkSt) (v : Int) : LkSt :=
  match st with
  | .h => .t v
  | .t a => .n a v
  | .n a b => .a a b v
  | .a a b c => .done a b c (emptyOf a b c v)
  | .done a b c d => .done a b c d
def LkSt.empty : LkSt → Bool
  | .done _ _ _ d => d
  | _ => false
section
variable (x l : Nat) (P T G who p a b c v : Int) (d : Bool) (w : World)
end
section
variable (lo l x m g : Nat) (P p T G who : Int) (st : LkSt) (s : St) (w : World)
end
end Go.Proofs.Ytnmkfmaohflejaa.Ring
end

section
/- The document's look at a ring; how many lie between. -/
set_option maxRecDepth 100000
set_option maxHeartbeats 4000000
set_option linter.unusedVariables false
set_option linter.unusedSimpArgs false
namespace Go.Proofs.Ytnmkfmaohflejaa.Ring
open Go.RowKit Go.Shelf Go.Proofs.Ytnmkfmaohflejaa.TK Go.Proofs.Ytnmkfmaohflejaa.Flag Go.Proofs.Ytnmkfmaohflejaa.Words Go.Proofs.Ytnmkfmaohflejaa.Mem Go.Proofs.Ytnmkfmaohflejaa.Flow Go.Proofs.Ytnmkfmaohflejaa.Layout Go.Proofs.Ytnmkfmaohflejaa.Lock Go.Proofs.Ytnmkfmaohflejaa.Run Go.Proofs.Ytnmkfmaohflejaa.Sys Go.Proofs.Ytnmkfmaohflejaa.Mach Go.Proofs.Ytnmkfmaohflejaa.Doc Go.Proofs.Ytnmkfmaohflejaa.Ref05
def manyOf (h t : Int) : Int := (t % 4294967296 + 4294967296 - h % 4294967296) % 4294967296
theorem many_run (h t : Int) (w : World) (hh : 0 ≤ h ∧ h < 18446744073709551616) (ht : 0 ≤ t ∧ t < 18446744073709551616) :
    Calls Try.prog 126 #[.int .u64 h, .int .u64 t] w fun e w' => e = .returned (.int .u64 (manyOf h t)) ∧ w = w' := by
  have e1 : h.tmod 4294967296 = h % 4294967296 := Int.tmod_eq_emod_of_nonneg hh.1
  have e2 : t.tmod 4294967296 = t % 4294967296 := Int.tmod_eq_emod_of_nonneg ht.1
  have e3 : (t % 4294967296 + 4294967296 - h % 4294967296).tmod 4294967296 = manyOf h t := Int.tmod_eq_emod_of_nonneg (by omega)
  have e4 : (t % 4294967296 + 4294967296 - h % 4294967296) % 4294967296 = manyOf h t := rfl
  obtain ⟨mo, hmo⟩ : ∃ mo, mo = manyOf h t := ⟨_, rfl⟩
  rw [← hmo] at e3 e4 ⊢
  clear hmo
  obtain ⟨a, ha⟩ : ∃ a, a = h % 4294967296 := ⟨_, rfl⟩
  obtain ⟨b, hb⟩ : ∃ b, b = t % 4294967296 := ⟨_, rfl⟩
  have ra : 0 ≤ a ∧ a < 4294967296 := by omega
  have rb : 0 ≤ b ∧ b < 4294967296 := by omega
  rw [← ha] at e1 e3 e4
  rw [← hb] at e2 e3 e4
  have ha' := ha.symm
  have hb' := hb.symm
  have w1 : IntKind.u64.wrap (b + 4294967296) = b + 4294967296 := by rw [IntKind.wrap_u64]; omega
  have w2 : IntKind.u64.wrap (b + 4294967296 - a) = b + 4294967296 - a := by rw [IntKind.wrap_u64]; omega
  clear ha hb
  go_enter Try.func126, Try.ntmps126
  go_wp2
  go_ret
  exact ⟨rfl, rfl⟩
/-- The words of a ring in which Head and Tail are alike. -/
theorem words0_run (l m g : Nat) (P T G p : Int) (s : St) (w : World) (hL : Lay w l P T G) (hM : MemAt w m g s) (h0 : manyOf (s.peek (pr P p 1)).1 (s.peek (pr P p 2)).1 = 0) (hr1 : 0 ≤ (s.peek (pr P p 1)).1 ∧ (s.peek (pr P p 1)).1 < 18446744073709551616) (hr2 : 0 ≤ (s.peek (pr P p 2)).1 ∧ (s.peek (pr P p 2)).1 < 18446744073709551616) :
    Calls Try.prog 125 #[.pointer (some ⟨l, 0, none⟩), .pointer (some ⟨m, 0, none⟩), .int .i64 p] w fun e w' => e = .returned (.tuple #[.slice none 0 0, .int .u64 (s.peek (pr P p 3)).1]) ∧ Below w.heap.size w w' := by
  have HI := hid (And.intro hL (And.intro hM (Below.refl w.heap.size w)))
  obtain ⟨p1, hp1⟩ : ∃ q, q = s.peek (pr P p 1) := ⟨_, rfl⟩
  obtain ⟨p2, hp2⟩ : ∃ q, q = s.peek (pr P p 2) := ⟨_, rfl⟩
  obtain ⟨p3, hp3⟩ : ∃ q, q = s.peek (pr P p 3) := ⟨_, rfl⟩
  rw [← hp1] at h0 hr1
  rw [← hp2] at h0 hr2
  rw [← hp3]
  have HP1 := hid hp1
  have HP2 := hid hp2
  have HP3 := hid hp3
  have H0 := hid h0
  have HR := hid (And.intro hr1 hr2)
  clear hL hM hp1 hp2 hp3 h0 hr1 hr2
  go_enter Try.func125, Try.ntmps125
  go_wp2_with (first | (go_at_call 83; refine (proc_run l P T G _ _ _ HI.out.1).mono ?_; rintro e w1 ⟨rfl, hb⟩; replace HI := hid (And.intro (HI.out.1.quiet hb) (And.intro (HI.out.2.1.quiet hb) (Below.then_ HI.out.2.2 hb))); clear hb) | (go_at_call 126; refine (many_run _ _ _ HR.out.1 HR.out.2).mono ?_; rintro e w1 ⟨rfl, rfl⟩; rw [H0.out]) | (go_at_call 16; refine (mpeek_run m g s _ _ HI.out.2.1).mono ?_; rintro e w1 ⟨rfl, rfl⟩; first | rw [show s.peek (placeN true 20 p P 264 1 8) = p1 from HP1.out.symm] | rw [show s.peek (placeN true 20 p P 264 2 8) = p2 from HP2.out.symm] | rw [show s.peek (placeN true 20 p P 264 3 8) = p3 from HP3.out.symm]))
  go_loopw [46, 14] (fun i o wr => i = .int .u64 0 ∧ o = .slice none 0 0 ∧ Below w.heap.size w wr) (fun _ _ _ => 0)
  case atStart => exact ⟨rfl, rfl, HI.out.2.2⟩
  case round =>
    clear HI
    obtain ⟨rfl, rfl, hlow⟩ := hrel
    go_wp2
    go_ret2
    exact ⟨rfl, hlow⟩
def s111 : St := fresh (layW (lenOf 1 1 1) [])
/-- A machine's and the memory's states behind n steps. -/
def after {σ : Type} (M : Rsys σ) (who : Int) (st : σ) (s : St) : Nat → σ × St
  | 0 => (st, s)
  | n + 1 => stepOf M who (after M who st s n).1 (after M who st s n).2
theorem step_clock {σ : Type} (M : Rsys σ) (who : Int) (st : σ) (s : St) : (stepOf M who st s).2.clock ≤ s.clock + 1 ∧ (stepOf M who st s).2.bad ≤ s.bad + 1 := by
  unfold stepOf
  split
  · exact ⟨by simp only; omega, by simp only; omega⟩
  · split
    · exact ⟨by simp only; omega, by simp only; omega⟩
    · exact acc_clock2 ..
theorem after_clock {σ : Type} (M : Rsys σ) (who : Int) (st : σ) (s : St) (n : Nat) : (after M who st s n).2.clock ≤ s.clock + n ∧ (after M who st s n).2.bad ≤ s.bad + n := by
  induction n with
  | zero => exact ⟨by simp [after], by simp [after]⟩
  | succ n ih =>
    have := step_clock M who (after M who st s n).1 (after M who st s n).2
    obtain ⟨i1, i2⟩ := ih
    exact ⟨by show (stepOf ..).2.clock ≤ _; omega, by show (stepOf ..).2.bad ≤ _; omega⟩
theorem few111 : FewP 1 1 1 := by unfold FewP Right; omega
end Go.Proofs.Ytnmkfmaohflejaa.Ring
end

section
/- The threads' list: putting one on it, getting one: machines by their states. -/
set_option maxRecDepth 100000
set_option maxHeartbeats 4000000
set_option linter.unusedVariables false
set_option linter.unusedSimpArgs false
namespace Go.Proofs.Ytnmkfmaohflejaa.Idlem
open Go.RowKit Go.Shelf Go.Proofs.Ytnmkfmaohflejaa.TK Go.Proofs.Ytnmkfmaohflejaa.Flag Go.Proofs.Ytnmkfmaohflejaa.Words Go.Proofs.Ytnmkfmaohflejaa.Mem Go.Proofs.Ytnmkfmaohflejaa.Flow Go.Proofs.Ytnmkfmaohflejaa.Layout Go.Proofs.Ytnmkfmaohflejaa.Lock Go.Proofs.Ytnmkfmaohflejaa.Run Go.Proofs.Ytnmkfmaohflejaa.Sys Go.Proofs.Ytnmkfmaohflejaa.Mach Go.Proofs.Ytnmkfmaohflejaa.Ref05
def mpR (l : Nat) (t : Int) : List Value := [.pointer (some ⟨l, 0, none⟩), .int .i64 t]
inductive MpSt
  | h
  | k (a : Int)
  | s
  | i
  | done
def mpNx (P T t : Int) : MpSt → Nx
  | .h => .load (wordN 11) 78
  | .k a => .store (th P T t 2) a 115
  | .s => .store (wordN 11) (t + 1) 138
  | .i => .add (wordN 12) 1 160
  | .done => .done
def mpNext (st : MpSt) (v : Int) : MpSt :=
  match st with
  | .h => .k v
  | .k _ => .s
  | .s => .i
  | .i => .done
  | .done => .done
def mpOk : MpSt → Prop
  | .k a => 0 ≤ a ∧ a < 18446744073709551616
  | _ => True
def mpM (l : Nat) (P T t : Int) : Mch MpSt := ⟨111, mpNx P T t, fun _ => mpR l t, mpNext, mpOk⟩
theorem mp_first_run (x l : Nat) (P T G who : Int) (t v : Int) (w : World)  (hp : Pend w x who (mpR l t) 111 .done) (hL : Lay w l P T G) :
    Calls Try.prog 78 #[.pointer (some ⟨x, 0, none⟩), .int .u64 v] w fun e w' => (∃ r, e = .returned r) ∧ Pend w' x who (mpR l t) 111 (.store (th P T t 2) v 115) ∧ Kept [x] w w' := by
  have HI := hid (MI.start hp hL).drew
  have hf := hp.idle.frozen
  (have y0 := hp.idle.rest 0; have y1 := hp.idle.rest 1; simp only [mpR, Nat.reduceAdd, Nat.zero_add, List.getElem?_cons_zero, List.getElem?_cons_succ] at y0 y1)
  clear hp hL
  go_enter Try.func78, Try.ntmps78
  go_wp2_with fail
  refine wp_region_T 15 (fun w' => MI w w' x who (mpR l t) 111 l P T G) (fun w' => Pend w' x who (mpR l t) 111 (.store (th P T t 2) v 115) ∧ Kept [x] w w') (by kernel_rfl) (by kernel_rfl) rfl (by kernel_rfl) HI.out ?_
  clear HI
  (repeat (first | (apply walkD_pure; rfl; rfl; (intro _; go_simp; first | done | rfl); (intro K hK; go_simp; refine hK _ ?_; clear hK K)) | (apply walkD_skip; rfl; rfl; (intro K hK; go_simp; refine hK _ ?_; clear hK K)) | (apply walkD_read1 [false] (by kernel_rfl); rfl; rfl; (intro w' hD; (have y0 := hD.pend.idle.rest 0; have y1 := hD.pend.idle.rest 1; simp only [mpR, Nat.reduceAdd, Nat.zero_add, List.getElem?_cons_zero, List.getElem?_cons_succ] at y0 y1); go_simp; rfl); (intro K hK; go_simp; refine hK _ ?_; clear hK K)) | (apply walkD_call1 [false] (by kernel_rfl); rfl; (intro _; go_simp; first | rfl | exact ⟨rfl, rfl⟩); (intro w' hD; first | (go_at_call 83; refine (proc_run _ _ _ _ _ _ _ hD.lay).mono ?_; rintro e w2 ⟨rfl, hb⟩; exact ⟨rfl, hD.quiet hb⟩) | (go_at_call 114; refine (thread_run _ _ _ _ _ _ _ hD.lay).mono ?_; rintro e w2 ⟨rfl, hb⟩; exact ⟨rfl, hD.quiet hb⟩) | (go_at_call 148; refine (ring_run _ _ _ _ _ _ (by assumption) _ hD.lay).mono ?_; rintro e w2 ⟨rfl, hb⟩; exact ⟨rfl, hD.quiet hb⟩) | (go_at_call 88; refine (g_run _ _ _ _ _ _ _ hD.lay).mono ?_; rintro e w2 ⟨rfl, hb⟩; exact ⟨rfl, hD.quiet hb⟩) | (go_at_call 77; refine (word_run _ 0 0 0 _ _).mono ?_; rintro e w2 ⟨rfl, rfl⟩; exact ⟨rfl, hD⟩) | (go_at_call 76; refine (iload_run hD.pend.idle _ _).mono ?_; rintro e w2 ⟨rfl, hP, hK⟩; exact ⟨rfl, hP, hD.kept.trans hK (by intro i hi; exact .inl hi)⟩) | (go_at_call 69; refine (iadd_run hD.pend.idle _ _ _).mono ?_; rintro e w2 ⟨rfl, hP, hK⟩; exact ⟨rfl, hP, hD.kept.trans hK (by intro i hi; exact .inl hi)⟩) | (go_at_call 73; refine (istore_run hD.pend.idle _ _ _).mono ?_; rintro e w2 ⟨rfl, hP, hK⟩; exact ⟨rfl, hP, hD.kept.trans hK (by intro i hi; exact .inl hi)⟩) | (go_at_call 151; refine (iswap_run hD.pend.idle _ _ _ _).mono ?_; rintro e w2 ⟨rfl, hP, hK⟩; exact ⟨rfl, hP, hD.kept.trans hK (by intro i hi; exact .inl hi)⟩)); (intro K hK; go_simp; refine hK _ ?_; clear hK K))))
  (rintro w2 ⟨h1, h2⟩; go_wp2; go_returns; exact ⟨⟨_, rfl⟩, h1, h2⟩)
theorem mp_linked_run (x l : Nat) (P T G who : Int) (t : Int) (w : World) (ht : 0 ≤ t ∧ t ≤ 1000000) (hp : Pend w x who (mpR l t) 111 .done) (hL : Lay w l P T G) :
    Calls Try.prog 115 #[.pointer (some ⟨x, 0, none⟩)] w fun e w' => (∃ r, e = .returned r) ∧ Pend w' x who (mpR l t) 111 (.store (wordN 11) (t + 1) 138) ∧ Kept [x] w w' := by
  have n1 : IntKind.u64.wrap t = t := by rw [IntKind.wrap_u64]; omega
  have n2 : IntKind.u64.wrap (t + 1) = t + 1 := by rw [IntKind.wrap_u64]; omega
  have HI := hid (MI.start hp hL).drew
  have hf := hp.idle.frozen
  (have y0 := hp.idle.rest 0; have y1 := hp.idle.rest 1; simp only [mpR, Nat.reduceAdd, Nat.zero_add, List.getElem?_cons_zero, List.getElem?_cons_succ] at y0 y1)
  clear hp hL
  go_enter Try.func115, Try.ntmps115
  go_wp2_with fail
  refine wp_region_T 16 (fun w' => MI w w' x who (mpR l t) 111 l P T G) (fun w' => Pend w' x who (mpR l t) 111 (.store (wordN 11) (t + 1) 138) ∧ Kept [x] w w') (by kernel_rfl) (by kernel_rfl) rfl (by kernel_rfl) HI.out ?_
  clear HI
  (repeat (first | (apply walkD_pure; rfl; rfl; (intro _; go_simp; first | done | rfl); (intro K hK; go_simp; refine hK _ ?_; clear hK K)) | (apply walkD_skip; rfl; rfl; (intro K hK; go_simp; refine hK _ ?_; clear hK K)) | (apply walkD_read1 [false] (by kernel_rfl); rfl; rfl; (intro w' hD; (have y0 := hD.pend.idle.rest 0; have y1 := hD.pend.idle.rest 1; simp only [mpR, Nat.reduceAdd, Nat.zero_add, List.getElem?_cons_zero, List.getElem?_cons_succ] at y0 y1); go_simp; rfl); (intro K hK; go_simp; refine hK _ ?_; clear hK K)) | (apply walkD_call1 [false] (by kernel_rfl); rfl; (intro _; go_simp; first | rfl | exact ⟨rfl, rfl⟩); (intro w' hD; first | (go_at_call 83; refine (proc_run _ _ _ _ _ _ _ hD.lay).mono ?_; rintro e w2 ⟨rfl, hb⟩; exact ⟨rfl, hD.quiet hb⟩) | (go_at_call 114; refine (thread_run _ _ _ _ _ _ _ hD.lay).mono ?_; rintro e w2 ⟨rfl, hb⟩; exact ⟨rfl, hD.quiet hb⟩) | (go_at_call 148; refine (ring_run _ _ _ _ _ _ (by assumption) _ hD.lay).mono ?_; rintro e w2 ⟨rfl, hb⟩; exact ⟨rfl, hD.quiet hb⟩) | (go_at_call 88; refine (g_run _ _ _ _ _ _ _ hD.lay).mono ?_; rintro e w2 ⟨rfl, hb⟩; exact ⟨rfl, hD.quiet hb⟩) | (go_at_call 77; refine (word_run _ 0 0 0 _ _).mono ?_; rintro e w2 ⟨rfl, rfl⟩; exact ⟨rfl, hD⟩) | (go_at_call 76; refine (iload_run hD.pend.idle _ _).mono ?_; rintro e w2 ⟨rfl, hP, hK⟩; exact ⟨rfl, hP, hD.kept.trans hK (by intro i hi; exact .inl hi)⟩) | (go_at_call 69; refine (iadd_run hD.pend.idle _ _ _).mono ?_; rintro e w2 ⟨rfl, hP, hK⟩; exact ⟨rfl, hP, hD.kept.trans hK (by intro i hi; exact .inl hi)⟩) | (go_at_call 73; refine (istore_run hD.pend.idle _ _ _).mono ?_; rintro e w2 ⟨rfl, hP, hK⟩; exact ⟨rfl, hP, hD.kept.trans hK (by intro i hi; exact .inl hi)⟩) | (go_at_call 151; refine (iswap_run hD.pend.idle _ _ _ _).mono ?_; rintro e w2 ⟨rfl, hP, hK⟩; exact ⟨rfl, hP, hD.kept.trans hK (by intro i hi; exact .inl hi)⟩)); (intro K hK; go_simp; refine hK _ ?_; clear hK K))))
  (rintro w2 ⟨h1, h2⟩; go_wp2; go_returns; exact ⟨⟨_, rfl⟩, h1, h2⟩)
theorem mp_lies_run (x l : Nat) (P T G who : Int) (t : Int) (w : World)  (hp : Pend w x who (mpR l t) 111 .done) (hL : Lay w l P T G) :
    Calls Try.prog 138 #[.pointer (some ⟨x, 0, none⟩)] w fun e w' => (∃ r, e = .returned r) ∧ Pend w' x who (mpR l t) 111 (.add (wordN 12) 1 160) ∧ Kept [x] w w' := by
  have HI := hid (MI.start hp hL).drew
  have hf := hp.idle.frozen
  (have y0 := hp.idle.rest 0; have y1 := hp.idle.rest 1; simp only [mpR, Nat.reduceAdd, Nat.zero_add, List.getElem?_cons_zero, List.getElem?_cons_succ] at y0 y1)
  clear hp hL
  go_enter Try.func138, Try.ntmps138
  go_wp2_with fail
  refine wp_region_T 10 (fun w' => MI w w' x who (mpR l t) 111 l P T G) (fun w' => Pend w' x who (mpR l t) 111 (.add (wordN 12) 1 160) ∧ Kept [x] w w') (by kernel_rfl) (by kernel_rfl) rfl (by kernel_rfl) HI.out ?_
  clear HI
  (repeat (first | (apply walkD_pure; rfl; rfl; (intro _; go_simp; first | done | rfl); (intro K hK; go_simp; refine hK _ ?_; clear hK K)) | (apply walkD_skip; rfl; rfl; (intro K hK; go_simp; refine hK _ ?_; clear hK K)) | (apply walkD_read1 [false] (by kernel_rfl); rfl; rfl; (intro w' hD; (have y0 := hD.pend.idle.rest 0; have y1 := hD.pend.idle.rest 1; simp only [mpR, Nat.reduceAdd, Nat.zero_add, List.getElem?_cons_zero, List.getElem?_cons_succ] at y0 y1); go_simp; rfl); (intro K hK; go_simp; refine hK _ ?_; clear hK K)) | (apply walkD_call1 [false] (by kernel_rfl); rfl; (intro _; go_simp; first | rfl | exact ⟨rfl, rfl⟩); (intro w' hD; first | (go_at_call 83; refine (proc_run _ _ _ _ _ _ _ hD.lay).mono ?_; rintro e w2 ⟨rfl, hb⟩; exact ⟨rfl, hD.quiet hb⟩) | (go_at_call 114; refine (thread_run _ _ _ _ _ _ _ hD.lay).mono ?_; rintro e w2 ⟨rfl, hb⟩; exact ⟨rfl, hD.quiet hb⟩) | (go_at_call 148; refine (ring_run _ _ _ _ _ _ (by assumption) _ hD.lay).mono ?_; rintro e w2 ⟨rfl, hb⟩; exact ⟨rfl, hD.quiet hb⟩) | (go_at_call 88; refine (g_run _ _ _ _ _ _ _ hD.lay).mono ?_; rintro e w2 ⟨rfl, hb⟩; exact ⟨rfl, hD.quiet hb⟩) | (go_at_call 77; refine (word_run _ 0 0 0 _ _).mono ?_; rintro e w2 ⟨rfl, rfl⟩; exact ⟨rfl, hD⟩) | (go_at_call 76; refine (iload_run hD.pend.idle _ _).mono ?_; rintro e w2 ⟨rfl, hP, hK⟩; exact ⟨rfl, hP, hD.kept.trans hK (by intro i hi; exact .inl hi)⟩) | (go_at_call 69; refine (iadd_run hD.pend.idle _ _ _).mono ?_; rintro e w2 ⟨rfl, hP, hK⟩; exact ⟨rfl, hP, hD.kept.trans hK (by intro i hi; exact .inl hi)⟩) | (go_at_call 73; refine (istore_run hD.pend.idle _ _ _).mono ?_; rintro e w2 ⟨rfl, hP, hK⟩; exact ⟨rfl, hP, hD.kept.trans hK (by intro i hi; exact .inl hi)⟩) | (go_at_call 151; refine (iswap_run hD.pend.idle _ _ _ _).mono ?_; rintro e w2 ⟨rfl, hP, hK⟩; exact ⟨rfl, hP, hD.kept.trans hK (by intro i hi; exact .inl hi)⟩)); (intro K hK; go_simp; refine hK _ ?_; clear hK K))))
  (rintro w2 ⟨h1, h2⟩; go_wp2; go_returns; exact ⟨⟨_, rfl⟩, h1, h2⟩)
theorem mp_ends_run (x l : Nat) (P T G who : Int) (t v : Int) (w : World)  (hp : Pend w x who (mpR l t) 111 .done) (hL : Lay w l P T G) :
    Calls Try.prog 160 #[.pointer (some ⟨x, 0, none⟩), .int .u64 v] w fun e w' => (∃ r, e = .returned r) ∧ Pend w' x who (mpR l t) 111 (.done) ∧ Kept [x] w w' := by
  have HI := hid (MI.start hp hL)
  have hf := hp.idle.frozen
  (have y0 := hp.idle.rest 0; have y1 := hp.idle.rest 1; simp only [mpR, Nat.reduceAdd, Nat.zero_add, List.getElem?_cons_zero, List.getElem?_cons_succ] at y0 y1)
  clear hp hL
  go_enter Try.func160, Try.ntmps160
  go_wp2
  go_returns
  exact ⟨⟨_, rfl⟩, HI.out.pend, HI.out.kept⟩
theorem mp_new_run (l : Nat) (P T G who : Int) (t : Int) (w : World) (hL : Lay w l P T G) :
    Calls Try.prog 19 #[.pointer (some ⟨l, 0, none⟩), .int .i64 who, .int .i64 t] w fun e w' => e = .returned (.pointer (some ⟨w.heap.size, 0, none⟩)) ∧ Pend w' w.heap.size who (mpR l t) 111 (.load (wordN 11) 78) ∧ Below w.heap.size w w' := by
  have h0 : FlAt (w.alloc (.cells (fl fl0 ++ mpR l t).toArray 111)) w.heap.size fl0 (mpR l t) 111 := Blk.new w _ _
  have hL0 := hL.quiet (below_one w (.cells (fl fl0 ++ mpR l t).toArray 111))
  have hlx : l ≠ w.heap.size := Nat.ne_of_lt hL.1.lt
  clear hL
  go_enter Try.func19, Try.ntmps19
  go_wp2_with fail
  refine (iof_run h0 who).mono ?_
  rintro e w1 ⟨rfl, hp, hK⟩
  have hL1 := hL0.kept hK (by simpa using hlx)
  have hlow : Below w.heap.size w w1 := (below_one _ _).trans (hK.below (by simp) (by simp))
  have HI := hid (MI.start hp hL1).drew
  clear h0 hL0 hp hL1 hK
  go_wp2_with fail
  refine wp_region_T 7 (fun w' => MI w1 w' w.heap.size who (mpR l t) 111 l P T G) (fun w' => Pend w' w.heap.size who (mpR l t) 111 (.load (wordN 11) 78) ∧ Kept [w.heap.size] w1 w') (by kernel_rfl) (by kernel_rfl) rfl (by kernel_rfl) HI.out ?_
  clear HI
  (repeat (first | (apply walkD_pure; rfl; rfl; (intro _; go_simp; first | done | rfl); (intro K hK; go_simp; refine hK _ ?_; clear hK K)) | (apply walkD_skip; rfl; rfl; (intro K hK; go_simp; refine hK _ ?_; clear hK K)) | (apply walkD_read1 [false] (by kernel_rfl); rfl; rfl; (intro w' hD; (have y0 := hD.pend.idle.rest 0; have y1 := hD.pend.idle.rest 1; simp only [mpR, Nat.reduceAdd, Nat.zero_add, List.getElem?_cons_zero, List.getElem?_cons_succ] at y0 y1); go_simp; rfl); (intro K hK; go_simp; refine hK _ ?_; clear hK K)) | (apply walkD_call1 [false] (by kernel_rfl); rfl; (intro _; go_simp; first | rfl | exact ⟨rfl, rfl⟩); (intro w' hD; first | (go_at_call 83; refine (proc_run _ _ _ _ _ _ _ hD.lay).mono ?_; rintro e w2 ⟨rfl, hb⟩; exact ⟨rfl, hD.quiet hb⟩) | (go_at_call 114; refine (thread_run _ _ _ _ _ _ _ hD.lay).mono ?_; rintro e w2 ⟨rfl, hb⟩; exact ⟨rfl, hD.quiet hb⟩) | (go_at_call 148; refine (ring_run _ _ _ _ _ _ (by assumption) _ hD.lay).mono ?_; rintro e w2 ⟨rfl, hb⟩; exact ⟨rfl, hD.quiet hb⟩) | (go_at_call 88; refine (g_run _ _ _ _ _ _ _ hD.lay).mono ?_; rintro e w2 ⟨rfl, hb⟩; exact ⟨rfl, hD.quiet hb⟩) | (go_at_call 77; refine (word_run _ 0 0 0 _ _).mono ?_; rintro e w2 ⟨rfl, rfl⟩; exact ⟨rfl, hD⟩) | (go_at_call 76; refine (iload_run hD.pend.idle _ _).mono ?_; rintro e w2 ⟨rfl, hP, hK⟩; exact ⟨rfl, hP, hD.kept.trans hK (by intro i hi; exact .inl hi)⟩) | (go_at_call 69; refine (iadd_run hD.pend.idle _ _ _).mono ?_; rintro e w2 ⟨rfl, hP, hK⟩; exact ⟨rfl, hP, hD.kept.trans hK (by intro i hi; exact .inl hi)⟩) | (go_at_call 73; refine (istore_run hD.pend.idle _ _ _).mono ?_; rintro e w2 ⟨rfl, hP, hK⟩; exact ⟨rfl, hP, hD.kept.trans hK (by intro i hi; exact .inl hi)⟩) | (go_at_call 151; refine (iswap_run hD.pend.idle _ _ _ _).mono ?_; rintro e w2 ⟨rfl, hP, hK⟩; exact ⟨rfl, hP, hD.kept.trans hK (by intro i hi; exact .inl hi)⟩)); (intro K hK; go_simp; refine hK _ ?_; clear hK K))))
  rintro w2 ⟨h1, h2⟩
  go_wp2
  go_ret
  exact ⟨rfl, h1, hlow.trans (h2.below (by simp) hlow.size)⟩
theorem mp_goes (l x : Nat) (P T t G who : Int) (ht : 0 ≤ t ∧ t ≤ 1000000) : Goes (mpM l P T t) l x P T G who := by
  refine ⟨by show ∀ T ∈ ownT 111, _; decide, by show 111 ≠ _ ∧ 111 ≠ _ ∧ 111 ≠ _; decide, ?_, ?_, ?_, ?_⟩
  · intro st hok
    cases st with
    | k a => exact hok
    | s => simp [mpM, mpNx, Nx.val]; omega
    | h => simp [mpM, mpNx, Nx.val]
    | i => simp [mpM, mpNx, Nx.val]
    | done => simp [mpM, mpNx, Nx.val]
  · intro st a hok ha
    cases st <;> first | exact ha | trivial
  · intro st hst
    cases st with
    | h => exact enters_of Try.func78 (by kernel_rfl) rfl
    | k a => exact enters_of Try.func115 (by kernel_rfl) rfl
    | s => exact enters_of Try.func138 (by kernel_rfl) rfl
    | i => exact enters_of Try.func160 (by kernel_rfl) rfl
    | done => exact absurd rfl hst
  · intro st v w hst hok hv hp hL
    cases st with
    | h => exact mp_first_run x l P T G who t v w hp hL
    | k a => exact mp_linked_run x l P T G who t w ht hp hL
    | s => exact mp_lies_run x l P T G who t w hp hL
    | i => exact mp_ends_run x l P T G who t v w hp hL
    | done => exact absurd rfl hst
theorem mpstep_run (lo l x m g : Nat) (P T G who : Int) (t : Int) {st : _} {s : St} {w : World} (hgo : Goes (mpM l P T t) l x P T G who) (hA : Mch.at_ (mpM l P T t) lo l x P T G who w st) (hM : MemAt w m g s) (hc : s.clock < 1000000) (hbd : s.bad < 1000000) :
    Calls Try.prog 20 #[.pointer (some ⟨x, 0, none⟩), .pointer (some ⟨m, 0, none⟩)] w fun e w' => (∃ b, e = .returned (.bool b)) ∧ Mch.at_ (mpM l P T t) lo l x P T G who w' (stepOf (Mch.sys (mpM l P T t)) who st s).1 ∧ MemAt w' m g (stepOf (Mch.sys (mpM l P T t)) who st s).2 ∧ KeptOwn (ownT 111) lo m g w w' := by
  obtain ⟨cs, hb⟩ := hA.1.blk
  have h2 := hA.2.1
  have H := hid (mch_fstep hgo hA hM hc hbd)
  have HK := hid (fun (w' : World) (hK : Kept [x, m, g] w w') => mch_kept (K := mpM l P T t) h2 hb hK)
  clear hA hM hb hgo
  obtain ⟨q, hq⟩ : ∃ q, q = stepOf (Mch.sys (mpM l P T t)) who st s := ⟨_, rfl⟩
  rw [← hq] at H ⊢
  obtain ⟨o, ho⟩ : ∃ o, o = (Mch.nx (mpM l P T t) q.1).over := ⟨_, rfl⟩
  rw [← ho] at H
  clear hq ho
  go_enter Try.func20, Try.ntmps20
  go_wp2_with fail
  refine H.out.mono ?_
  rintro e w1 ⟨rfl, h1, h2, h3⟩
  have HX := hid (And.intro h1 (And.intro h2 (HK.out w1 h3)))
  clear h1 h2 h3
  go_wp2
  go_ret
  exact ⟨⟨_, rfl⟩, HX.out⟩
theorem mpstep_nil (m : Option Addr) (w : World) : Calls Try.prog 20 #[.pointer none, .pointer m] w fun e w' => e = .returned (.bool true) ∧ w = w' := by
  go_enter Try.func20, Try.ntmps20
  go_wp2
  go_ret
  exact ⟨rfl, rfl⟩
def mgR (l : Nat) (a t : Int) : List Value := [.pointer (some ⟨l, 0, none⟩), .int .u64 a, .int .i64 t]
/-- The number that a word tells of. -/
def nOf (a : Int) : Int := IntKind.i64.wrap (IntKind.i64.wrap a - 1)
inductive MgSt
  | h
  | sec (a : Int)
  | mid (a b : Int)
  | inc (a : Int)
  | more
  | mk (a : Int)
  | got (a : Int)
  | none
def mgNx (P T : Int) : MgSt → Nx
  | .h => .load (wordN 11) 79
  | .sec a => .load (th P T (nOf a) 2) 117
  | .mid _ b => .store (wordN 11) b 140
  | .inc _ => .add (wordN 12) 4294967295 161
  | .more => .load (wordN 15) 116
  | .mk a => .store (wordN 15) a 139
  | .got _ => .done
  | .none => .done
def mgRest (l : Nat) : MgSt → List Value
  | .h => mgR l 0 (-1)
  | .sec a => mgR l a (-1)
  | .mid a _ => mgR l a (-1)
  | .inc a => mgR l a (nOf a)
  | .more => mgR l 0 (-1)
  | .mk a => mgR l a (-1)
  | .got a => mgR l a (nOf a)
  | .none => mgR l 0 (-1)
def mgNext (T : Int) (st : MgSt) (v : Int) : MgSt :=
  match st with
  | .h => if v = 0 then .more else .sec v
  | .sec a => .mid a v
  | .mid a _ => .inc a
  | .inc a => .got a
  | .more => if v < T then .mk (v + 1) else .none
  | .mk a => .got a
  | .got a => .got a
  | .none => .none
def MgSt.t : MgSt → Int
  | .inc a => nOf a
  | .got a => nOf a
  | _ => -1
def mgOk : MgSt → Prop
  | .sec a => a ≠ 0 ∧ 0 ≤ a ∧ a < 18446744073709551616
  | .mid a b => (a ≠ 0 ∧ 0 ≤ a ∧ a < 18446744073709551616) ∧ 0 ≤ b ∧ b < 18446744073709551616
  | .inc a => 0 ≤ a ∧ a < 18446744073709551616
  | .mk a => 0 ≤ a ∧ a < 18446744073709551616
  | .got a => 0 ≤ a ∧ a < 18446744073709551616
  | _ => True
def mgM (l : Nat) (P T : Int) : Mch MgSt := ⟨114, mgNx P T, mgRest l, mgNext T, mgOk⟩
theorem mg_first0_run (x l : Nat) (P T G who : Int) (a t : Int) (w : World)  (hp : Pend w x who (mgR l a t) 114 .done) (hL : Lay w l P T G) :
    Calls Try.prog 79 #[.pointer (some ⟨x, 0, none⟩), .int .u64 0] w fun e w' => (∃ r, e = .returned r) ∧ Pend w' x who (mgR l 0 t) 114 (.load (wordN 15) 116) ∧ Kept [x] w w' := by
  have HI := hid ((MI.start hp hL).put (by decide) 1 (.int .u64 0)).drew
  have hf := hp.idle.frozen
  (have y0 := hp.idle.rest 0; have y1 := hp.idle.rest 1; have y2 := hp.idle.rest 2; simp only [mgR, Nat.reduceAdd, Nat.zero_add, List.getElem?_cons_zero, List.getElem?_cons_succ] at y0 y1 y2)
  clear hp hL
  go_enter Try.func79, Try.ntmps79
  go_wp2_with fail
  refine wp_region_T 10 (fun w' => MI w w' x who (mgR l 0 t) 114 l P T G) (fun w' => Pend w' x who (mgR l 0 t) 114 (.load (wordN 15) 116) ∧ Kept [x] w w') (by kernel_rfl) (by kernel_rfl) rfl (by kernel_rfl) HI.out ?_
  clear HI
  (repeat (first | (apply walkD_pure; rfl; rfl; (intro _; go_simp; first | done | rfl); (intro K hK; go_simp; refine hK _ ?_; clear hK K)) | (apply walkD_skip; rfl; rfl; (intro K hK; go_simp; refine hK _ ?_; clear hK K)) | (apply walkD_read1 [false] (by kernel_rfl); rfl; rfl; (intro w' hD; (have y0 := hD.pend.idle.rest 0; have y1 := hD.pend.idle.rest 1; have y2 := hD.pend.idle.rest 2; simp only [mgR, Nat.reduceAdd, Nat.zero_add, List.getElem?_cons_zero, List.getElem?_cons_succ] at y0 y1 y2); go_simp; rfl); (intro K hK; go_simp; refine hK _ ?_; clear hK K)) | (apply walkD_call1 [false] (by kernel_rfl); rfl; (intro _; go_simp; first | rfl | exact ⟨rfl, rfl⟩); (intro w' hD; first | (go_at_call 83; refine (proc_run _ _ _ _ _ _ _ hD.lay).mono ?_; rintro e w2 ⟨rfl, hb⟩; exact ⟨rfl, hD.quiet hb⟩) | (go_at_call 114; refine (thread_run _ _ _ _ _ _ _ hD.lay).mono ?_; rintro e w2 ⟨rfl, hb⟩; exact ⟨rfl, hD.quiet hb⟩) | (go_at_call 148; refine (ring_run _ _ _ _ _ _ (by assumption) _ hD.lay).mono ?_; rintro e w2 ⟨rfl, hb⟩; exact ⟨rfl, hD.quiet hb⟩) | (go_at_call 88; refine (g_run _ _ _ _ _ _ _ hD.lay).mono ?_; rintro e w2 ⟨rfl, hb⟩; exact ⟨rfl, hD.quiet hb⟩) | (go_at_call 77; refine (word_run _ 0 0 0 _ _).mono ?_; rintro e w2 ⟨rfl, rfl⟩; exact ⟨rfl, hD⟩) | (go_at_call 76; refine (iload_run hD.pend.idle _ _).mono ?_; rintro e w2 ⟨rfl, hP, hK⟩; exact ⟨rfl, hP, hD.kept.trans hK (by intro i hi; exact .inl hi)⟩) | (go_at_call 69; refine (iadd_run hD.pend.idle _ _ _).mono ?_; rintro e w2 ⟨rfl, hP, hK⟩; exact ⟨rfl, hP, hD.kept.trans hK (by intro i hi; exact .inl hi)⟩) | (go_at_call 73; refine (istore_run hD.pend.idle _ _ _).mono ?_; rintro e w2 ⟨rfl, hP, hK⟩; exact ⟨rfl, hP, hD.kept.trans hK (by intro i hi; exact .inl hi)⟩) | (go_at_call 151; refine (iswap_run hD.pend.idle _ _ _ _).mono ?_; rintro e w2 ⟨rfl, hP, hK⟩; exact ⟨rfl, hP, hD.kept.trans hK (by intro i hi; exact .inl hi)⟩)); (intro K hK; go_simp; refine hK _ ?_; clear hK K))))
  (rintro w2 ⟨h1, h2⟩; go_wp2; go_returns; exact ⟨⟨_, rfl⟩, h1, h2⟩)
theorem mg_first1_run (x l : Nat) (P T G who : Int) (a t v : Int) (w : World) (hv : v ≠ 0) (hp : Pend w x who (mgR l a t) 114 .done) (hL : Lay w l P T G) :
    Calls Try.prog 79 #[.pointer (some ⟨x, 0, none⟩), .int .u64 v] w fun e w' => (∃ r, e = .returned r) ∧ Pend w' x who (mgR l v t) 114 (.load (th P T (nOf v) 2) 117) ∧ Kept [x] w w' := by
  have h0 : ((v : Int) == 0) = false := by simp [hv]
  have n1 : IntKind.i64.wrap (IntKind.i64.wrap v - 1) = nOf v := rfl
  have n2 : wrap64 (wrap64 v - 1) = nOf v := by unfold nOf; simp only [IntWalk.i64_left]
  have HI := hid ((MI.start hp hL).put (by decide) 1 (.int .u64 v)).drew
  have hf := hp.idle.frozen
  (have y0 := hp.idle.rest 0; have y1 := hp.idle.rest 1; have y2 := hp.idle.rest 2; simp only [mgR, Nat.reduceAdd, Nat.zero_add, List.getElem?_cons_zero, List.getElem?_cons_succ] at y0 y1 y2)
  clear hp hL
  go_enter Try.func79, Try.ntmps79
  go_wp2_with fail
  refine wp_region_T 13 (fun w' => MI w w' x who (mgR l v t) 114 l P T G) (fun w' => Pend w' x who (mgR l v t) 114 (.load (th P T (nOf v) 2) 117) ∧ Kept [x] w w') (by kernel_rfl) (by kernel_rfl) rfl (by kernel_rfl) HI.out ?_
  clear HI
  (repeat (first | (apply walkD_pure; rfl; rfl; (intro _; go_simp; first | done | rfl); (intro K hK; go_simp; refine hK _ ?_; clear hK K)) | (apply walkD_skip; rfl; rfl; (intro K hK; go_simp; refine hK _ ?_; clear hK K)) | (apply walkD_read1 [false] (by kernel_rfl); rfl; rfl; (intro w' hD; (have y0 := hD.pend.idle.rest 0; have y1 := hD.pend.idle.rest 1; have y2 := hD.pend.idle.rest 2; simp only [mgR, Nat.reduceAdd, Nat.zero_add, List.getElem?_cons_zero, List.getElem?_cons_succ] at y0 y1 y2); go_simp; rfl); (intro K hK; go_simp; refine hK _ ?_; clear hK K)) | (apply walkD_call1 [false] (by kernel_rfl); rfl; (intro _; go_simp; first | rfl | exact ⟨rfl, rfl⟩); (intro w' hD; first | (go_at_call 83; refine (proc_run _ _ _ _ _ _ _ hD.lay).mono ?_; rintro e w2 ⟨rfl, hb⟩; exact ⟨rfl, hD.quiet hb⟩) | (go_at_call 114; refine (thread_run _ _ _ _ _ _ _ hD.lay).mono ?_; rintro e w2 ⟨rfl, hb⟩; exact ⟨rfl, hD.quiet hb⟩) | (go_at_call 148; refine (ring_run _ _ _ _ _ _ (by assumption) _ hD.lay).mono ?_; rintro e w2 ⟨rfl, hb⟩; exact ⟨rfl, hD.quiet hb⟩) | (go_at_call 88; refine (g_run _ _ _ _ _ _ _ hD.lay).mono ?_; rintro e w2 ⟨rfl, hb⟩; exact ⟨rfl, hD.quiet hb⟩) | (go_at_call 77; refine (word_run _ 0 0 0 _ _).mono ?_; rintro e w2 ⟨rfl, rfl⟩; exact ⟨rfl, hD⟩) | (go_at_call 76; refine (iload_run hD.pend.idle _ _).mono ?_; rintro e w2 ⟨rfl, hP, hK⟩; exact ⟨rfl, hP, hD.kept.trans hK (by intro i hi; exact .inl hi)⟩) | (go_at_call 69; refine (iadd_run hD.pend.idle _ _ _).mono ?_; rintro e w2 ⟨rfl, hP, hK⟩; exact ⟨rfl, hP, hD.kept.trans hK (by intro i hi; exact .inl hi)⟩) | (go_at_call 73; refine (istore_run hD.pend.idle _ _ _).mono ?_; rintro e w2 ⟨rfl, hP, hK⟩; exact ⟨rfl, hP, hD.kept.trans hK (by intro i hi; exact .inl hi)⟩) | (go_at_call 151; refine (iswap_run hD.pend.idle _ _ _ _).mono ?_; rintro e w2 ⟨rfl, hP, hK⟩; exact ⟨rfl, hP, hD.kept.trans hK (by intro i hi; exact .inl hi)⟩)); (intro K hK; go_simp; refine hK _ ?_; clear hK K))))
  (rintro w2 ⟨h1, h2⟩; go_wp2; go_returns; exact ⟨⟨_, rfl⟩, h1, h2⟩)
theorem mg_second_run (x l : Nat) (P T G who : Int) (a t v : Int) (w : World)  (hp : Pend w x who (mgR l a t) 114 .done) (hL : Lay w l P T G) :
    Calls Try.prog 117 #[.pointer (some ⟨x, 0, none⟩), .int .u64 v] w fun e w' => (∃ r, e = .returned r) ∧ Pend w' x who (mgR l a t) 114 (.store (wordN 11) v 140) ∧ Kept [x] w w' := by
  have HI := hid (MI.start hp hL).drew
  have hf := hp.idle.frozen
  (have y0 := hp.idle.rest 0; have y1 := hp.idle.rest 1; have y2 := hp.idle.rest 2; simp only [mgR, Nat.reduceAdd, Nat.zero_add, List.getElem?_cons_zero, List.getElem?_cons_succ] at y0 y1 y2)
  clear hp hL
  go_enter Try.func117, Try.ntmps117
  go_wp2_with fail
  refine wp_region_T 11 (fun w' => MI w w' x who (mgR l a t) 114 l P T G) (fun w' => Pend w' x who (mgR l a t) 114 (.store (wordN 11) v 140) ∧ Kept [x] w w') (by kernel_rfl) (by kernel_rfl) rfl (by kernel_rfl) HI.out ?_
  clear HI
  (repeat (first | (apply walkD_pure; rfl; rfl; (intro _; go_simp; first | done | rfl); (intro K hK; go_simp; refine hK _ ?_; clear hK K)) | (apply walkD_skip; rfl; rfl; (intro K hK; go_simp; refine hK _ ?_; clear hK K)) | (apply walkD_read1 [false] (by kernel_rfl); rfl; rfl; (intro w' hD; (have y0 := hD.pend.idle.rest 0; have y1 := hD.pend.idle.rest 1; have y2 := hD.pend.idle.rest 2; simp only [mgR, Nat.reduceAdd, Nat.zero_add, List.getElem?_cons_zero, List.getElem?_cons_succ] at y0 y1 y2); go_simp; rfl); (intro K hK; go_simp; refine hK _ ?_; clear hK K)) | (apply walkD_call1 [false] (by kernel_rfl); rfl; (intro _; go_simp; first | rfl | exact ⟨rfl, rfl⟩); (intro w' hD; first | (go_at_call 83; refine (proc_run _ _ _ _ _ _ _ hD.lay).mono ?_; rintro e w2 ⟨rfl, hb⟩; exact ⟨rfl, hD.quiet hb⟩) | (go_at_call 114; refine (thread_run _ _ _ _ _ _ _ hD.lay).mono ?_; rintro e w2 ⟨rfl, hb⟩; exact ⟨rfl, hD.quiet hb⟩) | (go_at_call 148; refine (ring_run _ _ _ _ _ _ (by assumption) _ hD.lay).mono ?_; rintro e w2 ⟨rfl, hb⟩; exact ⟨rfl, hD.quiet hb⟩) | (go_at_call 88; refine (g_run _ _ _ _ _ _ _ hD.lay).mono ?_; rintro e w2 ⟨rfl, hb⟩; exact ⟨rfl, hD.quiet hb⟩) | (go_at_call 77; refine (word_run _ 0 0 0 _ _).mono ?_; rintro e w2 ⟨rfl, rfl⟩; exact ⟨rfl, hD⟩) | (go_at_call 76; refine (iload_run hD.pend.idle _ _).mono ?_; rintro e w2 ⟨rfl, hP, hK⟩; exact ⟨rfl, hP, hD.kept.trans hK (by intro i hi; exact .inl hi)⟩) | (go_at_call 69; refine (iadd_run hD.pend.idle _ _ _).mono ?_; rintro e w2 ⟨rfl, hP, hK⟩; exact ⟨rfl, hP, hD.kept.trans hK (by intro i hi; exact .inl hi)⟩) | (go_at_call 73; refine (istore_run hD.pend.idle _ _ _).mono ?_; rintro e w2 ⟨rfl, hP, hK⟩; exact ⟨rfl, hP, hD.kept.trans hK (by intro i hi; exact .inl hi)⟩) | (go_at_call 151; refine (iswap_run hD.pend.idle _ _ _ _).mono ?_; rintro e w2 ⟨rfl, hP, hK⟩; exact ⟨rfl, hP, hD.kept.trans hK (by intro i hi; exact .inl hi)⟩)); (intro K hK; go_simp; refine hK _ ?_; clear hK K))))
  (rintro w2 ⟨h1, h2⟩; go_wp2; go_returns; exact ⟨⟨_, rfl⟩, h1, h2⟩)
theorem mg_got_run (x l : Nat) (P T G who : Int) (a t : Int) (w : World)  (hp : Pend w x who (mgR l a t) 114 .done) (hL : Lay w l P T G) :
    Calls Try.prog 140 #[.pointer (some ⟨x, 0, none⟩)] w fun e w' => (∃ r, e = .returned r) ∧ Pend w' x who (mgR l a (nOf a)) 114 (.add (wordN 12) 4294967295 161) ∧ Kept [x] w w' := by
  have n1 : IntKind.i64.wrap (IntKind.i64.wrap a - 1) = nOf a := rfl
  have n2 : wrap64 (wrap64 a - 1) = nOf a := by unfold nOf; simp only [IntWalk.i64_left]
  have HI := hid ((MI.start hp hL).put (by decide) 2 (.int .i64 (nOf a))).drew
  have hf := hp.idle.frozen
  (have y0 := hp.idle.rest 0; have y1 := hp.idle.rest 1; have y2 := hp.idle.rest 2; simp only [mgR, Nat.reduceAdd, Nat.zero_add, List.getElem?_cons_zero, List.getElem?_cons_succ] at y0 y1 y2)
  clear hp hL
  go_enter Try.func140, Try.ntmps140
  go_wp2_with fail
  refine wp_region_T 10 (fun w' => MI w w' x who (mgR l a (nOf a)) 114 l P T G) (fun w' => Pend w' x who (mgR l a (nOf a)) 114 (.add (wordN 12) 4294967295 161) ∧ Kept [x] w w') (by kernel_rfl) (by kernel_rfl) rfl (by kernel_rfl) HI.out ?_
  clear HI
  (repeat (first | (apply walkD_pure; rfl; rfl; (intro _; go_simp; first | done | rfl); (intro K hK; go_simp; refine hK _ ?_; clear hK K)) | (apply walkD_skip; rfl; rfl; (intro K hK; go_simp; refine hK _ ?_; clear hK K)) | (apply walkD_read1 [false] (by kernel_rfl); rfl; rfl; (intro w' hD; (have y0 := hD.pend.idle.rest 0; have y1 := hD.pend.idle.rest 1; have y2 := hD.pend.idle.rest 2; simp only [mgR, Nat.reduceAdd, Nat.zero_add, List.getElem?_cons_zero, List.getElem?_cons_succ] at y0 y1 y2); go_simp; rfl); (intro K hK; go_simp; refine hK _ ?_; clear hK K)) | (apply walkD_call1 [false] (by kernel_rfl); rfl; (intro _; go_simp; first | rfl | exact ⟨rfl, rfl⟩); (intro w' hD; first | (go_at_call 83; refine (proc_run _ _ _ _ _ _ _ hD.lay).mono ?_; rintro e w2 ⟨rfl, hb⟩; exact ⟨rfl, hD.quiet hb⟩) | (go_at_call 114; refine (thread_run _ _ _ _ _ _ _ hD.lay).mono ?_; rintro e w2 ⟨rfl, hb⟩; exact ⟨rfl, hD.quiet hb⟩) | (go_at_call 148; refine (ring_run _ _ _ _ _ _ (by assumption) _ hD.lay).mono ?_; rintro e w2 ⟨rfl, hb⟩; exact ⟨rfl, hD.quiet hb⟩) | (go_at_call 88; refine (g_run _ _ _ _ _ _ _ hD.lay).mono ?_; rintro e w2 ⟨rfl, hb⟩; exact ⟨rfl, hD.quiet hb⟩) | (go_at_call 77; refine (word_run _ 0 0 0 _ _).mono ?_; rintro e w2 ⟨rfl, rfl⟩; exact ⟨rfl, hD⟩) | (go_at_call 76; refine (iload_run hD.pend.idle _ _).mono ?_; rintro e w2 ⟨rfl, hP, hK⟩; exact ⟨rfl, hP, hD.kept.trans hK (by intro i hi; exact .inl hi)⟩) | (go_at_call 69; refine (iadd_run hD.pend.idle _ _ _).mono ?_; rintro e w2 ⟨rfl, hP, hK⟩; exact ⟨rfl, hP, hD.kept.trans hK (by intro i hi; exact .inl hi)⟩) | (go_at_call 73; refine (istore_run hD.pend.idle _ _ _).mono ?_; rintro e w2 ⟨rfl, hP, hK⟩; exact ⟨rfl, hP, hD.kept.trans hK (by intro i hi; exact .inl hi)⟩) | (go_at_call 151; refine (iswap_run hD.pend.idle _ _ _ _).mono ?_; rintro e w2 ⟨rfl, hP, hK⟩; exact ⟨rfl, hP, hD.kept.trans hK (by intro i hi; exact .inl hi)⟩)); (intro K hK; go_simp; refine hK _ ?_; clear hK K))))
  (rintro w2 ⟨h1, h2⟩; go_wp2; go_returns; exact ⟨⟨_, rfl⟩, h1, h2⟩)
theorem mg_made_run (x l : Nat) (P T G who : Int) (a t : Int) (w : World)  (hp : Pend w x who (mgR l a t) 114 .done) (hL : Lay w l P T G) :
    Calls Try.prog 139 #[.pointer (some ⟨x, 0, none⟩)] w fun e w' => (∃ r, e = .returned r) ∧ Pend w' x who (mgR l a (nOf a)) 114 (.done) ∧ Kept [x] w w' := by
  have n1 : IntKind.i64.wrap (IntKind.i64.wrap a - 1) = nOf a := rfl
  have n2 : wrap64 (wrap64 a - 1) = nOf a := by unfold nOf; simp only [IntWalk.i64_left]
  have HI := hid ((MI.start hp hL).put (by decide) 2 (.int .i64 (nOf a)))
  have hf := hp.idle.frozen
  (have y0 := hp.idle.rest 0; have y1 := hp.idle.rest 1; have y2 := hp.idle.rest 2; simp only [mgR, Nat.reduceAdd, Nat.zero_add, List.getElem?_cons_zero, List.getElem?_cons_succ] at y0 y1 y2)
  clear hp hL
  go_enter Try.func139, Try.ntmps139
  go_wp2
  go_returns
  exact ⟨⟨_, rfl⟩, HI.out.pend, HI.out.kept⟩
theorem mg_ends_run (x l : Nat) (P T G who : Int) (a t v : Int) (w : World)  (hp : Pend w x who (mgR l a t) 114 .done) (hL : Lay w l P T G) :
    Calls Try.prog 161 #[.pointer (some ⟨x, 0, none⟩), .int .u64 v] w fun e w' => (∃ r, e = .returned r) ∧ Pend w' x who (mgR l a t) 114 (.done) ∧ Kept [x] w w' := by
  have HI := hid (MI.start hp hL)
  have hf := hp.idle.frozen
  (have y0 := hp.idle.rest 0; have y1 := hp.idle.rest 1; have y2 := hp.idle.rest 2; simp only [mgR, Nat.reduceAdd, Nat.zero_add, List.getElem?_cons_zero, List.getElem?_cons_succ] at y0 y1 y2)
  clear hp hL
  go_enter Try.func161, Try.ntmps161
  go_wp2
  go_returns
  exact ⟨⟨_, rfl⟩, HI.out.pend, HI.out.kept⟩
theorem mg_more_yes (x l : Nat) (P T G who : Int) (a t v : Int) (w : World) (hv : 0 ≤ v ∧ v < T) (hp : Pend w x who (mgR l a t) 114 .done) (hL : Lay w l P T G) :
    Calls Try.prog 116 #[.pointer (some ⟨x, 0, none⟩), .int .u64 v] w fun e w' => (∃ r, e = .returned r) ∧ Pend w' x who (mgR l (v + 1) t) 114 (.store (wordN 15) (v + 1) 139) ∧ Kept [x] w w' := by
  have hR := hL.2
  unfold Right at hR
  have n1 : IntKind.u64.wrap T = T := by rw [IntKind.wrap_u64]; omega
  have n2 : IntKind.u64.wrap (v + 1) = v + 1 := by rw [IntKind.wrap_u64]; omega
  have d1 : decide (v < T) = true := decide_eq_true hv.2
  have hc0 := cfg_field1
  have y1 := hp.idle.rest 0
  simp only [mgR, Nat.zero_add, List.getElem?_cons_zero] at y1
  have HP := hid (And.intro hp hL)
  clear hp hL hR
  go_enter Try.func116, Try.ntmps116
  go_wp2_with fail
  refine (config_run l P T G w HP.out.2).mono ?_
  rintro e w1 ⟨rfl, hb⟩
  have HI0 : MI w w1 x who (mgR l a t) 114 l P T G := ⟨HP.out.1.quiet hb, HP.out.2.quiet hb, Kept.of_below hb _⟩
  have HI := hid (HI0.put (by decide) 1 (.int .u64 (v + 1))).drew
  have hf := HI0.pend.idle.frozen
  have hp := HI0.pend
  (have y0 := hp.idle.rest 0; have y1 := hp.idle.rest 1; have y2 := hp.idle.rest 2; simp only [mgR, Nat.reduceAdd, Nat.zero_add, List.getElem?_cons_zero, List.getElem?_cons_succ] at y0 y1 y2)
  clear hp HI0 hb HP
  go_wp2_with fail
  refine wp_region_T 12 (fun w' => MI w w' x who (mgR l (v + 1) t) 114 l P T G) (fun w' => Pend w' x who (mgR l (v + 1) t) 114 (.store (wordN 15) (v + 1) 139) ∧ Kept [x] w w') (by kernel_rfl) (by kernel_rfl) rfl (by kernel_rfl) HI.out ?_
  clear HI
  (repeat (first | (apply walkD_pure; rfl; rfl; (intro _; go_simp; first | done | rfl); (intro K hK; go_simp; refine hK _ ?_; clear hK K)) | (apply walkD_skip; rfl; rfl; (intro K hK; go_simp; refine hK _ ?_; clear hK K)) | (apply walkD_read1 [false] (by kernel_rfl); rfl; rfl; (intro w' hD; (have y0 := hD.pend.idle.rest 0; have y1 := hD.pend.idle.rest 1; have y2 := hD.pend.idle.rest 2; simp only [mgR, Nat.reduceAdd, Nat.zero_add, List.getElem?_cons_zero, List.getElem?_cons_succ] at y0 y1 y2); go_simp; rfl); (intro K hK; go_simp; refine hK _ ?_; clear hK K)) | (apply walkD_call1 [false] (by kernel_rfl); rfl; (intro _; go_simp; first | rfl | exact ⟨rfl, rfl⟩); (intro w' hD; first | (go_at_call 83; refine (proc_run _ _ _ _ _ _ _ hD.lay).mono ?_; rintro e w2 ⟨rfl, hb⟩; exact ⟨rfl, hD.quiet hb⟩) | (go_at_call 114; refine (thread_run _ _ _ _ _ _ _ hD.lay).mono ?_; rintro e w2 ⟨rfl, hb⟩; exact ⟨rfl, hD.quiet hb⟩) | (go_at_call 148; refine (ring_run _ _ _ _ _ _ (by assumption) _ hD.lay).mono ?_; rintro e w2 ⟨rfl, hb⟩; exact ⟨rfl, hD.quiet hb⟩) | (go_at_call 88; refine (g_run _ _ _ _ _ _ _ hD.lay).mono ?_; rintro e w2 ⟨rfl, hb⟩; exact ⟨rfl, hD.quiet hb⟩) | (go_at_call 77; refine (word_run _ 0 0 0 _ _).mono ?_; rintro e w2 ⟨rfl, rfl⟩; exact ⟨rfl, hD⟩) | (go_at_call 76; refine (iload_run hD.pend.idle _ _).mono ?_; rintro e w2 ⟨rfl, hP, hK⟩; exact ⟨rfl, hP, hD.kept.trans hK (by intro i hi; exact .inl hi)⟩) | (go_at_call 69; refine (iadd_run hD.pend.idle _ _ _).mono ?_; rintro e w2 ⟨rfl, hP, hK⟩; exact ⟨rfl, hP, hD.kept.trans hK (by intro i hi; exact .inl hi)⟩) | (go_at_call 73; refine (istore_run hD.pend.idle _ _ _).mono ?_; rintro e w2 ⟨rfl, hP, hK⟩; exact ⟨rfl, hP, hD.kept.trans hK (by intro i hi; exact .inl hi)⟩) | (go_at_call 151; refine (iswap_run hD.pend.idle _ _ _ _).mono ?_; rintro e w2 ⟨rfl, hP, hK⟩; exact ⟨rfl, hP, hD.kept.trans hK (by intro i hi; exact .inl hi)⟩)); (intro K hK; go_simp; refine hK _ ?_; clear hK K))))
  (rintro w2 ⟨h1, h2⟩; go_wp2; go_returns; exact ⟨⟨_, rfl⟩, h1, h2⟩)
theorem mg_more_no (x l : Nat) (P T G who : Int) (a t v : Int) (w : World) (hv : ¬ v < T) (hp : Pend w x who (mgR l a t) 114 .done) (hL : Lay w l P T G) :
    Calls Try.prog 116 #[.pointer (some ⟨x, 0, none⟩), .int .u64 v] w fun e w' => (∃ r, e = .returned r) ∧ Pend w' x who (mgR l a t) 114 .done ∧ Kept [x] w w' := by
  have hR := hL.2
  unfold Right at hR
  have n1 : IntKind.u64.wrap T = T := by rw [IntKind.wrap_u64]; omega
  have d1 : decide (v < T) = false := decide_eq_false hv
  have hc0 := cfg_field1
  have y1 := hp.idle.rest 0
  simp only [mgR, Nat.zero_add, List.getElem?_cons_zero] at y1
  have HP := hid (And.intro hp hL)
  clear hp hL hR
  go_enter Try.func116, Try.ntmps116
  go_wp2_with fail
  refine (config_run l P T G w HP.out.2).mono ?_
  rintro e w1 ⟨rfl, hb⟩
  have HI := hid (And.intro (HP.out.1.quiet hb) (Kept.of_below hb [x]))
  clear hb HP
  go_wp2
  go_returns
  exact ⟨⟨_, rfl⟩, HI.out.1, HI.out.2⟩
theorem mg_new_run (l : Nat) (P T G who : Int)  (w : World) (hL : Lay w l P T G) :
    Calls Try.prog 21 #[.pointer (some ⟨l, 0, none⟩), .int .i64 who] w fun e w' => e = .returned (.pointer (some ⟨w.heap.size, 0, none⟩)) ∧ Pend w' w.heap.size who (mgR l 0 (-1)) 114 (.load (wordN 11) 79) ∧ Below w.heap.size w w' := by
  have h0 : FlAt (w.alloc (.cells (fl fl0 ++ mgR l 0 (-1)).toArray 114)) w.heap.size fl0 (mgR l 0 (-1)) 114 := Blk.new w _ _
  have hL0 := hL.quiet (below_one w (.cells (fl fl0 ++ mgR l 0 (-1)).toArray 114))
  have hlx : l ≠ w.heap.size := Nat.ne_of_lt hL.1.lt
  clear hL
  go_enter Try.func21, Try.ntmps21
  go_wp2_with fail
  refine (iof_run h0 who).mono ?_
  rintro e w1 ⟨rfl, hp, hK⟩
  have hL1 := hL0.kept hK (by simpa using hlx)
  have hlow : Below w.heap.size w w1 := (below_one _ _).trans (hK.below (by simp) (by simp))
  have HI := hid (MI.start hp hL1).drew
  clear h0 hL0 hp hL1 hK
  go_wp2_with fail
  refine wp_region_T 7 (fun w' => MI w1 w' w.heap.size who (mgR l 0 (-1)) 114 l P T G) (fun w' => Pend w' w.heap.size who (mgR l 0 (-1)) 114 (.load (wordN 11) 79) ∧ Kept [w.heap.size] w1 w') (by kernel_rfl) (by kernel_rfl) rfl (by kernel_rfl) HI.out ?_
  clear HI
  (repeat (first | (apply walkD_pure; rfl; rfl; (intro _; go_simp; first | done | rfl); (intro K hK; go_simp; refine hK _ ?_; clear hK K)) | (apply walkD_skip; rfl; rfl; (intro K hK; go_simp; refine hK _ ?_; clear hK K)) | (apply walkD_read1 [false] (by kernel_rfl); rfl; rfl; (intro w' hD; (have y0 := hD.pend.idle.rest 0; have y1 := hD.pend.idle.rest 1; have y2 := hD.pend.idle.rest 2; simp only [mgR, Nat.reduceAdd, Nat.zero_add, List.getElem?_cons_zero, List.getElem?_cons_succ] at y0 y1 y2); go_simp; rfl); (intro K hK; go_simp; refine hK _ ?_; clear hK K)) | (apply walkD_call1 [false] (by kernel_rfl); rfl; (intro _; go_simp; first | rfl | exact ⟨rfl, rfl⟩); (intro w' hD; first | (go_at_call 83; refine (proc_run _ _ _ _ _ _ _ hD.lay).mono ?_; rintro e w2 ⟨rfl, hb⟩; exact ⟨rfl, hD.quiet hb⟩) | (go_at_call 114; refine (thread_run _ _ _ _ _ _ _ hD.lay).mono ?_; rintro e w2 ⟨rfl, hb⟩; exact ⟨rfl, hD.quiet hb⟩) | (go_at_call 148; refine (ring_run _ _ _ _ _ _ (by assumption) _ hD.lay).mono ?_; rintro e w2 ⟨rfl, hb⟩; exact ⟨rfl, hD.quiet hb⟩) | (go_at_call 88; refine (g_run _ _ _ _ _ _ _ hD.lay).mono ?_; rintro e w2 ⟨rfl, hb⟩; exact ⟨rfl, hD.quiet hb⟩) | (go_at_call 77; refine (word_run _ 0 0 0 _ _).mono ?_; rintro e w2 ⟨rfl, rfl⟩; exact ⟨rfl, hD⟩) | (go_at_call 76; refine (iload_run hD.pend.idle _ _).mono ?_; rintro e w2 ⟨rfl, hP, hK⟩; exact ⟨rfl, hP, hD.kept.trans hK (by intro i hi; exact .inl hi)⟩) | (go_at_call 69; refine (iadd_run hD.pend.idle _ _ _).mono ?_; rintro e w2 ⟨rfl, hP, hK⟩; exact ⟨rfl, hP, hD.kept.trans hK (by intro i hi; exact .inl hi)⟩) | (go_at_call 73; refine (istore_run hD.pend.idle _ _ _).mono ?_; rintro e w2 ⟨rfl, hP, hK⟩; exact ⟨rfl, hP, hD.kept.trans hK (by intro i hi; exact .inl hi)⟩) | (go_at_call 151; refine (iswap_run hD.pend.idle _ _ _ _).mono ?_; rintro e w2 ⟨rfl, hP, hK⟩; exact ⟨rfl, hP, hD.kept.trans hK (by intro i hi; exact .inl hi)⟩)); (intro K hK; go_simp; refine hK _ ?_; clear hK K))))
  rintro w2 ⟨h1, h2⟩
  go_wp2
  go_ret
  exact ⟨rfl, h1, hlow.trans (h2.below (by simp) hlow.size)⟩
theorem mg_goes (l x : Nat) (P T G who : Int) (hT : 0 ≤ T ∧ T ≤ 1000) : Goes (mgM l P T) l x P T G who := by
  refine ⟨by show ∀ T ∈ ownT 114, _; decide, by show 114 ≠ _ ∧ 114 ≠ _ ∧ 114 ≠ _; decide, ?_, ?_, ?_, ?_⟩
  · intro st hok
    cases st with
    | mid a b => exact hok.2
    | mk a => exact hok
    | h => simp [mgM, mgNx, Nx.val]
    | sec a => simp [mgM, mgNx, Nx.val]
    | inc a => simp [mgM, mgNx, Nx.val]
    | more => simp [mgM, mgNx, Nx.val]
    | got a => simp [mgM, mgNx, Nx.val]
    | none => simp [mgM, mgNx, Nx.val]
  · intro st a hok ha
    cases st with
    | h =>
      show mgOk (if a = 0 then _ else _)
      split
      · trivial
      · exact ⟨by assumption, ha⟩
    | sec b => exact ⟨hok, ha⟩
    | mid b c => exact hok.1.2
    | inc b => exact hok
    | more =>
      show mgOk (if a < T then _ else _)
      split
      · exact ⟨by omega, by omega⟩
      · trivial
    | mk b => exact hok
    | got b => exact hok
    | none => trivial
  · intro st hst
    cases st with
    | h => exact enters_of Try.func79 (by kernel_rfl) rfl
    | sec a => exact enters_of Try.func117 (by kernel_rfl) rfl
    | mid a b => exact enters_of Try.func140 (by kernel_rfl) rfl
    | inc a => exact enters_of Try.func161 (by kernel_rfl) rfl
    | more => exact enters_of Try.func116 (by kernel_rfl) rfl
    | mk a => exact enters_of Try.func139 (by kernel_rfl) rfl
    | got a => exact absurd rfl hst
    | none => exact absurd rfl hst
  · intro st v w hst hok hv hp hL
    cases st with
    | h =>
      by_cases h : v = 0
      · subst h
        exact mg_first0_run x l P T G who 0 (-1) w hp hL
      · show Calls _ _ _ _ (fun e w' => _ ∧ Pend w' x who (mgRest l (if v = 0 then MgSt.more else MgSt.sec v)) _ (mgNx P T (if v = 0 then MgSt.more else MgSt.sec v)) ∧ _)
        rw [if_neg h]
        exact mg_first1_run x l P T G who 0 (-1) v w h hp hL
    | sec a => exact mg_second_run x l P T G who a (-1) v w hp hL
    | mid a b => exact mg_got_run x l P T G who a (-1) w hp hL
    | inc a => exact mg_ends_run x l P T G who a (nOf a) v w hp hL
    | more =>
      show Calls _ _ _ _ (fun e w' => _ ∧ Pend w' x who (mgRest l (if v < T then MgSt.mk (v + 1) else MgSt.none)) _ (mgNx P T (if v < T then MgSt.mk (v + 1) else MgSt.none)) ∧ _)
      by_cases h : v < T
      · rw [if_pos h]
        exact mg_more_yes x l P T G who 0 (-1) v w ⟨hv.1, h⟩ hp hL
      · rw [if_neg h]
        exact mg_more_no x l P T G who 0 (-1) v w h hp hL
    | mk a => exact mg_made_run x l P T G who a (-1) w hp hL
    | got a => exact absurd rfl hst
    | none => exact absurd rfl hst
theorem mgstep_run (lo l x m g : Nat) (P T G who : Int)  {st : _} {s : St} {w : World} (hgo : Goes (mgM l P T) l x P T G who) (hA : Mch.at_ (mgM l P T) lo l x P T G who w st) (hM : MemAt w m g s) (hc : s.clock < 1000000) (hbd : s.bad < 1000000) :
    Calls Try.prog 22 #[.pointer (some ⟨x, 0, none⟩), .pointer (some ⟨m, 0, none⟩)] w fun e w' => (∃ b, e = .returned (.bool b)) ∧ Mch.at_ (mgM l P T) lo l x P T G who w' (stepOf (Mch.sys (mgM l P T)) who st s).1 ∧ MemAt w' m g (stepOf (Mch.sys (mgM l P T)) who st s).2 ∧ KeptOwn (ownT 114) lo m g w w' := by
  obtain ⟨cs, hb⟩ := hA.1.blk
  have h2 := hA.2.1
  have H := hid (mch_fstep hgo hA hM hc hbd)
  have HK := hid (fun (w' : World) (hK : Kept [x, m, g] w w') => mch_kept (K := mgM l P T) h2 hb hK)
  clear hA hM hb hgo
  obtain ⟨q, hq⟩ : ∃ q, q = stepOf (Mch.sys (mgM l P T)) who st s := ⟨_, rfl⟩
  rw [← hq] at H ⊢
  obtain ⟨o, ho⟩ : ∃ o, o = (Mch.nx (mgM l P T) q.1).over := ⟨_, rfl⟩
  rw [← ho] at H
  clear hq ho
  go_enter Try.func22, Try.ntmps22
  go_wp2_with fail
  refine H.out.mono ?_
  rintro e w1 ⟨rfl, h1, h2, h3⟩
  have HX := hid (And.intro h1 (And.intro h2 (HK.out w1 h3)))
  clear h1 h2 h3
  go_wp2
  go_ret
  exact ⟨⟨_, rfl⟩, HX.out⟩
theorem mgdone_run {lo l x : Nat} {P T G who : Int}  {st : _} {w : World} (hA : Mch.at_ (mgM l P T) lo l x P T G who w st) :
    Calls Try.prog 24 #[.pointer (some ⟨x, 0, none⟩)] w fun e w' => e = .returned (.bool (Mch.nx (mgM l P T) st).over) ∧ w = w' := by
  have H := hid (pend_done hA.1)
  clear hA
  obtain ⟨o, ho⟩ : ∃ o, o = (Mch.nx (mgM l P T) st).over := ⟨_, rfl⟩
  rw [← ho] at H ⊢
  clear ho
  go_enter Try.func24, Try.ntmps24
  go_wp2_with fail
  refine H.out.mono ?_
  rintro e w1 ⟨rfl, rfl⟩
  go_wp2
  go_ret
  exact ⟨rfl, rfl⟩
theorem mgstep_nil (m : Option Addr) (w : World) : Calls Try.prog 22 #[.pointer none, .pointer m] w fun e w' => e = .returned (.bool true) ∧ w = w' := by
  go_enter Try.func22, Try.ntmps22
  go_wp2
  go_ret
  exact ⟨rfl, rfl⟩
theorem mgdone_nil (w : World) : Calls Try.prog 24 #[.pointer none] w fun e w' => e = .returned (.bool true) ∧ w = w' := by
  go_enter Try.func24, Try.ntmps24
  go_wp2
  go_ret
  exact ⟨rfl, rfl⟩
theorem mg_t_run {lo l x : Nat} {P T G who : Int} {st : MgSt} {w : World} (hA : Mch.at_ (mgM l P T) lo l x P T G who w st) :
    Calls Try.prog 23 #[.pointer (some ⟨x, 0, none⟩)] w fun e w' => e = .returned (.int .i64 st.t) ∧ w = w' := by
  have y2 := hA.1.idle.rest 2
  have e : (mgRest l st)[2]? = some (.int .i64 st.t) := by cases st <;> rfl
  rw [show (mgM l P T).rest st = mgRest l st from rfl, e] at y2
  simp only [Nat.reduceAdd] at y2
  obtain ⟨q, hq⟩ : ∃ q, q = st.t := ⟨_, rfl⟩
  rw [← hq] at y2 ⊢
  clear hA e hq
  go_enter Try.func23, Try.ntmps23
  go_wp2
  go_ret
  exact ⟨rfl, rfl⟩
theorem mg_t_nil (w : World) : Calls Try.prog 23 #[.pointer none] w fun e w' => e = .returned (.int .i64 (-1)) ∧ w = w' := by
  go_enter Try.func23, Try.ntmps23
  go_wp2
  go_ret
  exact ⟨rfl, rfl⟩
end Go.Proofs.Ytnmkfmaohflejaa.Idlem
end

section
/- The document's list of threads; how many are to be had; the example. -/
set_option maxRecDepth 100000
set_option maxHeartbeats 4000000
set_option linter.unusedVariables false
set_option linter.unusedSimpArgs false
namespace Go.Proofs.Ytnmkfmaohflejaa.Idlem
open Go.RowKit Go.Shelf Go.Proofs.Ytnmkfmaohflejaa.TK Go.Proofs.Ytnmkfmaohflejaa.Flag Go.Proofs.Ytnmkfmaohflejaa.Read Go.Proofs.Ytnmkfmaohflejaa.Grow Go.Proofs.Ytnmkfmaohflejaa.Words Go.Proofs.Ytnmkfmaohflejaa.Mem Go.Proofs.Ytnmkfmaohflejaa.Flow Go.Proofs.Ytnmkfmaohflejaa.Layout Go.Proofs.Ytnmkfmaohflejaa.Lock Go.Proofs.Ytnmkfmaohflejaa.Run Go.Proofs.Ytnmkfmaohflejaa.Sys Go.Proofs.Ytnmkfmaohflejaa.Mach Go.Proofs.Ytnmkfmaohflejaa.Doc Go.Proofs.Ytnmkfmaohflejaa.Ref05
theorem w11 : wordN 11 = 11 := by decide
theorem w12 : wordN 12 = 12 := by decide
theorem w15 : wordN 15 = 15 := by decide
theorem nOf_succ (x : Int) (h : 0 ≤ x ∧ x < 1000000) : nOf (x + 1) = x := by
  unfold nOf
  rw [IntKind.wrap_i64, IntKind.wrap_i64]
  omega
theorem peek_range {s : St} (hw : ∀ x ∈ s.ws, 0 ≤ x ∧ x < 18446744073709551616) (a : Int) : 0 ≤ (s.peek a).1 ∧ (s.peek a).1 < 18446744073709551616 := by
  unfold St.peek
  split
  · exact word_range hw a
  · simp
/-- How many threads are to be had. -/
def spareOf (T : Int) (s : St) : Int := if 2147483648 ≤ (s.peek (wordN 12)).1 ∨ 2147483648 ≤ (s.peek (wordN 15)).1 then 0 else T + (s.peek (wordN 12)).1 - (s.peek (wordN 15)).1
theorem spare_run (l m g : Nat) (P T G : Int) (s : St) (w : World) (hL : Lay w l P T G) (hM : MemAt w m g s) :
    Calls Try.prog 25 #[.pointer (some ⟨l, 0, none⟩), .pointer (some ⟨m, 0, none⟩)] w fun e w' => e = .returned (.int .i64 (spareOf T s)) ∧ Below w.heap.size w w' := by
  have hR := hL.2
  unfold Right at hR
  have r3 : 0 ≤ (s.peek (wordN 12)).1 := by have := (peek_range hM.wf (wordN 12)); omega
  have r4 : 0 ≤ (s.peek (wordN 15)).1 := by have := (peek_range hM.wf (wordN 15)); omega
  obtain ⟨p1, hp1⟩ : ∃ q, q = s.peek (wordN 12) := ⟨_, rfl⟩
  obtain ⟨p2, hp2⟩ : ∃ q, q = s.peek (wordN 15) := ⟨_, rfl⟩
  have HS := hid (show spareOf T s = if 2147483648 ≤ p1.1 ∨ 2147483648 ≤ p2.1 then 0 else T + p1.1 - p2.1 by rw [hp1, hp2]; rfl)
  rw [← hp1] at r3
  rw [← hp2] at r4
  rw [HS.out]
  have HP1 := hid hp1
  have HP2 := hid hp2
  have HI := hid (And.intro hL hM)
  have hc0 := cfg_field1
  clear hp1 hp2 hL hM HS
  by_cases h1 : 2147483648 ≤ p1.1
  · have d1 : decide (2147483648 ≤ p1.1) = true := decide_eq_true h1
    rw [if_pos (.inl h1)]
    go_enter Try.func25, Try.ntmps25
    go_wp2_with (first | (go_at_call 77; refine (word_run _ 0 0 0 _ _).mono ?_; rintro e w2 ⟨rfl, rfl⟩) | (go_at_call 16; refine (mpeek_run m g s _ _ HI.out.2).mono ?_; rintro e w2 ⟨rfl, rfl⟩; first | rw [← HP1.out] | rw [← HP2.out]))
    go_ret
    exact ⟨rfl, Below.refl _ _⟩
  have d1 : decide (2147483648 ≤ p1.1) = false := decide_eq_false h1
  by_cases h2 : 2147483648 ≤ p2.1
  · have d2 : decide (2147483648 ≤ p2.1) = true := decide_eq_true h2
    rw [if_pos (.inr h2)]
    go_enter Try.func25, Try.ntmps25
    go_wp2_with (first | (go_at_call 77; refine (word_run _ 0 0 0 _ _).mono ?_; rintro e w2 ⟨rfl, rfl⟩) | (go_at_call 16; refine (mpeek_run m g s _ _ HI.out.2).mono ?_; rintro e w2 ⟨rfl, rfl⟩; first | rw [← HP1.out] | rw [← HP2.out]))
    go_ret
    exact ⟨rfl, Below.refl _ _⟩
  have d2 : decide (2147483648 ≤ p2.1) = false := decide_eq_false h2
  rw [if_neg (by omega)]
  have n1 : IntKind.i64.wrap p1.1 = p1.1 := by rw [IntKind.wrap_i64]; omega
  have n2 : IntKind.i64.wrap p2.1 = p2.1 := by rw [IntKind.wrap_i64]; omega
  go_enter Try.func25, Try.ntmps25
  go_wp2_with (first | (go_at_call 80; refine (config_run l P T G _ HI.out.1).mono ?_; rintro e w2 ⟨rfl, hb⟩) | (go_at_call 77; refine (word_run _ 0 0 0 _ _).mono ?_; rintro e w2 ⟨rfl, rfl⟩) | (go_at_call 16; refine (mpeek_run m g s _ _ HI.out.2).mono ?_; rintro e w2 ⟨rfl, rfl⟩; first | rw [← HP1.out] | rw [← HP2.out]))
  go_ret
  exact ⟨rfl, hb⟩
end Go.Proofs.Ytnmkfmaohflejaa.Idlem
end

section
/- The list of threads: the example. -/
set_option maxRecDepth 100000
set_option maxHeartbeats 4000000
set_option linter.unusedVariables false
set_option linter.unusedSimpArgs false
namespace Go.Proofs.Ytnmkfmaohflejaa.Idlem
open Go.RowKit Go.Shelf Go.Proofs.Ytnmkfmaohflejaa.TK Go.Proofs.Ytnmkfmaohflejaa.Flag Go.Proofs.Ytnmkfmaohflejaa.Read Go.Proofs.Ytnmkfmaohflejaa.Grow Go.Proofs.Ytnmkfmaohflejaa.Words Go.Proofs.Ytnmkfmaohflejaa.Mem Go.Proofs.Ytnmkfmaohflejaa.Flow Go.Proofs.Ytnmkfmaohflejaa.Layout Go.Proofs.Ytnmkfmaohflejaa.Lock Go.Proofs.Ytnmkfmaohflejaa.Run Go.Proofs.Ytnmkfmaohflejaa.Sys Go.Proofs.Ytnmkfmaohflejaa.Mach Go.Proofs.Ytnmkfmaohflejaa.Doc Go.Proofs.Ytnmkfmaohflejaa.Ref05
theorem same12_run (a b : Option Addr) (ca cb : Nat) (xs : List Int) (w : World) (ha : RowOf (encI .i64) 1 w a xs) (hb : RowOf (encI .i64) 1 w b xs) (hl : xs.length ≤ 1000000) :
    Calls Try.prog 53 #[.slice a xs.length ca, .slice b xs.length cb] w fun e w' => e = .returned (.bool true) ∧ Below w.heap.size w w' := by
  have HA := hid ha
  have HB := hid hb
  clear ha hb
  go_enter Try.func53, Try.ntmps53
  go_wp2_with fail
  go_loopw [5] (fun i wr => ∃ k : Nat, k ≤ xs.length ∧ i = .int .i64 (k : Int) ∧ Below w.heap.size w wr) (fun i _ => xs.length - (intOf i).toNat)
  case atStart => exact ⟨0, Nat.zero_le _, rfl, Below.refl _ _⟩
  case round =>
    obtain ⟨k, hk, rfl, hlow⟩ := hrel
    by_cases hlt : k < xs.length
    · obtain ⟨xa, rfl, h1⟩ := (HA.out.quiet hlow) k hlt
      obtain ⟨xb, rfl, h2⟩ := (HB.out.quiet hlow) k hlt
      have c1 := h1 0 _ rfl
      have c2 := h2 0 _ rfl
      rw [Nat.mul_one, Nat.add_zero] at c1 c2
      have hlt' : decide ((k : Int) < (xs.length : Int)) = true := decide_eq_true (by omega)
      obtain ⟨v, hv⟩ : ∃ v, v = xs[k] := ⟨_, rfl⟩
      rw [← hv] at c1 c2
      clear hv h1 h2
      obtain ⟨n, hn⟩ : ∃ n, n = xs.length := ⟨_, rfl⟩
      rw [← hn] at hl hk hlt hlt' ⊢
      clear hn HA HB
      have k0 : (0 : Int) ≤ (k : Int) := by omega
      have k1 : (k : Int) < (n : Int) := by omega
      go_wp2_with fail
      go_quiet (fail)
      go_wp2_with fail
      go_roundw
      case rel => exact ⟨k + 1, by omega, by go_num, below_drewN hlow _⟩
      case measure => simp [intOf]; omega
    · have hlt' : decide ((k : Int) < (xs.length : Int)) = false := decide_eq_false (by omega)
      go_wp2
      go_ret
      exact ⟨rfl, hlow⟩
end Go.Proofs.Ytnmkfmaohflejaa.Idlem
namespace Go.Proofs.Ytnmkfmaohflejaa.Mach
open Go.RowKit Go.Shelf Go.Proofs.Ytnmkfmaohflejaa.TK Go.Proofs.Ytnmkfmaohflejaa.Flag Go.Proofs.Ytnmkfmaohflejaa.Read Go.Proofs.Ytnmkfmaohflejaa.Grow Go.Proofs.Ytnmkfmaohflejaa.Words Go.Proofs.Ytnmkfmaohflejaa.Mem Go.Proofs.Ytnmkfmaohflejaa.Flow Go.Proofs.Ytnmkfmaohflejaa.Layout Go.Proofs.Ytnmkfmaohflejaa.Lock Go.Proofs.Ytnmkfmaohflejaa.Run Go.Proofs.Ytnmkfmaohflejaa.Sys
theorem keptOwn_grow {α : Type} {Own : List TypeId} {lo m g B size : Nat} {w w' : World} {T : TypeId} {enc : α → List Value} {v : Value} {xs : List α} (hK : KeptOwn Own lo m g w w') (hG : Grow w B T size enc v xs) (hm : m < B) (hg : g < B) (hT : T ∉ Own) : Grow w' B T size enc v xs := by
  obtain ⟨S, hK, hS⟩ := hK
  refine Grow.keptB hG hK ?_
  intro i hi
  rcases hS i hi with rfl | rfl | ⟨_, T', hT', cs', hb'⟩
  · exact own_low hG hm
  · exact own_low hG hg
  · exact own_type hG hb' (fun e => hT (by rw [e]; exact hT'))
theorem keptOwn_low {Own : List TypeId} {lo m g : Nat} {W w w' : World} (hK : KeptOwn Own lo m g w w') (hb : Below lo W w) (hm : lo ≤ m) (hg : lo ≤ g) (hl : lo ≤ w.heap.size) : Below lo W w' := by
  obtain ⟨S, hK, hS⟩ := hK
  refine below_kept hb hK ?_ hl
  intro i hi
  rcases hS i hi with rfl | rfl | ⟨h, _⟩
  · exact hm
  · exact hg
  · exact h
theorem keptOwn_size {Own : List TypeId} {lo m g : Nat} {w w' : World} (hK : KeptOwn Own lo m g w w') : w.heap.size ≤ w'.heap.size := by
  obtain ⟨S, hK, hS⟩ := hK
  exact hK.size
theorem infoI : Elem Try.prog 3 (.int .i64 0) 1 8 := by unfold Elem; kernel_rfl
theorem encN_len (x : Int) : (encI .i64 x).length = 1 := rfl
theorem encN_one (x : Int) : ∀ u ∈ encI .i64 x, u.oneCell' = true := by intro u hu; simp [encI] at hu; subst hu; rfl
end Go.Proofs.Ytnmkfmaohflejaa.Mach
namespace Go.Proofs.Ytnmkfmaohflejaa.Idlem
open Go.RowKit Go.Shelf Go.Proofs.Ytnmkfmaohflejaa.TK Go.Proofs.Ytnmkfmaohflejaa.Flag Go.Proofs.Ytnmkfmaohflejaa.Read Go.Proofs.Ytnmkfmaohflejaa.Grow Go.Proofs.Ytnmkfmaohflejaa.Words Go.Proofs.Ytnmkfmaohflejaa.Mem Go.Proofs.Ytnmkfmaohflejaa.Flow Go.Proofs.Ytnmkfmaohflejaa.Layout Go.Proofs.Ytnmkfmaohflejaa.Lock Go.Proofs.Ytnmkfmaohflejaa.Run Go.Proofs.Ytnmkfmaohflejaa.Sys Go.Proofs.Ytnmkfmaohflejaa.Mach Go.Proofs.Ytnmkfmaohflejaa.Doc Go.Proofs.Ytnmkfmaohflejaa.Ref05 Go.Proofs.Ytnmkfmaohflejaa.Ring
def s121 : St := fresh (layW (lenOf 1 2 1) [])
/-- The memory ahead of the get of round n. -/
def put4 (n : Nat) (s : St) : St := if n = 3 then (after (mpM 0 1 2 0).sys 0 .h s 4).2 else s
def aw : Nat → St × List Int
  | 0 => (s121, [])
  | n + 1 => ((after (mgM 0 1 2).sys 0 .h (put4 n (aw n).1) 4).2, (aw n).2 ++ [(after (mgM 0 1 2).sys 0 .h (put4 n (aw n).1) 4).1.t])
theorem few121 : FewP 1 2 1 := by unfold FewP Right; omega
theorem aw_all : (aw 4).2 = [0, 1, -1, 0] ∧ spareOf 2 (aw 4).1 = 0 := by
  refine ⟨?_, ?_⟩ <;> decide +kernel
theorem aw_clock : ∀ n, n < 5 → (aw n).1.clock ≤ 100 ∧ (aw n).1.bad ≤ 100 ∧ (aw n).2.length = n := by decide +kernel
theorem awake_run (w : World) : Calls Try.prog 18 #[] w fun e w' => e = .returned (.bool true) ∧ Below w.heap.size w w' := by
  have HE := hid aw_all
  have HCL := hid aw_clock
  go_enter Try.func18, Try.ntmps18
  go_wp2_with fail
  refine (lay_yes 1 2 1 none 0 [] _ few121 (by simp) ?_ (by simp)).mono ?_
  · intro i hi; simp at hi
  rintro e w1 ⟨l, m, g, rm, rg, rfl, hL⟩
  obtain ⟨B, hB⟩ : ∃ B, B = w1.heap.size := ⟨_, rfl⟩
  have HQ := hid (show w.heap.size ≤ m ∧ w.heap.size ≤ g ∧ m < B ∧ g < B from ⟨hL.low5.2.1, hL.low5.2.2.1, by rw [hB]; exact hL.mem.ltm, by rw [hB]; exact hL.mem.ltg⟩)
  have HI := hid (show Lay w1 l 1 2 1 ∧ MemAt w1 m g (aw 0).1 ∧ Grow w1 B 3 1 (encI .i64) (.slice none 0 0) (aw 0).2 ∧ Below w.heap.size w w1 ∧ B ≤ w1.heap.size from ⟨hL.lay, hL.mem, Grow.nil _ _ _ _ _, hL.low, by omega⟩)
  have HB0 := hid (show w.heap.size ≤ B by rw [hB]; exact hL.low.size)
  clear hL hB
  go_wp2_with fail
  go_loopw [6, 5] (fun i v wr => ∃ n : Nat, n ≤ 4 ∧ i = .int .i64 (n : Int) ∧ Lay wr l 1 2 1 ∧ MemAt wr m g (aw n).1 ∧ Grow wr B 3 1 (encI .i64) v (aw n).2 ∧ Below w.heap.size w wr ∧ B ≤ wr.heap.size) (fun i _ _ => 4 - (intOf i).toNat)
  case atStart => exact ⟨0, by omega, rfl, HI.out⟩
  case round =>
    clear HI
    obtain ⟨n, hn, rfl, hI⟩ := hrel
    obtain ⟨a0, c0, hv, _, _, _⟩ := hI.2.2.1.row encN_len
    subst hv
    have HI := hid hI
    clear hI
    by_cases hlt : n < 4
    · have hlt' : decide ((n : Int) < 4) = true := decide_eq_true (by omega)
      have HLEN := hid (show (aw n).2.length ≤ 1000 by have := (HCL.out n (by omega)).2.2; omega)
      by_cases h3 : n = 3
      · have h3' : ((n : Int) == 3) = true := by simp [h3]
        obtain ⟨sP, hsP⟩ : ∃ sP, sP = (aw n).1 := ⟨_, rfl⟩
        rw [← hsP] at HI
        have HAWP := hid (show aw (n + 1) = ((after (mgM 0 1 2).sys 0 .h (after (mpM 0 1 2 0).sys 0 .h sP 4).2 4).2, (aw n).2 ++ [(after (mgM 0 1 2).sys 0 .h (after (mpM 0 1 2 0).sys 0 .h sP 4).2 4).1.t]) by rw [hsP]; show (_, _) = _; rw [show put4 n (aw n).1 = (after (mpM 0 1 2 0).sys 0 .h (aw n).1 4).2 from if_pos h3])
        have HCP := hid (show sP.clock ≤ 100 ∧ sP.bad ≤ 100 by rw [hsP]; have := HCL.out n (by omega); omega)
        clear hsP h3
        go_wp2_with fail
        refine (mp_new_run l 1 2 1 0 0 _ HI.out.1).mono ?_
        rintro e w5 ⟨rfl, hA, hb⟩
        have HI := hid (show (mpM l 1 2 0).at_ w.heap.size l _ 1 2 1 0 w5 (after (mpM 0 1 2 0).sys 0 .h sP 0).1 ∧ MemAt w5 m g (after (mpM 0 1 2 0).sys 0 .h sP 0).2 ∧ Grow w5 B 3 1 (encI .i64) (.slice a0 (aw n).2.length c0) (aw n).2 ∧ Below w.heap.size w w5 ∧ B ≤ w5.heap.size from ⟨⟨hA, HI.out.2.2.2.1.size, HI.out.1.quiet hb, trivial⟩, HI.out.2.1.quiet hb, HI.out.2.2.1.quiet hb, HI.out.2.2.2.1.trans (hb.mono HI.out.2.2.2.1.size), Nat.le_trans HI.out.2.2.2.2 hb.size⟩)
        obtain ⟨y, hy⟩ : ∃ y, y = wr.heap.size := ⟨_, rfl⟩
        rw [← hy] at HI ⊢
        clear hA hb hy
        go_wp2_with fail
        go_loopw [8] (fun i wr => ∃ j : Nat, j ≤ 4 ∧ i = .int .i64 (j : Int) ∧ (mpM l 1 2 0).at_ w.heap.size l y 1 2 1 0 wr (after (mpM 0 1 2 0).sys 0 .h sP j).1 ∧ MemAt wr m g (after (mpM 0 1 2 0).sys 0 .h sP j).2 ∧ Grow wr B 3 1 (encI .i64) (.slice a0 (aw n).2.length c0) (aw n).2 ∧ Below w.heap.size w wr ∧ B ≤ wr.heap.size) (fun i _ => 4 - (intOf i).toNat)
        case atStart => exact ⟨0, by omega, rfl, HI.out⟩
        case round =>
          clear HI
          obtain ⟨j, hj, rfl, hI⟩ := hrel
          have HI := hid hI
          clear hI
          by_cases hlt2 : j < 4
          · have hltj : decide ((j : Int) < 4) = true := decide_eq_true (by omega)
            have hcl := after_clock (mpM 0 1 2 0).sys 0 .h sP j
            have hc0 := HCP.out
            go_wp2_with fail
            refine (mpstep_run w.heap.size l y m g 1 2 1 0 0 (mp_goes l y 1 2 0 1 0 (by omega)) HI.out.1 HI.out.2.1 (by omega) (by omega)).mono ?_
            rintro e w6 ⟨⟨bb, rfl⟩, hA6, hM6, hK6⟩
            have HI6 := hid (And.intro hA6 (And.intro hM6 (And.intro (keptOwn_grow hK6 HI.out.2.2.1 HQ.out.2.2.1 HQ.out.2.2.2 (by decide)) (And.intro (keptOwn_low hK6 HI.out.2.2.2.1 HQ.out.1 HQ.out.2.1 HI.out.2.2.2.1.size) (Nat.le_trans HI.out.2.2.2.2 (keptOwn_size hK6))))))
            clear hA6 hM6 hK6 HI hcl hc0
            go_wp2_with fail
            go_roundw
            case rel => exact ⟨j + 1, by omega, by go_num, HI6.out⟩
            case measure => simp [intOf]; omega
          · obtain rfl : j = 4 := by omega
            have hltj : decide ((4 : Int) < 4) = false := by decide
            have hcl := after_clock (mpM 0 1 2 0).sys 0 .h sP 4
            obtain ⟨sX, hsX⟩ : ∃ sX, sX = (after (mpM 0 1 2 0).sys 0 .h sP 4).2 := ⟨_, rfl⟩
            rw [← hsX] at HI hcl
            have HAW := hid (show aw (n + 1) = ((after (mgM 0 1 2).sys 0 .h sX 4).2, (aw n).2 ++ [(after (mgM 0 1 2).sys 0 .h sX 4).1.t]) by rw [hsX]; exact HAWP.out)
            have HC := hid (show sX.clock ≤ 200 ∧ sX.bad ≤ 200 by have := HCP.out; omega)
            have HI := hid (show Lay wr l 1 2 1 ∧ MemAt wr m g sX ∧ Grow wr B 3 1 (encI .i64) (.slice a0 (aw n).2.length c0) (aw n).2 ∧ Below w.heap.size w wr ∧ B ≤ wr.heap.size from ⟨HI.out.1.2.2.1, HI.out.2⟩)
            clear hsX hcl HAWP HCP
            go_wp2_with fail
            refine (mg_new_run l 1 2 1 0 _ HI.out.1).mono ?_
            rintro e w5 ⟨rfl, hA, hb⟩
            have HI := hid (show (mgM l 1 2).at_ w.heap.size l _ 1 2 1 0 w5 (after (mgM 0 1 2).sys 0 .h sX 0).1 ∧ MemAt w5 m g (after (mgM 0 1 2).sys 0 .h sX 0).2 ∧ Grow w5 B 3 1 (encI .i64) (.slice a0 (aw n).2.length c0) (aw n).2 ∧ Below w.heap.size w w5 ∧ B ≤ w5.heap.size from ⟨⟨hA, HI.out.2.2.2.1.size, HI.out.1.quiet hb, trivial⟩, HI.out.2.1.quiet hb, HI.out.2.2.1.quiet hb, HI.out.2.2.2.1.trans (hb.mono HI.out.2.2.2.1.size), Nat.le_trans HI.out.2.2.2.2 hb.size⟩)
            obtain ⟨y, hy⟩ : ∃ y, y = wr.heap.size := ⟨_, rfl⟩
            rw [← hy] at HI ⊢
            clear hA hb hy
            go_wp2_with fail
            go_loopw [10] (fun i wr => ∃ j : Nat, j ≤ 4 ∧ i = .int .i64 (j : Int) ∧ (mgM l 1 2).at_ w.heap.size l y 1 2 1 0 wr (after (mgM 0 1 2).sys 0 .h sX j).1 ∧ MemAt wr m g (after (mgM 0 1 2).sys 0 .h sX j).2 ∧ Grow wr B 3 1 (encI .i64) (.slice a0 (aw n).2.length c0) (aw n).2 ∧ Below w.heap.size w wr ∧ B ≤ wr.heap.size) (fun i _ => 4 - (intOf i).toNat)
            case atStart => exact ⟨0, by omega, rfl, HI.out⟩
            case round =>
              clear HI
              obtain ⟨j, hj, rfl, hI⟩ := hrel
              have HI := hid hI
              clear hI
              by_cases hlt2 : j < 4
              · have hltj : decide ((j : Int) < 4) = true := decide_eq_true (by omega)
                have hcl := after_clock (mgM 0 1 2).sys 0 .h sX j
                have hc0 := HC.out
                go_wp2_with fail
                refine (mgstep_run w.heap.size l y m g 1 2 1 0 (mg_goes l y 1 2 1 0 (by omega)) HI.out.1 HI.out.2.1 (by omega) (by omega)).mono ?_
                rintro e w6 ⟨⟨bb, rfl⟩, hA6, hM6, hK6⟩
                have HI6 := hid (And.intro hA6 (And.intro hM6 (And.intro (keptOwn_grow hK6 HI.out.2.2.1 HQ.out.2.2.1 HQ.out.2.2.2 (by decide)) (And.intro (keptOwn_low hK6 HI.out.2.2.2.1 HQ.out.1 HQ.out.2.1 HI.out.2.2.2.1.size) (Nat.le_trans HI.out.2.2.2.2 (keptOwn_size hK6))))))
                clear hA6 hM6 hK6 HI hcl hc0
                go_wp2_with fail
                go_roundw
                case rel => exact ⟨j + 1, by omega, by go_num, HI6.out⟩
                case measure => simp [intOf]; omega
              · obtain rfl : j = 4 := by omega
                have hltj : decide ((4 : Int) < 4) = false := by decide
                have hAW := HAW.out
                obtain ⟨q, hq⟩ : ∃ q, q = after (mgM 0 1 2).sys 0 .h sX 4 := ⟨_, rfl⟩
                rw [← hq] at HI hAW
                have HAW := hid hAW
                have hlen := HLEN.out
                clear hq hAW
                go_wp2_with fail
                refine (mg_t_run HI.out.1).mono ?_
                rintro e w6 ⟨rfl, rfl⟩
                have hG6 := HI.out.2.2.1
                have hs6 := HI.out.2.2.2.2
                have hL6 := HI.out.1.2.2.1
                have hM6 := HI.out.2.1
                have hlow6 := HI.out.2.2.2.1
                have hml := HQ.out.2.2
                obtain ⟨t, ht⟩ : ∃ t, t = q.1.t := ⟨_, rfl⟩
                rw [← ht]
                have HT := hid ht
                clear HI ht
                go_wp2_with (first | (at_builtin; refine app_oneK (T := 3) t hG6 infoI Try.underlying49 rfl (by decide) (by omega) rfl _ _ rfl rfl rfl rfl (encN_len _) (encN_one _) (by omega) hs6 ?_; intro v' w7 hG7 hK7))
                have own1 : ∀ i ∈ (Value.slice a0 (aw n).2.length c0).ownBlock.toList, B ≤ i ∧ ∀ cs T', T' ≠ 3 → ¬ Blk wr i cs T' := by
                  intro i hi
                  refine ⟨own_le hG6 i (by simpa using hi), ?_⟩
                  intro cs T' hT hb
                  have := own_type hG6 hb (Ne.symm hT)
                  simp at hi
                  exact this hi
                have HI7 := hid (show Lay w7 l 1 2 1 ∧ MemAt w7 m g q.2 ∧ Grow w7 B 3 1 (encI .i64) v' ((aw n).2 ++ [t]) ∧ Below w.heap.size w w7 ∧ B ≤ w7.heap.size by
                  refine ⟨hL6.kept hK7 (fun hi => (own1 _ hi).2 _ _ (by decide) hL6.1), hM6.kept hK7 (fun hi => by have := (own1 _ hi).1; omega) (fun hi => by have := (own1 _ hi).1; omega), hG7, below_kept hlow6 hK7 (fun i hi => by have := (own1 _ hi).1; have := HB0.out; omega) hlow6.size, Nat.le_trans hs6 hK7.size⟩)
                clear hG6 hs6 hL6 hM6 hlow6 own1 hG7 hK7 hml
                go_wp2_with fail
                go_roundw
                case rel =>
                  refine ⟨n + 1, by omega, by go_num, ?_⟩
                  rw [HAW.out, ← HT.out]
                  exact HI7.out
                case measure => simp [intOf]; omega
      · have h3' : ((n : Int) == 3) = false := by simp; omega
        obtain ⟨sX, hsX⟩ : ∃ sX, sX = (aw n).1 := ⟨_, rfl⟩
        rw [← hsX] at HI
        have HAW := hid (show aw (n + 1) = ((after (mgM 0 1 2).sys 0 .h sX 4).2, (aw n).2 ++ [(after (mgM 0 1 2).sys 0 .h sX 4).1.t]) by rw [hsX]; show (_, _) = _; rw [show put4 n (aw n).1 = (aw n).1 from if_neg h3])
        have HC := hid (show sX.clock ≤ 200 ∧ sX.bad ≤ 200 by rw [hsX]; have := HCL.out n (by omega); omega)
        clear hsX h3
        go_wp2_with fail
        refine (mg_new_run l 1 2 1 0 _ HI.out.1).mono ?_
        rintro e w5 ⟨rfl, hA, hb⟩
        have HI := hid (show (mgM l 1 2).at_ w.heap.size l _ 1 2 1 0 w5 (after (mgM 0 1 2).sys 0 .h sX 0).1 ∧ MemAt w5 m g (after (mgM 0 1 2).sys 0 .h sX 0).2 ∧ Grow w5 B 3 1 (encI .i64) (.slice a0 (aw n).2.length c0) (aw n).2 ∧ Below w.heap.size w w5 ∧ B ≤ w5.heap.size from ⟨⟨hA, HI.out.2.2.2.1.size, HI.out.1.quiet hb, trivial⟩, HI.out.2.1.quiet hb, HI.out.2.2.1.quiet hb, HI.out.2.2.2.1.trans (hb.mono HI.out.2.2.2.1.size), Nat.le_trans HI.out.2.2.2.2 hb.size⟩)
        obtain ⟨y, hy⟩ : ∃ y, y = wr.heap.size := ⟨_, rfl⟩
        rw [← hy] at HI ⊢
        clear hA hb hy
        go_wp2_with fail
        go_loopw [10] (fun i wr => ∃ j : Nat, j ≤ 4 ∧ i = .int .i64 (j : Int) ∧ (mgM l 1 2).at_ w.heap.size l y 1 2 1 0 wr (after (mgM 0 1 2).sys 0 .h sX j).1 ∧ MemAt wr m g (after (mgM 0 1 2).sys 0 .h sX j).2 ∧ Grow wr B 3 1 (encI .i64) (.slice a0 (aw n).2.length c0) (aw n).2 ∧ Below w.heap.size w wr ∧ B ≤ wr.heap.size) (fun i _ => 4 - (intOf i).toNat)
        case atStart => exact ⟨0, by omega, rfl, HI.out⟩
        case round =>
          clear HI
          obtain ⟨j, hj, rfl, hI⟩ := hrel
          have HI := hid hI
          clear hI
          by_cases hlt2 : j < 4
          · have hltj : decide ((j : Int) < 4) = true := decide_eq_true (by omega)
            have hcl := after_clock (mgM 0 1 2).sys 0 .h sX j
            have hc0 := HC.out
            go_wp2_with fail
            refine (mgstep_run w.heap.size l y m g 1 2 1 0 (mg_goes l y 1 2 1 0 (by omega)) HI.out.1 HI.out.2.1 (by omega) (by omega)).mono ?_
            rintro e w6 ⟨⟨bb, rfl⟩, hA6, hM6, hK6⟩
            have HI6 := hid (And.intro hA6 (And.intro hM6 (And.intro (keptOwn_grow hK6 HI.out.2.2.1 HQ.out.2.2.1 HQ.out.2.2.2 (by decide)) (And.intro (keptOwn_low hK6 HI.out.2.2.2.1 HQ.out.1 HQ.out.2.1 HI.out.2.2.2.1.size) (Nat.le_trans HI.out.2.2.2.2 (keptOwn_size hK6))))))
            clear hA6 hM6 hK6 HI hcl hc0
            go_wp2_with fail
            go_roundw
            case rel => exact ⟨j + 1, by omega, by go_num, HI6.out⟩
            case measure => simp [intOf]; omega
          · obtain rfl : j = 4 := by omega
            have hltj : decide ((4 : Int) < 4) = false := by decide
            have hAW := HAW.out
            obtain ⟨q, hq⟩ : ∃ q, q = after (mgM 0 1 2).sys 0 .h sX 4 := ⟨_, rfl⟩
            rw [← hq] at HI hAW
            have HAW := hid hAW
            have hlen := HLEN.out
            clear hq hAW
            go_wp2_with fail
            refine (mg_t_run HI.out.1).mono ?_
            rintro e w6 ⟨rfl, rfl⟩
            have hG6 := HI.out.2.2.1
            have hs6 := HI.out.2.2.2.2
            have hL6 := HI.out.1.2.2.1
            have hM6 := HI.out.2.1
            have hlow6 := HI.out.2.2.2.1
            have hml := HQ.out.2.2
            obtain ⟨t, ht⟩ : ∃ t, t = q.1.t := ⟨_, rfl⟩
            rw [← ht]
            have HT := hid ht
            clear HI ht
            go_wp2_with (first | (at_builtin; refine app_oneK (T := 3) t hG6 infoI Try.underlying49 rfl (by decide) (by omega) rfl _ _ rfl rfl rfl rfl (encN_len _) (encN_one _) (by omega) hs6 ?_; intro v' w7 hG7 hK7))
            have own1 : ∀ i ∈ (Value.slice a0 (aw n).2.length c0).ownBlock.toList, B ≤ i ∧ ∀ cs T', T' ≠ 3 → ¬ Blk wr i cs T' := by
              intro i hi
              refine ⟨own_le hG6 i (by simpa using hi), ?_⟩
              intro cs T' hT hb
              have := own_type hG6 hb (Ne.symm hT)
              simp at hi
              exact this hi
            have HI7 := hid (show Lay w7 l 1 2 1 ∧ MemAt w7 m g q.2 ∧ Grow w7 B 3 1 (encI .i64) v' ((aw n).2 ++ [t]) ∧ Below w.heap.size w w7 ∧ B ≤ w7.heap.size by
              refine ⟨hL6.kept hK7 (fun hi => (own1 _ hi).2 _ _ (by decide) hL6.1), hM6.kept hK7 (fun hi => by have := (own1 _ hi).1; omega) (fun hi => by have := (own1 _ hi).1; omega), hG7, below_kept hlow6 hK7 (fun i hi => by have := (own1 _ hi).1; have := HB0.out; omega) hlow6.size, Nat.le_trans hs6 hK7.size⟩)
            clear hG6 hs6 hL6 hM6 hlow6 own1 hG7 hK7 hml
            go_wp2_with fail
            go_roundw
            case rel =>
              refine ⟨n + 1, by omega, by go_num, ?_⟩
              rw [HAW.out, ← HT.out]
              exact HI7.out
            case measure => simp [intOf]; omega
    · obtain rfl : n = 4 := by omega
      have hlt' : decide ((4 : Int) < 4) = false := by decide
      have hE := HE.out
      have e4 : (aw 4).2.length = 4 := by rw [hE.1]; rfl
      have hG4 := HI.out.2.2.1
      rw [hE.1] at hG4
      obtain ⟨a2, c2, hv2, hrow, _, _⟩ := hG4.row encN_len
      injection hv2 with q1 q2 q3
      subst q1 q3
      have hw4 := below_one wr (.cells #[.int .i64 0, .int .i64 1, .int .i64 (-1), .int .i64 0] 3)
      have hnew := Blk.new wr [.int .i64 0, .int .i64 1, .int .i64 (-1), .int .i64 0] 3
      have hrow2 : RowOf (encI .i64) 1 (wr.alloc (.cells #[.int .i64 0, .int .i64 1, .int .i64 (-1), .int .i64 0] 3)) (some ⟨wr.heap.size, 0, none⟩) [0, 1, -1, 0] := by
        intro i hi
        refine ⟨_, rfl, ?_⟩
        intro j v hv
        have hj : j = 0 := by
          have := (List.getElem?_eq_some_iff.1 hv).1
          simp [encI] at this
          exact this
        subst hj
        rw [show (⟨wr.heap.size, 0, none⟩ : Addr).add (i * 1 + 0) = ⟨wr.heap.size, i, none⟩ by unfold Addr.add; split <;> simp_all]
        have hi4 : i < 4 := hi
        have : i = 0 ∨ i = 1 ∨ i = 2 ∨ i = 3 := by omega
        rcases this with rfl | rfl | rfl | rfl <;> exact (hnew.cell _).trans hv
      have HX := hid (And.intro (hrow.quiet hw4) (And.intro hrow2 (And.intro (HI.out.1.quiet hw4) (And.intro (HI.out.2.1.quiet hw4) (HI.out.2.2.2.1.trans (hw4.mono HI.out.2.2.2.1.size))))))
      have HS := hid hE.2
      rw [e4]
      clear hE e4 hG4 hrow hrow2 hnew hw4 q2 HI HE HCL
      go_wp2_with (first | (go_at_call 53; refine (same12_run a0 (some ⟨wr.heap.size, 0, none⟩) c0 4 [0, 1, -1, 0] _ HX.out.1 HX.out.2.1 (by simp)).mono ?_; rintro e w5 ⟨rfl, hb5⟩) | (go_at_call 25; refine (spare_run l m g 1 2 1 _ _ (HX.out.2.2.1.quiet hb5) (HX.out.2.2.2.1.quiet hb5)).mono ?_; rintro e w6 ⟨rfl, hb6⟩; rw [HS.out]))
      go_ret
      exact ⟨rfl, Below.then_ (Below.then_ HX.out.2.2.2.2 hb5) hb6⟩
end Go.Proofs.Ytnmkfmaohflejaa.Idlem
end

section
/- A list that is gone through by its links, and the numbers that were seen, in a map of the call's own. -/
set_option maxRecDepth 100000
set_option maxHeartbeats 4000000
set_option linter.unusedVariables false
set_option linter.unusedSimpArgs false
namespace Go.Proofs.Ytnmkfmaohflejaa.Grow
open Go.RowKit Go.Proofs.Ytnmkfmaohflejaa.TK Go.Proofs.Ytnmkfmaohflejaa.Read
variable {α : Type} {P : Program}
/-- As app_one; what is kept told as the kit tells it. -/
theorem app_oneG {w : World} {B : Nat} {T S : TypeId} {z : Value} {size bytes : Nat} {enc : α → List Value} {v : Value} {xs : List α} (x : α) {U : TypeId} {cs : Array Value}
    (hG : Grow w B T size enc v xs) (hE : Elem P T z size bytes) (hS : P.underlying S = some (.slice T)) (hzs : z.cells.size = size) (hsz : 0 < size) (hbz : bytes ≤ 1000)
    {ops : Array Oper} {rest : List Oper} {o : Oper} {a : Act} {Q : Exit → Act → World → Prop}
    (hgd : o.guard = none) (s x' : Operand) (ho : o.op = .call { callee := .builtin .append, args := #[s, x'], argTypes := #[S, S] }) (hs : a.eval s = v) (hx : a.eval x' = .slice (some ⟨w.heap.size, 0, none⟩) 1 1)
    (hc : cs.toList = enc x) (hl : (enc x).length = size) (h1 : ∀ u ∈ enc x, u.oneCell' = true) (hm : xs.length ≤ 1000000) (hB : B ≤ w.heap.size)
    (h : ∀ v' w', Grow w' B T size enc v' (xs ++ [x]) → w.grownBy w' v.ownBlock → wpList P ops Q rest (a.put o.dst v') w') :
    wpList P ops Q (o :: rest) a (w.alloc (.cells cs U)) := by
  obtain ⟨i0, hi, hz0, hz1, hz2⟩ := info_parts hE
  have hb1 : (xs.length + 1) * bytes ≤ 1000001 * 1000 := Nat.mul_le_mul (by omega) hbz
  refine wpList_append_own _ hgd s x' S ho B T i0 _ size bytes hS hi hz0 hz1 hz2 hzs hsz v xs.length (xs.flatMap enc) hs (World.ownsRow.alloc hG _) ⟨w.heap.size, 0, none⟩ 1 1 (enc x) hx (by rw [hl, Nat.one_mul]) ?_ h1 (by unfold maxLen; omega) (by omega) (by simp; omega) ?_
  · intro j u hj
    have hb : Blk (w.alloc (.cells cs U)) w.heap.size cs.toList U := by
      have := Blk.new w cs.toList U
      simpa using this
    have e1 : (⟨w.heap.size, 0, none⟩ : Addr).add j = ⟨w.heap.size, j, none⟩ := by unfold Addr.add; split <;> simp_all
    rw [e1, hb.cell j, hc]
    exact hj
  · intro v' w' hown hgrow _
    refine h v' w' ?_ ((World.grownBy_alloc _ _ _).trans hgrow)
    unfold Grow
    rw [List.length_append, List.flatMap_append]
    simpa using hown
end Go.Proofs.Ytnmkfmaohflejaa.Grow
namespace Go.Proofs.Ytnmkfmaohflejaa.MapL
open Go.RowKit Go.Shelf Go.Proofs.Ytnmkfmaohflejaa.TK Go.Proofs.Ytnmkfmaohflejaa.Flag Go.Proofs.Ytnmkfmaohflejaa.Read Go.Proofs.Ytnmkfmaohflejaa.Grow Go.Proofs.Ytnmkfmaohflejaa.Words Go.Proofs.Ytnmkfmaohflejaa.Mem Go.Proofs.Ytnmkfmaohflejaa.Layout Go.Proofs.Ytnmkfmaohflejaa.Mach
/-- The number that a word tells of. -/
def nOf (a : Int) : Int := IntKind.i64.wrap (IntKind.i64.wrap a - 1)
/-- What is told of a list: its numbers, and whether it is right; rd: what a link says, and whether it is there. -/
def wlk (rd : Int → Int × Bool) : Nat → Int → List Int → List Int × Bool
  | 0, x, out => (out, decide (x = 0))
  | f + 1, x, out => if x = 0 then (out, true) else if (rd (nOf x)).2 = false ∨ nOf x ∈ out then (out, false) else wlk rd f (rd (nOf x)).1 (out ++ [nOf x])
theorem wlk_zero (rd : Int → Int × Bool) (f : Nat) (out : List Int) : wlk rd f 0 out = (out, true) := by cases f <;> simp [wlk]
/-- Unlike numbers below N are at most N. -/
theorem pigeon : ∀ (N : Nat) (xs : List Int), xs.Nodup → (∀ t ∈ xs, 0 ≤ t ∧ t < (N : Int)) → xs.length ≤ N := by
  intro N
  induction N with
  | zero =>
    intro xs _ h
    cases xs with
    | nil => simp
    | cons a l => have := h a (by simp); omega
  | succ N ih =>
    intro xs hn h
    by_cases hm : (N : Int) ∈ xs
    · have h1 := ih (xs.erase (N : Int)) (hn.erase _) (by
        intro t ht
        have h2 := (hn.mem_erase_iff).1 ht
        have := h t h2.2
        have := h2.1
        omega)
      rw [List.length_erase_of_mem hm] at h1
      omega
    · have := ih xs hn (by
        intro t ht
        have h2 := h t ht
        have : t ≠ (N : Int) := fun e => hm (by rw [← e]; exact ht)
        omega)
      omega
theorem law : Go.Maps.Keyed Try.prog 3 := Go.Maps.int_keyed Try.underlying3
theorem zeroE (w : World) : (zeroValue 3).run Try.prog w = .ok (.int .i64 0) w := by kernel_rfl
/-- The map in block b has these numbers, each with 1. -/
def Seen (w : World) (b n : Nat) (out : List Int) : Prop := ∃ D : DataW Unit, w.ownsMap Try.prog 3 (plainElem Try.prog 3) b n D ∧ Go.Maps.IsMap D ∧ ∀ t, (Lit.int .i64 t).wf = true → D.atKey (.int .i64 t) (.lit (.int .i64 0)) = .lit (.int .i64 (if t ∈ out then 1 else 0))
theorem Seen.new (w : World) : Seen (w.alloc (.map #[] 0)) w.heap.size 0 [] := ⟨.map [], World.ownsMap_made _ _ _ _, Go.Maps.isMap_empty, fun t _ => rfl⟩
theorem Seen.quiet {w w' : World} {b n : Nat} {out : List Int} (h : Seen w b n out) (hb : Below w.heap.size w w') : Seen w' b n out := by
  obtain ⟨D, ⟨es, clock, h1, h2⟩, h3⟩ := h
  exact ⟨D, ⟨es, clock, (hb.block b (lt_of_block h1)).trans h1, h2⟩, h3⟩
theorem Seen.grown {w w' : World} {b n : Nat} {out : List Int} {row : Option Nat} (h : Seen w b n out) (hg : w.grownBy w' row) (hne : some b ≠ row) : Seen w' b n out := by
  obtain ⟨D, h1, h3⟩ := h
  exact ⟨D, h1.kept hg hne, h3⟩
theorem Seen.look {w : World} {b n : Nat} {out : List Int} (h : Seen w b n out) {t : Int} (ht : (Lit.int .i64 t).wf = true) : (Instr.lookup 120 (.map (some b)) (.int .i64 t) false).run Try.prog w = .ok (.int .i64 (if t ∈ out then 1 else 0)) w := by
  obtain ⟨D, h1, h2, h3⟩ := h
  obtain ⟨c, hrun, hat, _⟩ := h1.lookup_int law Try.underlying120 Try.underlying3 (zeroE _) (Go.Maps.keyOf_int_mk Try.underlying3 ht)
  rw [h3 t ht] at hat
  injection hat with hat
  injection hat with _ hat
  rw [hat]
  exact hrun
theorem Seen.put {w : World} {b n : Nat} {out : List Int} {t : Int} (ht : (Lit.int .i64 t).wf = true) {D : DataW Unit} (h2 : Go.Maps.IsMap D) (h3 : ∀ t, (Lit.int .i64 t).wf = true → D.atKey (.int .i64 t) (.lit (.int .i64 0)) = .lit (.int .i64 (if t ∈ out then 1 else 0))) (h1 : w.ownsMap Try.prog 3 (plainElem Try.prog 3) b (n + 1) (D.put (.int .i64 t) (.lit (.int .i64 1)))) : Seen w b (n + 1) (out ++ [t]) := by
  refine ⟨_, h1, h2.put _ _, ?_⟩
  intro u hu
  by_cases he : u = t
  · subst he
    rw [Go.Maps.atKey_put_same (k := .int .i64 u) h2 trivial]
    simp
  · rw [Go.Maps.atKey_put_other (by intro h; injection h with _ h; exact he h), h3 u hu]
    simp [he]
theorem wrap_wf (x : Int) : (Lit.int .i64 (IntKind.i64.wrap x)).wf = true := by
  rw [IntKind.wrap_i64]
  simp [Lit.wf, IntKind.min, IntKind.max, IntKind.signed, IntKind.bits]
  omega
theorem wlk_len (rd : Int → Int × Bool) : ∀ (f : Nat) (x : Int) (out : List Int), (wlk rd f x out).1.length ≤ out.length + f := by
  intro f
  induction f with
  | zero => intro x out; simp [wlk]
  | succ f ih =>
    intro x out
    unfold wlk
    split
    · simp
    · split
      · simp
      · have := ih (rd (nOf x)).1 (out ++ [nOf x])
        simp at this
        omega
/-- A slice's length. -/
def lenV : Value → Nat
  | .slice _ n _ => n
  | _ => 0
end Go.Proofs.Ytnmkfmaohflejaa.MapL
end
