/- Locks: acquiring one, state by state. -/
import Derived.Test.YtokpgbocomhpiaaFlowC
import Derived.Test.YtokpgbocomhpiaaLayoutB
set_option maxRecDepth 100000
set_option maxHeartbeats 4000000
set_option linter.unusedVariables false
set_option linter.unusedSimpArgs false
namespace Go.Proofs.Ytokpgbocomhpiaa.Lock
open Go.RowKit Go.Shelf Go.Proofs.Ytokpgbocomhpiaa.TK Go.Proofs.Ytokpgbocomhpiaa.Flag Go.Proofs.Ytokpgbocomhpiaa.Words Go.Proofs.Ytokpgbocomhpiaa.Mem Go.Proofs.Ytokpgbocomhpiaa.Flow Go.Proofs.Ytokpgbocomhpiaa.Layout

def tk (k : Int) : Int := placeN true 0 k 2 3 0 3
def sv (k : Int) : Int := placeN true 0 k 2 3 1 3
def ow (k : Int) : Int := placeN true 0 k 2 3 2 3
def acqR (l : Nat) (k turn : Int) (known : Bool) : List Value := [.pointer (some ⟨l, 0, none⟩), .int .i64 k, .int .u64 turn, .bool known]
def meth (f x : Nat) : Value := .func (.func f) #[.pointer (some ⟨x, 0, none⟩)] #[]

theorem acq_new (l : Nat) (k who : Int) (w : World) :
    Calls Try.prog 41 #[.pointer (some ⟨l, 0, none⟩), .int .i64 k, .int .i64 who] w fun e w' => e = .returned (.pointer (some ⟨w.heap.size, 0, none⟩)) ∧ FlAt w' w.heap.size ⟨who, 4, tk k, 0, 1, meth 148 w.heap.size, false, .nilIface, .nilFunc⟩ (acqR l k 0 false) 145 ∧ Below w.heap.size w w' := by
  have h0 : FlAt (w.alloc (.cells (fl fl0 ++ acqR l k 0 false).toArray 145)) w.heap.size fl0 (acqR l k 0 false) 145 := Blk.new w _ _
  go_enter Try.func41, Try.ntmps41
  go_wp2_with fail
  refine (fof_run w.heap.size fl0 (acqR l k 0 false) 145 who _ h0).mono ?_
  rintro e w1 ⟨rfl, h1, hK⟩
  have hlow : Below w.heap.size w w1 := (below_one _ _).trans (hK.below (by simp) (by simp))
  clear h0 hK
  go_wp2_with fail
  refine wp_region_T 8 (fun w' => FlAt w' w.heap.size { fl0 with who := who } (acqR l k 0 false) 145 ∧ Below w.heap.size w w') (fun w' => FlAt w' w.heap.size ⟨who, 4, tk k, 0, 1, meth 148 w.heap.size, false, .nilIface, .nilFunc⟩ (acqR l k 0 false) 145 ∧ Below w.heap.size w w') (by kernel_rfl) (by kernel_rfl) rfl (by kernel_rfl) ⟨h1, hlow.drew⟩ ?_
  clear h1 hlow
  repeat (first | (apply walkD_pure; rfl; rfl; (intro _; go_simp; first | done | rfl); (intro K hK; go_simp; refine hK _ ?_; clear hK K)) | (apply walkD_skip; rfl; rfl; (intro K hK; go_simp; refine hK _ ?_; clear hK K)) | (apply walkD_call1 [false] (by kernel_rfl); rfl; (intro _; go_simp; first | rfl | exact ⟨rfl, rfl⟩); (intro w' hD; first | (go_at_call 147; refine (ticket_run l k _).mono ?_; rintro e w2 ⟨rfl, rfl⟩; exact ⟨rfl, hD⟩) | (go_at_call 146; refine (fadd_run w.heap.size _ _ _ _ _ _ _ _ _ hD.1).mono ?_; rintro e w2 ⟨rfl, hF, hK⟩; exact ⟨rfl, hF, hD.2.trans (hK.below (by simp) hD.2.size)⟩)); (intro K hK; go_simp; refine hK _ ?_; clear hK K)))
  rintro w2 ⟨hF, hlow⟩
  go_wp2
  go_ret
  exact ⟨rfl, hF, hlow⟩

/-- The turn that a ticket's answer tells. -/
def turnOf (a : Int) : Int := (a + 4294967295) % 4294967296
theorem turn_wrap (a : Int) (h : 0 ≤ a ∧ a < 18446744073709551616) : IntKind.u64.wrap (IntKind.u64.wrap (a + 4294967296) - 1) = (a + 4294967295) % 18446744073709551616 ∧ ((a + 4294967295) % 18446744073709551616).tmod 4294967296 = turnOf a ∧ (0 ≤ turnOf a ∧ turnOf a < 4294967296) ∧ IntKind.u64.wrap (turnOf a) = turnOf a := by
  have e1 : 0 ≤ turnOf a ∧ turnOf a < 4294967296 := by unfold turnOf; omega
  refine ⟨?_, ?_, e1, ?_⟩
  · rw [IntKind.wrap_u64, IntKind.wrap_u64]; omega
  · rw [Int.tmod_eq_emod_of_nonneg (by omega)]; unfold turnOf; omega
  · rw [IntKind.wrap_u64]; omega

theorem asked_run (x l : Nat) (k turn a : Int) (kn : Bool) (f : Fl) (w : World) (hb : FlAt w x f (acqR l k turn kn) 145) (ha : 0 ≤ a ∧ a < 18446744073709551616) :
    Calls Try.prog 148 #[.pointer (some ⟨x, 0, none⟩), .int .u64 a] w fun e w' => e = .returned (.tuple #[]) ∧ FlAt w' x { f with kind := 1, at_ := sv k, old := 0, nw := 0, th := meth 203 x } (acqR l k (turnOf a) true) 145 ∧ Kept [x] w w' := by
  have hf := Blk.frozen hb
  have b1 : FlAt ((w.setCell ⟨x, 11, none⟩ (.int .u64 (turnOf a))).setCell ⟨x, 12, none⟩ (.bool true)) x f (acqR l k (turnOf a) true) 145 := (Blk.set hb 11 (.int .u64 (turnOf a))).set 12 (.bool true)
  have hK : Kept [x] w ((w.setCell ⟨x, 11, none⟩ (.int .u64 (turnOf a))).setCell ⟨x, 12, none⟩ (.bool true)) := ((Kept.refl [x] w).set (.inl (by simp)) _).set (.inl (by simp)) _
  obtain ⟨e1, e2, e3, e4⟩ := turn_wrap a ha
  have z1 := Blk.cell hb 11
  have z2 := Blk.cell hb 12
  simp only [fl, acqR, List.cons_append, List.nil_append, List.getElem?_cons_zero, List.getElem?_cons_succ] at z1 z2
  obtain ⟨t, ht⟩ : ∃ t, t = turnOf a := ⟨_, rfl⟩
  rw [← ht] at b1 hK e2 e4 ⊢
  have HT := hid ht
  clear hb ht e3 ha
  go_enter Try.func148, Try.ntmps148
  go_wp2_with fail
  refine wp_region_T 14 (fun w' => FlAt w' x f (acqR l k t true) 145 ∧ Kept [x] w w') (fun w' => FlAt w' x { f with kind := 1, at_ := sv k, old := 0, nw := 0, th := meth 203 x } (acqR l k t true) 145 ∧ Kept [x] w w') (by kernel_rfl) (by kernel_rfl) rfl (by kernel_rfl) ⟨b1, hK.drew⟩ ?_
  clear b1 hK z1 z2 e1 e2 e4 hf
  repeat (first | (apply walkD_pure; rfl; rfl; (intro _; go_simp; first | done | rfl); (intro K hK; go_simp; refine hK _ ?_; clear hK K)) | (apply walkD_skip; rfl; rfl; (intro K hK; go_simp; refine hK _ ?_; clear hK K)) | (apply walkD_read1 [false] (by kernel_rfl); rfl; rfl; (intro w' hD; have y0 := Blk.cell hD.1 9; have y1 := Blk.cell hD.1 10; have y2 := Blk.cell hD.1 11; simp only [fl, acqR, List.cons_append, List.nil_append, List.getElem?_cons_zero, List.getElem?_cons_succ] at y0 y1 y2; go_simp; rfl); (intro K hK; go_simp; refine hK _ ?_; clear hK K)) | (apply walkD_call1 [false] (by kernel_rfl); rfl; (intro _; go_simp; first | rfl | exact ⟨rfl, rfl⟩); (intro w' hD; first | (go_at_call 202; refine (serving_run l k _).mono ?_; rintro e w2 ⟨rfl, rfl⟩; exact ⟨rfl, hD⟩) | (go_at_call 164; refine (fload_run x _ _ _ _ _ _ _ _ hD.1).mono ?_; rintro e w2 ⟨rfl, hF, hK⟩; exact ⟨rfl, hF, hD.2.trans hK (by intro i hi; exact .inl hi)⟩)); (intro K hK; go_simp; refine hK _ ?_; clear hK K)))
  rintro w2 ⟨hF, hK⟩
  go_wp2
  go_returns
  exact ⟨rfl, hF, hK⟩

theorem waits_again (x l : Nat) (k turn a : Int) (f : Fl) (w : World) (hb : FlAt w x f (acqR l k turn true) 145) (hne : a ≠ turn) :
    Calls Try.prog 203 #[.pointer (some ⟨x, 0, none⟩), .int .u64 a] w fun e w' => e = .returned (.tuple #[]) ∧ FlAt w' x { f with kind := 1, at_ := sv k, old := 0, nw := 0, th := meth 203 x } (acqR l k turn true) 145 ∧ Kept [x] w w' := by
  have hd : ((a : Int) == turn) = false := by simpa using hne
  have z1 := Blk.cell hb 11
  simp only [fl, acqR, List.cons_append, List.nil_append, List.getElem?_cons_zero, List.getElem?_cons_succ] at z1
  have HB := hid hb
  clear hb hne
  go_enter Try.func203, Try.ntmps203
  go_wp2_with fail
  refine wp_region_T 14 (fun w' => FlAt w' x f (acqR l k turn true) 145 ∧ Kept [x] w w') (fun w' => FlAt w' x { f with kind := 1, at_ := sv k, old := 0, nw := 0, th := meth 203 x } (acqR l k turn true) 145 ∧ Kept [x] w w') (by kernel_rfl) (by kernel_rfl) rfl (by kernel_rfl) ⟨HB.out, (Kept.refl [x] w).drew⟩ ?_
  clear HB z1 hd
  repeat (first | (apply walkD_pure; rfl; rfl; (intro _; go_simp; first | done | rfl); (intro K hK; go_simp; refine hK _ ?_; clear hK K)) | (apply walkD_skip; rfl; rfl; (intro K hK; go_simp; refine hK _ ?_; clear hK K)) | (apply walkD_read1 [false] (by kernel_rfl); rfl; rfl; (intro w' hD; have y0 := Blk.cell hD.1 9; have y1 := Blk.cell hD.1 10; have y2 := Blk.cell hD.1 11; simp only [fl, acqR, List.cons_append, List.nil_append, List.getElem?_cons_zero, List.getElem?_cons_succ] at y0 y1 y2; go_simp; rfl); (intro K hK; go_simp; refine hK _ ?_; clear hK K)) | (apply walkD_call1 [false] (by kernel_rfl); rfl; (intro _; go_simp; first | rfl | exact ⟨rfl, rfl⟩); (intro w' hD; first | (go_at_call 202; refine (serving_run l k _).mono ?_; rintro e w2 ⟨rfl, rfl⟩; exact ⟨rfl, hD⟩) | (go_at_call 164; refine (fload_run x _ _ _ _ _ _ _ _ hD.1).mono ?_; rintro e w2 ⟨rfl, hF, hK⟩; exact ⟨rfl, hF, hD.2.trans hK (by intro i hi; exact .inl hi)⟩)); (intro K hK; go_simp; refine hK _ ?_; clear hK K)))
  rintro w2 ⟨hF, hK⟩
  go_wp2
  go_returns
  exact ⟨rfl, hF, hK⟩
theorem waits_has (x l : Nat) (k turn : Int) (f : Fl) (w : World) (hb : FlAt w x f (acqR l k turn true) 145) (hw : 0 ≤ f.who ∧ f.who ≤ 1000) :
    Calls Try.prog 203 #[.pointer (some ⟨x, 0, none⟩), .int .u64 turn] w fun e w' => e = .returned (.tuple #[]) ∧ ∃ b, FlAt w' x { f with kind := 2, at_ := ow k, old := 0, nw := f.who + 1, th := .func (.func 201) #[] #[.pointer (some ⟨b, 0, none⟩)] } (acqR l k turn true) 145 ∧ Blk w' b [meth 233 x] 1 ∧ w.heap.size ≤ b ∧ Kept [x] w w' := by
  have hd : ((turn : Int) == turn) = true := by simp
  have z1 := Blk.cell hb 11
  simp only [fl, acqR, List.cons_append, List.nil_append, List.getElem?_cons_zero, List.getElem?_cons_succ] at z1
  have n1 : IntKind.u64.wrap f.who = f.who := by rw [IntKind.wrap_u64]; omega
  have n2 : IntKind.u64.wrap (f.who + 1) = f.who + 1 := by rw [IntKind.wrap_u64]; omega
  obtain ⟨who, hwho⟩ : ∃ who, who = f.who := ⟨_, rfl⟩
  rw [← hwho] at n1 n2
  have HW := hid hwho
  have HB := hid hb
  clear hb hw hwho
  go_enter Try.func203, Try.ntmps203
  go_wp2_with fail
  refine wp_region_T 20 (fun w' => FlAt w' x f (acqR l k turn true) 145 ∧ Kept [x] w w') (fun w' => ∃ b, FlAt w' x { f with kind := 2, at_ := ow k, old := 0, nw := f.who + 1, th := .func (.func 201) #[] #[.pointer (some ⟨b, 0, none⟩)] } (acqR l k turn true) 145 ∧ Blk w' b [meth 233 x] 1 ∧ w.heap.size ≤ b ∧ Kept [x] w w') (by kernel_rfl) (by kernel_rfl) rfl (by kernel_rfl) ⟨HB.out, (Kept.refl [x] w).drew⟩ ?_
  clear HB z1 hd
  repeat (first | (apply walkD_pure; rfl; rfl; (intro _; go_simp; first | done | rfl); (intro K hK; go_simp; refine hK _ ?_; clear hK K)) | (apply walkD_skip; rfl; rfl; (intro K hK; go_simp; refine hK _ ?_; clear hK K)) | (apply walkD_read1 [false] (by kernel_rfl); rfl; rfl; (intro w' hD; have y0 := Blk.cell hD.1 9; have y1 := Blk.cell hD.1 10; have y2 := Blk.cell hD.1 11; simp only [fl, acqR, List.cons_append, List.nil_append, List.getElem?_cons_zero, List.getElem?_cons_succ] at y0 y1 y2; go_simp; rfl); (intro K hK; go_simp; refine hK _ ?_; clear hK K)) | (apply walkD_call1 [false] (by kernel_rfl); rfl; (intro _; go_simp; first | rfl | exact ⟨rfl, rfl⟩); (intro w' hD; first | (go_at_call 149; refine (owner_run l k _).mono ?_; rintro e w2 ⟨rfl, rfl⟩; exact ⟨rfl, hD⟩) | (go_at_call 232; refine (fwho_run x _ _ _ _ hD.1).mono ?_; rintro e w2 ⟨rfl, rfl⟩; rw [← HW.out]; exact ⟨rfl, hD⟩) | (go_at_call 144; refine (fstore_run x _ _ _ _ _ _ _ _ _ hD.1).mono ?_; rintro e w2 ⟨rfl, b, hF, hX, hle, hK⟩; rw [HW.out] at hF; exact ⟨rfl, b, hF, hX, Nat.le_trans hD.2.size hle, hD.2.trans hK (by intro i hi; exact .inl hi)⟩)); (intro K hK; go_simp; refine hK _ ?_; clear hK K)))
  rintro w2 ⟨b, hF, hX, hle, hK⟩
  go_wp2
  go_returns
  exact ⟨rfl, b, hF, hX, hle, hK⟩
theorem aends_run (x : Value) (w : World) : Calls Try.prog 233 #[x] w fun e w' => (∃ r, e = .returned r) ∧ w = w' := by
  go_enter Try.func233, Try.ntmps233
  go_wp2
  go_returns
  exact ⟨⟨_, rfl⟩, rfl⟩
end Go.Proofs.Ytokpgbocomhpiaa.Lock
