/- Notes: a sleep and a wake, state by state. -/
import Derived.Test.YtokpgbocomhpiaaLockC
set_option maxRecDepth 100000
set_option maxHeartbeats 4000000
set_option linter.unusedVariables false
set_option linter.unusedSimpArgs false
namespace Go.Proofs.Ytokpgbocomhpiaa.Note
open Go.RowKit Go.Shelf Go.Proofs.Ytokpgbocomhpiaa.TK Go.Proofs.Ytokpgbocomhpiaa.Flag Go.Proofs.Ytokpgbocomhpiaa.Words Go.Proofs.Ytokpgbocomhpiaa.Mem Go.Proofs.Ytokpgbocomhpiaa.Flow Go.Proofs.Ytokpgbocomhpiaa.Layout Go.Proofs.Ytokpgbocomhpiaa.Lock
def nt (p t n : Int) : Int := placeN true (20 + p * 264) n t 3 0 3
theorem nnew_run (l : Nat) (p t g n : Int) (w : World) (hL : Lay w l p t g) :
    Calls Try.prog 33 #[.pointer (some ⟨l, 0, none⟩), .int .i64 n] w fun e w' => e = .returned (.pointer (some ⟨w.heap.size, 0, none⟩)) ∧ FlAt w' w.heap.size ⟨n, 5, nt p t n, 0, 0, meth 140 w.heap.size, false, .nilIface, .nilFunc⟩ [.int .i64 (nt p t n)] 159 ∧ Below w.heap.size w w' := by
  have h0 : FlAt (w.alloc (.cells (fl fl0 ++ [Value.int .i64 0]).toArray 159)) w.heap.size fl0 [.int .i64 0] 159 := Blk.new w _ _
  have hL0 := hL.quiet (below_one w (.cells (fl fl0 ++ [Value.int .i64 0]).toArray 159))
  obtain ⟨a, ha⟩ : ∃ a, a = nt p t n := ⟨_, rfl⟩
  have hnt : placeN true (20 + p * 264) n t 3 0 3 = a := ha.symm
  rw [← ha]
  clear ha
  go_enter Try.func33, Try.ntmps33
  go_wp2_with fail
  refine (thread_run l p t g n 0 _ hL0).mono ?_
  rintro e w1 ⟨rfl, hb1⟩
  have h1 := h0.quiet hb1
  have hlow := Below.then_ (below_one w (.cells (fl fl0 ++ [Value.int .i64 0]).toArray 159)) hb1
  have z := Blk.cell h1 9
  have hf := Blk.frozen h1
  simp only [fl, List.cons_append, List.nil_append, List.getElem?_cons_zero, List.getElem?_cons_succ] at z
  have h2 : FlAt (w1.setCell ⟨w.heap.size, 9, none⟩ (.int .i64 a)) w.heap.size fl0 [.int .i64 a] 159 := Blk.set h1 9 (.int .i64 a)
  have hlow2 : Below w.heap.size w (w1.setCell ⟨w.heap.size, 9, none⟩ (.int .i64 a)) := below_kept hlow ((Kept.refl [w.heap.size] w1).set (.inl (by simp)) _) (by simp) hlow.size
  rw [hnt]
  clear h0 hL0 hL hb1 h1 hlow hnt
  go_wp2_with fail
  refine (fof_run w.heap.size fl0 [.int .i64 a] 159 n _ h2).mono ?_
  rintro e w2 ⟨rfl, h3, hK⟩
  have hlow3 := below_kept hlow2 hK (by simp) hlow2.size
  clear h2 hlow2 hK z hf
  go_wp2_with fail
  refine wp_region_T 11 (fun w' => FlAt w' w.heap.size { fl0 with who := n } [.int .i64 a] 159 ∧ Below w.heap.size w w') (fun w' => FlAt w' w.heap.size ⟨n, 5, a, 0, 0, meth 140 w.heap.size, false, .nilIface, .nilFunc⟩ [.int .i64 a] 159 ∧ Below w.heap.size w w') (by kernel_rfl) (by kernel_rfl) rfl (by kernel_rfl) ⟨h3, hlow3.drew⟩ ?_
  clear h3 hlow3
  repeat (first | (apply walkD_pure; rfl; rfl; (intro _; go_simp; first | done | rfl); (intro K hK; go_simp; refine hK _ ?_; clear hK K)) | (apply walkD_skip; rfl; rfl; (intro K hK; go_simp; refine hK _ ?_; clear hK K)) | (apply walkD_read1 [false] (by kernel_rfl); rfl; rfl; (intro w' hD; have y0 := Blk.cell hD.1 9; simp only [fl, List.cons_append, List.nil_append, List.getElem?_cons_zero, List.getElem?_cons_succ] at y0; go_simp; rfl); (intro K hK; go_simp; refine hK _ ?_; clear hK K)) | (apply walkD_call1 [false] (by kernel_rfl); rfl; (intro _; go_simp; first | rfl | exact ⟨rfl, rfl⟩); (intro w' hD; (go_at_call 139; refine (fsleep_run w.heap.size _ _ _ _ _ _ _ _ hD.1).mono ?_; rintro e w2 ⟨rfl, hF, hK⟩; exact ⟨rfl, hF, hD.2.trans (hK.below (by simp) hD.2.size)⟩)); (intro K hK; go_simp; refine hK _ ?_; clear hK K)))
  rintro w2 ⟨hF, hlow⟩
  go_wp2
  go_ret
  exact ⟨rfl, hF, hlow⟩
theorem woken_run (x : Nat) (a v : Int) (f : Fl) (w : World) (hb : FlAt w x f [.int .i64 a] 159) :
    Calls Try.prog 140 #[.pointer (some ⟨x, 0, none⟩), .int .u64 v] w fun e w' => e = .returned (.tuple #[]) ∧ ∃ b, FlAt w' x { f with kind := 2, at_ := a, old := 0, nw := 0, th := .func (.func 201) #[] #[.pointer (some ⟨b, 0, none⟩)] } [.int .i64 a] 159 ∧ Blk w' b [meth 145 x] 1 ∧ w.heap.size ≤ b ∧ Kept [x] w w' := by
  have HB := hid hb
  clear hb
  go_enter Try.func140, Try.ntmps140
  go_wp2_with fail
  refine wp_region_T 13 (fun w' => FlAt w' x f [.int .i64 a] 159 ∧ Kept [x] w w') (fun w' => ∃ b, FlAt w' x { f with kind := 2, at_ := a, old := 0, nw := 0, th := .func (.func 201) #[] #[.pointer (some ⟨b, 0, none⟩)] } [.int .i64 a] 159 ∧ Blk w' b [meth 145 x] 1 ∧ w.heap.size ≤ b ∧ Kept [x] w w') (by kernel_rfl) (by kernel_rfl) rfl (by kernel_rfl) ⟨HB.out, (Kept.refl [x] w).drew⟩ ?_
  clear HB
  repeat (first | (apply walkD_pure; rfl; rfl; (intro _; go_simp; first | done | rfl); (intro K hK; go_simp; refine hK _ ?_; clear hK K)) | (apply walkD_skip; rfl; rfl; (intro K hK; go_simp; refine hK _ ?_; clear hK K)) | (apply walkD_read1 [false] (by kernel_rfl); rfl; rfl; (intro w' hD; have y0 := Blk.cell hD.1 9; simp only [fl, List.cons_append, List.nil_append, List.getElem?_cons_zero, List.getElem?_cons_succ] at y0; go_simp; rfl); (intro K hK; go_simp; refine hK _ ?_; clear hK K)) | (apply walkD_call1 [false] (by kernel_rfl); rfl; (intro _; go_simp; first | rfl | exact ⟨rfl, rfl⟩); (intro w' hD; (go_at_call 144; refine (fstore_run x _ _ _ _ _ _ _ _ _ hD.1).mono ?_; rintro e w2 ⟨rfl, b, hF, hX, hle, hK⟩; exact ⟨rfl, b, hF, hX, Nat.le_trans hD.2.size hle, hD.2.trans hK (by intro i hi; exact .inl hi)⟩)); (intro K hK; go_simp; refine hK _ ?_; clear hK K)))
  rintro w2 ⟨b, hF, hX, hle, hK⟩
  go_wp2
  go_returns
  exact ⟨rfl, b, hF, hX, hle, hK⟩
theorem nends_run (x : Value) (w : World) : Calls Try.prog 145 #[x] w fun e w' => (∃ r, e = .returned r) ∧ w = w' := by
  go_enter Try.func145, Try.ntmps145
  go_wp2
  go_returns
  exact ⟨⟨_, rfl⟩, rfl⟩
theorem nwake_run (l : Nat) (p t g n who : Int) (w : World) (hL : Lay w l p t g) :
    Calls Try.prog 38 #[.pointer (some ⟨l, 0, none⟩), .int .i64 n, .int .i64 who] w fun e w' => e = .returned (.pointer (some ⟨w.heap.size, 0, none⟩)) ∧ (∃ b, FlAt w' w.heap.size ⟨who, 2, nt p t n, 0, 1, .func (.func 201) #[] #[.pointer (some ⟨b, 0, none⟩)], false, .nilIface, .nilFunc⟩ [.int .i64 (nt p t n)] 165 ∧ Blk w' b [meth 145 w.heap.size] 1) ∧ Below w.heap.size w w' := by
  have h0 : FlAt (w.alloc (.cells (fl fl0 ++ [Value.int .i64 0]).toArray 165)) w.heap.size fl0 [.int .i64 0] 165 := Blk.new w _ _
  have hL0 := hL.quiet (below_one w (.cells (fl fl0 ++ [Value.int .i64 0]).toArray 165))
  obtain ⟨a, ha⟩ : ∃ a, a = nt p t n := ⟨_, rfl⟩
  have hnt : placeN true (20 + p * 264) n t 3 0 3 = a := ha.symm
  rw [← ha]
  clear ha
  go_enter Try.func38, Try.ntmps38
  go_wp2_with fail
  refine (thread_run l p t g n 0 _ hL0).mono ?_
  rintro e w1 ⟨rfl, hb1⟩
  have h1 := h0.quiet hb1
  have hlow := Below.then_ (below_one w (.cells (fl fl0 ++ [Value.int .i64 0]).toArray 165)) hb1
  have z := Blk.cell h1 9
  have hf := Blk.frozen h1
  simp only [fl, List.cons_append, List.nil_append, List.getElem?_cons_zero, List.getElem?_cons_succ] at z
  have h2 : FlAt (w1.setCell ⟨w.heap.size, 9, none⟩ (.int .i64 a)) w.heap.size fl0 [.int .i64 a] 165 := Blk.set h1 9 (.int .i64 a)
  have hlow2 : Below w.heap.size w (w1.setCell ⟨w.heap.size, 9, none⟩ (.int .i64 a)) := below_kept hlow ((Kept.refl [w.heap.size] w1).set (.inl (by simp)) _) (by simp) hlow.size
  rw [hnt]
  clear h0 hL0 hL hb1 h1 hlow hnt
  go_wp2_with fail
  refine (fof_run w.heap.size fl0 [.int .i64 a] 165 who _ h2).mono ?_
  rintro e w2 ⟨rfl, h3, hK⟩
  have hlow3 := below_kept hlow2 hK (by simp) hlow2.size
  clear h2 hlow2 hK z hf
  go_wp2_with fail
  refine wp_region_T 13 (fun w' => FlAt w' w.heap.size { fl0 with who := who } [.int .i64 a] 165 ∧ Below w.heap.size w w') (fun w' => (∃ b, FlAt w' w.heap.size ⟨who, 2, a, 0, 1, .func (.func 201) #[] #[.pointer (some ⟨b, 0, none⟩)], false, .nilIface, .nilFunc⟩ [.int .i64 a] 165 ∧ Blk w' b [meth 145 w.heap.size] 1) ∧ Below w.heap.size w w') (by kernel_rfl) (by kernel_rfl) rfl (by kernel_rfl) ⟨h3, hlow3.drew⟩ ?_
  clear h3 hlow3
  repeat (first | (apply walkD_pure; rfl; rfl; (intro _; go_simp; first | done | rfl); (intro K hK; go_simp; refine hK _ ?_; clear hK K)) | (apply walkD_skip; rfl; rfl; (intro K hK; go_simp; refine hK _ ?_; clear hK K)) | (apply walkD_read1 [false] (by kernel_rfl); rfl; rfl; (intro w' hD; have y0 := Blk.cell hD.1 9; simp only [fl, List.cons_append, List.nil_append, List.getElem?_cons_zero, List.getElem?_cons_succ] at y0; go_simp; rfl); (intro K hK; go_simp; refine hK _ ?_; clear hK K)) | (apply walkD_call1 [false] (by kernel_rfl); rfl; (intro _; go_simp; first | rfl | exact ⟨rfl, rfl⟩); (intro w' hD; (go_at_call 144; refine (fstore_run w.heap.size _ _ _ _ _ _ _ _ _ hD.1).mono ?_; rintro e w2 ⟨rfl, b, hF, hX, hle, hK⟩; exact ⟨rfl, ⟨b, hF, hX⟩, hD.2.trans (hK.below (by simp) hD.2.size)⟩)); (intro K hK; go_simp; refine hK _ ?_; clear hK K)))
  rintro w2 ⟨hF, hlow⟩
  go_wp2
  go_ret
  exact ⟨rfl, hF, hlow⟩
end Go.Proofs.Ytokpgbocomhpiaa.Note
