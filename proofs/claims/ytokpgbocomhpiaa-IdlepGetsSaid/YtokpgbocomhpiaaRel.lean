/- Releasing a lock, state by state. -/
import Derived.Test.YtokpgbocomhpiaaLockC
set_option maxRecDepth 100000
set_option maxHeartbeats 4000000
set_option linter.unusedVariables false
set_option linter.unusedSimpArgs false
namespace Go.Proofs.Ytokpgbocomhpiaa.Lock
open Go.RowKit Go.Shelf Go.Proofs.Ytokpgbocomhpiaa.TK Go.Proofs.Ytokpgbocomhpiaa.Flag Go.Proofs.Ytokpgbocomhpiaa.Words Go.Proofs.Ytokpgbocomhpiaa.Mem Go.Proofs.Ytokpgbocomhpiaa.Flow Go.Proofs.Ytokpgbocomhpiaa.Layout
def relR (l : Nat) (k : Int) : List Value := [.pointer (some ⟨l, 0, none⟩), .int .i64 k]
theorem rel_new (l : Nat) (k who : Int) (w : World) :
    Calls Try.prog 43 #[.pointer (some ⟨l, 0, none⟩), .int .i64 k, .int .i64 who] w fun e w' => e = .returned (.pointer (some ⟨w.heap.size, 0, none⟩)) ∧ (∃ b, FlAt w' w.heap.size ⟨who, 2, ow k, 0, 0, .func (.func 201) #[] #[.pointer (some ⟨b, 0, none⟩)], false, .nilIface, .nilFunc⟩ (relR l k) 147 ∧ Blk w' b [meth 150 w.heap.size] 1) ∧ Below w.heap.size w w' := by
  have h0 : FlAt (w.alloc (.cells (fl fl0 ++ relR l k).toArray 147)) w.heap.size fl0 (relR l k) 147 := Blk.new w _ _
  go_enter Try.func43, Try.ntmps43
  go_wp2_with fail
  refine (fof_run w.heap.size fl0 (relR l k) 147 who _ h0).mono ?_
  rintro e w1 ⟨rfl, h1, hK⟩
  have hlow : Below w.heap.size w w1 := (below_one _ _).trans (hK.below (by simp) (by simp))
  clear h0 hK
  go_wp2_with fail
  refine wp_region_T 8 (fun w' => FlAt w' w.heap.size { fl0 with who := who } (relR l k) 147 ∧ Below w.heap.size w w') (fun w' => (∃ b, FlAt w' w.heap.size ⟨who, 2, ow k, 0, 0, .func (.func 201) #[] #[.pointer (some ⟨b, 0, none⟩)], false, .nilIface, .nilFunc⟩ (relR l k) 147 ∧ Blk w' b [meth 150 w.heap.size] 1) ∧ Below w.heap.size w w') (by kernel_rfl) (by kernel_rfl) rfl (by kernel_rfl) ⟨h1, hlow.drew⟩ ?_
  clear h1 hlow
  repeat (first | (apply walkD_pure; rfl; rfl; (intro _; go_simp; first | done | rfl); (intro K hK; go_simp; refine hK _ ?_; clear hK K)) | (apply walkD_skip; rfl; rfl; (intro K hK; go_simp; refine hK _ ?_; clear hK K)) | (apply walkD_call1 [false] (by kernel_rfl); rfl; (intro _; go_simp; first | rfl | exact ⟨rfl, rfl⟩); (intro w' hD; first | (go_at_call 149; refine (owner_run l k _).mono ?_; rintro e w2 ⟨rfl, rfl⟩; exact ⟨rfl, hD⟩) | (go_at_call 144; refine (fstore_run w.heap.size _ _ _ _ _ _ _ _ _ hD.1).mono ?_; rintro e w2 ⟨rfl, b, hF, hX, hle, hK⟩; exact ⟨rfl, ⟨b, hF, hX⟩, hD.2.trans (hK.below (by simp) hD.2.size)⟩)); (intro K hK; go_simp; refine hK _ ?_; clear hK K)))
  rintro w2 ⟨hF, hlow⟩
  go_wp2
  go_ret
  exact ⟨rfl, hF, hlow⟩
theorem serves_run (x l : Nat) (k : Int) (f : Fl) (w : World) (hb : FlAt w x f (relR l k) 147) :
    Calls Try.prog 150 #[.pointer (some ⟨x, 0, none⟩)] w fun e w' => e = .returned (.tuple #[]) ∧ FlAt w' x { f with kind := 4, at_ := sv k, old := 0, nw := 1, th := meth 204 x } (relR l k) 147 ∧ Kept [x] w w' := by
  have HB := hid hb
  clear hb
  go_enter Try.func150, Try.ntmps150
  go_wp2_with fail
  refine wp_region_T 14 (fun w' => FlAt w' x f (relR l k) 147 ∧ Kept [x] w w') (fun w' => FlAt w' x { f with kind := 4, at_ := sv k, old := 0, nw := 1, th := meth 204 x } (relR l k) 147 ∧ Kept [x] w w') (by kernel_rfl) (by kernel_rfl) rfl (by kernel_rfl) ⟨HB.out, (Kept.refl [x] w).drew⟩ ?_
  clear HB
  repeat (first | (apply walkD_pure; rfl; rfl; (intro _; go_simp; first | done | rfl); (intro K hK; go_simp; refine hK _ ?_; clear hK K)) | (apply walkD_skip; rfl; rfl; (intro K hK; go_simp; refine hK _ ?_; clear hK K)) | (apply walkD_read1 [false] (by kernel_rfl); rfl; rfl; (intro w' hD; have y0 := Blk.cell hD.1 9; have y1 := Blk.cell hD.1 10; simp only [fl, relR, List.cons_append, List.nil_append, List.getElem?_cons_zero, List.getElem?_cons_succ] at y0 y1; go_simp; rfl); (intro K hK; go_simp; refine hK _ ?_; clear hK K)) | (apply walkD_call1 [false] (by kernel_rfl); rfl; (intro _; go_simp; first | rfl | exact ⟨rfl, rfl⟩); (intro w' hD; first | (go_at_call 202; refine (serving_run l k _).mono ?_; rintro e w2 ⟨rfl, rfl⟩; exact ⟨rfl, hD⟩) | (go_at_call 146; refine (fadd_run x _ _ _ _ _ _ _ _ _ hD.1).mono ?_; rintro e w2 ⟨rfl, hF, hK⟩; exact ⟨rfl, hF, hD.2.trans hK (by intro i hi; exact .inl hi)⟩)); (intro K hK; go_simp; refine hK _ ?_; clear hK K)))
  rintro w2 ⟨hF, hK⟩
  go_wp2
  go_returns
  exact ⟨rfl, hF, hK⟩
theorem rlends_run (x v : Value) (w : World) : Calls Try.prog 204 #[x, v] w fun e w' => (∃ r, e = .returned r) ∧ w = w' := by
  go_enter Try.func204, Try.ntmps204
  go_wp2
  go_returns
  exact ⟨⟨_, rfl⟩, rfl⟩
inductive RlSt
  | puts
  | adds
  | done
def RlAt (w : World) (x l : Nat) (k who : Int) : RlSt → Prop
  | .puts => ∃ b, FlAt w x ⟨who, 2, ow k, 0, 0, .func (.func 201) #[] #[.pointer (some ⟨b, 0, none⟩)], false, .nilIface, .nilFunc⟩ (relR l k) 147 ∧ Blk w b [meth 150 x] 1
  | .adds => FlAt w x ⟨who, 4, sv k, 0, 1, meth 204 x, false, .nilIface, .nilFunc⟩ (relR l k) 147
  | .done => FlAt w x ⟨who, 0, sv k, 0, 1, .nilFunc, false, .nilIface, .nilFunc⟩ (relR l k) 147
def RlSt.over : RlSt → Bool
  | .done => true
  | _ => false
def RlSt.step (st : RlSt) (k who : Int) (s : St) : RlSt × St :=
  match st with
  | .puts => (.adds, (s.acc 2 who (ow k) 0 0).1)
  | .adds => (.done, (s.acc 4 who (sv k) 0 1).1)
  | .done => (.done, s)
theorem RlAt.fl {w : World} {x l : Nat} {k who : Int} {st : RlSt} (h : RlAt w x l k who st) : ∃ f, FlAt w x f (relR l k) 147 ∧ f.sub = .nilIface ∧ f.over = st.over ∧ f.fine := by
  cases st with
  | puts => obtain ⟨b, h, _⟩ := h; exact ⟨_, h, rfl, rfl, .inl rfl⟩
  | adds => exact ⟨_, h, rfl, rfl, .inl rfl⟩
  | done => exact ⟨_, h, rfl, rfl, .inl rfl⟩
theorem RlAt.kept {w w' : World} {x l : Nat} {k who : Int} {st : RlSt} {S : List Nat} (h : RlAt w x l k who st) (hk : Kept S w w') (hx : x ∉ S) (hS : ∀ i ∈ S, ∀ cs, ¬ Blk w i cs 1) : RlAt w' x l k who st := by
  cases st with
  | puts => obtain ⟨b, h, h2⟩ := h; exact ⟨b, h.kept hk hx, h2.kept hk (fun hb => hS b hb _ h2)⟩
  | adds => exact FlAt.kept h hk hx
  | done => exact FlAt.kept h hk hx
theorem RlAt.quiet {w w' : World} {x l : Nat} {k who : Int} {st : RlSt} (h : RlAt w x l k who st) (hb : Below w.heap.size w w') : RlAt w' x l k who st := h.kept (Kept.of_below hb []) (by simp) (by simp)
theorem rl_fstep (x l m g : Nat) (k who : Int) (st : RlSt) (s : St) (w : World) (hA : RlAt w x l k who st) (hM : MemAt w m g s) (hc : s.clock < 1000000) (hbd : s.bad < 1000000) :
    Calls Try.prog 130 #[.pointer (some ⟨x, 0, none⟩), .pointer (some ⟨m, 0, none⟩)] w fun e w' => e = .returned (.bool (st.step k who s).1.over) ∧ RlAt w' x l k who (st.step k who s).1 ∧ MemAt w' m g (st.step k who s).2 ∧ Kept [x, m, g] w w' := by
  obtain ⟨f0, hF0, hz0, hz1, hz2⟩ := hA.fl
  have hxm : x ≠ m := hM.neT hF0 (by decide)
  have hxg : x ≠ g := hM.neG hF0 (by decide)
  clear hF0 hz0 hz1 hz2 f0
  cases st with
  | puts =>
    obtain ⟨b, hF, hB⟩ := hA
    refine fstep_then false x m g _ _ _ s w _ hF rfl hM hxm hxg ⟨by simp, by simp⟩ hc hbd (by simp) rfl (.inl (by simp)) _ _ _ rfl (enters_of Try.func201 (by kernel_rfl) rfl) ?_ ?_
    · intro w1 h1 h2 h3
      have hbx : b ∉ [x, m, g] := by
        have n1 := Blk.ne hB hF (by decide)
        have n2 := hM.neT hB (by decide)
        have n3 := hM.neG hB (by decide)
        simp [n1, n2, n3]
      refine fstore1_run _ b _ _ _ w1 _ (hB.kept h3 hbx) (enters_of Try.func150 (by kernel_rfl) rfl) ?_
      refine (serves_run x l k _ w1 h1).mono ?_
      rintro e w2 ⟨rfl, h4, h5⟩
      exact ⟨⟨_, rfl⟩, h4, h2.kept h5 (by simp; omega) (by simp; omega), h3.trans h5 (by intro i hi; simp at hi; subst hi; exact .inl (by simp))⟩
    · rintro w' ⟨h, _⟩
      exact ⟨_, _, h, .inl rfl, rfl⟩
  | adds =>
    refine fstep_then true x m g _ _ _ s w _ hA rfl hM hxm hxg ⟨by simp, by simp⟩ hc hbd (by simp) rfl (.inl (by simp)) _ _ _ rfl (enters_of Try.func204 (by kernel_rfl) rfl) ?_ ?_
    · intro w1 h1 h2 h3
      refine (rlends_run _ _ w1).mono ?_
      rintro e w2 ⟨hr, rfl⟩
      exact ⟨hr, h1, h2, h3⟩
    · rintro w' ⟨h, _⟩
      exact ⟨_, _, h, .inl rfl, rfl⟩
  | done =>
    refine (fstep_done x _ _ _ _ w hA rfl rfl).mono ?_
    rintro e w' ⟨rfl, rfl⟩
    exact ⟨rfl, hA, hM, Kept.refl _ _⟩
theorem rlstep_run (x l m g : Nat) (k who : Int) (st : RlSt) (s : St) (w : World) (hA : RlAt w x l k who st) (hM : MemAt w m g s) (hc : s.clock < 1000000) (hbd : s.bad < 1000000) :
    Calls Try.prog 26 #[.pointer (some ⟨x, 0, none⟩), .pointer (some ⟨m, 0, none⟩)] w fun e w' => e = .returned (.bool (st.step k who s).1.over) ∧ RlAt w' x l k who (st.step k who s).1 ∧ MemAt w' m g (st.step k who s).2 ∧ Kept [x, m, g] w w' := by
  have H := hid (rl_fstep x l m g k who st s w hA hM hc hbd)
  generalize st.step k who s = r at H ⊢
  clear hA hM
  go_enter Try.func26, Try.ntmps26
  go_wp2_with fail
  refine H.out.mono ?_
  rintro e w1 ⟨rfl, h1, h2, h3⟩
  go_wp2
  go_ret
  exact ⟨rfl, h1, h2, h3⟩
theorem rldone_run (x l : Nat) (k who : Int) (st : RlSt) (w : World) (hA : RlAt w x l k who st) :
    Calls Try.prog 30 #[.pointer (some ⟨x, 0, none⟩)] w fun e w' => e = .returned (.bool st.over) ∧ w = w' := by
  obtain ⟨f, hF, _, ho, hf⟩ := hA.fl
  have H := fdone_any x f _ _ w hF hf
  rw [ho] at H
  have H := hid H
  clear hA hF ho hf
  go_enter Try.func30, Try.ntmps30
  go_wp2_with fail
  refine H.out.mono ?_
  rintro e w1 ⟨rfl, rfl⟩
  go_wp2
  go_ret
  exact ⟨rfl, rfl⟩
end Go.Proofs.Ytokpgbocomhpiaa.Lock
