/- Texts of mine, laid into one: Note, NoteB, NoteC, NoteKeepsW, NoteRef, NoteWakesW, Rel, LockRef, AcqRef. -/
import Derived.Test.YtlhnnggceebpjaaGreatBase3
import Derived.Test.YtlhnnggceebpjaaGreatBase1
import Derived.Deep.DeepCutAuto
section
/- Notes: a sleep and a wake, state by state. -/
set_option maxRecDepth 100000
set_option maxHeartbeats 4000000
set_option linter.unusedVariables false
set_option linter.unusedSimpArgs false
namespace Go.Proofs.YtlhnnggceebpjaaGreat.Note
open Go.RowKit Go.Shelf Go.Proofs.YtlhnnggceebpjaaGreat.TK Go.Proofs.YtlhnnggceebpjaaGreat.Flag Go.Proofs.YtlhnnggceebpjaaGreat.Words Go.Proofs.YtlhnnggceebpjaaGreat.Mem Go.Proofs.YtlhnnggceebpjaaGreat.Flow Go.Proofs.YtlhnnggceebpjaaGreat.Layout Go.Proofs.YtlhnnggceebpjaaGreat.Lock
def nt (p t n : Int) : Int := placeN true (20 + p * 264) n t 3 0 3
theorem nnew_run (l : Nat) (p t g n : Int) (w : World) (hL : Lay w l p t g) :
    Calls Tryz.prog 158 #[.pointer (some ⟨l, 0, none⟩), .int .i64 n] w fun e w' => e = .returned (.pointer (some ⟨w.heap.size, 0, none⟩)) ∧ FlAt w' w.heap.size ⟨n, 5, nt p t n, 0, 0, meth 221 w.heap.size, false, .nilIface, .nilFunc⟩ [.int .i64 (nt p t n)] 263 ∧ Below w.heap.size w w' := by
  have h0 : FlAt (w.alloc (.cells (fl fl0 ++ [Value.int .i64 0]).toArray 263)) w.heap.size fl0 [.int .i64 0] 263 := Blk.new w _ _
  have hL0 := hL.quiet (below_one w (.cells (fl fl0 ++ [Value.int .i64 0]).toArray 263))
  obtain ⟨a, ha⟩ : ∃ a, a = nt p t n := ⟨_, rfl⟩
  have hnt : placeN true (20 + p * 264) n t 3 0 3 = a := ha.symm
  rw [← ha]
  clear ha
  go_enter Tryz.func158, Tryz.ntmps158
  go_wp2_with fail
  refine (thread_run l p t g n 0 _ hL0).mono ?_
  rintro e w1 ⟨rfl, hb1⟩
  have h1 := h0.quiet hb1
  have hlow := Below.then_ (below_one w (.cells (fl fl0 ++ [Value.int .i64 0]).toArray 263)) hb1
  have z := Blk.cell h1 9
  have hf := Blk.frozen h1
  simp only [fl, List.cons_append, List.nil_append, List.getElem?_cons_zero, List.getElem?_cons_succ] at z
  have h2 : FlAt (w1.setCell ⟨w.heap.size, 9, none⟩ (.int .i64 a)) w.heap.size fl0 [.int .i64 a] 263 := Blk.set h1 9 (.int .i64 a)
  have hlow2 : Below w.heap.size w (w1.setCell ⟨w.heap.size, 9, none⟩ (.int .i64 a)) := below_kept hlow ((Kept.refl [w.heap.size] w1).set (.inl (by simp)) _) (by simp) hlow.size
  rw [hnt]
  clear h0 hL0 hL hb1 h1 hlow hnt
  go_wp2_with fail
  refine (fof_run w.heap.size fl0 [.int .i64 a] 263 n _ h2).mono ?_
  rintro e w2 ⟨rfl, h3, hK⟩
  have hlow3 := below_kept hlow2 hK (by simp) hlow2.size
  clear h2 hlow2 hK z hf
  go_wp2_with fail
  refine wp_region_T 11 (fun w' => FlAt w' w.heap.size { fl0 with who := n } [.int .i64 a] 263 ∧ Below w.heap.size w w') (fun w' => FlAt w' w.heap.size ⟨n, 5, a, 0, 0, meth 221 w.heap.size, false, .nilIface, .nilFunc⟩ [.int .i64 a] 263 ∧ Below w.heap.size w w') (by kernel_rfl) (by kernel_rfl) rfl (by kernel_rfl) ⟨h3, hlow3.drew⟩ ?_
  clear h3 hlow3
  repeat (first | (apply walkD_pure; rfl; rfl; (intro _; go_simp; first | done | rfl); (intro K hK; go_simp; refine hK _ ?_; clear hK K)) | (apply walkD_skip; rfl; rfl; (intro K hK; go_simp; refine hK _ ?_; clear hK K)) | (apply walkD_read1 [false] (by kernel_rfl); rfl; rfl; (intro w' hD; have y0 := Blk.cell hD.1 9; simp only [fl, List.cons_append, List.nil_append, List.getElem?_cons_zero, List.getElem?_cons_succ] at y0; go_simp; rfl); (intro K hK; go_simp; refine hK _ ?_; clear hK K)) | (apply walkD_call1 [false] (by kernel_rfl); rfl; (intro _; go_simp; first | rfl | exact ⟨rfl, rfl⟩); (intro w' hD; (go_at_call 220; refine (fsleep_run w.heap.size _ _ _ _ _ _ _ _ hD.1).mono ?_; rintro e w2 ⟨rfl, hF, hK⟩; exact ⟨rfl, hF, hD.2.trans (hK.below (by simp) hD.2.size)⟩)); (intro K hK; go_simp; refine hK _ ?_; clear hK K)))
  rintro w2 ⟨hF, hlow⟩
  go_wp2
  go_ret
  exact ⟨rfl, hF, hlow⟩
theorem woken_run (x : Nat) (a v : Int) (f : Fl) (w : World) (hb : FlAt w x f [.int .i64 a] 263) :
    Calls Tryz.prog 221 #[.pointer (some ⟨x, 0, none⟩), .int .u64 v] w fun e w' => e = .returned (.tuple #[]) ∧ ∃ b, FlAt w' x { f with kind := 2, at_ := a, old := 0, nw := 0, th := .func (.func 239) #[] #[.pointer (some ⟨b, 0, none⟩)] } [.int .i64 a] 263 ∧ Blk w' b [meth 258 x] 1 ∧ w.heap.size ≤ b ∧ Kept [x] w w' := by
  have HB := hid hb
  clear hb
  go_enter Tryz.func221, Tryz.ntmps221
  go_wp2_with fail
  refine wp_region_T 13 (fun w' => FlAt w' x f [.int .i64 a] 263 ∧ Kept [x] w w') (fun w' => ∃ b, FlAt w' x { f with kind := 2, at_ := a, old := 0, nw := 0, th := .func (.func 239) #[] #[.pointer (some ⟨b, 0, none⟩)] } [.int .i64 a] 263 ∧ Blk w' b [meth 258 x] 1 ∧ w.heap.size ≤ b ∧ Kept [x] w w') (by kernel_rfl) (by kernel_rfl) rfl (by kernel_rfl) ⟨HB.out, (Kept.refl [x] w).drew⟩ ?_
  clear HB
  repeat (first | (apply walkD_pure; rfl; rfl; (intro _; go_simp; first | done | rfl); (intro K hK; go_simp; refine hK _ ?_; clear hK K)) | (apply walkD_skip; rfl; rfl; (intro K hK; go_simp; refine hK _ ?_; clear hK K)) | (apply walkD_read1 [false] (by kernel_rfl); rfl; rfl; (intro w' hD; have y0 := Blk.cell hD.1 9; simp only [fl, List.cons_append, List.nil_append, List.getElem?_cons_zero, List.getElem?_cons_succ] at y0; go_simp; rfl); (intro K hK; go_simp; refine hK _ ?_; clear hK K)) | (apply walkD_call1 [false] (by kernel_rfl); rfl; (intro _; go_simp; first | rfl | exact ⟨rfl, rfl⟩); (intro w' hD; (go_at_call 188; refine (fstore_run x _ _ _ _ _ _ _ _ _ hD.1).mono ?_; rintro e w2 ⟨rfl, b, hF, hX, hle, hK⟩; exact ⟨rfl, b, hF, hX, Nat.le_trans hD.2.size hle, hD.2.trans hK (by intro i hi; exact .inl hi)⟩)); (intro K hK; go_simp; refine hK _ ?_; clear hK K)))
  rintro w2 ⟨b, hF, hX, hle, hK⟩
  go_wp2
  go_returns
  exact ⟨rfl, b, hF, hX, hle, hK⟩
theorem nends_run (x : Value) (w : World) : Calls Tryz.prog 258 #[x] w fun e w' => (∃ r, e = .returned r) ∧ w = w' := by
  go_enter Tryz.func258, Tryz.ntmps258
  go_wp2
  go_returns
  exact ⟨⟨_, rfl⟩, rfl⟩
theorem nwake_run (l : Nat) (p t g n who : Int) (w : World) (hL : Lay w l p t g) :
    Calls Tryz.prog 383 #[.pointer (some ⟨l, 0, none⟩), .int .i64 n, .int .i64 who] w fun e w' => e = .returned (.pointer (some ⟨w.heap.size, 0, none⟩)) ∧ (∃ b, FlAt w' w.heap.size ⟨who, 2, nt p t n, 0, 1, .func (.func 239) #[] #[.pointer (some ⟨b, 0, none⟩)], false, .nilIface, .nilFunc⟩ [.int .i64 (nt p t n)] 339 ∧ Blk w' b [meth 258 w.heap.size] 1) ∧ Below w.heap.size w w' := by
  have h0 : FlAt (w.alloc (.cells (fl fl0 ++ [Value.int .i64 0]).toArray 339)) w.heap.size fl0 [.int .i64 0] 339 := Blk.new w _ _
  have hL0 := hL.quiet (below_one w (.cells (fl fl0 ++ [Value.int .i64 0]).toArray 339))
  obtain ⟨a, ha⟩ : ∃ a, a = nt p t n := ⟨_, rfl⟩
  have hnt : placeN true (20 + p * 264) n t 3 0 3 = a := ha.symm
  rw [← ha]
  clear ha
  go_enter Tryz.func383, Tryz.ntmps383
  go_wp2_with fail
  refine (thread_run l p t g n 0 _ hL0).mono ?_
  rintro e w1 ⟨rfl, hb1⟩
  have h1 := h0.quiet hb1
  have hlow := Below.then_ (below_one w (.cells (fl fl0 ++ [Value.int .i64 0]).toArray 339)) hb1
  have z := Blk.cell h1 9
  have hf := Blk.frozen h1
  simp only [fl, List.cons_append, List.nil_append, List.getElem?_cons_zero, List.getElem?_cons_succ] at z
  have h2 : FlAt (w1.setCell ⟨w.heap.size, 9, none⟩ (.int .i64 a)) w.heap.size fl0 [.int .i64 a] 339 := Blk.set h1 9 (.int .i64 a)
  have hlow2 : Below w.heap.size w (w1.setCell ⟨w.heap.size, 9, none⟩ (.int .i64 a)) := below_kept hlow ((Kept.refl [w.heap.size] w1).set (.inl (by simp)) _) (by simp) hlow.size
  rw [hnt]
  clear h0 hL0 hL hb1 h1 hlow hnt
  go_wp2_with fail
  refine (fof_run w.heap.size fl0 [.int .i64 a] 339 who _ h2).mono ?_
  rintro e w2 ⟨rfl, h3, hK⟩
  have hlow3 := below_kept hlow2 hK (by simp) hlow2.size
  clear h2 hlow2 hK z hf
  go_wp2_with fail
  refine wp_region_T 13 (fun w' => FlAt w' w.heap.size { fl0 with who := who } [.int .i64 a] 339 ∧ Below w.heap.size w w') (fun w' => (∃ b, FlAt w' w.heap.size ⟨who, 2, a, 0, 1, .func (.func 239) #[] #[.pointer (some ⟨b, 0, none⟩)], false, .nilIface, .nilFunc⟩ [.int .i64 a] 339 ∧ Blk w' b [meth 258 w.heap.size] 1) ∧ Below w.heap.size w w') (by kernel_rfl) (by kernel_rfl) rfl (by kernel_rfl) ⟨h3, hlow3.drew⟩ ?_
  clear h3 hlow3
  repeat (first | (apply walkD_pure; rfl; rfl; (intro _; go_simp; first | done | rfl); (intro K hK; go_simp; refine hK _ ?_; clear hK K)) | (apply walkD_skip; rfl; rfl; (intro K hK; go_simp; refine hK _ ?_; clear hK K)) | (apply walkD_read1 [false] (by kernel_rfl); rfl; rfl; (intro w' hD; have y0 := Blk.cell hD.1 9; simp only [fl, List.cons_append, List.nil_append, List.getElem?_cons_zero, List.getElem?_cons_succ] at y0; go_simp; rfl); (intro K hK; go_simp; refine hK _ ?_; clear hK K)) | (apply walkD_call1 [false] (by kernel_rfl); rfl; (intro _; go_simp; first | rfl | exact ⟨rfl, rfl⟩); (intro w' hD; (go_at_call 188; refine (fstore_run w.heap.size _ _ _ _ _ _ _ _ _ hD.1).mono ?_; rintro e w2 ⟨rfl, b, hF, hX, hle, hK⟩; exact ⟨rfl, ⟨b, hF, hX⟩, hD.2.trans (hK.below (by simp) hD.2.size)⟩)); (intro K hK; go_simp; refine hK _ ?_; clear hK K)))
  rintro w2 ⟨hF, hlow⟩
  go_wp2
  go_ret
  exact ⟨rfl, hF, hlow⟩
end Go.Proofs.YtlhnnggceebpjaaGreat.Note
end

section
/- Notes: a step, from any state; what is called from outside. -/
set_option maxRecDepth 100000
set_option maxHeartbeats 4000000
set_option linter.unusedVariables false
set_option linter.unusedSimpArgs false
namespace Go.Proofs.YtlhnnggceebpjaaGreat.Note
open Go.RowKit Go.Shelf Go.Proofs.YtlhnnggceebpjaaGreat.TK Go.Proofs.YtlhnnggceebpjaaGreat.Flag Go.Proofs.YtlhnnggceebpjaaGreat.Words Go.Proofs.YtlhnnggceebpjaaGreat.Mem Go.Proofs.YtlhnnggceebpjaaGreat.Flow Go.Proofs.YtlhnnggceebpjaaGreat.Layout Go.Proofs.YtlhnnggceebpjaaGreat.Lock
inductive SlSt
  | waits (asl : Bool)
  | puts
  | done
def SlAt (w : World) (x : Nat) (a who : Int) : SlSt → Prop
  | .waits asl => FlAt w x ⟨who, 5, a, 0, 0, meth 221 x, asl, .nilIface, .nilFunc⟩ [.int .i64 a] 263
  | .puts => ∃ b, FlAt w x ⟨who, 2, a, 0, 0, .func (.func 239) #[] #[.pointer (some ⟨b, 0, none⟩)], false, .nilIface, .nilFunc⟩ [.int .i64 a] 263 ∧ Blk w b [meth 258 x] 1
  | .done => FlAt w x ⟨who, 0, a, 0, 0, .nilFunc, false, .nilIface, .nilFunc⟩ [.int .i64 a] 263
def SlSt.over : SlSt → Bool
  | .done => true
  | _ => false
/-- It is asleep. -/
def SlSt.asleep (st : SlSt) (a : Int) (s : St) : Bool :=
  match st with
  | .waits true => decide ((s.peek a).1 = 0)
  | _ => false
def SlSt.step (st : SlSt) (a who : Int) (s : St) : SlSt × St :=
  match st with
  | .waits asl => if (SlSt.waits asl).asleep a s = true then (.waits asl, s) else if (s.acc 5 who a 0 0).2 = 0 then (.waits true, (s.acc 5 who a 0 0).1) else (.puts, (s.acc 5 who a 0 0).1)
  | .puts => (.done, (s.acc 2 who a 0 0).1)
  | .done => (.done, s)
theorem SlAt.fl {w : World} {x : Nat} {a who : Int} {st : SlSt} (h : SlAt w x a who st) : ∃ f, FlAt w x f [.int .i64 a] 263 ∧ f.sub = .nilIface ∧ f.over = st.over ∧ f.fine ∧ ∀ s, f.sleeps s = st.asleep a s := by
  cases st with
  | waits asl => exact ⟨_, h, rfl, rfl, .inl rfl, fun s => by cases asl <;> simp [Fl.sleeps, SlSt.asleep]⟩
  | puts => obtain ⟨b, h, _⟩ := h; exact ⟨_, h, rfl, rfl, .inl rfl, fun s => rfl⟩
  | done => exact ⟨_, h, rfl, rfl, .inl rfl, fun s => rfl⟩
theorem SlAt.kept {w w' : World} {x : Nat} {a who : Int} {st : SlSt} {S : List Nat} (h : SlAt w x a who st) (hk : Kept S w w') (hx : x ∉ S) (hS : ∀ i ∈ S, ∀ cs, ¬ Blk w i cs 1) : SlAt w' x a who st := by
  cases st with
  | waits asl => exact FlAt.kept h hk hx
  | puts => obtain ⟨b, h, h2⟩ := h; exact ⟨b, h.kept hk hx, h2.kept hk (fun hb => hS b hb _ h2)⟩
  | done => exact FlAt.kept h hk hx
theorem SlAt.quiet {w w' : World} {x : Nat} {a who : Int} {st : SlSt} (h : SlAt w x a who st) (hb : Below w.heap.size w w') : SlAt w' x a who st := h.kept (Kept.of_below hb []) (by simp) (by simp)
theorem sl_fstep (x m g : Nat) (a who : Int) (st : SlSt) (s : St) (w : World) (hA : SlAt w x a who st) (hM : MemAt w m g s) (hc : s.clock < 1000000) (hbd : s.bad < 1000000) :
    Calls Tryz.prog 127 #[.pointer (some ⟨x, 0, none⟩), .pointer (some ⟨m, 0, none⟩)] w fun e w' => e = .returned (.bool (st.step a who s).1.over) ∧ SlAt w' x a who (st.step a who s).1 ∧ MemAt w' m g (st.step a who s).2 ∧ Kept [x, m, g] w w' := by
  obtain ⟨f0, hF0, hz0, hz1, hz2, hz3⟩ := hA.fl
  have hxm : x ≠ m := hM.neT hF0 (by decide)
  have hxg : x ≠ g := hM.neG hF0 (by decide)
  clear hF0 hz0 hz1 hz2 hz3 f0
  cases st with
  | waits asl =>
    obtain ⟨f, hF, q0, q1, q2, q3⟩ := SlAt.fl hA
    by_cases hs : (SlSt.waits asl).asleep a s = true
    · simp only [SlSt.step, if_pos hs]
      refine (fstep_asleep x m g _ _ _ s w hA rfl hM ?_).mono ?_
      · cases asl
        · simp [SlSt.asleep] at hs
        · simpa [Fl.sleeps, SlSt.asleep] using hs
      rintro e w' ⟨rfl, rfl⟩
      exact ⟨rfl, hA, hM, Kept.refl _ _⟩
    · have hs' : Fl.sleeps ⟨who, 5, a, 0, 0, meth 221 x, asl, .nilIface, .nilFunc⟩ s = false := by
        cases asl
        · simp [Fl.sleeps]
        · simpa [Fl.sleeps, SlSt.asleep] using hs
      by_cases hz : (s.acc 5 who a 0 0).2 = 0
      · simp only [SlSt.step, if_neg hs, if_pos hz]
        refine (fstep_sleeps x m g _ _ _ s w hA rfl hM hxm hxg ⟨by simp, by simp⟩ hc hbd rfl hs' hz).mono ?_
        rintro e w' ⟨rfl, h1, h2, h3⟩
        exact ⟨rfl, h1, h2, h3⟩
      · simp only [SlSt.step, if_neg hs, if_neg hz]
        refine fstep_then false x m g _ _ _ s w _ hA rfl hM hxm hxg ⟨by simp, by simp⟩ hc hbd (by simp) hs' (.inr hz) _ _ _ rfl (enters_of Tryz.func221 (by kernel_rfl) rfl) ?_ ?_
        · intro w1 h1 h2 h3
          refine (woken_run x a _ _ w1 h1).mono ?_
          rintro e w2 ⟨rfl, b, h4, h6, _, h5⟩
          exact ⟨⟨_, rfl⟩, ⟨b, h4, h6⟩, h2.kept h5 (by simp; omega) (by simp; omega), h3.trans h5 (by intro i hi; simp at hi; subst hi; exact .inl (by simp))⟩
        · rintro w' ⟨⟨b, h, _⟩, _⟩
          exact ⟨_, _, h, .inl rfl, rfl⟩
  | puts =>
    obtain ⟨b, hF, hB⟩ := hA
    refine fstep_then true x m g _ _ _ s w _ hF rfl hM hxm hxg ⟨by simp, by simp⟩ hc hbd (by simp) rfl (.inl (by simp)) _ _ _ rfl (enters_of Tryz.func239 (by kernel_rfl) rfl) ?_ ?_
    · intro w1 h1 h2 h3
      have hbx : b ∉ [x, m, g] := by
        have n1 := Blk.ne hB hF (by decide)
        have n2 := hM.neT hB (by decide)
        have n3 := hM.neG hB (by decide)
        simp [n1, n2, n3]
      refine fstore1_run _ b _ _ _ w1 _ (hB.kept h3 hbx) (enters_of Tryz.func258 (by kernel_rfl) rfl) ?_
      refine (nends_run _ w1).mono ?_
      rintro e w2 ⟨hr, rfl⟩
      exact ⟨hr, h1, h2, h3⟩
    · rintro w' ⟨h, _⟩
      exact ⟨_, _, h, .inl rfl, rfl⟩
  | done =>
    refine (fstep_done x _ _ _ _ w hA rfl rfl).mono ?_
    rintro e w' ⟨rfl, rfl⟩
    exact ⟨rfl, hA, hM, Kept.refl _ _⟩
/-- A wake. -/
def WkAt (w : World) (x : Nat) (a who : Int) : Bool → Prop
  | false => ∃ b, FlAt w x ⟨who, 2, a, 0, 1, .func (.func 239) #[] #[.pointer (some ⟨b, 0, none⟩)], false, .nilIface, .nilFunc⟩ [.int .i64 a] 339 ∧ Blk w b [meth 258 x] 1
  | true => FlAt w x ⟨who, 0, a, 0, 1, .nilFunc, false, .nilIface, .nilFunc⟩ [.int .i64 a] 339
theorem WkAt.fl {w : World} {x : Nat} {a who : Int} {st : Bool} (h : WkAt w x a who st) : ∃ f, FlAt w x f [.int .i64 a] 339 ∧ f.sub = .nilIface ∧ f.over = st ∧ f.fine := by
  cases st with
  | false => obtain ⟨b, h, _⟩ := h; exact ⟨_, h, rfl, rfl, .inl rfl⟩
  | true => exact ⟨_, h, rfl, rfl, .inl rfl⟩
theorem wk_fstep (x m g : Nat) (a who : Int) (s : St) (w : World) (hA : WkAt w x a who false) (hM : MemAt w m g s) (hc : s.clock < 1000000) (hbd : s.bad < 1000000) :
    Calls Tryz.prog 127 #[.pointer (some ⟨x, 0, none⟩), .pointer (some ⟨m, 0, none⟩)] w fun e w' => e = .returned (.bool true) ∧ WkAt w' x a who true ∧ MemAt w' m g (s.acc 2 who a 0 1).1 ∧ Kept [x, m, g] w w' := by
  obtain ⟨b, hF, hB⟩ := hA
  have hxm : x ≠ m := hM.neT hF (by decide)
  have hxg : x ≠ g := hM.neG hF (by decide)
  refine fstep_then true x m g _ _ _ s w _ hF rfl hM hxm hxg ⟨by simp, by simp⟩ hc hbd (by simp) rfl (.inl (by simp)) _ _ _ rfl (enters_of Tryz.func239 (by kernel_rfl) rfl) ?_ ?_
  · intro w1 h1 h2 h3
    have hbx : b ∉ [x, m, g] := by
      have n1 := Blk.ne hB hF (by decide)
      have n2 := hM.neT hB (by decide)
      have n3 := hM.neG hB (by decide)
      simp [n1, n2, n3]
    refine fstore1_run _ b _ _ _ w1 _ (hB.kept h3 hbx) (enters_of Tryz.func258 (by kernel_rfl) rfl) ?_
    refine (nends_run _ w1).mono ?_
    rintro e w2 ⟨hr, rfl⟩
    exact ⟨hr, h1, h2, h3⟩
  · rintro w' ⟨h, _⟩
    exact ⟨_, _, h, .inl rfl, rfl⟩
theorem nstep_nil (m : Option Addr) (w : World) : Calls Tryz.prog 432 #[.pointer none, .pointer m] w fun e w' => e = .returned (.bool true) ∧ w = w' := by
  go_enter Tryz.func432, Tryz.ntmps432
  go_wp2
  go_ret
  exact ⟨rfl, rfl⟩
theorem nasleep_nil (m : Option Addr) (w : World) : Calls Tryz.prog 431 #[.pointer none, .pointer m] w fun e w' => e = .returned (.bool false) ∧ w = w' := by
  go_enter Tryz.func431, Tryz.ntmps431
  go_wp2
  go_ret
  exact ⟨rfl, rfl⟩
theorem wstep_nil (m : Option Addr) (w : World) : Calls Tryz.prog 451 #[.pointer none, .pointer m] w fun e w' => e = .returned (.bool true) ∧ w = w' := by
  go_enter Tryz.func451, Tryz.ntmps451
  go_wp2
  go_ret
  exact ⟨rfl, rfl⟩
/-- The steps of what both machines have, over any step of the flow. -/
theorem nmstep_run (x m : Nat) (o : Bool) (R : World → Prop) (w : World) (H : Hid (Calls Tryz.prog 127 #[.pointer (some ⟨x, 0, none⟩), .pointer (some ⟨m, 0, none⟩)] w fun e w' => e = .returned (.bool o) ∧ R w')) :
    Calls Tryz.prog 433 #[.pointer (some ⟨x, 0, none⟩), .pointer (some ⟨m, 0, none⟩)] w fun e w' => e = .returned (.bool o) ∧ R w' := by
  go_enter Tryz.func433, Tryz.ntmps433
  go_wp2_with fail
  refine H.out.mono ?_
  rintro e w1 ⟨rfl, h⟩
  go_wp2
  go_ret
  exact ⟨rfl, h⟩
theorem nstep_run (x m g : Nat) (a who : Int) (st : SlSt) (s : St) (w : World) (hA : SlAt w x a who st) (hM : MemAt w m g s) (hc : s.clock < 1000000) (hbd : s.bad < 1000000) :
    Calls Tryz.prog 432 #[.pointer (some ⟨x, 0, none⟩), .pointer (some ⟨m, 0, none⟩)] w fun e w' => e = .returned (.bool (st.step a who s).1.over) ∧ SlAt w' x a who (st.step a who s).1 ∧ MemAt w' m g (st.step a who s).2 ∧ Kept [x, m, g] w w' := by
  have H := hid (nmstep_run x m _ _ w (hid (sl_fstep x m g a who st s w hA hM hc hbd)))
  generalize st.step a who s = r at H ⊢
  clear hA hM
  go_enter Tryz.func432, Tryz.ntmps432
  go_wp2_with fail
  refine H.out.mono ?_
  rintro e w1 ⟨rfl, h1, h2, h3⟩
  go_wp2
  go_ret
  exact ⟨rfl, h1, h2, h3⟩
theorem nasleep_run (x m g : Nat) (a who : Int) (st : SlSt) (s : St) (w : World) (hA : SlAt w x a who st) (hM : MemAt w m g s) :
    Calls Tryz.prog 431 #[.pointer (some ⟨x, 0, none⟩), .pointer (some ⟨m, 0, none⟩)] w fun e w' => e = .returned (.bool (st.asleep a s)) ∧ w = w' := by
  obtain ⟨f, hF, hs, ho, hf, hq⟩ := hA.fl
  have H := fasleep_run x m g f _ _ s w hF hs hM
  rw [hq s] at H
  have H := hid H
  clear hA hF hs ho hf hq hM
  go_enter Tryz.func431, Tryz.ntmps431
  go_wp2_with fail
  refine H.out.mono ?_
  rintro e w1 ⟨rfl, rfl⟩
  go_wp2
  go_ret
  exact ⟨rfl, rfl⟩
theorem wstep_run (x m g : Nat) (a who : Int) (s : St) (w : World) (hA : WkAt w x a who false) (hM : MemAt w m g s) (hc : s.clock < 1000000) (hbd : s.bad < 1000000) :
    Calls Tryz.prog 451 #[.pointer (some ⟨x, 0, none⟩), .pointer (some ⟨m, 0, none⟩)] w fun e w' => e = .returned (.bool true) ∧ WkAt w' x a who true ∧ MemAt w' m g (s.acc 2 who a 0 1).1 ∧ Kept [x, m, g] w w' := by
  have H := hid (nmstep_run x m _ _ w (hid (wk_fstep x m g a who s w hA hM hc hbd)))
  generalize s.acc 2 who a 0 1 = r at H ⊢
  clear hA hM
  go_enter Tryz.func451, Tryz.ntmps451
  go_wp2_with fail
  refine H.out.mono ?_
  rintro e w1 ⟨rfl, h1, h2, h3⟩
  go_wp2
  go_ret
  exact ⟨rfl, h1, h2, h3⟩
end Go.Proofs.YtlhnnggceebpjaaGreat.Note
end

section
/- The notes' example. -/
set_option maxRecDepth 100000
set_option maxHeartbeats 4000000
set_option linter.unusedVariables false
set_option linter.unusedSimpArgs false
namespace Go.Proofs.YtlhnnggceebpjaaGreat.Note
open Go.RowKit Go.Shelf Go.Proofs.YtlhnnggceebpjaaGreat.TK Go.Proofs.YtlhnnggceebpjaaGreat.Flag Go.Proofs.YtlhnnggceebpjaaGreat.Words Go.Proofs.YtlhnnggceebpjaaGreat.Mem Go.Proofs.YtlhnnggceebpjaaGreat.Flow Go.Proofs.YtlhnnggceebpjaaGreat.Layout Go.Proofs.YtlhnnggceebpjaaGreat.Run Go.Proofs.YtlhnnggceebpjaaGreat.Lock
def n0 : St := fresh (layW (lenOf 1 1 1) [])
def n1 : SlSt × St := (SlSt.waits false).step (nt 1 1 0) 0 n0
def n2 : St := (n1.2.acc 2 0 (nt 1 1 0) 0 1).1
def n3 : SlSt × St := n1.1.step (nt 1 1 0) 0 n2
def n4 : SlSt × St := n3.1.step (nt 1 1 0) 0 n3.2
theorem few111 : FewP 1 1 1 := by unfold FewP Right; omega
theorem ex_run : n1.1.over = false ∧ n1.1.asleep (nt 1 1 0) n1.2 = true ∧ decide ((n2.peek (nt 1 1 0)).1 ≠ 0) = true ∧ n1.1.asleep (nt 1 1 0) n2 = false ∧ n3.1.over = false ∧ n4.1.over = true ∧ decide ((n4.2.peek (nt 1 1 0)).1 ≠ 0) = false
    ∧ n0.clock = 0 ∧ n0.bad = 0 ∧ n1.2.clock = 1 ∧ n1.2.bad = 0 ∧ n2.clock = 2 ∧ n2.bad = 0 ∧ n3.2.clock = 3 ∧ n3.2.bad = 0 := by
  refine ⟨?_, ?_, ?_, ?_, ?_, ?_, ?_, ?_, ?_, ?_, ?_, ?_, ?_, ?_, ?_⟩ <;> decide +kernel
end Go.Proofs.YtlhnnggceebpjaaGreat.Note
end

section
/- The walk of NoteKeeps. -/
set_option maxRecDepth 100000
set_option maxHeartbeats 4000000
set_option linter.unusedVariables false
set_option linter.unusedSimpArgs false
namespace Go.Proofs.YtlhnnggceebpjaaGreat.Note
open Go.RowKit Go.Shelf Go.Proofs.YtlhnnggceebpjaaGreat.TK Go.Proofs.YtlhnnggceebpjaaGreat.Flag Go.Proofs.YtlhnnggceebpjaaGreat.Words Go.Proofs.YtlhnnggceebpjaaGreat.Mem Go.Proofs.YtlhnnggceebpjaaGreat.Flow Go.Proofs.YtlhnnggceebpjaaGreat.Layout Go.Proofs.YtlhnnggceebpjaaGreat.Run Go.Proofs.YtlhnnggceebpjaaGreat.Lock
theorem ws_inr {s s' : St} (h : s'.ws = s.ws) (a : Int) : s'.inr a = s.inr a ∧ s'.word a = s.word a := by unfold St.inr St.word; rw [h]; exact ⟨rfl, rfl⟩
theorem acc_sleep {s : St} {a : Int} (h : s.inr a = true) (who : Int) : (s.acc 5 who a 0 0).2 = s.word a ∧ (s.acc 5 who a 0 0).1.ws = s.ws ∧ (s.acc 5 who a 0 0).1.clock = s.clock + 1 ∧ (s.acc 5 who a 0 0).1.bad = s.bad := by
  unfold St.acc; simp [h]
theorem acc_put {s : St} {a : Int} (h : s.inr a = true) (who v : Int) : (s.acc 2 who a 0 v).1.inr a = true ∧ (s.acc 2 who a 0 v).1.word a = v ∧ (s.acc 2 who a 0 v).1.clock = s.clock + 1 ∧ (s.acc 2 who a 0 v).1.bad = s.bad := by
  have hl := (inr_spec h).2.1
  have e : (s.acc 2 who a 0 v).1 = { s with ws := s.ws.set a.toNat v, clock := s.clock + 1, last := ⟨2, who, a, s.word a, v, true⟩ } := by unfold St.acc; simp [h]
  rw [e]
  refine ⟨?_, ?_, rfl, rfl⟩
  · unfold St.inr at h ⊢; simpa using h
  · unfold St.word; simp [List.getD_eq_getElem?_getD, List.getElem?_set, hl]
theorem peek_in {s : St} {a : Int} (h : s.inr a = true) : (s.peek a).1 = s.word a := by unfold St.peek; simp [h]
theorem zeros (n : Nat) : layW n [] = List.replicate n 0 := rfl
/-- The note of a thread, in a memory of noughts. -/
theorem nt_in {T t : Int} (hT : 1 ≤ T ∧ T ≤ 8) (ht : 0 ≤ t ∧ t < T) : (fresh (layW (lenOf 1 T 1) [])).inr (nt 1 T t) = true ∧ (fresh (layW (lenOf 1 T 1) [])).word (nt 1 T t) = 0 := by
  have e : nt 1 T t = 284 + t * 3 := by unfold nt placeN; rw [if_pos (by simp; omega)]; omega
  rw [e]
  unfold fresh St.inr St.word lenOf
  rw [zeros]
  simp only [List.length_replicate, decide_eq_true_eq]
  refine ⟨by omega, ?_⟩
  rw [List.getD_eq_getElem?_getD, List.getElem?_replicate]
  split <;> rfl
/-- Behind k steps without a wake. -/
def keepAt (s0 : St) (a t : Int) (k : Nat) : SlSt × St := if k = 0 then (.waits false, s0) else (.waits true, (s0.acc 5 t a 0 0).1)
theorem keep_step {s0 : St} {a : Int} (t : Int) (h : s0.inr a = true) (hz : s0.word a = 0) (k : Nat) : (keepAt s0 a t k).1.step a t (keepAt s0 a t k).2 = keepAt s0 a t (k + 1) := by
  obtain ⟨c1, c2, c3, c4⟩ := acc_sleep h t
  unfold keepAt
  rw [if_neg (show ¬ k + 1 = 0 by omega)]
  by_cases hk : k = 0
  · simp only [if_pos hk, SlSt.step, SlSt.asleep]
    rw [c1, hz]; simp
  · have : ((s0.acc 5 t a 0 0).1.peek a).1 = 0 := by
      rw [peek_in (by rw [(ws_inr c2 a).1]; exact h), (ws_inr c2 a).2, hz]
    simp only [if_neg hk, SlSt.step, SlSt.asleep, this]
    simp
theorem keep_facts {s0 : St} {a : Int} (t : Int) (h : s0.inr a = true) (hz : s0.word a = 0) (h0 : s0.clock = 0) (h1 : s0.bad = 0) (k : Nat) :
    (keepAt s0 a t k).2.inr a = true ∧ (keepAt s0 a t k).2.word a = 0 ∧ (keepAt s0 a t k).2.clock = (if k = 0 then 0 else 1) ∧ (keepAt s0 a t k).2.bad = 0 ∧ (keepAt s0 a t k).1.asleep a (keepAt s0 a t k).2 = decide (k ≠ 0) ∧ (keepAt s0 a t k).1.over = false := by
  obtain ⟨c1, c2, c3, c4⟩ := acc_sleep h t
  have q := ws_inr c2 a
  unfold keepAt
  by_cases hk : k = 0
  · simp [hk, h, hz, h0, h1, SlSt.asleep, SlSt.over]
  · have e : ((s0.acc 5 t a 0 0).1.peek a).1 = 0 := by rw [peek_in (by rw [q.1]; exact h), q.2, hz]
    simp [hk, q, h, hz, c3, c4, h0, h1, SlSt.asleep, SlSt.over, e]
/-- Behind the wake: the two last steps. -/
theorem wake_steps {s : St} {a : Int} (t : Int) (h : s.inr a = true) (hc : s.clock ≤ 1) (hb : s.bad = 0) (asl : Bool) (ha : asl = asl) :
    let s1 := (s.acc 2 0 a 0 1).1
    let r1 := (SlSt.waits asl).step a t s1
    let r2 := r1.1.step a t r1.2
    r1.1.over = false ∧ r2.1.over = true ∧ (r2.2.peek a).1 = 0 ∧ s1.clock ≤ 2 ∧ s1.bad = 0 ∧ r1.2.clock ≤ 3 ∧ r1.2.bad = 0 := by
  obtain ⟨c1, c2, c3, c4⟩ := acc_put h 0 1
  obtain ⟨d1, d2, d3, d4⟩ := acc_sleep c1 t
  have q := ws_inr d2 a
  obtain ⟨f1, f2, f3, f4⟩ := acc_put (q.1.trans c1) t 0
  have e1 : (SlSt.waits asl).asleep a (s.acc 2 0 a 0 1).1 = false := by
    cases asl
    · rfl
    · simp [SlSt.asleep, peek_in c1, c2]
  have e2 : (SlSt.waits asl).step a t (s.acc 2 0 a 0 1).1 = (.puts, ((s.acc 2 0 a 0 1).1.acc 5 t a 0 0).1) := by
    simp only [SlSt.step, e1]
    rw [d1, c2]; simp
  intro s1 r1 r2
  have hr1 : r1 = (.puts, ((s.acc 2 0 a 0 1).1.acc 5 t a 0 0).1) := e2
  have hr2 : r2 = (.done, (((s.acc 2 0 a 0 1).1.acc 5 t a 0 0).1.acc 2 t a 0 0).1) := by show r1.1.step a t r1.2 = _; rw [hr1]; rfl
  rw [hr2, hr1]
  refine ⟨rfl, rfl, ?_, ?_, ?_, ?_, ?_⟩
  · rw [peek_in f1, f2]
  · show (s.acc 2 0 a 0 1).1.clock ≤ 2; omega
  · show (s.acc 2 0 a 0 1).1.bad = 0; omega
  · show ((s.acc 2 0 a 0 1).1.acc 5 t a 0 0).1.clock ≤ 3; omega
  · show ((s.acc 2 0 a 0 1).1.acc 5 t a 0 0).1.bad = 0; omega
/-- What the law knows of a world. -/
structure NK (w0 w : World) (B l m g x : Nat) (T a t : Int) (cs : List Value) (st : SlSt) (s : St) : Prop where
  low : Below w0.heap.size w0 w
  box : Blk w B cs 92
  lay : Lay w l 1 T 1
  mem : MemAt w m g s
  sl : SlAt w x a t st
  lo : w0.heap.size ≤ m ∧ w0.heap.size ≤ g ∧ w0.heap.size ≤ x
theorem NK.step {w0 w w' : World} {B l m g x : Nat} {T a t : Int} {cs : List Value} {st st' : SlSt} {s s' : St} (h : NK w0 w B l m g x T a t cs st s) (hA : SlAt w' x a t st') (hM : MemAt w' m g s') (hK : Kept [x, m, g] w w') : NK w0 w' B l m g x T a t cs st' s' := by
  obtain ⟨f, hf, _⟩ := h.sl.fl
  obtain ⟨o1, o2, o3⟩ := h.lo
  have a1 := Blk.ne h.box hf (by decide)
  have a2 := h.mem.neT h.box (by decide)
  have a3 := h.mem.neG h.box (by decide)
  have b1 := Blk.ne h.lay.1 hf (by decide)
  have b2 := h.mem.neT h.lay.1 (by decide)
  have b3 := h.mem.neG h.lay.1 (by decide)
  exact ⟨below_kept h.low hK (by simp; omega) h.low.size, h.box.kept hK (by simp [a1, a2, a3]), h.lay.kept hK (by simp [b1, b2, b3]), hM, hA, h.lo⟩
theorem NK.quiet {w0 w w' : World} {B l m g x : Nat} {T a t : Int} {cs : List Value} {st : SlSt} {s : St} (h : NK w0 w B l m g x T a t cs st s) (hb : Below w.heap.size w w') : NK w0 w' B l m g x T a t cs st s :=
  ⟨h.low.trans (hb.mono h.low.size), h.box.quiet hb, h.lay.quiet hb, h.mem.quiet hb, h.sl.quiet hb, h.lo⟩
theorem NK.wake {w0 w w' : World} {B l m g x y : Nat} {T a t : Int} {cs : List Value} {st : SlSt} {s s' : St} (h : NK w0 w B l m g x T a t cs st s) (hW : ∃ who b, WkAt w y a who b) (hy : w0.heap.size ≤ y) (hM : MemAt w' m g s') (hK : Kept [y, m, g] w w') : NK w0 w' B l m g x T a t cs st s' := by
  obtain ⟨f, hf, _⟩ := h.sl.fl
  obtain ⟨who, b, hW⟩ := hW
  obtain ⟨fy, hfy, _⟩ := hW.fl
  obtain ⟨o1, o2, o3⟩ := h.lo
  have a1 := Blk.ne h.box hfy (by decide)
  have a2 := h.mem.neT h.box (by decide)
  have a3 := h.mem.neG h.box (by decide)
  have b1 := Blk.ne h.lay.1 hfy (by decide)
  have b2 := h.mem.neT h.lay.1 (by decide)
  have b3 := h.mem.neG h.lay.1 (by decide)
  have x1 := Blk.ne hf hfy (by decide)
  have x2 := h.mem.neT hf (by decide)
  have x3 := h.mem.neG hf (by decide)
  have hS : ∀ i ∈ [y, m, g], ∀ cs, ¬ Blk w i cs 1 := by
    obtain ⟨cap, spare, z1, z2, z3⟩ := h.mem.ex
    intro i hi
    simp at hi
    rcases hi with rfl | rfl | rfl
    · exact blk_not hfy (by decide)
    · exact blk_not z1 (by decide)
    · exact blk_not z2 (by decide)
  exact ⟨below_kept h.low hK (by simp; omega) h.low.size, h.box.kept hK (by simp [a1, a2, a3]), h.lay.kept hK (by simp [b1, b2, b3]), hM, h.sl.kept hK (by simp [x1, x2, x3]) hS, h.lo⟩

end Go.Proofs.YtlhnnggceebpjaaGreat.Note
end

section
/- The document's notes. -/
set_option maxRecDepth 100000
set_option maxHeartbeats 4000000
set_option linter.unusedVariables false
set_option linter.unusedSimpArgs false
namespace Go.Proofs.YtlhnnggceebpjaaGreat.Run
open Go.RowKit Go.Shelf Go.Proofs.YtlhnnggceebpjaaGreat.TK Go.Proofs.YtlhnnggceebpjaaGreat.Flag Go.Proofs.YtlhnnggceebpjaaGreat.Read Go.Proofs.YtlhnnggceebpjaaGreat.Grow Go.Proofs.YtlhnnggceebpjaaGreat.Words Go.Proofs.YtlhnnggceebpjaaGreat.Mem Go.Proofs.YtlhnnggceebpjaaGreat.Layout
theorem rthread_run (p T gs t f : Int) (w : World) (hp : 0 ≤ p ∧ p ≤ 1000) (ht : 0 ≤ t ∧ t ≤ 1000) (hf : 0 ≤ f ∧ f ≤ 1000) :
    Calls Tryz.prog 41 #[.agg #[.int .i64 p, .int .i64 T, .int .i64 gs], .int .i64 t, .int .i64 f] w fun e w' => e = .returned (.int .i64 (20 + 264 * p + 3 * t + f)) ∧ Below w.heap.size w w' := by
  go_enter Tryz.func41, Tryz.ntmps41
  go_wp2
  go_ret
  exact ⟨rfl, below_one _ _⟩
theorem rthreadat_run (p T gs t f : Int) (w : World) (hp : 0 ≤ p ∧ p ≤ 1000) (ht : 0 ≤ t ∧ t < T) (hT : T ≤ 1000) (hf : 0 ≤ f ∧ f ≤ 1000) :
    Calls Tryz.prog 161 #[.agg #[.int .i64 p, .int .i64 T, .int .i64 gs], .int .i64 t, .int .i64 f] w fun e w' => e = .returned (.int .i64 (20 + 264 * p + 3 * t + f)) ∧ Below w.heap.size w w' := by
  have d1 : decide (t < 0) = false := decide_eq_false (by omega)
  have d2 : decide (T ≤ t) = false := decide_eq_false (by omega)
  go_enter Tryz.func161, Tryz.ntmps161
  go_wp2_with fail
  refine (rthread_run p T gs t f _ hp (by omega) hf).mono ?_
  rintro e w1 ⟨rfl, hb⟩
  go_wp2
  go_ret
  exact ⟨rfl, Below.then_ (below_one _ _) hb⟩
theorem rwake_run (B r : Nat) (v : Value) (st : RunSt) (p T gs t : Int) (w : World) (h : RunAt w B r v st) (hp : 0 ≤ p ∧ p ≤ 1000) (ht : 0 ≤ t ∧ t < T) (hT : T ≤ 1000) :
    Calls Tryz.prog 274 #[.pointer (some ⟨r, 0, none⟩), .agg #[.int .i64 p, .int .i64 T, .int .i64 gs], .int .i64 t] w fun e w' => e = .returned (.tuple #[]) ∧ RunAt w' B r v (st.dox ⟨2, 0, 20 + 264 * p + 3 * t, 0, 1, false⟩).1 ∧ Kept [r] w w' := by
  have HH := hid h
  clear h
  go_enter Tryz.func274, Tryz.ntmps274
  go_wp2_with fail
  refine (rthreadat_run p T gs t 0 _ hp ht hT (by omega)).mono ?_
  rintro e w1 ⟨rfl, hb⟩
  have hb' : Below w.heap.size w w1 := by first | exact hb | exact Below.then_ (below_one _ _) hb
  go_wp2_with fail
  refine (runstore_run B r v st _ 1 w1 (HH.out.quiet hb')).mono ?_
  rintro e w2 ⟨rfl, h1, h2⟩
  go_wp2
  go_returns
  exact ⟨rfl, by simpa using h1, (Kept.of_below hb' [r]).trans h2 (by intro i hi; exact .inl hi)⟩
theorem row_of_blk {w : World} {b : Nat} {xs : List Int} {spare : List Value} {T : TypeId} (h : Blk w b (u64s xs ++ spare) T) : RowAt w ⟨b, 0, none⟩ xs := by
  intro i hi
  rw [show (⟨b, 0, none⟩ : Addr).add i = ⟨b, i, none⟩ by unfold Addr.add; split <;> simp_all]
  exact ((h.cell i).trans (List.getElem?_append_left (by simpa [u64s] using hi))).trans (u64s_get xs i hi)
end Go.Proofs.YtlhnnggceebpjaaGreat.Run
end

section
/- The walk of NoteWakes. -/
set_option maxRecDepth 100000
set_option maxHeartbeats 4000000
set_option linter.unusedVariables false
set_option linter.unusedSimpArgs false
namespace Go.Proofs.YtlhnnggceebpjaaGreat.Run
open Go.RowKit Go.Shelf Go.Proofs.YtlhnnggceebpjaaGreat.TK Go.Proofs.YtlhnnggceebpjaaGreat.Read Go.Proofs.YtlhnnggceebpjaaGreat.Mem
/-- A ground that came in. -/
theorem ground_of {w : World} {cs : List Value} (h : AllL w [.base (.int .i64), .base (.int .i64), .base (.int .i64), .row [.int .i64, .int .u64]] cs) :
    ∃ p T gs a c, ∃ puts : List PutT, cs = [.int .i64 p, .int .i64 T, .int .i64 gs, .slice a puts.length c] ∧ RowOf encP 2 w a puts ∧ (∀ q ∈ puts, 0 ≤ q.2 ∧ q.2 < 18446744073709551616) := by
  obtain ⟨v0, r0, rfl, h0, h⟩ := AllL_cons h
  obtain ⟨v1, r1, rfl, h1, h⟩ := AllL_cons h
  obtain ⟨v2, r2, rfl, h2, h⟩ := AllL_cons h
  obtain ⟨v3, r3, rfl, h3, h⟩ := AllL_cons h
  obtain rfl := AllL_nil h
  obtain ⟨p, rfl, _⟩ := h0
  obtain ⟨T, rfl, _⟩ := h1
  obtain ⟨gs, rfl, _⟩ := h2
  obtain ⟨a, c, puts, rfl, hr, hok, _⟩ := rows_of encP (fun q => 0 ≤ q.2 ∧ q.2 < 18446744073709551616) h3 (fun cs h => by
    obtain ⟨x, r, rfl, hx, h⟩ := AllB_cons h
    obtain ⟨y, r', rfl, hy, h⟩ := AllB_cons h
    obtain rfl := AllB_nil h
    obtain ⟨i, rfl, _⟩ := hx
    obtain ⟨u, rfl, hu⟩ := hy
    exact ⟨(i, u), rfl, wf_u64 hu⟩)
  exact ⟨p, T, gs, a, c, puts, rfl, hr, hok⟩
end Go.Proofs.YtlhnnggceebpjaaGreat.Run
namespace Go.Proofs.YtlhnnggceebpjaaGreat.Note
open Go.RowKit Go.Shelf Go.Proofs.YtlhnnggceebpjaaGreat.TK Go.Proofs.YtlhnnggceebpjaaGreat.Flag Go.Proofs.YtlhnnggceebpjaaGreat.Words Go.Proofs.YtlhnnggceebpjaaGreat.Mem Go.Proofs.YtlhnnggceebpjaaGreat.Flow Go.Proofs.YtlhnnggceebpjaaGreat.Layout Go.Proofs.YtlhnnggceebpjaaGreat.Run Go.Proofs.YtlhnnggceebpjaaGreat.Lock Go.Proofs.YtlhnnggceebpjaaGreat.Read Go.Proofs.YtlhnnggceebpjaaGreat.Grow
theorem layW_len (n : Nat) (puts : List PutT) : (layW n puts).length = n := layTo_len n puts puts.length
theorem nt_at {p T gs t : Int} (puts : List PutT) (h : FewP p T gs) (ht : 0 ≤ t ∧ t < T) : nt p T t = 20 + 264 * p + 3 * t + 0 ∧ (fresh (layW (lenOf p T gs) puts)).inr (nt p T t) = true := by
  unfold FewP Right at h
  have e : nt p T t = 20 + 264 * p + 3 * t + 0 := by unfold nt placeN; rw [if_pos (by simp; omega)]; omega
  refine ⟨e, ?_⟩
  rw [e]
  unfold fresh St.inr
  simp only [layW_len, lenOf, decide_eq_true_eq]
  omega
theorem WkAt.kept {w w' : World} {x : Nat} {a who : Int} {st : Bool} {S : List Nat} (h : WkAt w x a who st) (hk : Kept S w w') (hx : x ∉ S) (hS : ∀ i ∈ S, ∀ cs, ¬ Blk w i cs 1) : WkAt w' x a who st := by
  cases st with
  | false => obtain ⟨b, h, h2⟩ := h; exact ⟨b, h.kept hk hx, h2.kept hk (fun hb => hS b hb _ h2)⟩
  | true => exact FlAt.kept h hk hx
theorem WkAt.quiet {w w' : World} {x : Nat} {a who : Int} (h : WkAt w x a who true) (hb : Below w.heap.size w w') : WkAt w' x a who true := FlAt.quiet h hb
def run0 (got : List Int) : RunSt := ⟨got, 0, false, ⟨0, 0, 0, 0, 0, false⟩, false⟩
end Go.Proofs.YtlhnnggceebpjaaGreat.Note
end

section
/- Releasing a lock, state by state. -/
set_option maxRecDepth 100000
set_option maxHeartbeats 4000000
set_option linter.unusedVariables false
set_option linter.unusedSimpArgs false
namespace Go.Proofs.YtlhnnggceebpjaaGreat.Lock
open Go.RowKit Go.Shelf Go.Proofs.YtlhnnggceebpjaaGreat.TK Go.Proofs.YtlhnnggceebpjaaGreat.Flag Go.Proofs.YtlhnnggceebpjaaGreat.Words Go.Proofs.YtlhnnggceebpjaaGreat.Mem Go.Proofs.YtlhnnggceebpjaaGreat.Flow Go.Proofs.YtlhnnggceebpjaaGreat.Layout
def relR (l : Nat) (k : Int) : List Value := [.pointer (some ⟨l, 0, none⟩), .int .i64 k]
theorem rel_new (l : Nat) (k who : Int) (w : World) :
    Calls Tryz.prog 308 #[.pointer (some ⟨l, 0, none⟩), .int .i64 k, .int .i64 who] w fun e w' => e = .returned (.pointer (some ⟨w.heap.size, 0, none⟩)) ∧ (∃ b, FlAt w' w.heap.size ⟨who, 2, ow k, 0, 0, .func (.func 239) #[] #[.pointer (some ⟨b, 0, none⟩)], false, .nilIface, .nilFunc⟩ (relR l k) 331 ∧ Blk w' b [meth 332 w.heap.size] 1) ∧ Below w.heap.size w w' := by
  have h0 : FlAt (w.alloc (.cells (fl fl0 ++ relR l k).toArray 331)) w.heap.size fl0 (relR l k) 331 := Blk.new w _ _
  go_enter Tryz.func308, Tryz.ntmps308
  go_wp2_with fail
  refine (fof_run w.heap.size fl0 (relR l k) 331 who _ h0).mono ?_
  rintro e w1 ⟨rfl, h1, hK⟩
  have hlow : Below w.heap.size w w1 := (below_one _ _).trans (hK.below (by simp) (by simp))
  clear h0 hK
  go_wp2_with fail
  refine wp_region_T 8 (fun w' => FlAt w' w.heap.size { fl0 with who := who } (relR l k) 331 ∧ Below w.heap.size w w') (fun w' => (∃ b, FlAt w' w.heap.size ⟨who, 2, ow k, 0, 0, .func (.func 239) #[] #[.pointer (some ⟨b, 0, none⟩)], false, .nilIface, .nilFunc⟩ (relR l k) 331 ∧ Blk w' b [meth 332 w.heap.size] 1) ∧ Below w.heap.size w w') (by kernel_rfl) (by kernel_rfl) rfl (by kernel_rfl) ⟨h1, hlow.drew⟩ ?_
  clear h1 hlow
  repeat (first | (apply walkD_pure; rfl; rfl; (intro _; go_simp; first | done | rfl); (intro K hK; go_simp; refine hK _ ?_; clear hK K)) | (apply walkD_skip; rfl; rfl; (intro K hK; go_simp; refine hK _ ?_; clear hK K)) | (apply walkD_call1 [false] (by kernel_rfl); rfl; (intro _; go_simp; first | rfl | exact ⟨rfl, rfl⟩); (intro w' hD; first | (go_at_call 285; refine (owner_run l k _).mono ?_; rintro e w2 ⟨rfl, rfl⟩; exact ⟨rfl, hD⟩) | (go_at_call 188; refine (fstore_run w.heap.size _ _ _ _ _ _ _ _ _ hD.1).mono ?_; rintro e w2 ⟨rfl, b, hF, hX, hle, hK⟩; exact ⟨rfl, ⟨b, hF, hX⟩, hD.2.trans (hK.below (by simp) hD.2.size)⟩)); (intro K hK; go_simp; refine hK _ ?_; clear hK K)))
  rintro w2 ⟨hF, hlow⟩
  go_wp2
  go_ret
  exact ⟨rfl, hF, hlow⟩
theorem serves_run (x l : Nat) (k : Int) (f : Fl) (w : World) (hb : FlAt w x f (relR l k) 331) :
    Calls Tryz.prog 332 #[.pointer (some ⟨x, 0, none⟩)] w fun e w' => e = .returned (.tuple #[]) ∧ FlAt w' x { f with kind := 4, at_ := sv k, old := 0, nw := 1, th := meth 353 x } (relR l k) 331 ∧ Kept [x] w w' := by
  have HB := hid hb
  clear hb
  go_enter Tryz.func332, Tryz.ntmps332
  go_wp2_with fail
  refine wp_region_T 14 (fun w' => FlAt w' x f (relR l k) 331 ∧ Kept [x] w w') (fun w' => FlAt w' x { f with kind := 4, at_ := sv k, old := 0, nw := 1, th := meth 353 x } (relR l k) 331 ∧ Kept [x] w w') (by kernel_rfl) (by kernel_rfl) rfl (by kernel_rfl) ⟨HB.out, (Kept.refl [x] w).drew⟩ ?_
  clear HB
  repeat (first | (apply walkD_pure; rfl; rfl; (intro _; go_simp; first | done | rfl); (intro K hK; go_simp; refine hK _ ?_; clear hK K)) | (apply walkD_skip; rfl; rfl; (intro K hK; go_simp; refine hK _ ?_; clear hK K)) | (apply walkD_read1 [false] (by kernel_rfl); rfl; rfl; (intro w' hD; have y0 := Blk.cell hD.1 9; have y1 := Blk.cell hD.1 10; simp only [fl, relR, List.cons_append, List.nil_append, List.getElem?_cons_zero, List.getElem?_cons_succ] at y0 y1; go_simp; rfl); (intro K hK; go_simp; refine hK _ ?_; clear hK K)) | (apply walkD_call1 [false] (by kernel_rfl); rfl; (intro _; go_simp; first | rfl | exact ⟨rfl, rfl⟩); (intro w' hD; first | (go_at_call 249; refine (serving_run l k _).mono ?_; rintro e w2 ⟨rfl, rfl⟩; exact ⟨rfl, hD⟩) | (go_at_call 132; refine (fadd_run x _ _ _ _ _ _ _ _ _ hD.1).mono ?_; rintro e w2 ⟨rfl, hF, hK⟩; exact ⟨rfl, hF, hD.2.trans hK (by intro i hi; exact .inl hi)⟩)); (intro K hK; go_simp; refine hK _ ?_; clear hK K)))
  rintro w2 ⟨hF, hK⟩
  go_wp2
  go_returns
  exact ⟨rfl, hF, hK⟩
theorem rlends_run (x v : Value) (w : World) : Calls Tryz.prog 353 #[x, v] w fun e w' => (∃ r, e = .returned r) ∧ w = w' := by
  go_enter Tryz.func353, Tryz.ntmps353
  go_wp2
  go_returns
  exact ⟨⟨_, rfl⟩, rfl⟩
inductive RlSt
  | puts
  | adds
  | done
def RlAt (w : World) (x l : Nat) (k who : Int) : RlSt → Prop
  | .puts => ∃ b, FlAt w x ⟨who, 2, ow k, 0, 0, .func (.func 239) #[] #[.pointer (some ⟨b, 0, none⟩)], false, .nilIface, .nilFunc⟩ (relR l k) 331 ∧ Blk w b [meth 332 x] 1
  | .adds => FlAt w x ⟨who, 4, sv k, 0, 1, meth 353 x, false, .nilIface, .nilFunc⟩ (relR l k) 331
  | .done => FlAt w x ⟨who, 0, sv k, 0, 1, .nilFunc, false, .nilIface, .nilFunc⟩ (relR l k) 331
def RlSt.over : RlSt → Bool
  | .done => true
  | _ => false
def RlSt.step (st : RlSt) (k who : Int) (s : St) : RlSt × St :=
  match st with
  | .puts => (.adds, (s.acc 2 who (ow k) 0 0).1)
  | .adds => (.done, (s.acc 4 who (sv k) 0 1).1)
  | .done => (.done, s)
theorem RlAt.fl {w : World} {x l : Nat} {k who : Int} {st : RlSt} (h : RlAt w x l k who st) : ∃ f, FlAt w x f (relR l k) 331 ∧ f.sub = .nilIface ∧ f.over = st.over ∧ f.fine := by
  cases st with
  | puts => obtain ⟨b, h, _⟩ := h; exact ⟨_, h, rfl, rfl, .inl rfl⟩
  | adds => exact ⟨_, h, rfl, rfl, .inl rfl⟩
  | done => exact ⟨_, h, rfl, rfl, .inl rfl⟩
theorem RlAt.kept {w w' : World} {x l : Nat} {k who : Int} {st : RlSt} {S : List Nat} (h : RlAt w x l k who st) (hk : Kept S w w') (hx : x ∉ S) (hS : ∀ i ∈ S, ∀ cs, ¬ Blk w i cs 1) : RlAt w' x l k who st := by
  cases st with
  | puts => obtain ⟨b, h, h2⟩ := h; exact ⟨b, h.kept hk hx, h2.kept hk (fun hb => hS b hb _ h2)⟩
  | adds => exact FlAt.kept h hk hx
  | done => exact FlAt.kept h hk hx
theorem RlAt.quiet {w w' : World} {x l : Nat} {k who : Int} {st : RlSt} (h : RlAt w x l k who st) (hb : Below w.heap.size w w') : RlAt w' x l k who st := h.kept (Kept.of_below hb []) (by simp) (by simp)
theorem rl_fstep (x l m g : Nat) (k who : Int) (st : RlSt) (s : St) (w : World) (hA : RlAt w x l k who st) (hM : MemAt w m g s) (hc : s.clock < 1000000) (hbd : s.bad < 1000000) :
    Calls Tryz.prog 127 #[.pointer (some ⟨x, 0, none⟩), .pointer (some ⟨m, 0, none⟩)] w fun e w' => e = .returned (.bool (st.step k who s).1.over) ∧ RlAt w' x l k who (st.step k who s).1 ∧ MemAt w' m g (st.step k who s).2 ∧ Kept [x, m, g] w w' := by
  obtain ⟨f0, hF0, hz0, hz1, hz2⟩ := hA.fl
  have hxm : x ≠ m := hM.neT hF0 (by decide)
  have hxg : x ≠ g := hM.neG hF0 (by decide)
  clear hF0 hz0 hz1 hz2 f0
  cases st with
  | puts =>
    obtain ⟨b, hF, hB⟩ := hA
    refine fstep_then false x m g _ _ _ s w _ hF rfl hM hxm hxg ⟨by simp, by simp⟩ hc hbd (by simp) rfl (.inl (by simp)) _ _ _ rfl (enters_of Tryz.func239 (by kernel_rfl) rfl) ?_ ?_
    · intro w1 h1 h2 h3
      have hbx : b ∉ [x, m, g] := by
        have n1 := Blk.ne hB hF (by decide)
        have n2 := hM.neT hB (by decide)
        have n3 := hM.neG hB (by decide)
        simp [n1, n2, n3]
      refine fstore1_run _ b _ _ _ w1 _ (hB.kept h3 hbx) (enters_of Tryz.func332 (by kernel_rfl) rfl) ?_
      refine (serves_run x l k _ w1 h1).mono ?_
      rintro e w2 ⟨rfl, h4, h5⟩
      exact ⟨⟨_, rfl⟩, h4, h2.kept h5 (by simp; omega) (by simp; omega), h3.trans h5 (by intro i hi; simp at hi; subst hi; exact .inl (by simp))⟩
    · rintro w' ⟨h, _⟩
      exact ⟨_, _, h, .inl rfl, rfl⟩
  | adds =>
    refine fstep_then true x m g _ _ _ s w _ hA rfl hM hxm hxg ⟨by simp, by simp⟩ hc hbd (by simp) rfl (.inl (by simp)) _ _ _ rfl (enters_of Tryz.func353 (by kernel_rfl) rfl) ?_ ?_
    · intro w1 h1 h2 h3
      refine (rlends_run _ _ w1).mono ?_
      rintro e w2 ⟨hr, rfl⟩
      exact ⟨hr, h1, h2, h3⟩
    · rintro w' ⟨h, _⟩
      exact ⟨_, _, h, .inl rfl, rfl⟩
  | done =>
    refine (fstep_done x _ _ _ _ w hA rfl rfl).mono ?_
    rintro e w' ⟨rfl, rfl⟩
    exact ⟨rfl, hA, hM, Kept.refl _ _⟩
theorem rlstep_run (x l m g : Nat) (k who : Int) (st : RlSt) (s : St) (w : World) (hA : RlAt w x l k who st) (hM : MemAt w m g s) (hc : s.clock < 1000000) (hbd : s.bad < 1000000) :
    Calls Tryz.prog 450 #[.pointer (some ⟨x, 0, none⟩), .pointer (some ⟨m, 0, none⟩)] w fun e w' => e = .returned (.bool (st.step k who s).1.over) ∧ RlAt w' x l k who (st.step k who s).1 ∧ MemAt w' m g (st.step k who s).2 ∧ Kept [x, m, g] w w' := by
  have H := hid (rl_fstep x l m g k who st s w hA hM hc hbd)
  generalize st.step k who s = r at H ⊢
  clear hA hM
  go_enter Tryz.func450, Tryz.ntmps450
  go_wp2_with fail
  refine H.out.mono ?_
  rintro e w1 ⟨rfl, h1, h2, h3⟩
  go_wp2
  go_ret
  exact ⟨rfl, h1, h2, h3⟩
end Go.Proofs.YtlhnnggceebpjaaGreat.Lock
end

section
/- The document's release; a replay; the pokes that came in. -/
set_option maxRecDepth 100000
set_option maxHeartbeats 4000000
set_option linter.unusedVariables false
set_option linter.unusedSimpArgs false
namespace Go.Proofs.YtlhnnggceebpjaaGreat.Run
open Go.RowKit Go.Shelf Go.Proofs.YtlhnnggceebpjaaGreat.TK Go.Proofs.YtlhnnggceebpjaaGreat.Flag Go.Proofs.YtlhnnggceebpjaaGreat.Read Go.Proofs.YtlhnnggceebpjaaGreat.Grow Go.Proofs.YtlhnnggceebpjaaGreat.Words Go.Proofs.YtlhnnggceebpjaaGreat.Mem Go.Proofs.YtlhnnggceebpjaaGreat.Layout Go.Proofs.YtlhnnggceebpjaaGreat.Lock
/-- A run as it begins. -/
def runOf (got : List Int) : RunSt := ⟨got, 0, false, ⟨0, 0, 0, 0, 0, false⟩, false⟩
def relRun (k : Int) (st : RunSt) : RunSt := ((st.dox ⟨2, 0, 3 * k + 2, 0, 0, false⟩).1.dox ⟨4, 0, 3 * k + 1, 0, 1, false⟩).1
theorem rrel_run (B r : Nat) (v : Value) (st : RunSt) (k : Int) (w : World) (h : RunAt w B r v st) (hk : 0 ≤ k ∧ k ≤ 1) :
    Calls Tryz.prog 146 #[.pointer (some ⟨r, 0, none⟩), .int .i64 k] w fun e w' => e = .returned (.tuple #[]) ∧ RunAt w' B r v (relRun k st) ∧ Kept [r] w w' := by
  have HH := hid h
  clear h
  go_enter Tryz.func146, Tryz.ntmps146
  go_wp2_with fail
  refine (runstore_run B r v st _ 0 w HH.out).mono ?_
  rintro e w1 ⟨rfl, h1, h2⟩
  have H1 := hid h1
  clear h1 HH
  go_wp2_with fail
  refine (runadd_run B r v _ _ 1 w1 H1.out).mono ?_
  rintro e w2 ⟨rfl, h3, h4⟩
  go_wp2
  go_returns
  exact ⟨rfl, h3, h2.trans h4 (by intro i hi; exact .inl hi)⟩
/-- How far a release is by what its accesses answered. -/
def RlGot : RlSt → List Int → Prop
  | .puts, got => got = []
  | .adds, got => ∃ a, got = [a]
  | .done, got => ∃ a b, got = [a, b]
theorem rl_puts (k : Int) : relRun k (runOf []) = ⟨[], 0, true, ⟨2, 0, 3 * k + 2, 0, 0, false⟩, false⟩ := rfl
theorem rl_adds (k a : Int) : relRun k (runOf [a]) = ⟨[a], 1, true, ⟨4, 0, 3 * k + 1, 0, 1, false⟩, false⟩ := rfl
theorem rl_done (k a b : Int) : relRun k (runOf [a, b]) = ⟨[a, b], 2, false, ⟨0, 0, 0, 0, 0, false⟩, false⟩ := rfl
theorem lock_words {k : Int} (hk : 0 ≤ k ∧ k ≤ 1) : tk k = 3 * k ∧ sv k = 3 * k + 1 ∧ ow k = 3 * k + 2 := by
  have : k = 0 ∨ k = 1 := by omega
  rcases this with rfl | rfl <;> decide
/-- A poke that came in. -/
structure PokeT where
  step : Bool
  act : ActT
def encA (a : ActT) : List Value := [.int .i64 a.kind, .int .i64 a.who, .int .i64 a.at_, .int .u64 a.old, .int .u64 a.new]
def encK (p : PokeT) : List Value := .bool p.step :: encA p.act
theorem pokes_of {w : World} {v : Value} (h : (Leaf.row [.bool, .int .i64, .int .i64, .int .i64, .int .u64, .int .u64]).holds w v) :
    ∃ a c, ∃ pokes : List PokeT, v = .slice a pokes.length c ∧ RowOf encK 6 w a pokes ∧ (∀ q ∈ pokes, 0 ≤ q.act.new ∧ q.act.new < 18446744073709551616) := by
  obtain ⟨a, c, xs, rfl, hr, hok, _⟩ := rows_of encK (fun q => 0 ≤ q.act.new ∧ q.act.new < 18446744073709551616) h (fun cs h => by
    obtain ⟨x0, r, rfl, h0, h⟩ := AllB_cons h
    obtain ⟨x1, r, rfl, h1, h⟩ := AllB_cons h
    obtain ⟨x2, r, rfl, h2, h⟩ := AllB_cons h
    obtain ⟨x3, r, rfl, h3, h⟩ := AllB_cons h
    obtain ⟨x4, r, rfl, h4, h⟩ := AllB_cons h
    obtain ⟨x5, r, rfl, h5, h⟩ := AllB_cons h
    obtain rfl := AllB_nil h
    obtain ⟨b, rfl⟩ := h0
    obtain ⟨i1, rfl, _⟩ := h1
    obtain ⟨i2, rfl, _⟩ := h2
    obtain ⟨i3, rfl, _⟩ := h3
    obtain ⟨i4, rfl, _⟩ := h4
    obtain ⟨i5, rfl, hu⟩ := h5
    exact ⟨⟨b, ⟨i1, i2, i3, i4, i5⟩⟩, rfl, wf_u64 hu⟩)
  exact ⟨a, c, xs, rfl, hr, hok⟩
theorem own_after {w : World} {B : Nat} {v : Value} {xs : List Int} (h : Grow w B 25 1 (encI .u64) v xs) {T' : TypeId} (hT : 25 ≠ T') : ∀ i ∈ v.ownBlock.toList, ∀ cs, ¬ Blk w i cs T' := by
  intro i hi cs hb
  have := own_type h hb hT
  simp at hi
  exact this hi
theorem act_clock (a : ActT) (s : St) : (a.on s).clock = s.clock + 1 ∧ (a.on s).bad ≤ s.bad + 1 ∧ s.bad ≤ (a.on s).bad := by
  unfold ActT.on
  split
  · exact ⟨(acc_clock ..).1, (acc_clock ..).2.2, (acc_clock ..).2.1⟩
  · split
    · exact ⟨(acc_clock ..).1, (acc_clock ..).2.2, (acc_clock ..).2.1⟩
    · split
      · exact ⟨(acc_clock ..).1, (acc_clock ..).2.2, (acc_clock ..).2.1⟩
      · exact ⟨(acc_clock ..).1, (acc_clock ..).2.2, (acc_clock ..).2.1⟩
end Go.Proofs.YtlhnnggceebpjaaGreat.Run
end

section
/- The document's acquire. -/
set_option maxRecDepth 100000
set_option maxHeartbeats 4000000
set_option linter.unusedVariables false
set_option linter.unusedSimpArgs false
namespace Go.Proofs.YtlhnnggceebpjaaGreat.Run
open Go.RowKit Go.Shelf Go.Proofs.YtlhnnggceebpjaaGreat.TK Go.Proofs.YtlhnnggceebpjaaGreat.Flag Go.Proofs.YtlhnnggceebpjaaGreat.Read Go.Proofs.YtlhnnggceebpjaaGreat.Grow Go.Proofs.YtlhnnggceebpjaaGreat.Words Go.Proofs.YtlhnnggceebpjaaGreat.Mem Go.Proofs.YtlhnnggceebpjaaGreat.Layout Go.Proofs.YtlhnnggceebpjaaGreat.Lock
/-- A run that goes on. -/
def at_ (got : List Int) (u : Nat) : RunSt := ⟨got, u, false, ⟨0, 0, 0, 0, 0, false⟩, false⟩
def stopAt (got : List Int) (A : Acc) : RunSt := ⟨got, got.length, true, A, false⟩
theorem dox_on (got : List Int) (u : Nat) (A : Acc) (h : u < got.length) : (at_ got u).dox A = (at_ got (u + 1), got[u]) := by
  unfold RunSt.dox at_
  simp [h, List.getD_eq_getElem?_getD]
theorem dox_end (got : List Int) (A : Acc) : (at_ got got.length).dox A = (stopAt got A, 0) := by
  unfold RunSt.dox at_ stopAt
  simp
theorem dox_stop (got : List Int) (A C : Acc) : (stopAt got A).dox C = (stopAt got A, 0) := by
  unfold RunSt.dox stopAt
  simp
/-- The turn that the document tells of an answer. -/
theorem turn_wrap2 (a : Int) (h : 0 ≤ a ∧ a < 18446744073709551616) : (IntKind.u64.wrap (a + 4294967295)).tmod 4294967296 = turnOf a ∧ IntKind.u64.wrap (a + 4294967295) % 4294967296 = turnOf a := by
  have e : 0 ≤ IntKind.u64.wrap (a + 4294967295) := by rw [IntKind.wrap_u64]; omega
  have e2 : IntKind.u64.wrap (a + 4294967295) % 4294967296 = turnOf a := by rw [IntKind.wrap_u64]; unfold turnOf; omega
  exact ⟨by rw [Int.tmod_eq_emod_of_nonneg e]; exact e2, e2⟩
theorem racq_none (B r : Nat) (v : Value) (k who : Int) (w : World) (h : RunAt w B r v (at_ [] 0)) (hk : 0 ≤ k ∧ k ≤ 1) :
    Calls Tryz.prog 143 #[.pointer (some ⟨r, 0, none⟩), .int .i64 k, .int .i64 who] w fun e w' => (∃ z, e = .returned (.int .u64 z)) ∧ RunAt w' B r v (stopAt [] ⟨4, 0, 3 * k, 0, 1, false⟩) ∧ Kept [r] w w' := by
  have HH := hid h
  clear h
  go_enter Tryz.func143, Tryz.ntmps143
  go_wp2_with fail
  refine (runadd_run B r v _ _ 1 w HH.out).mono ?_
  rintro e w1 ⟨rfl, h1, h2⟩
  rw [show (at_ [] 0).dox ⟨4, 0, 3 * k, 0, 1, false⟩ = (stopAt [] ⟨4, 0, 3 * k, 0, 1, false⟩, 0) from dox_end [] _] at h1 ⊢
  have c2 := h1.blk.cell 2
  simp only [runCells, stopAt, List.getElem?_cons_zero, List.getElem?_cons_succ] at c2
  have H1 := hid h1
  clear h1 HH
  go_wp2_with fail
  go_loopw [] (fun wr => wr = w1) (fun _ => 0)
  case atStart => rfl
  case round =>
    subst hrel
    go_wp2
    go_ret
    exact ⟨⟨_, rfl⟩, H1.out, h2⟩
def acqEnd (k who : Int) (got tail : List Int) : RunSt :=
  match tail with
  | [] => stopAt got ⟨1, 0, 3 * k + 1, 0, 0, false⟩
  | [_] => stopAt got ⟨2, 0, 3 * k + 2, 0, who + 1, false⟩
  | _ => at_ got got.length
/-- What is left of a run. -/
def leftOf (N r : Nat) (w : World) : Nat :=
  (match w.cell? ⟨r, 1, none⟩ with | some (.int _ n) => N - n.toNat | _ => 0) + (match w.cell? ⟨r, 2, none⟩ with | some (.bool true) => 0 | _ => 1)
theorem racq_run (B r : Nat) (v : Value) (k who t0 : Int) (ls tail : List Int) (w : World) (h : RunAt w B r v (at_ (t0 :: (ls ++ tail)) 0)) (hk : 0 ≤ k ∧ k ≤ 1) (hw : 0 ≤ who ∧ who ≤ 1000) (ht : 0 ≤ t0 ∧ t0 < 18446744073709551616)
    (hne : ∀ x ∈ ls, x ≠ turnOf t0) (htl : tail = [] ∨ tail = [turnOf t0] ∨ ∃ z, tail = [turnOf t0, z]) :
    Calls Tryz.prog 143 #[.pointer (some ⟨r, 0, none⟩), .int .i64 k, .int .i64 who] w fun e w' => e = .returned (.int .u64 (turnOf t0)) ∧ RunAt w' B r v (acqEnd k who (t0 :: (ls ++ tail)) tail) ∧ Kept [r] w w' := by
  obtain ⟨e1, e2⟩ := turn_wrap2 t0 ht
  obtain ⟨tn, htn⟩ : ∃ tn, tn = turnOf t0 := ⟨_, rfl⟩
  rw [← htn] at e1 e2 hne htl ⊢
  obtain ⟨tw, htw⟩ : ∃ tw, tw = IntKind.u64.wrap (t0 + 4294967295) := ⟨_, rfl⟩
  have hw0 : 0 ≤ tw ∧ tw < 18446744073709551616 := by rw [htw, IntKind.wrap_u64]; omega
  have hwr := htw.symm
  rw [← htw] at e1 e2
  have n1 : IntKind.u64.wrap who = who := by rw [IntKind.wrap_u64]; omega
  have n2 : IntKind.u64.wrap (who + 1) = who + 1 := by rw [IntKind.wrap_u64]; omega
  obtain ⟨got, hg⟩ : ∃ got, got = t0 :: (ls ++ tail) := ⟨_, rfl⟩
  have hlg : got.length = 1 + ls.length + tail.length := by rw [hg]; simp; omega
  have hg0 : 0 < got.length := by omega
  have hat : ∀ j (hj : j < ls.length) (h' : 1 + j < got.length), got[1 + j] = ls[j] := by
    intro j hj h'
    subst hg
    simp only [Nat.add_comm 1 j, List.getElem_cons_succ]
    rw [List.getElem_append_left hj]
  have htr : ∀ (x : Int) (r' : List Int) (h' : 1 + ls.length < got.length), tail = x :: r' → got[1 + ls.length] = x := by
    intro x r' h' e
    subst e
    subst hg
    simp only [Nat.add_comm 1 ls.length, List.getElem_cons_succ]
    rw [List.getElem_append_right (Nat.le_refl _)]
    simp
  have hz : got[0] = t0 := by subst hg; rfl
  rw [← hg] at h ⊢
  have HH := hid h
  have HNE := hid hne
  have HTL := hid htl
  have HAT := hid hat
  have HTR := hid htr
  clear h hne htl hat htr hg htn htw
  go_enter Tryz.func143, Tryz.ntmps143
  go_wp2_with fail
  refine (runadd_run B r v _ _ 1 w HH.out).mono ?_
  rintro e w1 ⟨rfl, h1, h2⟩
  rw [dox_on got 0 _ hg0] at h1 ⊢
  simp only [hz] at h1 ⊢
  have H1 := hid h1
  have hB1 := h1.blk.cell 2
  clear h1 HH hz
  go_wp2_with fail
  go_loopw [] (fun wr => Kept [r] w wr ∧ ((∃ j, j ≤ ls.length ∧ RunAt wr B r v (at_ got (1 + j))) ∨ (tail = [] ∧ RunAt wr B r v (stopAt got ⟨1, 0, 3 * k + 1, 0, 0, false⟩)))) (leftOf got.length r)
  case atStart => exact ⟨h2, .inl ⟨0, Nat.zero_le _, H1.out⟩⟩
  case round =>
    obtain ⟨hK, ⟨j, hj, hR⟩ | ⟨htl, hR⟩⟩ := hrel
    · have c1 := hR.blk.cell 1
      have c2 := hR.blk.cell 2
      simp only [runCells, at_, List.getElem?_cons_zero, List.getElem?_cons_succ] at c1 c2
      have HR := hid hR
      have hm : leftOf got.length r wr = got.length - (1 + j) + 1 := by
        unfold leftOf
        rw [c1, c2]
        simp
        omega
      clear hR
      by_cases hlt : j < ls.length
      · have hgl : 1 + j < got.length := by omega
        have hv := HAT.out j hlt hgl
        have hne := HNE.out ls[j] (List.getElem_mem hlt)
        rw [← hv] at hne
        have hd := dox_on got (1 + j) ⟨1, 0, 3 * k + 1, 0, 0, false⟩ hgl
        obtain ⟨val, hval⟩ : ∃ val, val = got[1 + j] := ⟨_, rfl⟩
        rw [← hval] at hd hne
        have hq : ((val : Int) == tn) = false := by simpa using hne
        have HD := hid hd
        clear hv hne hd hval
        go_wp2_with fail
        refine (runload_run B r v _ _ wr HR.out).mono ?_
        rintro e w3 ⟨rfl, h3, hk3⟩
        rw [HD.out] at h3 ⊢
        have d1 := h3.blk.cell 1
        have d2 := h3.blk.cell 2
        simp only [runCells, at_, List.getElem?_cons_zero, List.getElem?_cons_succ] at d1 d2
        have H3 := hid h3
        clear h3 c1 c2 HR
        go_wp2_with fail
        go_roundw
        case rel => exact ⟨hK.trans hk3 (by intro i hi; exact .inl hi), .inl ⟨j + 1, by omega, H3.out⟩⟩
        case measure =>
          rw [hm]
          unfold leftOf
          rw [d1, d2]
          simp
          omega
      · obtain rfl : j = ls.length := by omega
        rcases HTL.out with h | h | ⟨z, h⟩
        · subst h
          simp only [List.length_nil, Nat.add_zero] at hlg
          have hd := dox_end got ⟨1, 0, 3 * k + 1, 0, 0, false⟩
          rw [hlg] at hd
          have HD := hid hd
          clear hd
          by_cases hz : (0 : Int) = tn
          · have hq : ((0 : Int) == tn) = true := by simpa using hz
            go_wp2_with fail
            refine (runload_run B r v _ _ wr HR.out).mono ?_
            rintro e w3 ⟨rfl, h3, hk3⟩
            rw [HD.out] at h3 ⊢
            have d1 := h3.blk.cell 1
            have d2 := h3.blk.cell 2
            simp only [runCells, stopAt, List.getElem?_cons_zero, List.getElem?_cons_succ] at d1 d2
            have H3 := hid h3
            clear h3 c1 c2 HR
            go_wp2_with fail
            go_roundw
            case rel => exact ⟨hK.trans hk3 (by intro i hi; exact .inl hi), .inr ⟨by first | trivial | rfl, H3.out⟩⟩
            case measure =>
              rw [hm]
              unfold leftOf
              rw [d1, d2]
              simp
          · have hq : ((0 : Int) == tn) = false := by simpa using hz
            go_wp2_with fail
            refine (runload_run B r v _ _ wr HR.out).mono ?_
            rintro e w3 ⟨rfl, h3, hk3⟩
            rw [HD.out] at h3 ⊢
            have d1 := h3.blk.cell 1
            have d2 := h3.blk.cell 2
            simp only [runCells, stopAt, List.getElem?_cons_zero, List.getElem?_cons_succ] at d1 d2
            have H3 := hid h3
            clear h3 c1 c2 HR
            go_wp2_with fail
            go_roundw
            case rel => exact ⟨hK.trans hk3 (by intro i hi; exact .inl hi), .inr ⟨by first | trivial | rfl, H3.out⟩⟩
            case measure =>
              rw [hm]
              unfold leftOf
              rw [d1, d2]
              simp
        · subst h
          simp only [List.length_singleton] at hlg
          have hgl : 1 + ls.length < got.length := by omega
          have hv := HTR.out tn [] hgl rfl
          have hd := dox_on got (1 + ls.length) ⟨1, 0, 3 * k + 1, 0, 0, false⟩ hgl
          rw [hv] at hd
          have hd2 := dox_end got ⟨2, 0, 3 * k + 2, 0, who + 1, false⟩
          rw [hlg] at hd2
          have HD := hid hd
          have HD2 := hid hd2
          clear hd hd2 hv
          go_wp2_with fail
          refine (runload_run B r v _ _ wr HR.out).mono ?_
          rintro e w3 ⟨rfl, h3, hk3⟩
          rw [HD.out] at h3 ⊢
          have d2 := h3.blk.cell 2
          simp only [runCells, at_, List.getElem?_cons_zero, List.getElem?_cons_succ] at d2
          have H3 := hid h3
          clear h3 c1 c2 HR
          go_wp2_with fail
          refine (runstore_run B r v _ _ (who + 1) w3 H3.out).mono ?_
          rintro e w4 ⟨rfl, h4, hk4⟩
          have H4 := hid h4
          clear h4
          go_wp2
          go_ret
          exact ⟨rfl, by have := H4.out; rw [HD2.out] at this; exact this, (hK.trans hk3 (by intro i hi; exact .inl hi)).trans hk4 (by intro i hi; exact .inl hi)⟩
        · subst h
          simp only [List.length_cons, List.length_nil] at hlg
          have hgl : 1 + ls.length < got.length := by omega
          have hv := HTR.out tn [z] hgl rfl
          have hd := dox_on got (1 + ls.length) ⟨1, 0, 3 * k + 1, 0, 0, false⟩ hgl
          rw [hv] at hd
          have hd2 := dox_on got (1 + ls.length + 1) ⟨2, 0, 3 * k + 2, 0, who + 1, false⟩ (by omega)
          have HD := hid hd
          have HD2 := hid hd2
          have hfin : got.length = 1 + ls.length + 1 + 1 := by omega
          clear hd hd2 hv
          go_wp2_with fail
          refine (runload_run B r v _ _ wr HR.out).mono ?_
          rintro e w3 ⟨rfl, h3, hk3⟩
          rw [HD.out] at h3 ⊢
          have d2 := h3.blk.cell 2
          simp only [runCells, at_, List.getElem?_cons_zero, List.getElem?_cons_succ] at d2
          have H3 := hid h3
          clear h3 c1 c2 HR
          go_wp2_with fail
          refine (runstore_run B r v _ _ (who + 1) w3 H3.out).mono ?_
          rintro e w4 ⟨rfl, h4, hk4⟩
          have H4 := hid h4
          have HFIN := hid hfin
          clear h4 hfin
          go_wp2
          go_ret
          exact ⟨rfl, by have := H4.out; rw [HD2.out] at this; unfold acqEnd; rw [HFIN.out]; exact this, (hK.trans hk3 (by intro i hi; exact .inl hi)).trans hk4 (by intro i hi; exact .inl hi)⟩
    · have c2 := hR.blk.cell 2
      simp only [runCells, stopAt, List.getElem?_cons_zero, List.getElem?_cons_succ] at c2
      subst htl
      have HR := hid hR
      clear hR
      go_wp2
      go_ret
      exact ⟨rfl, HR.out, hK⟩
end Go.Proofs.YtlhnnggceebpjaaGreat.Run
end
