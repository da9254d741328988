/- Notes: a step, from any state; what is called from outside. -/
import Derived.Test.YtokpgbocomhpiaaNote
set_option maxRecDepth 100000
set_option maxHeartbeats 4000000
set_option linter.unusedVariables false
set_option linter.unusedSimpArgs false
namespace Go.Proofs.Ytokpgbocomhpiaa.Note
open Go.RowKit Go.Shelf Go.Proofs.Ytokpgbocomhpiaa.TK Go.Proofs.Ytokpgbocomhpiaa.Flag Go.Proofs.Ytokpgbocomhpiaa.Words Go.Proofs.Ytokpgbocomhpiaa.Mem Go.Proofs.Ytokpgbocomhpiaa.Flow Go.Proofs.Ytokpgbocomhpiaa.Layout Go.Proofs.Ytokpgbocomhpiaa.Lock
inductive SlSt
  | waits (asl : Bool)
  | puts
  | done
def SlAt (w : World) (x : Nat) (a who : Int) : SlSt → Prop
  | .waits asl => FlAt w x ⟨who, 5, a, 0, 0, meth 140 x, asl, .nilIface, .nilFunc⟩ [.int .i64 a] 159
  | .puts => ∃ b, FlAt w x ⟨who, 2, a, 0, 0, .func (.func 201) #[] #[.pointer (some ⟨b, 0, none⟩)], false, .nilIface, .nilFunc⟩ [.int .i64 a] 159 ∧ Blk w b [meth 145 x] 1
  | .done => FlAt w x ⟨who, 0, a, 0, 0, .nilFunc, false, .nilIface, .nilFunc⟩ [.int .i64 a] 159
def SlSt.over : SlSt → Bool
  | .done => true
  | _ => false
/-- It is asleep. -/
def SlSt.asleep (st : SlSt) (a : Int) (s : St) : Bool :=
  match st with
  | .waits true => decide ((s.peek a).1 = 0)
  | _ => false
def SlSt.step (st : SlSt) (a who : Int) (s : St) : SlSt × St :=
  match st with
  | .waits asl => if (SlSt.waits asl).asleep a s = true then (.waits asl, s) else if (s.acc 5 who a 0 0).2 = 0 then (.waits true, (s.acc 5 who a 0 0).1) else (.puts, (s.acc 5 who a 0 0).1)
  | .puts => (.done, (s.acc 2 who a 0 0).1)
  | .done => (.done, s)
theorem SlAt.fl {w : World} {x : Nat} {a who : Int} {st : SlSt} (h : SlAt w x a who st) : ∃ f, FlAt w x f [.int .i64 a] 159 ∧ f.sub = .nilIface ∧ f.over = st.over ∧ f.fine ∧ ∀ s, f.sleeps s = st.asleep a s := by
  cases st with
  | waits asl => exact ⟨_, h, rfl, rfl, .inl rfl, fun s => by cases asl <;> simp [Fl.sleeps, SlSt.asleep]⟩
  | puts => obtain ⟨b, h, _⟩ := h; exact ⟨_, h, rfl, rfl, .inl rfl, fun s => rfl⟩
  | done => exact ⟨_, h, rfl, rfl, .inl rfl, fun s => rfl⟩
theorem SlAt.kept {w w' : World} {x : Nat} {a who : Int} {st : SlSt} {S : List Nat} (h : SlAt w x a who st) (hk : Kept S w w') (hx : x ∉ S) (hS : ∀ i ∈ S, ∀ cs, ¬ Blk w i cs 1) : SlAt w' x a who st := by
  cases st with
  | waits asl => exact FlAt.kept h hk hx
  | puts => obtain ⟨b, h, h2⟩ := h; exact ⟨b, h.kept hk hx, h2.kept hk (fun hb => hS b hb _ h2)⟩
  | done => exact FlAt.kept h hk hx
theorem SlAt.quiet {w w' : World} {x : Nat} {a who : Int} {st : SlSt} (h : SlAt w x a who st) (hb : Below w.heap.size w w') : SlAt w' x a who st := h.kept (Kept.of_below hb []) (by simp) (by simp)
theorem sl_fstep (x m g : Nat) (a who : Int) (st : SlSt) (s : St) (w : World) (hA : SlAt w x a who st) (hM : MemAt w m g s) (hc : s.clock < 1000000) (hbd : s.bad < 1000000) :
    Calls Try.prog 130 #[.pointer (some ⟨x, 0, none⟩), .pointer (some ⟨m, 0, none⟩)] w fun e w' => e = .returned (.bool (st.step a who s).1.over) ∧ SlAt w' x a who (st.step a who s).1 ∧ MemAt w' m g (st.step a who s).2 ∧ Kept [x, m, g] w w' := by
  obtain ⟨f0, hF0, hz0, hz1, hz2, hz3⟩ := hA.fl
  have hxm : x ≠ m := hM.neT hF0 (by decide)
  have hxg : x ≠ g := hM.neG hF0 (by decide)
  clear hF0 hz0 hz1 hz2 hz3 f0
  cases st with
  | waits asl =>
    obtain ⟨f, hF, q0, q1, q2, q3⟩ := SlAt.fl hA
    by_cases hs : (SlSt.waits asl).asleep a s = true
    · simp only [SlSt.step, if_pos hs]
      refine (fstep_asleep x m g _ _ _ s w hA rfl hM ?_).mono ?_
      · cases asl
        · simp [SlSt.asleep] at hs
        · simpa [Fl.sleeps, SlSt.asleep] using hs
      rintro e w' ⟨rfl, rfl⟩
      exact ⟨rfl, hA, hM, Kept.refl _ _⟩
    · have hs' : Fl.sleeps ⟨who, 5, a, 0, 0, meth 140 x, asl, .nilIface, .nilFunc⟩ s = false := by
        cases asl
        · simp [Fl.sleeps]
        · simpa [Fl.sleeps, SlSt.asleep] using hs
      by_cases hz : (s.acc 5 who a 0 0).2 = 0
      · simp only [SlSt.step, if_neg hs, if_pos hz]
        refine (fstep_sleeps x m g _ _ _ s w hA rfl hM hxm hxg ⟨by simp, by simp⟩ hc hbd rfl hs' hz).mono ?_
        rintro e w' ⟨rfl, h1, h2, h3⟩
        exact ⟨rfl, h1, h2, h3⟩
      · simp only [SlSt.step, if_neg hs, if_neg hz]
        refine fstep_then false x m g _ _ _ s w _ hA rfl hM hxm hxg ⟨by simp, by simp⟩ hc hbd (by simp) hs' (.inr hz) _ _ _ rfl (enters_of Try.func140 (by kernel_rfl) rfl) ?_ ?_
        · intro w1 h1 h2 h3
          refine (woken_run x a _ _ w1 h1).mono ?_
          rintro e w2 ⟨rfl, b, h4, h6, _, h5⟩
          exact ⟨⟨_, rfl⟩, ⟨b, h4, h6⟩, h2.kept h5 (by simp; omega) (by simp; omega), h3.trans h5 (by intro i hi; simp at hi; subst hi; exact .inl (by simp))⟩
        · rintro w' ⟨⟨b, h, _⟩, _⟩
          exact ⟨_, _, h, .inl rfl, rfl⟩
  | puts =>
    obtain ⟨b, hF, hB⟩ := hA
    refine fstep_then true x m g _ _ _ s w _ hF rfl hM hxm hxg ⟨by simp, by simp⟩ hc hbd (by simp) rfl (.inl (by simp)) _ _ _ rfl (enters_of Try.func201 (by kernel_rfl) rfl) ?_ ?_
    · intro w1 h1 h2 h3
      have hbx : b ∉ [x, m, g] := by
        have n1 := Blk.ne hB hF (by decide)
        have n2 := hM.neT hB (by decide)
        have n3 := hM.neG hB (by decide)
        simp [n1, n2, n3]
      refine fstore1_run _ b _ _ _ w1 _ (hB.kept h3 hbx) (enters_of Try.func145 (by kernel_rfl) rfl) ?_
      refine (nends_run _ w1).mono ?_
      rintro e w2 ⟨hr, rfl⟩
      exact ⟨hr, h1, h2, h3⟩
    · rintro w' ⟨h, _⟩
      exact ⟨_, _, h, .inl rfl, rfl⟩
  | done =>
    refine (fstep_done x _ _ _ _ w hA rfl rfl).mono ?_
    rintro e w' ⟨rfl, rfl⟩
    exact ⟨rfl, hA, hM, Kept.refl _ _⟩
/-- A wake. -/
def WkAt (w : World) (x : Nat) (a who : Int) : Bool → Prop
  | false => ∃ b, FlAt w x ⟨who, 2, a, 0, 1, .func (.func 201) #[] #[.pointer (some ⟨b, 0, none⟩)], false, .nilIface, .nilFunc⟩ [.int .i64 a] 165 ∧ Blk w b [meth 145 x] 1
  | true => FlAt w x ⟨who, 0, a, 0, 1, .nilFunc, false, .nilIface, .nilFunc⟩ [.int .i64 a] 165
theorem WkAt.fl {w : World} {x : Nat} {a who : Int} {st : Bool} (h : WkAt w x a who st) : ∃ f, FlAt w x f [.int .i64 a] 165 ∧ f.sub = .nilIface ∧ f.over = st ∧ f.fine := by
  cases st with
  | false => obtain ⟨b, h, _⟩ := h; exact ⟨_, h, rfl, rfl, .inl rfl⟩
  | true => exact ⟨_, h, rfl, rfl, .inl rfl⟩
theorem wk_fstep (x m g : Nat) (a who : Int) (s : St) (w : World) (hA : WkAt w x a who false) (hM : MemAt w m g s) (hc : s.clock < 1000000) (hbd : s.bad < 1000000) :
    Calls Try.prog 130 #[.pointer (some ⟨x, 0, none⟩), .pointer (some ⟨m, 0, none⟩)] w fun e w' => e = .returned (.bool true) ∧ WkAt w' x a who true ∧ MemAt w' m g (s.acc 2 who a 0 1).1 ∧ Kept [x, m, g] w w' := by
  obtain ⟨b, hF, hB⟩ := hA
  have hxm : x ≠ m := hM.neT hF (by decide)
  have hxg : x ≠ g := hM.neG hF (by decide)
  refine fstep_then true x m g _ _ _ s w _ hF rfl hM hxm hxg ⟨by simp, by simp⟩ hc hbd (by simp) rfl (.inl (by simp)) _ _ _ rfl (enters_of Try.func201 (by kernel_rfl) rfl) ?_ ?_
  · intro w1 h1 h2 h3
    have hbx : b ∉ [x, m, g] := by
      have n1 := Blk.ne hB hF (by decide)
      have n2 := hM.neT hB (by decide)
      have n3 := hM.neG hB (by decide)
      simp [n1, n2, n3]
    refine fstore1_run _ b _ _ _ w1 _ (hB.kept h3 hbx) (enters_of Try.func145 (by kernel_rfl) rfl) ?_
    refine (nends_run _ w1).mono ?_
    rintro e w2 ⟨hr, rfl⟩
    exact ⟨hr, h1, h2, h3⟩
  · rintro w' ⟨h, _⟩
    exact ⟨_, _, h, .inl rfl, rfl⟩
theorem nstep_nil (m : Option Addr) (w : World) : Calls Try.prog 34 #[.pointer none, .pointer m] w fun e w' => e = .returned (.bool true) ∧ w = w' := by
  go_enter Try.func34, Try.ntmps34
  go_wp2
  go_ret
  exact ⟨rfl, rfl⟩
theorem ndone_nil (w : World) : Calls Try.prog 37 #[.pointer none] w fun e w' => e = .returned (.bool true) ∧ w = w' := by
  go_enter Try.func37, Try.ntmps37
  go_wp2
  go_ret
  exact ⟨rfl, rfl⟩
theorem nasleep_nil (m : Option Addr) (w : World) : Calls Try.prog 36 #[.pointer none, .pointer m] w fun e w' => e = .returned (.bool false) ∧ w = w' := by
  go_enter Try.func36, Try.ntmps36
  go_wp2
  go_ret
  exact ⟨rfl, rfl⟩
theorem wstep_nil (m : Option Addr) (w : World) : Calls Try.prog 39 #[.pointer none, .pointer m] w fun e w' => e = .returned (.bool true) ∧ w = w' := by
  go_enter Try.func39, Try.ntmps39
  go_wp2
  go_ret
  exact ⟨rfl, rfl⟩
theorem wdone_nil (w : World) : Calls Try.prog 53 #[.pointer none] w fun e w' => e = .returned (.bool true) ∧ w = w' := by
  go_enter Try.func53, Try.ntmps53
  go_wp2
  go_ret
  exact ⟨rfl, rfl⟩
/-- The steps of what both machines have, over any step of the flow. -/
theorem nmstep_run (x m : Nat) (o : Bool) (R : World → Prop) (w : World) (H : Hid (Calls Try.prog 130 #[.pointer (some ⟨x, 0, none⟩), .pointer (some ⟨m, 0, none⟩)] w fun e w' => e = .returned (.bool o) ∧ R w')) :
    Calls Try.prog 141 #[.pointer (some ⟨x, 0, none⟩), .pointer (some ⟨m, 0, none⟩)] w fun e w' => e = .returned (.bool o) ∧ R w' := by
  go_enter Try.func141, Try.ntmps141
  go_wp2_with fail
  refine H.out.mono ?_
  rintro e w1 ⟨rfl, h⟩
  go_wp2
  go_ret
  exact ⟨rfl, h⟩
theorem nmover_run (x : Nat) (o : Bool) (w : World) (H : Hid (Calls Try.prog 131 #[.pointer (some ⟨x, 0, none⟩)] w fun e w' => e = .returned (.bool o) ∧ w = w')) :
    Calls Try.prog 143 #[.pointer (some ⟨x, 0, none⟩)] w fun e w' => e = .returned (.bool o) ∧ w = w' := by
  go_enter Try.func143, Try.ntmps143
  go_wp2_with fail
  refine H.out.mono ?_
  rintro e w1 ⟨rfl, rfl⟩
  go_wp2
  go_ret
  exact ⟨rfl, rfl⟩
theorem nstep_run (x m g : Nat) (a who : Int) (st : SlSt) (s : St) (w : World) (hA : SlAt w x a who st) (hM : MemAt w m g s) (hc : s.clock < 1000000) (hbd : s.bad < 1000000) :
    Calls Try.prog 34 #[.pointer (some ⟨x, 0, none⟩), .pointer (some ⟨m, 0, none⟩)] w fun e w' => e = .returned (.bool (st.step a who s).1.over) ∧ SlAt w' x a who (st.step a who s).1 ∧ MemAt w' m g (st.step a who s).2 ∧ Kept [x, m, g] w w' := by
  have H := hid (nmstep_run x m _ _ w (hid (sl_fstep x m g a who st s w hA hM hc hbd)))
  generalize st.step a who s = r at H ⊢
  clear hA hM
  go_enter Try.func34, Try.ntmps34
  go_wp2_with fail
  refine H.out.mono ?_
  rintro e w1 ⟨rfl, h1, h2, h3⟩
  go_wp2
  go_ret
  exact ⟨rfl, h1, h2, h3⟩
theorem ndone_run (x : Nat) (a who : Int) (st : SlSt) (w : World) (hA : SlAt w x a who st) :
    Calls Try.prog 37 #[.pointer (some ⟨x, 0, none⟩)] w fun e w' => e = .returned (.bool st.over) ∧ w = w' := by
  obtain ⟨f, hF, _, ho, hf, hq⟩ := hA.fl
  have H := fdone_any x f _ _ w hF hf
  rw [ho] at H
  have H := hid (nmover_run x _ w (hid H))
  clear hA hF ho hf hq
  go_enter Try.func37, Try.ntmps37
  go_wp2_with fail
  refine H.out.mono ?_
  rintro e w1 ⟨rfl, rfl⟩
  go_wp2
  go_ret
  exact ⟨rfl, rfl⟩
theorem nasleep_run (x m g : Nat) (a who : Int) (st : SlSt) (s : St) (w : World) (hA : SlAt w x a who st) (hM : MemAt w m g s) :
    Calls Try.prog 36 #[.pointer (some ⟨x, 0, none⟩), .pointer (some ⟨m, 0, none⟩)] w fun e w' => e = .returned (.bool (st.asleep a s)) ∧ w = w' := by
  obtain ⟨f, hF, hs, ho, hf, hq⟩ := hA.fl
  have H := fasleep_run x m g f _ _ s w hF hs hM
  rw [hq s] at H
  have H := hid H
  clear hA hF hs ho hf hq hM
  go_enter Try.func36, Try.ntmps36
  go_wp2_with fail
  refine H.out.mono ?_
  rintro e w1 ⟨rfl, rfl⟩
  go_wp2
  go_ret
  exact ⟨rfl, rfl⟩
theorem wstep_run (x m g : Nat) (a who : Int) (s : St) (w : World) (hA : WkAt w x a who false) (hM : MemAt w m g s) (hc : s.clock < 1000000) (hbd : s.bad < 1000000) :
    Calls Try.prog 39 #[.pointer (some ⟨x, 0, none⟩), .pointer (some ⟨m, 0, none⟩)] w fun e w' => e = .returned (.bool true) ∧ WkAt w' x a who true ∧ MemAt w' m g (s.acc 2 who a 0 1).1 ∧ Kept [x, m, g] w w' := by
  have H := hid (nmstep_run x m _ _ w (hid (wk_fstep x m g a who s w hA hM hc hbd)))
  generalize s.acc 2 who a 0 1 = r at H ⊢
  clear hA hM
  go_enter Try.func39, Try.ntmps39
  go_wp2_with fail
  refine H.out.mono ?_
  rintro e w1 ⟨rfl, h1, h2, h3⟩
  go_wp2
  go_ret
  exact ⟨rfl, h1, h2, h3⟩
theorem wdone_run (x : Nat) (a who : Int) (st : Bool) (w : World) (hA : WkAt w x a who st) :
    Calls Try.prog 53 #[.pointer (some ⟨x, 0, none⟩)] w fun e w' => e = .returned (.bool st) ∧ w = w' := by
  obtain ⟨f, hF, _, ho, hf⟩ := hA.fl
  have H := fdone_any x f _ _ w hF hf
  rw [ho] at H
  have H := hid (nmover_run x _ w (hid H))
  clear hA hF ho hf
  go_enter Try.func53, Try.ntmps53
  go_wp2_with fail
  refine H.out.mono ?_
  rintro e w1 ⟨rfl, rfl⟩
  go_wp2
  go_ret
  exact ⟨rfl, rfl⟩
theorem nawake_run (l m mg : Nat) (p t g n : Int) (s : St) (w : World) (hL : Lay w l p t g) (hM : MemAt w m mg s) :
    Calls Try.prog 40 #[.pointer (some ⟨l, 0, none⟩), .pointer (some ⟨m, 0, none⟩), .int .i64 n] w fun e w' => e = .returned (.bool (decide ((s.peek (nt p t n)).1 ≠ 0))) ∧ Below w.heap.size w w' := by
  have hnt : placeN true (20 + p * 264) n t 3 0 3 = nt p t n := rfl
  obtain ⟨pk, hpk⟩ : ∃ pk, pk = s.peek (nt p t n) := ⟨_, rfl⟩
  have HP := hid hpk
  rw [← hpk]
  clear hpk
  have HM := hid hM
  clear hM
  by_cases hz : pk.1 = 0
  · have hz' : ((pk.1 : Int) == 0) = true := by simp [hz]
    have HZ := hid (show decide (pk.1 ≠ 0) = false by simp [hz])
    rw [HZ.out]
    clear hz
    go_enter Try.func40, Try.ntmps40
    go_wp2_with fail
    refine (thread_run l p t g n 0 _ hL).mono ?_
    rintro e w1 ⟨rfl, hb1⟩
    rw [hnt]
    go_wp2_with fail
    refine (mpeek_run m mg s _ _ (HM.out.quiet hb1)).mono ?_
    rintro e w2 ⟨rfl, rfl⟩
    rw [← HP.out]
    go_wp2
    go_ret
    exact ⟨ret_bool (by unfold bne; rw [hz']; rfl), hb1⟩
  · have hz' : ((pk.1 : Int) == 0) = false := by simp [hz]
    have HZ := hid (show decide (pk.1 ≠ 0) = true by simp [hz])
    rw [HZ.out]
    clear hz
    go_enter Try.func40, Try.ntmps40
    go_wp2_with fail
    refine (thread_run l p t g n 0 _ hL).mono ?_
    rintro e w1 ⟨rfl, hb1⟩
    rw [hnt]
    go_wp2_with fail
    refine (mpeek_run m mg s _ _ (HM.out.quiet hb1)).mono ?_
    rintro e w2 ⟨rfl, rfl⟩
    rw [← HP.out]
    go_wp2
    go_ret
    exact ⟨ret_bool (by unfold bne; rw [hz']; rfl), hb1⟩
end Go.Proofs.Ytokpgbocomhpiaa.Note
