/- Acquiring a lock: a step, from any state. -/
import Derived.Test.YtokpgbocomhpiaaLock
set_option maxRecDepth 100000
set_option maxHeartbeats 4000000
set_option linter.unusedVariables false
set_option linter.unusedSimpArgs false
namespace Go.Proofs.Ytokpgbocomhpiaa.Flow
open Go.RowKit Go.Shelf Go.Proofs.Ytokpgbocomhpiaa.TK Go.Proofs.Ytokpgbocomhpiaa.Flag Go.Proofs.Ytokpgbocomhpiaa.Words Go.Proofs.Ytokpgbocomhpiaa.Mem
theorem over_one {w : World} {x : Nat} {f f' : Fl} {rest rest' : List Value} {T T' : TypeId} (h : FlAt w x f rest T) (h' : FlAt w x f' rest' T') : f.over = f'.over := by
  have a := h.cells
  have b := h'.cells
  have h1 : f.kind = f'.kind := by
    have := a.2.1.symm.trans b.2.1
    simpa using this
  have h2 : f.sub = f'.sub := by
    have := a.2.2.2.2.2.2.2.1.symm.trans b.2.2.2.2.2.2.2.1
    simpa using this
  unfold Fl.over
  rw [h1, h2]
/-- A step that is an access, behind which the machine goes on; o: it is over then. -/
theorem fstep_then (o : Bool) (x m g : Nat) (f : Fl) (rest : List Value) (T : TypeId) (s : St) (w : World) (R : World → Prop) (hb : FlAt w x f rest T) (hs : f.sub = .nilIface) (hM : MemAt w m g s) (hxm : x ≠ m) (hxg : x ≠ g) (hnw : 0 ≤ f.nw ∧ f.nw < 18446744073709551616) (hc : s.clock < 1000000) (hbd : s.bad < 1000000)
    (hk : f.kind ≠ 0) (hn : f.sleeps s = false) (hz : f.kind ≠ 5 ∨ (s.acc f.kind f.who f.at_ f.old f.nw).2 ≠ 0)
    (F : Nat) (first lb : Array Value) (hth : f.th = .func (.func F) first lb) (eg : ∀ vs w, (callFunc F vs).run Try.prog w = .ok (.enter F vs) w)
    (hthen : ∀ w1, FlAt w1 x f.cleared rest T → MemAt w1 m g (s.acc f.kind f.who f.at_ f.old f.nw).1 → Kept [x, m, g] w w1 → Calls Try.prog F (first.push (.int .u64 (s.acc f.kind f.who f.at_ f.old f.nw).2) ++ lb) w1 fun e w' => (∃ r, e = .returned r) ∧ R w')
    (hR : ∀ w', R w' → ∃ f' rest', FlAt w' x f' rest' T ∧ f'.fine ∧ f'.over = o) :
    Calls Try.prog 130 #[.pointer (some ⟨x, 0, none⟩), .pointer (some ⟨m, 0, none⟩)] w fun e w' => e = .returned (.bool o) ∧ R w' := by
  refine (fstep_goes x m g f rest T s w R hb hs hM hxm hxg hnw hc hbd hk hn hz F first lb hth eg hthen (fun w' h => by obtain ⟨f', r', a, b, _⟩ := hR w' h; exact ⟨f', r', a, b⟩)).mono ?_
  rintro e w' ⟨hr, f', r', hb', rfl⟩
  obtain ⟨f2, r2, h2, _, ho⟩ := hR w' hr
  rw [over_one hb' h2, ho]
  exact ⟨rfl, hr⟩
theorem _root_.Go.Proofs.Ytokpgbocomhpiaa.Mem.MemAt.neT {w : World} {m g i : Nat} {s : St} {cs : List Value} {T : TypeId} (hM : MemAt w m g s) (h : Blk w i cs T) (hT : T ≠ 164) : i ≠ m := by
  obtain ⟨_, _, a, _, _⟩ := hM.ex
  exact Blk.ne h a hT
theorem _root_.Go.Proofs.Ytokpgbocomhpiaa.Mem.MemAt.neG {w : World} {m g i : Nat} {s : St} {cs : List Value} {T : TypeId} (hM : MemAt w m g s) (h : Blk w i cs T) (hT : T ≠ 25) : i ≠ g := by
  obtain ⟨_, _, _, b, _⟩ := hM.ex
  exact Blk.ne h b hT
theorem blk_not {w : World} {i : Nat} {cs : List Value} {T T' : TypeId} (h : Blk w i cs T) (hT : T ≠ T') : ∀ cs', ¬ Blk w i cs' T' := fun cs' h' => Blk.ne h h' hT rfl
end Go.Proofs.Ytokpgbocomhpiaa.Flow
namespace Go.Proofs.Ytokpgbocomhpiaa.Lock
open Go.RowKit Go.Shelf Go.Proofs.Ytokpgbocomhpiaa.TK Go.Proofs.Ytokpgbocomhpiaa.Flag Go.Proofs.Ytokpgbocomhpiaa.Words Go.Proofs.Ytokpgbocomhpiaa.Mem Go.Proofs.Ytokpgbocomhpiaa.Flow Go.Proofs.Ytokpgbocomhpiaa.Layout
inductive AcqSt
  | ask
  | wait (t : Int)
  | own (t : Int)
  | done (t : Int)
def AcqAt (w : World) (x l : Nat) (k who : Int) : AcqSt → Prop
  | .ask => FlAt w x ⟨who, 4, tk k, 0, 1, meth 148 x, false, .nilIface, .nilFunc⟩ (acqR l k 0 false) 145
  | .wait t => FlAt w x ⟨who, 1, sv k, 0, 0, meth 203 x, false, .nilIface, .nilFunc⟩ (acqR l k t true) 145
  | .own t => ∃ b, FlAt w x ⟨who, 2, ow k, 0, who + 1, .func (.func 201) #[] #[.pointer (some ⟨b, 0, none⟩)], false, .nilIface, .nilFunc⟩ (acqR l k t true) 145 ∧ Blk w b [meth 233 x] 1
  | .done t => ∃ a n, FlAt w x ⟨who, 0, a, 0, n, .nilFunc, false, .nilIface, .nilFunc⟩ (acqR l k t true) 145
def AcqSt.over : AcqSt → Bool
  | .done _ => true
  | _ => false
def AcqSt.turn : AcqSt → Int
  | .ask => 0
  | .wait t => t
  | .own t => t
  | .done t => t
def AcqSt.known : AcqSt → Bool
  | .ask => false
  | _ => true
theorem AcqAt.fl {w : World} {x l : Nat} {k who : Int} {st : AcqSt} (h : AcqAt w x l k who st) : ∃ f, FlAt w x f (acqR l k st.turn st.known) 145 ∧ f.sub = .nilIface ∧ f.over = st.over ∧ f.fine := by
  cases st with
  | ask => exact ⟨_, h, rfl, rfl, .inl rfl⟩
  | wait t => exact ⟨_, h, rfl, rfl, .inl rfl⟩
  | own t => obtain ⟨b, h, _⟩ := h; exact ⟨_, h, rfl, rfl, .inl rfl⟩
  | done t => obtain ⟨a, n, h⟩ := h; exact ⟨_, h, rfl, rfl, .inl rfl⟩
theorem AcqAt.kept {w w' : World} {x l : Nat} {k who : Int} {st : AcqSt} {S : List Nat} (h : AcqAt w x l k who st) (hk : Kept S w w') (hx : x ∉ S) (hS : ∀ i ∈ S, ∀ cs, ¬ Blk w i cs 1) : AcqAt w' x l k who st := by
  cases st with
  | ask => exact FlAt.kept h hk hx
  | wait t => exact FlAt.kept h hk hx
  | own t => obtain ⟨b, h, h2⟩ := h; exact ⟨b, h.kept hk hx, h2.kept hk (fun hb => hS b hb _ h2)⟩
  | done t => obtain ⟨a, n, h⟩ := h; exact ⟨a, n, h.kept hk hx⟩
theorem AcqAt.quiet {w w' : World} {x l : Nat} {k who : Int} {st : AcqSt} (h : AcqAt w x l k who st) (hb : Below w.heap.size w w') : AcqAt w' x l k who st := h.kept (Kept.of_below hb []) (by simp) (by simp)
def AcqSt.step (st : AcqSt) (k who : Int) (s : St) : AcqSt × St :=
  match st with
  | .ask => (.wait (turnOf (s.acc 4 who (tk k) 0 1).2), (s.acc 4 who (tk k) 0 1).1)
  | .wait t => (if (s.acc 1 who (sv k) 0 0).2 = t then .own t else .wait t, (s.acc 1 who (sv k) 0 0).1)
  | .own t => (.done t, (s.acc 2 who (ow k) 0 (who + 1)).1)
  | .done t => (.done t, s)
theorem acq_fstep (x l m g : Nat) (k who : Int) (st : AcqSt) (s : St) (w : World) (hA : AcqAt w x l k who st) (hM : MemAt w m g s) (hw : 0 ≤ who ∧ who ≤ 1000) (hc : s.clock < 1000000) (hbd : s.bad < 1000000) :
    Calls Try.prog 130 #[.pointer (some ⟨x, 0, none⟩), .pointer (some ⟨m, 0, none⟩)] w fun e w' => e = .returned (.bool (st.step k who s).1.over) ∧ AcqAt w' x l k who (st.step k who s).1 ∧ MemAt w' m g (st.step k who s).2 ∧ Kept [x, m, g] w w' := by
  obtain ⟨f0, hF0, hz0, hz1, hz2⟩ := hA.fl
  have hxm : x ≠ m := hM.neT hF0 (by decide)
  have hxg : x ≠ g := hM.neG hF0 (by decide)
  clear hF0 hz0 hz1 hz2 f0
  have hwf := hM.wf
  cases st with
  | ask =>
    have ha := (acc_wf hwf 4 who (tk k) 0 (w := 1) (by omega)).2
    refine fstep_then false x m g _ _ _ s w _ hA rfl hM hxm hxg ⟨by simp, by simp⟩ hc hbd (by simp) rfl (.inl (by simp)) _ _ _ rfl (enters_of Try.func148 (by kernel_rfl) rfl) ?_ ?_
    · intro w1 h1 h2 h3
      refine (asked_run x l k 0 _ false _ w1 h1 ha).mono ?_
      rintro e w2 ⟨rfl, h4, h5⟩
      exact ⟨⟨_, rfl⟩, h4, h2.kept h5 (by simp; omega) (by simp; omega), h3.trans h5 (by intro i hi; simp at hi; subst hi; exact .inl (by simp))⟩
    · rintro w' ⟨h, _⟩
      exact ⟨_, _, h, .inl rfl, rfl⟩
  | wait t =>
    by_cases he : (s.acc 1 who (sv k) 0 0).2 = t
    · simp only [AcqSt.step, if_pos he]
      refine fstep_then false x m g _ _ _ s w _ hA rfl hM hxm hxg ⟨by simp, by simp⟩ hc hbd (by simp) rfl (.inl (by simp)) _ _ _ rfl (enters_of Try.func203 (by kernel_rfl) rfl) ?_ ?_
      · intro w1 h1 h2 h3
        simp only at h2 ⊢
        rw [he]
        refine (waits_has x l k t _ w1 h1 hw).mono ?_
        rintro e w2 ⟨rfl, b, h4, h6, _, h5⟩
        exact ⟨⟨_, rfl⟩, ⟨b, h4, h6⟩, h2.kept h5 (by simp; omega) (by simp; omega), h3.trans h5 (by intro i hi; simp at hi; subst hi; exact .inl (by simp))⟩
      · rintro w' ⟨⟨b, h, _⟩, _⟩
        exact ⟨_, _, h, .inl rfl, rfl⟩
    · simp only [AcqSt.step, if_neg he]
      refine fstep_then false x m g _ _ _ s w _ hA rfl hM hxm hxg ⟨by simp, by simp⟩ hc hbd (by simp) rfl (.inl (by simp)) _ _ _ rfl (enters_of Try.func203 (by kernel_rfl) rfl) ?_ ?_
      · intro w1 h1 h2 h3
        refine (waits_again x l k t _ _ w1 h1 he).mono ?_
        rintro e w2 ⟨rfl, h4, h5⟩
        exact ⟨⟨_, rfl⟩, h4, h2.kept h5 (by simp; omega) (by simp; omega), h3.trans h5 (by intro i hi; simp at hi; subst hi; exact .inl (by simp))⟩
      · rintro w' ⟨h, _⟩
        exact ⟨_, _, h, .inl rfl, rfl⟩
  | own t =>
    obtain ⟨b, hF, hB⟩ := hA
    refine fstep_then true x m g _ _ _ s w _ hF rfl hM hxm hxg ⟨by simp only; omega, by simp only; omega⟩ hc hbd (by simp) rfl (.inl (by simp)) _ _ _ rfl (enters_of Try.func201 (by kernel_rfl) rfl) ?_ ?_
    · intro w1 h1 h2 h3
      have hbx : b ∉ [x, m, g] := by
        have n1 := Blk.ne hB hF (by decide)
        have n2 := hM.neT hB (by decide)
        have n3 := hM.neG hB (by decide)
        simp [n1, n2, n3]
      refine fstore1_run _ b _ _ _ w1 _ (hB.kept h3 hbx) (enters_of Try.func233 (by kernel_rfl) rfl) ?_
      refine (aends_run _ w1).mono ?_
      rintro e w2 ⟨hr, rfl⟩
      exact ⟨hr, ⟨_, _, h1⟩, h2, h3⟩
    · rintro w' ⟨⟨a, n, h⟩, _⟩
      exact ⟨_, _, h, .inl rfl, rfl⟩
  | done t =>
    obtain ⟨a, n, hF⟩ := hA
    refine (fstep_done x _ _ _ _ w hF rfl rfl).mono ?_
    rintro e w' ⟨rfl, rfl⟩
    exact ⟨rfl, ⟨_, _, hF⟩, hM, Kept.refl _ _⟩
end Go.Proofs.Ytokpgbocomhpiaa.Lock
