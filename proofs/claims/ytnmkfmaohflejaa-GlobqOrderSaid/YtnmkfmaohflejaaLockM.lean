/- Locks as machines by their states, for others to run; the document's acquire and release, as replays. -/
import Derived.Test.YtnmkfmaohflejaaSub
import Derived.Stop.Asserts
set_option maxRecDepth 100000
set_option maxHeartbeats 4000000
set_option linter.unusedVariables false
set_option linter.unusedSimpArgs false
namespace Go.Proofs.Ytnmkfmaohflejaa.Lock
open Go.RowKit Go.Shelf Go.Proofs.Ytnmkfmaohflejaa.TK Go.Proofs.Ytnmkfmaohflejaa.Flag Go.Proofs.Ytnmkfmaohflejaa.Read Go.Proofs.Ytnmkfmaohflejaa.Grow Go.Proofs.Ytnmkfmaohflejaa.Words Go.Proofs.Ytnmkfmaohflejaa.Mem Go.Proofs.Ytnmkfmaohflejaa.Flow Go.Proofs.Ytnmkfmaohflejaa.Layout Go.Proofs.Ytnmkfmaohflejaa.Run Go.Proofs.Ytnmkfmaohflejaa.Sys Go.Proofs.Ytnmkfmaohflejaa.Mach Go.Proofs.Ytnmkfmaohflejaa.Doc
def aqNx (k who : Int) : AcqSt → Nx
  | .ask => .add (tk k) 1 71
  | .wait _ => .load (sv k) 109
  | .own _ => .store (ow k) (who + 1) 136
  | .done _ => .done
def aqNext (st : AcqSt) (a : Int) : AcqSt :=
  match st with
  | .ask => .wait (turnOf a)
  | .wait t => if a = t then .own t else .wait t
  | .own t => .done t
  | .done t => .done t
def aqM (l : Nat) (k who : Int) : Mch AcqSt := ⟨101, aqNx k who, fun st => acqR l k st.turn st.known, aqNext, fun _ => True⟩
theorem aends2_run (x : Value) (w : World) : Calls Try.prog 136 #[x] w fun e w' => (∃ r, e = .returned r) ∧ w = w' := by
  go_enter Try.func136, Try.ntmps136
  go_wp2
  go_returns
  exact ⟨⟨_, rfl⟩, rfl⟩
theorem pend_of_load {w : World} {x : Nat} {f : Fl} {rest : List Value} {T : TypeId} {who a : Int} {fn : Nat} (h : FlAt w x { f with kind := 1, at_ := a, old := 0, nw := 0, th := meth fn x } rest T) (h1 : f.who = who) (h2 : f.sub = .nilIface) (h3 : f.asleep = false) : Pend w x who rest T (.load a fn) := by
  obtain ⟨who', kd, at0, o, nw, th, asl, sub, af⟩ := f
  simp only at h1 h2 h3
  subst h1 h2 h3
  exact .inr ⟨af, h⟩
theorem pend_of_add {w : World} {x : Nat} {f : Fl} {rest : List Value} {T : TypeId} {who a v : Int} {fn : Nat} (h : FlAt w x { f with kind := 4, at_ := a, old := 0, nw := v, th := meth fn x } rest T) (h1 : f.who = who) (h2 : f.sub = .nilIface) (h3 : f.asleep = false) : Pend w x who rest T (.add a v fn) := by
  obtain ⟨who', kd, at0, o, nw, th, asl, sub, af⟩ := f
  simp only at h1 h2 h3
  subst h1 h2 h3
  exact ⟨af, h⟩
theorem pend_of_store {w : World} {x b : Nat} {f : Fl} {rest : List Value} {T : TypeId} {who a v : Int} {fn : Nat} (h : FlAt w x { f with kind := 2, at_ := a, old := 0, nw := v, th := .func (.func 112) #[] #[.pointer (some ⟨b, 0, none⟩)] } rest T) (hb : Blk w b [meth fn x] 1) (h1 : f.who = who) (h2 : f.sub = .nilIface) (h3 : f.asleep = false) : Pend w x who rest T (.store a v fn) := by
  obtain ⟨who', kd, at0, o, nw, th, asl, sub, af⟩ := f
  simp only at h1 h2 h3
  subst h1 h2 h3
  exact ⟨af, b, h, hb⟩
theorem aq_goes (l x : Nat) (k P T G who : Int) (hw : 0 ≤ who ∧ who ≤ 1000) : Goes (aqM l k who) l x P T G who := by
  refine ⟨by show ∀ T ∈ ownT 101, _; decide, by show 101 ≠ _ ∧ 101 ≠ _ ∧ 101 ≠ _; decide, ?_, ?_, ?_, ?_⟩
  · intro st hok
    cases st <;> simp [aqM, aqNx, Nx.val] <;> omega
  · intro st a hok ha
    trivial
  · intro st hst
    cases st with
    | ask => exact enters_of Try.func71 (by kernel_rfl) rfl
    | wait t => exact enters_of Try.func109 (by kernel_rfl) rfl
    | own t => exact enters_of Try.func136 (by kernel_rfl) rfl
    | done t => exact absurd rfl hst
  · intro st a w hst hok ha hp hL
    obtain ⟨f, hf, q1, q2, q3, q4⟩ := hp
    cases st with
    | ask =>
      refine (asked_run x l k _ a _ f w hf ha).mono ?_
      rintro e w' ⟨rfl, h1, h2⟩
      exact ⟨⟨_, rfl⟩, pend_of_load h1 q1 q2 q3, h2⟩
    | wait t =>
      by_cases hat : a = t
      · have hh : aqNext (.wait t) a = .own t := if_pos hat
        show Calls _ _ _ _ fun e w' => _ ∧ Pend w' x who ((aqM l k who).rest (aqNext (.wait t) a)) _ ((aqM l k who).nx (aqNext (.wait t) a)) ∧ _
        rw [hh]
        subst hat
        refine (waits_has x l k a f w hf (by rw [q1]; exact hw)).mono ?_
        rintro e w' ⟨rfl, b, h1, hb, _, h2⟩
        subst q1
        exact ⟨⟨_, rfl⟩, pend_of_store h1 hb rfl q2 q3, h2⟩
      · have hh : aqNext (.wait t) a = .wait t := if_neg hat
        show Calls _ _ _ _ fun e w' => _ ∧ Pend w' x who ((aqM l k who).rest (aqNext (.wait t) a)) _ ((aqM l k who).nx (aqNext (.wait t) a)) ∧ _
        rw [hh]
        refine (waits_again x l k t a f w hf hat).mono ?_
        rintro e w' ⟨rfl, h1, h2⟩
        exact ⟨⟨_, rfl⟩, pend_of_load h1 q1 q2 q3, h2⟩
    | own t =>
      refine (aends2_run _ w).mono ?_
      rintro e w' ⟨he, rfl⟩
      exact ⟨he, ⟨f, hf, q1, q2, q3, q4⟩, Kept.refl _ _⟩
    | done t => exact absurd rfl hst
def rlNx (k : Int) : RlSt → Nx
  | .puts => .store (ow k) 0 75
  | .adds => .add (sv k) 1 113
  | .done => .done
def rlNext (st : RlSt) (_ : Int) : RlSt :=
  match st with
  | .puts => .adds
  | .adds => .done
  | .done => .done
def rlM (l : Nat) (k : Int) : Mch RlSt := ⟨99, rlNx k, fun _ => relR l k, rlNext, fun _ => True⟩
theorem rl_goes (l x : Nat) (k P T G who : Int) : Goes (rlM l k) l x P T G who := by
  refine ⟨by show ∀ T ∈ ownT 99, _; decide, by show 99 ≠ _ ∧ 99 ≠ _ ∧ 99 ≠ _; decide, ?_, ?_, ?_, ?_⟩
  · intro st hok
    cases st <;> simp [rlM, rlNx, Nx.val]
  · intro st a hok ha
    trivial
  · intro st hst
    cases st with
    | puts => exact enters_of Try.func75 (by kernel_rfl) rfl
    | adds => exact enters_of Try.func113 (by kernel_rfl) rfl
    | done => exact absurd rfl hst
  · intro st a w hst hok ha hp hL
    obtain ⟨f, hf, q1, q2, q3, q4⟩ := hp
    cases st with
    | puts =>
      refine (serves_run x l k f w hf).mono ?_
      rintro e w' ⟨rfl, h1, h2⟩
      exact ⟨⟨_, rfl⟩, pend_of_add h1 q1 q2 q3, h2⟩
    | adds =>
      refine (rlends_run _ _ w).mono ?_
      rintro e w' ⟨he, rfl⟩
      exact ⟨he, ⟨f, hf, q1, q2, q3, q4⟩, Kept.refl _ _⟩
    | done => exact absurd rfl hst
theorem aq_step : StepOf 40 14 := ⟨fun y w => rfl, enters_of Try.func14 (by kernel_rfl) rfl⟩
theorem rl_step : StepOf 41 13 := ⟨fun y w => rfl, enters_of Try.func13 (by kernel_rfl) rfl⟩
theorem aq_quiet : NoSleeper 40 := fun y w => run_typeAssert_lacksB Try.underlying160 (by kernel_rfl) (by kernel_rfl) _ _ w
theorem rl_quiet : NoSleeper 41 := fun y w => run_typeAssert_lacksB Try.underlying160 (by kernel_rfl) (by kernel_rfl) _ _ w
theorem aq_thru : Thru 14 := by
  intro x m o w R H
  have H := hid H
  go_enter Try.func14, Try.ntmps14
  go_wp2_with fail
  refine H.out.mono ?_
  rintro e w1 ⟨rfl, h1⟩
  have HX := hid h1
  clear h1
  go_wp2
  go_ret
  exact ⟨rfl, HX.out⟩
theorem rl_thru : Thru 13 := by
  intro x m o w R H
  have H := hid H
  go_enter Try.func13, Try.ntmps13
  go_wp2_with fail
  refine H.out.mono ?_
  rintro e w1 ⟨rfl, h1⟩
  have HX := hid h1
  clear h1
  go_wp2
  go_ret
  exact ⟨rfl, HX.out⟩
/-- Acquiring and releasing, as others run them. -/
def aqS (lo l : Nat) (k P T G who : Int) : Subm AcqSt := (aqM l k who).sub 40 14 lo l P T G who
def rlS (lo l : Nat) (k P T G who : Int) : Subm RlSt := (rlM l k).sub 41 13 lo l P T G who
theorem aq_sub (lo l : Nat) (k P T G who : Int) (hw : 0 ≤ who ∧ who ≤ 1000) : SubOk (aqS lo l k P T G who) lo who := mch_sub aq_step aq_quiet aq_thru (fun y => aq_goes l y k P T G who hw)
theorem rl_sub (lo l : Nat) (k P T G who : Int) : SubOk (rlS lo l k P T G who) lo who := mch_sub rl_step rl_quiet rl_thru (fun y => rl_goes l y k P T G who)
theorem aq_made (lo l : Nat) (k P T G who : Int) (w : World) (hL : Lay w l P T G) (hlo : lo ≤ w.heap.size) :
    Calls Try.prog 12 #[.pointer (some ⟨l, 0, none⟩), .int .i64 k, .int .i64 who] w fun e w' => e = .returned (.pointer (some ⟨w.heap.size, 0, none⟩)) ∧ (aqS lo l k P T G who).at_ w' w.heap.size .ask ∧ Below w.heap.size w w' := by
  refine (acq_new l k who w).mono ?_
  rintro e w' ⟨rfl, h1, h2⟩
  exact ⟨rfl, ⟨⟨_, h1⟩, hlo, hL.quiet h2, trivial⟩, h2⟩
theorem rl_made (lo l : Nat) (k P T G who : Int) (w : World) (hL : Lay w l P T G) (hlo : lo ≤ w.heap.size) :
    Calls Try.prog 17 #[.pointer (some ⟨l, 0, none⟩), .int .i64 k, .int .i64 who] w fun e w' => e = .returned (.pointer (some ⟨w.heap.size, 0, none⟩)) ∧ (rlS lo l k P T G who).at_ w' w.heap.size .puts ∧ Below w.heap.size w w' := by
  refine (rel_new l k who w).mono ?_
  rintro e w' ⟨rfl, ⟨b, h1, h3⟩, h2⟩
  exact ⟨rfl, ⟨⟨_, b, h1, h3⟩, hlo, hL.quiet h2, trivial⟩, h2⟩
end Go.Proofs.Ytnmkfmaohflejaa.Lock
