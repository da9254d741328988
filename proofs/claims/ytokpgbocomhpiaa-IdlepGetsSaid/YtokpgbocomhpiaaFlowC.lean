/- A step of a flow, over whatever follows its access. -/
import Derived.Test.YtokpgbocomhpiaaFlowB
set_option maxRecDepth 100000
set_option maxHeartbeats 4000000
set_option linter.unusedVariables false
set_option linter.unusedSimpArgs false
namespace Go.Proofs.Ytokpgbocomhpiaa.Flow
open Go.RowKit Go.Shelf Go.Proofs.Ytokpgbocomhpiaa.TK Go.Proofs.Ytokpgbocomhpiaa.Flag Go.Proofs.Ytokpgbocomhpiaa.Words Go.Proofs.Ytokpgbocomhpiaa.Mem

/-- What follows an access: the function value th, called with the answer a in the world w. -/
def After (th : Value) (a : Int) (w : World) (R : World → Prop) : Prop :=
  ∃ (F : Nat) (first lb : Array Value), th = .func (.func F) first lb ∧ (∀ vs w, (callFunc F vs).run Try.prog w = .ok (.enter F vs) w) ∧ Calls Try.prog F (first.push (.int .u64 a) ++ lb) w fun e w' => (∃ r, e = .returned r) ∧ R w'

theorem fone_goes (x m g : Nat) (f : Fl) (rest : List Value) (T : TypeId) (s : St) (w : World) (R : World → Prop) (hb : FlAt w x f rest T) (hM : MemAt w m g s) (hxm : x ≠ m) (hxg : x ≠ g) (hnw : 0 ≤ f.nw ∧ f.nw < 18446744073709551616) (hc : s.clock < 1000000) (hbd : s.bad < 1000000)
    (hz : f.kind ≠ 5 ∨ (s.acc f.kind f.who f.at_ f.old f.nw).2 ≠ 0)
    (F : Nat) (first lb : Array Value) (hth : f.th = .func (.func F) first lb) (eg : ∀ vs w, (callFunc F vs).run Try.prog w = .ok (.enter F vs) w)
    (hthen : ∀ w1, FlAt w1 x f.cleared rest T → MemAt w1 m g (s.acc f.kind f.who f.at_ f.old f.nw).1 → Kept [x, m, g] w w1 → Calls Try.prog F (first.push (.int .u64 (s.acc f.kind f.who f.at_ f.old f.nw).2) ++ lb) w1 fun e w' => (∃ r, e = .returned r) ∧ R w') :
    Calls Try.prog 196 #[.pointer (some ⟨x, 0, none⟩), .pointer (some ⟨m, 0, none⟩)] w fun e w' => e = .returned (.tuple #[]) ∧ R w' := by
  have HT := hid hthen
  have HTH := hid hth
  clear hthen hth
  by_cases hk : f.kind = 5
  · have hd : ((s.acc f.kind f.who f.at_ f.old f.nw).2 == 0) = false := by
      rcases hz with h | h
      · exact absurd hk h
      · simpa using h
    have HK := hid hk
    obtain ⟨ac, hac⟩ : ∃ ac, ac = s.acc f.kind f.who f.at_ f.old f.nw := ⟨_, rfl⟩
    rw [← hac] at hd HT
    have HAC := hid hac
    clear hk hac hz
    go_enter Try.func196, Try.ntmps196
    go_wp2_with fail
    refine (fdoes_run x m g f rest T s _ hb hM hnw hc hbd).mono ?_
    rintro e w1 ⟨rfl, hM1, hK1⟩
    rw [← HAC.out] at hM1 ⊢
    have hb1 := hb.kept hK1 (by simp; omega)
    obtain ⟨c0, c1, c2, c3, c4, c5, c6, c7, c8⟩ := hb1.cells
    rw [HK.out] at c1
    rw [HTH.out] at c5
    have hf := Blk.frozen hb1
    have hb2 : FlAt (((w1.setCell ⟨x, 1, none⟩ (.int .i64 0)).setCell ⟨x, 5, none⟩ .nilFunc).setCell ⟨x, 6, none⟩ (.bool false)) x f.cleared rest T := ((Blk.set hb1 1 (.int .i64 0)).set 5 .nilFunc).set 6 (.bool false)
    have hM2 : MemAt (((w1.setCell ⟨x, 1, none⟩ (.int .i64 0)).setCell ⟨x, 5, none⟩ .nilFunc).setCell ⟨x, 6, none⟩ (.bool false)) m g ac.1 := hM1.kept (S := [x]) ((((Kept.refl [x] w1).set (.inl (by simp)) _).set (.inl (by simp)) _).set (.inl (by simp)) _) (by simp; omega) (by simp; omega)
    have hK2 : Kept [x, m, g] w (((w1.setCell ⟨x, 1, none⟩ (.int .i64 0)).setCell ⟨x, 5, none⟩ .nilFunc).setCell ⟨x, 6, none⟩ (.bool false)) := (((hK1.mono (by intro i hi; exact .inl (List.mem_cons_of_mem _ hi))).set (.inl (by simp)) _).set (.inl (by simp)) _).set (.inl (by simp)) _
    clear hb hb1 hM hM1
    go_wp2_with fail
    refine (HT.out _ hb2 hM2 hK2).mono ?_
    rintro e w2 ⟨⟨r, rfl⟩, hR⟩
    go_wp2
    go_returns
    exact ⟨rfl, hR⟩
  · have hd : ((f.kind : Int) == 5) = false := by simpa using hk
    obtain ⟨ac, hac⟩ : ∃ ac, ac = s.acc f.kind f.who f.at_ f.old f.nw := ⟨_, rfl⟩
    rw [← hac] at HT
    have HAC := hid hac
    clear hk hac hz
    go_enter Try.func196, Try.ntmps196
    go_wp2_with fail
    refine (fdoes_run x m g f rest T s _ hb hM hnw hc hbd).mono ?_
    rintro e w1 ⟨rfl, hM1, hK1⟩
    rw [← HAC.out] at hM1 ⊢
    have hb1 := hb.kept hK1 (by simp; omega)
    obtain ⟨c0, c1, c2, c3, c4, c5, c6, c7, c8⟩ := hb1.cells
    rw [HTH.out] at c5
    have hf := Blk.frozen hb1
    have hb2 : FlAt (((w1.setCell ⟨x, 1, none⟩ (.int .i64 0)).setCell ⟨x, 5, none⟩ .nilFunc).setCell ⟨x, 6, none⟩ (.bool false)) x f.cleared rest T := ((Blk.set hb1 1 (.int .i64 0)).set 5 .nilFunc).set 6 (.bool false)
    have hM2 : MemAt (((w1.setCell ⟨x, 1, none⟩ (.int .i64 0)).setCell ⟨x, 5, none⟩ .nilFunc).setCell ⟨x, 6, none⟩ (.bool false)) m g ac.1 := hM1.kept (S := [x]) ((((Kept.refl [x] w1).set (.inl (by simp)) _).set (.inl (by simp)) _).set (.inl (by simp)) _) (by simp; omega) (by simp; omega)
    have hK2 : Kept [x, m, g] w (((w1.setCell ⟨x, 1, none⟩ (.int .i64 0)).setCell ⟨x, 5, none⟩ .nilFunc).setCell ⟨x, 6, none⟩ (.bool false)) := (((hK1.mono (by intro i hi; exact .inl (List.mem_cons_of_mem _ hi))).set (.inl (by simp)) _).set (.inl (by simp)) _).set (.inl (by simp)) _
    clear hb hb1 hM hM1
    go_wp2_with fail
    refine (HT.out _ hb2 hM2 hK2).mono ?_
    rintro e w2 ⟨⟨r, rfl⟩, hR⟩
    go_wp2
    go_returns
    exact ⟨rfl, hR⟩

/-- Nothing is to come of it. -/
def Fl.over (f : Fl) : Bool := decide (f.kind = 0) && (match f.sub with | .nilIface => true | _ => false)
/-- A machine's flow behind a step: no machine is run, or one is. -/
def Fl.fine (f : Fl) : Prop := f.sub = .nilIface ∨ ∃ t v, f.sub = .iface t v
theorem fdone_any (x : Nat) (f : Fl) (rest : List Value) (T : TypeId) (w : World) (hb : FlAt w x f rest T) (hs : f.fine) :
    Calls Try.prog 131 #[.pointer (some ⟨x, 0, none⟩)] w fun e w' => e = .returned (.bool f.over) ∧ w = w' := by
  rcases hs with h | ⟨t, v, h⟩
  · have := fdone_run x f rest T w hb h
    have e : f.over = decide (f.kind = 0) := by unfold Fl.over; rw [h]; simp
    rw [e]; exact this
  · obtain ⟨c0, c1, c2, c3, c4, c5, c6, c7, c8⟩ := hb.cells
    have HO := hid (show f.over = false by unfold Fl.over; rw [h]; simp)
    rw [h] at c7
    clear hb h
    have hq : ∀ w : World, (binOp .eql 141 (.iface t v) .nilIface).run Try.prog w = .ok (.bool false) w := fun w => run_eql_held_nil w _ _ _ (by kernel_rfl)
    by_cases hk : f.kind = 0
    · have hd : ((f.kind : Int) == 0) = true := by simp [hk]
      clear hk
      go_enter Try.func131, Try.ntmps131
      go_wp2
      go_ret
      exact ⟨by rw [HO.out]; rfl, rfl⟩
    · have hd : ((f.kind : Int) == 0) = false := by simp [hk]
      clear hk
      go_enter Try.func131, Try.ntmps131
      go_wp2
      go_ret
      exact ⟨by rw [HO.out]; rfl, rfl⟩

theorem fstep_nil (x : Nat) (f : Fl) (rest : List Value) (T : TypeId) (w : World) (hb : FlAt w x f rest T) (hs : f.fine) :
    Calls Try.prog 130 #[.pointer (some ⟨x, 0, none⟩), .pointer none] w fun e w' => e = .returned (.bool f.over) ∧ w = w' := by
  obtain ⟨o, ho⟩ : ∃ o, o = f.over := ⟨_, rfl⟩
  have HD := hid (fdone_any x f rest T w hb hs)
  rw [← ho] at HD ⊢
  clear ho hb hs
  cases o with
  | true =>
    go_enter Try.func130, Try.ntmps130
    go_wp2_with fail
    refine HD.out.mono ?_
    rintro e w1 ⟨rfl, rfl⟩
    go_wp2_with fail
    refine HD.out.mono ?_
    rintro e w1 ⟨rfl, rfl⟩
    go_wp2
    go_ret
    exact ⟨rfl, rfl⟩
  | false =>
    go_enter Try.func130, Try.ntmps130
    go_wp2_with fail
    refine HD.out.mono ?_
    rintro e w1 ⟨rfl, rfl⟩
    go_wp2_with fail
    refine HD.out.mono ?_
    rintro e w1 ⟨rfl, rfl⟩
    go_wp2
    go_ret
    exact ⟨rfl, rfl⟩
/-- A step of one that is done, or asleep. -/
theorem fstep_done (x : Nat) (f : Fl) (rest : List Value) (T : TypeId) (m : Option Addr) (w : World) (hb : FlAt w x f rest T) (hs : f.sub = .nilIface) (hk : f.kind = 0) :
    Calls Try.prog 130 #[.pointer (some ⟨x, 0, none⟩), .pointer m] w fun e w' => e = .returned (.bool true) ∧ w = w' := by
  have HD := fdone_any x f rest T w hb (.inl hs)
  rw [show f.over = true by unfold Fl.over; rw [hs, hk]; rfl] at HD
  have HD := hid HD
  clear hb hs hk
  go_enter Try.func130, Try.ntmps130
  go_wp2_with fail
  refine HD.out.mono ?_
  rintro e w1 ⟨rfl, rfl⟩
  go_wp2_with fail
  refine HD.out.mono ?_
  rintro e w1 ⟨rfl, rfl⟩
  go_wp2
  go_ret
  exact ⟨rfl, rfl⟩
theorem fstep_asleep (x m g : Nat) (f : Fl) (rest : List Value) (T : TypeId) (s : St) (w : World) (hb : FlAt w x f rest T) (hs : f.sub = .nilIface) (hM : MemAt w m g s) (hz : f.sleeps s = true) :
    Calls Try.prog 130 #[.pointer (some ⟨x, 0, none⟩), .pointer (some ⟨m, 0, none⟩)] w fun e w' => e = .returned (.bool false) ∧ w = w' := by
  have hk : f.kind = 5 := by unfold Fl.sleeps at hz; simp at hz; exact hz.1.1
  have HD := fdone_any x f rest T w hb (.inl hs)
  rw [show f.over = false by unfold Fl.over; rw [hk]; rfl] at HD
  have HD := hid HD
  have HA := fasleep_run x m g f rest T s w hb hs hM
  rw [hz] at HA
  have HA := hid HA
  clear hb hs hk hM hz
  go_enter Try.func130, Try.ntmps130
  go_wp2_with fail
  refine HD.out.mono ?_
  rintro e w1 ⟨rfl, rfl⟩
  go_wp2_with fail
  refine HA.out.mono ?_
  rintro e w1 ⟨rfl, rfl⟩
  go_wp2_with fail
  refine HD.out.mono ?_
  rintro e w1 ⟨rfl, rfl⟩
  go_wp2
  go_ret
  exact ⟨rfl, rfl⟩
/-- A step that is an access that sleeps on. -/
theorem fstep_sleeps (x m g : Nat) (f : Fl) (rest : List Value) (T : TypeId) (s : St) (w : World) (hb : FlAt w x f rest T) (hs : f.sub = .nilIface) (hM : MemAt w m g s) (hxm : x ≠ m) (hxg : x ≠ g) (hnw : 0 ≤ f.nw ∧ f.nw < 18446744073709551616) (hc : s.clock < 1000000) (hbd : s.bad < 1000000)
    (hk : f.kind = 5) (hn : f.sleeps s = false) (hz : (s.acc f.kind f.who f.at_ f.old f.nw).2 = 0) :
    Calls Try.prog 130 #[.pointer (some ⟨x, 0, none⟩), .pointer (some ⟨m, 0, none⟩)] w fun e w' => e = .returned (.bool false) ∧ FlAt w' x { f with asleep := true } rest T ∧ MemAt w' m g (s.acc f.kind f.who f.at_ f.old f.nw).1 ∧ Kept [x, m, g] w w' := by
  have HD := fdone_any x f rest T w hb (.inl hs)
  rw [show f.over = false by unfold Fl.over; rw [hk]; rfl] at HD
  have HD := hid HD
  have HA := fasleep_run x m g f rest T s w hb hs hM
  rw [hn] at HA
  have HA := hid HA
  have HONE := hid (fone_sleeps x m g f rest T s w hb hM hxm hxg hnw hc hbd hk hz)
  obtain ⟨c0, c1, c2, c3, c4, c5, c6, c7, c8⟩ := hb.cells
  rw [hs] at c7
  have HK := hid hk
  have HS := hid hs
  clear hb hs hk hM hn hz c1
  go_enter Try.func130, Try.ntmps130
  go_wp2_with fail
  refine HD.out.mono ?_
  rintro e w1 ⟨rfl, rfl⟩
  go_wp2_with fail
  refine HA.out.mono ?_
  rintro e w1 ⟨rfl, rfl⟩
  go_wp2_with fail
  refine HONE.out.mono ?_
  rintro e w1 ⟨rfl, hb1, hM1, hK1⟩
  go_wp2_with fail
  refine (fdone_any x _ rest T w1 hb1 (.inl HS.out)).mono ?_
  rintro e w2 ⟨rfl, rfl⟩
  rw [show Fl.over { f with asleep := true } = false by unfold Fl.over; simp only; rw [HK.out]; rfl]
  go_wp2
  go_ret
  exact ⟨rfl, hb1, hM1, hK1⟩
/-- A step that is an access, behind which the machine goes on. -/
theorem fstep_goes (x m g : Nat) (f : Fl) (rest : List Value) (T : TypeId) (s : St) (w : World) (R : World → Prop) (hb : FlAt w x f rest T) (hs : f.sub = .nilIface) (hM : MemAt w m g s) (hxm : x ≠ m) (hxg : x ≠ g) (hnw : 0 ≤ f.nw ∧ f.nw < 18446744073709551616) (hc : s.clock < 1000000) (hbd : s.bad < 1000000)
    (hk : f.kind ≠ 0) (hn : f.sleeps s = false) (hz : f.kind ≠ 5 ∨ (s.acc f.kind f.who f.at_ f.old f.nw).2 ≠ 0)
    (F : Nat) (first lb : Array Value) (hth : f.th = .func (.func F) first lb) (eg : ∀ vs w, (callFunc F vs).run Try.prog w = .ok (.enter F vs) w)
    (hthen : ∀ w1, FlAt w1 x f.cleared rest T → MemAt w1 m g (s.acc f.kind f.who f.at_ f.old f.nw).1 → Kept [x, m, g] w w1 → Calls Try.prog F (first.push (.int .u64 (s.acc f.kind f.who f.at_ f.old f.nw).2) ++ lb) w1 fun e w' => (∃ r, e = .returned r) ∧ R w')
    (hR : ∀ w', R w' → ∃ f' rest', FlAt w' x f' rest' T ∧ f'.fine) :
    Calls Try.prog 130 #[.pointer (some ⟨x, 0, none⟩), .pointer (some ⟨m, 0, none⟩)] w fun e w' => R w' ∧ ∃ f' rest', FlAt w' x f' rest' T ∧ e = .returned (.bool f'.over) := by
  have HD := fdone_any x f rest T w hb (.inl hs)
  rw [show f.over = false by unfold Fl.over; rw [decide_eq_false hk]; rfl] at HD
  have HD := hid HD
  have HA := fasleep_run x m g f rest T s w hb hs hM
  rw [hn] at HA
  have HA := hid HA
  have HONE := hid (fone_goes x m g f rest T s w R hb hM hxm hxg hnw hc hbd hz F first lb hth eg hthen)
  obtain ⟨c0, c1, c2, c3, c4, c5, c6, c7, c8⟩ := hb.cells
  rw [hs] at c7
  have HR := hid hR
  clear hb hs hk hM hn hz c1 hthen hth eg hR
  go_enter Try.func130, Try.ntmps130
  go_wp2_with fail
  refine HD.out.mono ?_
  rintro e w1 ⟨rfl, rfl⟩
  go_wp2_with fail
  refine HA.out.mono ?_
  rintro e w1 ⟨rfl, rfl⟩
  go_wp2_with fail
  refine HONE.out.mono ?_
  rintro e w1 ⟨rfl, hR1⟩
  go_wp2_with fail
  obtain ⟨f', rest', hb', hfine⟩ := HR.out w1 hR1
  refine (fdone_any x f' rest' T w1 hb' hfine).mono ?_
  rintro e w2 ⟨rfl, rfl⟩
  have HB := hid hb'
  clear hb'
  go_wp2
  go_ret
  exact ⟨hR1, f', rest', HB.out, rfl⟩
/-- What follows a store, and a swap. -/
theorem fstore1_run (a : Int) (b F : Nat) (first lb : Array Value) (w : World) (R : World → Prop) (hb : Blk w b [.func (.func F) first lb] 1) (eg : ∀ vs w, (callFunc F vs).run Try.prog w = .ok (.enter F vs) w)
    (h : Calls Try.prog F (first ++ lb) w fun e w' => (∃ r, e = .returned r) ∧ R w') :
    Calls Try.prog 201 #[.int .u64 a, .pointer (some ⟨b, 0, none⟩)] w fun e w' => (∃ r, e = .returned r) ∧ R w' := by
  have c := hb.cell 0
  simp only [List.getElem?_cons_zero] at c
  have H := hid h
  clear hb h
  go_enter Try.func201, Try.ntmps201
  go_wp2_with fail
  refine H.out.mono ?_
  rintro e w1 ⟨⟨r, rfl⟩, hR⟩
  go_wp2
  go_returns
  exact ⟨⟨_, rfl⟩, hR⟩
theorem fswap1_run (a : Int) (b F : Nat) (first lb : Array Value) (w : World) (R : World → Prop) (hb : Blk w b [.func (.func F) first lb] 233) (eg : ∀ vs w, (callFunc F vs).run Try.prog w = .ok (.enter F vs) w)
    (h : Calls Try.prog F (first.push (.bool (a == 1)) ++ lb) w fun e w' => (∃ r, e = .returned r) ∧ R w') :
    Calls Try.prog 257 #[.int .u64 a, .pointer (some ⟨b, 0, none⟩)] w fun e w' => (∃ r, e = .returned r) ∧ R w' := by
  have c := hb.cell 0
  simp only [List.getElem?_cons_zero] at c
  have H := hid h
  clear hb h
  go_enter Try.func257, Try.ntmps257
  go_wp2_with fail
  refine H.out.mono ?_
  rintro e w1 ⟨⟨r, rfl⟩, hR⟩
  go_wp2
  go_returns
  exact ⟨⟨_, rfl⟩, hR⟩
end Go.Proofs.Ytokpgbocomhpiaa.Flow
