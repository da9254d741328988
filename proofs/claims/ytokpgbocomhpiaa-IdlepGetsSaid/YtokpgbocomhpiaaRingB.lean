/- The document's look at a ring; how many lie between. -/
import Derived.Test.YtokpgbocomhpiaaRing
import Derived.Test.YtokpgbocomhpiaaDoc
set_option maxRecDepth 100000
set_option maxHeartbeats 4000000
set_option linter.unusedVariables false
set_option linter.unusedSimpArgs false
namespace Go.Proofs.Ytokpgbocomhpiaa.Ring
open Go.RowKit Go.Shelf Go.Proofs.Ytokpgbocomhpiaa.TK Go.Proofs.Ytokpgbocomhpiaa.Flag Go.Proofs.Ytokpgbocomhpiaa.Words Go.Proofs.Ytokpgbocomhpiaa.Mem Go.Proofs.Ytokpgbocomhpiaa.Flow Go.Proofs.Ytokpgbocomhpiaa.Layout Go.Proofs.Ytokpgbocomhpiaa.Lock Go.Proofs.Ytokpgbocomhpiaa.Run Go.Proofs.Ytokpgbocomhpiaa.Sys Go.Proofs.Ytokpgbocomhpiaa.Mach Go.Proofs.Ytokpgbocomhpiaa.Doc Go.Proofs.Ytokpgbocomhpiaa.Ref05
def manyOf (h t : Int) : Int := (t % 4294967296 + 4294967296 - h % 4294967296) % 4294967296
theorem many_run (h t : Int) (w : World) (hh : 0 ≤ h ∧ h < 18446744073709551616) (ht : 0 ≤ t ∧ t < 18446744073709551616) :
    Calls Try.prog 56 #[.int .u64 h, .int .u64 t] w fun e w' => e = .returned (.int .u64 (manyOf h t)) ∧ w = w' := by
  have e1 : h.tmod 4294967296 = h % 4294967296 := Int.tmod_eq_emod_of_nonneg hh.1
  have e2 : t.tmod 4294967296 = t % 4294967296 := Int.tmod_eq_emod_of_nonneg ht.1
  have e3 : (t % 4294967296 + 4294967296 - h % 4294967296).tmod 4294967296 = manyOf h t := Int.tmod_eq_emod_of_nonneg (by omega)
  have e4 : (t % 4294967296 + 4294967296 - h % 4294967296) % 4294967296 = manyOf h t := rfl
  obtain ⟨mo, hmo⟩ : ∃ mo, mo = manyOf h t := ⟨_, rfl⟩
  rw [← hmo] at e3 e4 ⊢
  clear hmo
  obtain ⟨a, ha⟩ : ∃ a, a = h % 4294967296 := ⟨_, rfl⟩
  obtain ⟨b, hb⟩ : ∃ b, b = t % 4294967296 := ⟨_, rfl⟩
  have ra : 0 ≤ a ∧ a < 4294967296 := by omega
  have rb : 0 ≤ b ∧ b < 4294967296 := by omega
  rw [← ha] at e1 e3 e4
  rw [← hb] at e2 e3 e4
  have ha' := ha.symm
  have hb' := hb.symm
  have w1 : IntKind.u64.wrap (b + 4294967296) = b + 4294967296 := by rw [IntKind.wrap_u64]; omega
  have w2 : IntKind.u64.wrap (b + 4294967296 - a) = b + 4294967296 - a := by rw [IntKind.wrap_u64]; omega
  clear ha hb
  go_enter Try.func56, Try.ntmps56
  go_wp2
  go_ret
  exact ⟨rfl, rfl⟩
theorem rmany_run (h t : Int) (w : World) (hh : 0 ≤ h ∧ h < 18446744073709551616) (ht : 0 ≤ t ∧ t < 18446744073709551616) :
    Calls Try.prog 58 #[.int .u64 h, .int .u64 t] w fun e w' => e = .returned (.int .u64 (manyOf h t)) ∧ w = w' := by
  have e1 : h.tmod 4294967296 = h % 4294967296 := Int.tmod_eq_emod_of_nonneg hh.1
  have e2 : t.tmod 4294967296 = t % 4294967296 := Int.tmod_eq_emod_of_nonneg ht.1
  obtain ⟨a, ha⟩ : ∃ a, a = h % 4294967296 := ⟨_, rfl⟩
  obtain ⟨b, hb⟩ : ∃ b, b = t % 4294967296 := ⟨_, rfl⟩
  have ra : 0 ≤ a ∧ a < 4294967296 := by omega
  have rb : 0 ≤ b ∧ b < 4294967296 := by omega
  have HM := hid (show manyOf h t = (b + 4294967296 - a) % 4294967296 by unfold manyOf; rw [ha, hb])
  rw [HM.out]
  rw [← ha] at e1
  rw [← hb] at e2
  have ha' := ha.symm
  have hb' := hb.symm
  clear ha hb
  by_cases hl : b < a
  · have d : decide (b < a) = true := decide_eq_true hl
    have HR := hid (show (b + 4294967296 - a) % 4294967296 = b + 4294967296 - a by omega)
    have w1 : IntKind.u64.wrap (b + 4294967296) = b + 4294967296 := by rw [IntKind.wrap_u64]; omega
    have w2 : IntKind.u64.wrap (b + 4294967296 - a) = b + 4294967296 - a := by rw [IntKind.wrap_u64]; omega
    rw [HR.out]
    go_enter Try.func58, Try.ntmps58
    go_wp2
    go_ret
    exact ⟨rfl, rfl⟩
  · have d : decide (b < a) = false := decide_eq_false hl
    have HR := hid (show (b + 4294967296 - a) % 4294967296 = b - a by omega)
    have w1 : IntKind.u64.wrap (b - a) = b - a := by rw [IntKind.wrap_u64]; omega
    rw [HR.out]
    go_enter Try.func58, Try.ntmps58
    go_wp2
    go_ret
    exact ⟨rfl, rfl⟩
theorem rlook_run (l : Nat) (P T G p : Int) (B r : Nat) (v : Value) (a : RunSt) (got : List Int) (s0 : LkSt) (w : World) (h : RunAt w B r v a) (hg : Fits got a) (hs : a.stop = false → s0 = .h) (hP : 0 ≤ P ∧ P ≤ 1000) :
    Calls Try.prog 60 #[.pointer (some ⟨r, 0, none⟩), .agg #[.int .i64 P, .int .i64 T, .int .i64 G], .int .i64 p] w fun e w' => ∃ q b s1, e = .returned (.bool q) ∧ RunAt w' B r v b ∧ Kept [r] w w' ∧ Ran (lkM l P p).sys got s0 a s1 b ∧ Fits got b ∧ (b.stop = false → (lkM l P p).sys.want s1 = none ∧ q = s1.empty) ∧ (b.stop = true → q = false) := by
  have HI := hid (DI.start (M := (lkM l P p).sys) (P := P) (T := T) (G := G) h hg s0)
  have HP := hid hP
  have HS := hid hs
  obtain ⟨z0, z1, z2, z3⟩ := HI.out.cells
  clear h hg hs hP
  go_enter Try.func60, Try.ntmps60
  go_wp2_with fail
  (refine (procat_run P T G p _ _ HP.out (by omega)).mono ?_; rintro e w1 ⟨rfl, hb⟩; (have HI := hid (HI.out.quiet hb); clear hb; obtain ⟨z0, z1, z2, z3⟩ := HI.out.cells); go_wp2_with fail)
  refine (dl_run HI.out (pr P p 1) (fun h => by rw [HS.out h]; rfl)).mono ?_
  rintro e w2 ⟨b1, s1, x1, rfl, hI, ho1⟩
  have HI := hid hI
  have HO1 := hid ho1
  obtain ⟨z0, z1, z2, z3⟩ := HI.out.cells
  clear hI ho1
  go_wp2_with fail
  (refine (procat_run P T G p _ _ HP.out (by omega)).mono ?_; rintro e w1 ⟨rfl, hb⟩; (have HI := hid (HI.out.quiet hb); clear hb; obtain ⟨z0, z1, z2, z3⟩ := HI.out.cells); go_wp2_with fail)
  have e1 : b1.stop = false → s1 = .t x1 := fun h => by obtain ⟨h1, h2⟩ := HO1.out.1 h; rw [h2, HS.out h1]; rfl
  refine (dl_run HI.out (pr P p 2) (fun h => by rw [e1 h]; rfl)).mono ?_
  rintro e w3 ⟨b2, s2, x2, rfl, hI, ho2⟩
  have HI := hid hI
  have HO2 := hid (And.intro e1 ho2)
  obtain ⟨z0, z1, z2, z3⟩ := HI.out.cells
  clear hI ho2 e1
  go_wp2_with fail
  (refine (procat_run P T G p _ _ HP.out (by omega)).mono ?_; rintro e w1 ⟨rfl, hb⟩; (have HI := hid (HI.out.quiet hb); clear hb; obtain ⟨z0, z1, z2, z3⟩ := HI.out.cells); go_wp2_with fail)
  have e2 : b2.stop = false → s2 = .n x1 x2 := fun h => by obtain ⟨h1, h2⟩ := HO2.out.2.1 h; rw [h2, HO2.out.1 h1]; rfl
  refine (dl_run HI.out (pr P p 3) (fun h => by rw [e2 h]; rfl)).mono ?_
  rintro e w4 ⟨b3, s3, x3, rfl, hI, ho3⟩
  have HI := hid hI
  have HO3 := hid (And.intro e2 ho3)
  obtain ⟨z0, z1, z2, z3⟩ := HI.out.cells
  clear hI ho3 e2
  go_wp2_with fail
  (refine (procat_run P T G p _ _ HP.out (by omega)).mono ?_; rintro e w1 ⟨rfl, hb⟩; (have HI := hid (HI.out.quiet hb); clear hb; obtain ⟨z0, z1, z2, z3⟩ := HI.out.cells); go_wp2_with fail)
  have e3 : b3.stop = false → s3 = .a x1 x2 x3 := fun h => by obtain ⟨h1, h2⟩ := HO3.out.2.1 h; rw [h2, HO3.out.1 h1]; rfl
  refine (dl_run HI.out (pr P p 2) (fun h => by rw [e3 h]; rfl)).mono ?_
  rintro e w5 ⟨b4, s4, x4, rfl, hI, ho4⟩
  have e4 : b4.stop = false → s4 = .done x1 x2 x3 (emptyOf x1 x2 x3 x4) := fun h => by obtain ⟨h1, h2⟩ := ho4.1 h; rw [h2, e3 h1]; rfl
  have HI := hid hI
  have HO4 := hid e4
  obtain ⟨z0, z1, z2, z3⟩ := HI.out.cells
  obtain ⟨st, hst⟩ : ∃ st, st = b4.stop := ⟨_, rfl⟩
  rw [← hst] at z3 HO4
  have HST := hid hst
  clear hI ho4 e3 e4 hst
  obtain ⟨q1, h1⟩ : ∃ q, (x1 == x2) = q := ⟨_, rfl⟩
  obtain ⟨q2, h2⟩ : ∃ q, (x4 == x2) = q := ⟨_, rfl⟩
  obtain ⟨q3, h3⟩ : ∃ q, (x3 == 0) = q := ⟨_, rfl⟩
  cases st with
  | true =>
    go_wp2
    go_ret
    exact ⟨false, b4, s4, rfl, HI.out.run, HI.out.kept, HI.out.ran, HI.out.good, (fun h => by rw [← HST.out] at h; cases h), fun _ => rfl⟩
  | false =>
    have HE := hid (show emptyOf x1 x2 x3 x4 = (q2 && q1 && q3) by unfold emptyOf; rw [h1, h2, h3])
    cases q1 <;> cases q2 <;> cases q3 <;> (
      go_wp2
      go_ret
      exact ⟨_, b4, s4, rfl, HI.out.run, HI.out.kept, HI.out.ran, HI.out.good, (fun _ => by rw [HO4.out (by first | rfl | trivial)]; exact ⟨rfl, HE.out.symm⟩), (fun h => absurd (HST.out.trans h) (by simp))⟩)
/-- The words of a ring in which Head and Tail are alike. -/
theorem words0_run (l m g : Nat) (P T G p : Int) (s : St) (w : World) (hL : Lay w l P T G) (hM : MemAt w m g s) (h0 : manyOf (s.peek (pr P p 1)).1 (s.peek (pr P p 2)).1 = 0) (hr1 : 0 ≤ (s.peek (pr P p 1)).1 ∧ (s.peek (pr P p 1)).1 < 18446744073709551616) (hr2 : 0 ≤ (s.peek (pr P p 2)).1 ∧ (s.peek (pr P p 2)).1 < 18446744073709551616) :
    Calls Try.prog 112 #[.pointer (some ⟨l, 0, none⟩), .pointer (some ⟨m, 0, none⟩), .int .i64 p] w fun e w' => e = .returned (.tuple #[.slice none 0 0, .int .u64 (s.peek (pr P p 3)).1]) ∧ Below w.heap.size w w' := by
  have HI := hid (And.intro hL (And.intro hM (Below.refl w.heap.size w)))
  obtain ⟨p1, hp1⟩ : ∃ q, q = s.peek (pr P p 1) := ⟨_, rfl⟩
  obtain ⟨p2, hp2⟩ : ∃ q, q = s.peek (pr P p 2) := ⟨_, rfl⟩
  obtain ⟨p3, hp3⟩ : ∃ q, q = s.peek (pr P p 3) := ⟨_, rfl⟩
  rw [← hp1] at h0 hr1
  rw [← hp2] at h0 hr2
  rw [← hp3]
  have HP1 := hid hp1
  have HP2 := hid hp2
  have HP3 := hid hp3
  have H0 := hid h0
  have HR := hid (And.intro hr1 hr2)
  clear hL hM hp1 hp2 hp3 h0 hr1 hr2
  go_enter Try.func112, Try.ntmps112
  go_wp2_with (first | (go_at_call 165; refine (proc_run l P T G _ _ _ HI.out.1).mono ?_; rintro e w1 ⟨rfl, hb⟩; replace HI := hid (And.intro (HI.out.1.quiet hb) (And.intro (HI.out.2.1.quiet hb) (Below.then_ HI.out.2.2 hb))); clear hb) | (go_at_call 56; refine (many_run _ _ _ HR.out.1 HR.out.2).mono ?_; rintro e w1 ⟨rfl, rfl⟩; rw [H0.out]) | (go_at_call 42; refine (mpeek_run m g s _ _ HI.out.2.1).mono ?_; rintro e w1 ⟨rfl, rfl⟩; first | rw [show s.peek (placeN true 20 p P 264 1 8) = p1 from HP1.out.symm] | rw [show s.peek (placeN true 20 p P 264 2 8) = p2 from HP2.out.symm] | rw [show s.peek (placeN true 20 p P 264 3 8) = p3 from HP3.out.symm]))
  go_loopw [46, 14] (fun i o wr => i = .int .u64 0 ∧ o = .slice none 0 0 ∧ Below w.heap.size w wr) (fun _ _ _ => 0)
  case atStart => exact ⟨rfl, rfl, HI.out.2.2⟩
  case round =>
    clear HI
    obtain ⟨rfl, rfl, hlow⟩ := hrel
    go_wp2
    go_ret2
    exact ⟨rfl, hlow⟩
theorem empty0_run (l m g : Nat) (P T G p : Int) (s : St) (w : World) (hL : Lay w l P T G) (hM : MemAt w m g s) (h0 : manyOf (s.peek (pr P p 1)).1 (s.peek (pr P p 2)).1 = 0) (hr1 : 0 ≤ (s.peek (pr P p 1)).1 ∧ (s.peek (pr P p 1)).1 < 18446744073709551616) (hr2 : 0 ≤ (s.peek (pr P p 2)).1 ∧ (s.peek (pr P p 2)).1 < 18446744073709551616) (h3 : (s.peek (pr P p 3)).1 = 0) :
    Calls Try.prog 163 #[.pointer (some ⟨l, 0, none⟩), .pointer (some ⟨m, 0, none⟩), .int .i64 p] w fun e w' => e = .returned (.bool true) ∧ Below w.heap.size w w' := by
  have H := hid (words0_run l m g P T G p s w hL hM h0 hr1 hr2)
  rw [h3] at H
  clear hL hM h0 hr1 hr2 h3
  go_enter Try.func163, Try.ntmps163
  go_wp2_with fail
  refine H.out.mono ?_
  rintro e w1 ⟨rfl, hb⟩
  go_wp2
  go_ret
  exact ⟨rfl, hb⟩
def s111 : St := fresh (layW (lenOf 1 1 1) [])
/-- A machine's and the memory's states behind n steps. -/
def after {σ : Type} (M : Rsys σ) (who : Int) (st : σ) (s : St) : Nat → σ × St
  | 0 => (st, s)
  | n + 1 => stepOf M who (after M who st s n).1 (after M who st s n).2
theorem step_clock {σ : Type} (M : Rsys σ) (who : Int) (st : σ) (s : St) : (stepOf M who st s).2.clock ≤ s.clock + 1 ∧ (stepOf M who st s).2.bad ≤ s.bad + 1 := by
  unfold stepOf
  split
  · exact ⟨by simp only; omega, by simp only; omega⟩
  · split
    · exact ⟨by simp only; omega, by simp only; omega⟩
    · exact acc_clock2 ..
theorem after_clock {σ : Type} (M : Rsys σ) (who : Int) (st : σ) (s : St) (n : Nat) : (after M who st s n).2.clock ≤ s.clock + n ∧ (after M who st s n).2.bad ≤ s.bad + n := by
  induction n with
  | zero => exact ⟨by simp [after], by simp [after]⟩
  | succ n ih =>
    have := step_clock M who (after M who st s n).1 (after M who st s n).2
    obtain ⟨i1, i2⟩ := ih
    exact ⟨by show (stepOf ..).2.clock ≤ _; omega, by show (stepOf ..).2.bad ≤ _; omega⟩
def lk4 : LkSt × St := after (lkM 0 1 0).sys 0 .h s111 4
theorem lk_l (l : Nat) (n : Nat) : after (lkM l 1 0).sys 0 .h s111 n = after (lkM 0 1 0).sys 0 .h s111 n := rfl
theorem ex_run : (lkNx 1 0 lk4.1).over = true ∧ lk4.1.empty = true ∧ lk4.2.clock = 4 ∧ lk4.2.peek (pr 1 0 1) = (0, true) ∧ lk4.2.peek (pr 1 0 2) = (0, true) ∧ lk4.2.peek (pr 1 0 3) = (0, true) := by
  refine ⟨?_, ?_, ?_, ?_, ?_, ?_⟩ <;> decide +kernel
theorem few111 : FewP 1 1 1 := by unfold FewP Right; omega
theorem awake_run (w : World) : Calls Try.prog 57 #[] w fun e w' => e = .returned (.bool true) ∧ Below w.heap.size w w' := by
  have HE := hid ex_run
  go_enter Try.func57, Try.ntmps57
  go_wp2_with fail
  refine (lay_yes 1 1 1 none 0 [] _ few111 (by simp) ?_ (by simp)).mono ?_
  · intro i hi; simp at hi
  rintro e w1 ⟨l, m, g, rm, rg, rfl, hL⟩
  have hM : MemAt w1 m g s111 := hL.mem
  have hLay := hL.lay
  have hlow := hL.low
  obtain ⟨q1, q2, q3, q4, q5⟩ := hL.low5
  clear hL
  go_wp2_with fail
  refine (lknew_run l 1 1 1 0 0 w1 hLay).mono ?_
  rintro e w2 ⟨rfl, hA, hb⟩
  have hlow2 := hlow.trans (hb.mono hlow.size)
  have hA : LkAt w.heap.size l w1.heap.size 1 0 1 1 0 w2 .h := ⟨hA, hlow.size, hLay.quiet hb, trivial⟩
  replace hM := hM.quiet hb
  generalize w1.heap.size = x at *
  have HI := hid (show LkAt w.heap.size l x 1 0 1 1 0 w2 (after (lkM l 1 0).sys 0 .h s111 0).1 ∧ MemAt w2 m g (after (lkM l 1 0).sys 0 .h s111 0).2 ∧ Below w.heap.size w w2 from ⟨hA, hM, hlow2⟩)
  have HQ := hid (And.intro q2 q3)
  clear hA hM hlow hlow2 hb hLay q1 q2 q3 q4 q5
  go_wp2_with fail
  go_loopw [6] (fun i wr => ∃ n : Nat, n ≤ 4 ∧ i = .int .i64 (n : Int) ∧ LkAt w.heap.size l x 1 0 1 1 0 wr (after (lkM l 1 0).sys 0 .h s111 n).1 ∧ MemAt wr m g (after (lkM l 1 0).sys 0 .h s111 n).2 ∧ Below w.heap.size w wr) (fun i _ => 4 - (intOf i).toNat)
  case atStart => exact ⟨0, by omega, rfl, HI.out⟩
  case round =>
    clear HI
    obtain ⟨n, hn, rfl, hA, hM, hlow⟩ := hrel
    have HI := hid (And.intro hA (And.intro hM hlow))
    clear hA hM hlow
    by_cases hlt : n < 4
    · have hlt' : decide ((n : Int) < 4) = true := decide_eq_true (by omega)
      have hcl := after_clock (lkM l 1 0).sys 0 .h s111 n
      have hc0 : s111.clock = 0 ∧ s111.bad = 0 := ⟨rfl, rfl⟩
      go_wp2_with fail
      refine (lkstep_run w.heap.size l x m g 1 0 1 1 0 _ _ wr HI.out.1 HI.out.2.1 (by omega) (by omega)).mono ?_
      rintro e w3 ⟨rfl, hA3, hM3, S, hK3, hS3⟩
      have hl3 : Below w.heap.size w w3 := below_kept HI.out.2.2 hK3 (by
        intro i hi
        rcases hS3 i hi with rfl | rfl | ⟨h, _⟩
        · exact HQ.out.1
        · exact HQ.out.2
        · exact h) HI.out.2.2.size
      have HI3 := hid (And.intro hA3 (And.intro hM3 hl3))
      clear hA3 hM3 hK3 hS3 hl3 HI hcl hc0
      go_wp2_with fail
      go_roundw
      case rel => exact ⟨n + 1, by omega, by go_num, HI3.out⟩
      case measure => simp [intOf]; omega
    · obtain rfl : n = 4 := by omega
      have hA : LkAt w.heap.size l x 1 0 1 1 0 wr lk4.1 := HI.out.1
      have hM : MemAt wr m g lk4.2 := HI.out.2.1
      have hlow := HI.out.2.2
      obtain ⟨e1, e2, e3, e4, e5, e6⟩ := HE.out
      obtain ⟨r, hr⟩ : ∃ r, r = lk4 := ⟨_, rfl⟩
      rw [← hr] at hA hM e1 e2 e3 e4 e5 e6
      have HA := hid hA
      have HM := hid hM
      have HX := hid (And.intro e1 (And.intro e2 e3))
      have HX2 := hid (And.intro e4 (And.intro e5 e6))
      clear hA hM HI hr e1 e2 e3 e4 e5 e6 HE
      have hlt' : decide ((4 : Int) < 4) = false := by decide
      go_wp2_with (first | (go_at_call 56; refine (many_run _ _ _ (by omega) (by omega)).mono ?_; rintro e w4 ⟨rfl, rfl⟩; rw [show manyOf 4294967295 2 = 3 by decide]) | (go_at_call 61; refine (lkdone_run w.heap.size l x 1 0 1 1 0 r.1 _ HA.out).mono ?_; rintro e w4 ⟨rfl, rfl⟩; rw [HX.out.1]) | (go_at_call 62; refine (lkempty_run w.heap.size l x 1 0 1 1 0 r.1 _ HA.out).mono ?_; rintro e w4 ⟨rfl, rfl⟩; rw [HX.out.2.1]) | (go_at_call 163; refine (empty0_run l m g 1 1 1 0 r.2 _ HA.out.2.2.1 HM.out (by rw [HX2.out.1, HX2.out.2.1]; decide) (by rw [HX2.out.1]; omega) (by rw [HX2.out.2.1]; omega) (by rw [HX2.out.2.2])).mono ?_; rintro e w4 ⟨rfl, hb4⟩; replace HM := hid (HM.out.quiet hb4)) | (go_at_call 35; refine (mclock_run m g r.2 _ HM.out).mono ?_; rintro e w5 ⟨rfl, rfl⟩; rw [HX.out.2.2]))
      go_ret
      exact ⟨rfl, Below.then_ hlow hb4⟩
end Go.Proofs.Ytokpgbocomhpiaa.Ring
