/- The document's list of threads; how many are to be had; the example. -/
import Derived.Test.YtokpgbocomhpiaaIdlem
import Derived.Test.YtokpgbocomhpiaaRingB
import Derived.Test.YtokpgbocomhpiaaDoc
set_option maxRecDepth 100000
set_option maxHeartbeats 4000000
set_option linter.unusedVariables false
set_option linter.unusedSimpArgs false
namespace Go.Proofs.Ytokpgbocomhpiaa.Idlem
open Go.RowKit Go.Shelf Go.Proofs.Ytokpgbocomhpiaa.TK Go.Proofs.Ytokpgbocomhpiaa.Flag Go.Proofs.Ytokpgbocomhpiaa.Read Go.Proofs.Ytokpgbocomhpiaa.Grow Go.Proofs.Ytokpgbocomhpiaa.Words Go.Proofs.Ytokpgbocomhpiaa.Mem Go.Proofs.Ytokpgbocomhpiaa.Flow Go.Proofs.Ytokpgbocomhpiaa.Layout Go.Proofs.Ytokpgbocomhpiaa.Lock Go.Proofs.Ytokpgbocomhpiaa.Run Go.Proofs.Ytokpgbocomhpiaa.Sys Go.Proofs.Ytokpgbocomhpiaa.Mach Go.Proofs.Ytokpgbocomhpiaa.Doc Go.Proofs.Ytokpgbocomhpiaa.Ref05
theorem w11 : wordN 11 = 11 := by decide
theorem w12 : wordN 12 = 12 := by decide
theorem w15 : wordN 15 = 15 := by decide
theorem rput18_run (l : Nat) (P T G t : Int) (B r : Nat) (v : Value) (a : RunSt) (got : List Int) (s0 : MpSt) (w : World) (h : RunAt w B r v a) (hg : Fits got a) (hs : a.stop = false → s0 = .h) (hP : (0 ≤ P ∧ P ≤ 1000) ∧ (0 ≤ t ∧ t ≤ 1000000) ∧ T ≤ 1000) :
    Calls Try.prog 92 #[.pointer (some ⟨r, 0, none⟩), .agg #[.int .i64 P, .int .i64 T, .int .i64 G], .int .i64 t] w fun e w' => e = .returned (.tuple #[]) ∧ ∃ b s1, RunAt w' B r v b ∧ Kept [r] w w' ∧ Ran (mpM l P T t).sys got s0 a s1 b ∧ Fits got b ∧ (b.stop = false → (mpM l P T t).sys.want s1 = none) := by
  have HI := hid (DI.start (M := (mpM l P T t).sys) (P := P) (T := T) (G := G) h hg s0)
  have HP := hid hP
  have HS := hid hs
  obtain ⟨z0, z1, z2, z3⟩ := HI.out.cells
  have n1 : IntKind.u64.wrap t = t := by rw [IntKind.wrap_u64]; omega
  have n2 : IntKind.u64.wrap (t + 1) = t + 1 := by rw [IntKind.wrap_u64]; omega
  clear h hg hs hP
  go_enter Try.func92, Try.ntmps92
  go_wp2_with fail
  refine (dl_run HI.out 11 (fun h => by rw [HS.out h, ← w11]; rfl)).mono ?_
  rintro e w2 ⟨b1, s1, x1, rfl, hI, ho1⟩
  have e1 : b1.stop = false → s1 = .k x1 := fun h => by obtain ⟨h1, h2⟩ := ho1.1 h; rw [h2, HS.out h1]; rfl
  (have HI := hid hI; obtain ⟨z0, z1, z2, z3⟩ := HI.out.cells; clear hI)
  go_wp2_with fail
  (refine (threadat_run P T G _ _ _ HP.out.1 HP.out.2.2 (by omega)).mono ?_; rintro e w1 ⟨rfl, hb⟩; (have HI := hid (HI.out.quiet hb); clear hb; obtain ⟨z0, z1, z2, z3⟩ := HI.out.cells))
  go_wp2_with fail
  refine (ds_run HI.out (th P T t 2) x1 (fun h => by rw [e1 h]; rfl)).mono ?_
  rintro e w3 ⟨rfl, b2, s2, x2, hI, ho2⟩
  have e2 : b2.stop = false → s2 = .s := fun h => by obtain ⟨h1, h2⟩ := ho2.1 h; rw [h2, e1 h1]; rfl
  (have HI := hid hI; obtain ⟨z0, z1, z2, z3⟩ := HI.out.cells; clear hI)
  go_wp2_with fail
  refine (ds_run HI.out 11 (t + 1) (fun h => by rw [e2 h, ← w11]; rfl)).mono ?_
  rintro e w4 ⟨rfl, b3, s3, x3, hI, ho3⟩
  have e3 : b3.stop = false → s3 = .i := fun h => by obtain ⟨h1, h2⟩ := ho3.1 h; rw [h2, e2 h1]; rfl
  (have HI := hid hI; obtain ⟨z0, z1, z2, z3⟩ := HI.out.cells; clear hI)
  go_wp2_with fail
  refine (da_run HI.out 12 1 (fun h => by rw [e3 h, ← w12]; rfl)).mono ?_
  rintro e w5 ⟨b4, s4, x4, rfl, hI, ho4⟩
  have e4 : b4.stop = false → s4 = .done := fun h => by obtain ⟨h1, h2⟩ := ho4.1 h; rw [h2, e3 h1]; rfl
  have HI := hid hI
  have HE := hid e4
  clear hI ho1 ho2 ho3 ho4 e1 e2 e3 e4
  go_wp2
  go_returns
  exact ⟨rfl, b4, s4, HI.out.run, HI.out.kept, HI.out.ran, HI.out.good, fun h => by rw [HE.out h]; rfl⟩
theorem nOf_succ (x : Int) (h : 0 ≤ x ∧ x < 1000000) : nOf (x + 1) = x := by
  unfold nOf
  rw [IntKind.wrap_i64, IntKind.wrap_i64]
  omega
theorem rget18_run (l : Nat) (P T G : Int) (B r : Nat) (v : Value) (a : RunSt) (got : List Int) (s0 : MgSt) (w : World) (h : RunAt w B r v a) (hg : Fits got a) (hs : a.stop = false → s0 = .h) (hP : (0 ≤ P ∧ P ≤ 1000) ∧ 1 ≤ T ∧ T ≤ 1000) :
    Calls Try.prog 97 #[.pointer (some ⟨r, 0, none⟩), .agg #[.int .i64 P, .int .i64 T, .int .i64 G]] w fun e w' => ∃ q b s1, e = .returned (.int .i64 q) ∧ RunAt w' B r v b ∧ Kept [r] w w' ∧ Ran (mgM l P T).sys got s0 a s1 b ∧ Fits got b ∧ (b.stop = false → (mgM l P T).sys.want s1 = none) ∧ (a.stop = false → q = s1.t) ∧ (a.stop = true → q = -1) := by
  have HI := hid (DI.start (M := (mgM l P T).sys) (P := P) (T := T) (G := G) h hg s0)
  have HP := hid (And.intro hP.1 (And.intro hP.2 hP.2.2))
  have HS := hid hs
  obtain ⟨z0, z1, z2, z3⟩ := HI.out.cells
  have n1 : IntKind.u64.wrap T = T := by rw [IntKind.wrap_u64]; omega
  have hT : 1 ≤ T ∧ T ≤ 1000 := hP.2
  clear h hg hs hP
  go_enter Try.func97, Try.ntmps97
  go_wp2_with fail
  refine (dl_run HI.out 11 (fun h => by rw [HS.out h, ← w11]; rfl)).mono ?_
  rintro e w2 ⟨b1, s1, x1, rfl, hI, ho1⟩
  (have HI := hid hI; obtain ⟨z0, z1, z2, z3⟩ := HI.out.cells; clear hI)
  by_cases hx : x1 = 0
  · subst hx
    have e1 : b1.stop = false → a.stop = false ∧ s1 = .more := fun h => by obtain ⟨h1, h2⟩ := ho1.1 h; refine ⟨h1, ?_⟩; rw [h2, HS.out h1]; rfl
    have f1 : a.stop = false → s1.t = -1 := fun h => by
      cases hb : b1.stop with
      | false => rw [(e1 hb).2]; rfl
      | true => rw [(ho1.2.2.1 hb).1, HS.out h]; rfl
    go_wp2_with fail
    refine (dl_run HI.out 15 (fun h => by rw [(e1 h).2, ← w15]; rfl)).mono ?_
    rintro e w3 ⟨b2, s2, x2, rfl, hI, ho2⟩
    (have HI := hid hI; obtain ⟨z0, z1, z2, z3⟩ := HI.out.cells; clear hI)
    by_cases hl : x2 < T
    · have d1 : decide (x2 < T) = true := decide_eq_true hl
      have hx2 := ho2.2.1
      have n2 : IntKind.u64.wrap (x2 + 1) = x2 + 1 := by rw [IntKind.wrap_u64]; omega
      have n3 : IntKind.i64.wrap x2 = x2 := by rw [IntKind.wrap_i64]; omega
      have e2 : b2.stop = false → a.stop = false ∧ s2 = .mk (x2 + 1) := fun h => by
        obtain ⟨h1, h2⟩ := ho2.1 h
        refine ⟨(e1 h1).1, ?_⟩
        rw [h2, (e1 h1).2]
        show (if x2 < T then _ else _) = _
        rw [if_pos hl]
      have f2 : a.stop = false → s2.t = -1 := fun h => by
        cases hb : b2.stop with
        | false => rw [(e2 hb).2]; rfl
        | true => rw [(ho2.2.2.1 hb).1]; exact f1 h
      go_wp2_with fail
      refine (ds_run HI.out 15 (x2 + 1) (fun h => by rw [(e2 h).2, ← w15]; rfl)).mono ?_
      rintro e w4 ⟨rfl, b3, s3, x3, hI, ho3⟩
      have e3 : b3.stop = false → a.stop = false ∧ s3 = .got (x2 + 1) := fun h => by obtain ⟨h1, h2⟩ := ho3.1 h; refine ⟨(e2 h1).1, ?_⟩; rw [h2, (e2 h1).2]; rfl
      have f3 : b3.stop = true → a.stop = false → s3.t = -1 := fun hb h => by rw [(ho3.2.2.1 hb).1]; exact f2 h
      have k3 : nOf (x2 + 1) = x2 := nOf_succ x2 (by omega)
      (have HI := hid hI; obtain ⟨z0, z1, z2, z3⟩ := HI.out.cells; clear hI)
      cases hb : b3.stop with
      | false =>
        rw [hb] at z3
        have HE := hid (And.intro (e3 hb) k3)
        clear ho1 ho2 ho3 e1 e2 e3 f1 f2 f3 k3 hb
        go_wp2
        go_ret
        exact ⟨x2, b3, s3, rfl, HI.out.run, HI.out.kept, HI.out.ran, HI.out.good, fun _ => by rw [HE.out.1.2]; rfl, fun _ => by rw [HE.out.1.2]; exact HE.out.2.symm, fun h => absurd (HE.out.1.1.symm.trans h) (by simp)⟩
      | true =>
        rw [hb] at z3
        have HE := hid (And.intro (f3 hb) hb)
        clear ho1 ho2 ho3 e1 e2 e3 f1 f2 f3 k3 hb
        go_wp2
        go_ret
        exact ⟨-1, b3, s3, rfl, HI.out.run, HI.out.kept, HI.out.ran, HI.out.good, fun h => absurd (HE.out.2.symm.trans h) (by simp), fun h => (HE.out.1 h).symm, fun _ => rfl⟩
    · have d1 : decide (x2 < T) = false := decide_eq_false hl
      have hb2 : b2.stop = false := by
        cases hb : b2.stop with
        | false => rfl
        | true => have := (ho2.2.2.1 hb).2; omega
      obtain ⟨h1, h2⟩ := ho2.1 hb2
      have HE := hid (show s2 = .none ∧ a.stop = false from ⟨by rw [h2, (e1 h1).2]; show (if x2 < T then _ else _) = _; rw [if_neg hl], (e1 h1).1⟩)
      clear ho1 ho2 e1 f1 hb2 h1 h2
      go_wp2
      go_ret
      exact ⟨-1, b2, s2, rfl, HI.out.run, HI.out.kept, HI.out.ran, HI.out.good, fun _ => by rw [HE.out.1]; rfl, fun _ => by rw [HE.out.1]; rfl, fun _ => rfl⟩
  · have hb1 : b1.stop = false := by
      cases hb : b1.stop with
      | false => rfl
      | true => exact absurd (ho1.2.2.1 hb).2 hx
    obtain ⟨ha, h2⟩ := ho1.1 hb1
    have e1 : s1 = .sec x1 := by
      rw [h2, HS.out ha]
      show (if x1 = 0 then _ else _) = _
      rw [if_neg hx]
    have q1 : ((x1 : Int) == 0) = false := by simp [hx]
    have q2 : ((x1 : Int) != 0) = true := by simp [hx]
    have m1 : IntKind.i64.wrap (IntKind.i64.wrap x1 - 1) = nOf x1 := rfl
    have m2 : wrap64 (wrap64 x1 - 1) = nOf x1 := by unfold nOf; simp only [IntWalk.i64_left]
    have HA := hid ha
    clear ho1 hx hb1 h2 ha
    go_wp2_with fail
    (refine (threadat_run P T G _ _ _ HP.out.1 HP.out.2.2 (by omega)).mono ?_; rintro e w1 ⟨rfl, hb⟩; (have HI := hid (HI.out.quiet hb); clear hb; obtain ⟨z0, z1, z2, z3⟩ := HI.out.cells))
    go_wp2_with fail
    refine (dl_run HI.out (th P T (nOf x1) 2) (fun h => by rw [e1]; rfl)).mono ?_
    rintro e w3 ⟨b2, s2, x2, rfl, hI, ho2⟩
    have e2 : b2.stop = false → s2 = .mid x1 x2 := fun h => by obtain ⟨h1, h2⟩ := ho2.1 h; rw [h2, e1]; rfl
    have f2 : s2.t = -1 := by
      cases hb : b2.stop with
      | false => rw [e2 hb]; rfl
      | true => rw [(ho2.2.2.1 hb).1, e1]; rfl
    (have HI := hid hI; obtain ⟨z0, z1, z2, z3⟩ := HI.out.cells; clear hI)
    go_wp2_with fail
    refine (ds_run HI.out 11 x2 (fun h => by rw [e2 h, ← w11]; rfl)).mono ?_
    rintro e w4 ⟨rfl, b3, s3, x3, hI, ho3⟩
    have e3 : b3.stop = false → s3 = .inc x1 := fun h => by obtain ⟨h1, h2⟩ := ho3.1 h; rw [h2, e2 h1]; rfl
    have f3 : b3.stop = true → s3.t = -1 := fun hb => by rw [(ho3.2.2.1 hb).1]; exact f2
    (have HI := hid hI; obtain ⟨z0, z1, z2, z3⟩ := HI.out.cells; clear hI)
    cases hb : b3.stop with
    | false =>
      rw [hb] at z3
      have HE3 := hid (And.intro hb (e3 hb))
      clear ho2 ho3 e1 e2 e3 f2 f3 hb
      go_wp2_with fail
      refine (da_run HI.out 12 4294967295 (fun h => by rw [HE3.out.2, ← w12]; rfl)).mono ?_
      rintro e w5 ⟨b4, s4, x4, rfl, hI, ho4⟩
      have HE4 := hid (show (b4.stop = false → s4 = .got x1) ∧ s4.t = nOf x1 by
        have e4 : b4.stop = false → s4 = .got x1 := fun h => by obtain ⟨h1, h2⟩ := ho4.1 h; rw [h2, HE3.out.2]; rfl
        refine ⟨e4, ?_⟩
        cases hb : b4.stop with
        | false => rw [e4 hb]; rfl
        | true => rw [(ho4.2.2.1 hb).1, HE3.out.2]; rfl)
      (have HI := hid hI; obtain ⟨z0, z1, z2, z3⟩ := HI.out.cells; clear hI)
      clear ho4
      go_wp2
      go_ret
      exact ⟨_, b4, s4, rfl, HI.out.run, HI.out.kept, HI.out.ran, HI.out.good, fun h => by rw [HE4.out.1 h]; rfl, fun _ => HE4.out.2.symm, fun h => absurd (HA.out.symm.trans h) (by simp)⟩
    | true =>
      rw [hb] at z3
      have HE3 := hid (And.intro hb (f3 hb))
      clear ho2 ho3 e1 e2 e3 f2 f3 hb
      go_wp2_with fail
      refine (da_run HI.out 12 4294967295 (fun h => absurd (HE3.out.1.symm.trans h) (by simp))).mono ?_
      rintro e w5 ⟨b4, s4, x4, rfl, hI, ho4⟩
      have HE4 := hid (show b4.stop = true ∧ s4.t = -1 by
        have e4 : b4.stop = true := by
          cases hb : b4.stop with
          | true => rfl
          | false => exact absurd (HE3.out.1.symm.trans (ho4.1 hb).1) (by simp)
        exact ⟨e4, by rw [(ho4.2.2.1 e4).1]; exact HE3.out.2⟩)
      (have HI := hid hI; obtain ⟨z0, z1, z2, z3⟩ := HI.out.cells; clear hI)
      clear ho4
      go_wp2
      go_ret
      exact ⟨_, b4, s4, rfl, HI.out.run, HI.out.kept, HI.out.ran, HI.out.good, fun h => absurd (HE4.out.1.symm.trans h) (by simp), fun _ => HE4.out.2.symm, fun h => absurd (HA.out.symm.trans h) (by simp)⟩
theorem peek_range {s : St} (hw : ∀ x ∈ s.ws, 0 ≤ x ∧ x < 18446744073709551616) (a : Int) : 0 ≤ (s.peek a).1 ∧ (s.peek a).1 < 18446744073709551616 := by
  unfold St.peek
  split
  · exact word_range hw a
  · simp
/-- How many threads are to be had. -/
def spareOf (T : Int) (s : St) : Int := if 2147483648 ≤ (s.peek (wordN 12)).1 ∨ 2147483648 ≤ (s.peek (wordN 15)).1 then 0 else T + (s.peek (wordN 12)).1 - (s.peek (wordN 15)).1
theorem spare_run (l m g : Nat) (P T G : Int) (s : St) (w : World) (hL : Lay w l P T G) (hM : MemAt w m g s) :
    Calls Try.prog 71 #[.pointer (some ⟨l, 0, none⟩), .pointer (some ⟨m, 0, none⟩)] w fun e w' => e = .returned (.int .i64 (spareOf T s)) ∧ Below w.heap.size w w' := by
  have hR := hL.2
  unfold Right at hR
  have r3 : 0 ≤ (s.peek (wordN 12)).1 := by have := (peek_range hM.wf (wordN 12)); omega
  have r4 : 0 ≤ (s.peek (wordN 15)).1 := by have := (peek_range hM.wf (wordN 15)); omega
  obtain ⟨p1, hp1⟩ : ∃ q, q = s.peek (wordN 12) := ⟨_, rfl⟩
  obtain ⟨p2, hp2⟩ : ∃ q, q = s.peek (wordN 15) := ⟨_, rfl⟩
  have HS := hid (show spareOf T s = if 2147483648 ≤ p1.1 ∨ 2147483648 ≤ p2.1 then 0 else T + p1.1 - p2.1 by rw [hp1, hp2]; rfl)
  rw [← hp1] at r3
  rw [← hp2] at r4
  rw [HS.out]
  have HP1 := hid hp1
  have HP2 := hid hp2
  have HI := hid (And.intro hL hM)
  have hc0 := cfg_field1
  clear hp1 hp2 hL hM HS
  by_cases h1 : 2147483648 ≤ p1.1
  · have d1 : decide (2147483648 ≤ p1.1) = true := decide_eq_true h1
    rw [if_pos (.inl h1)]
    go_enter Try.func71, Try.ntmps71
    go_wp2_with (first | (go_at_call 168; refine (word_run _ 0 0 0 _ _).mono ?_; rintro e w2 ⟨rfl, rfl⟩) | (go_at_call 42; refine (mpeek_run m g s _ _ HI.out.2).mono ?_; rintro e w2 ⟨rfl, rfl⟩; first | rw [← HP1.out] | rw [← HP2.out]))
    go_ret
    exact ⟨rfl, Below.refl _ _⟩
  have d1 : decide (2147483648 ≤ p1.1) = false := decide_eq_false h1
  by_cases h2 : 2147483648 ≤ p2.1
  · have d2 : decide (2147483648 ≤ p2.1) = true := decide_eq_true h2
    rw [if_pos (.inr h2)]
    go_enter Try.func71, Try.ntmps71
    go_wp2_with (first | (go_at_call 168; refine (word_run _ 0 0 0 _ _).mono ?_; rintro e w2 ⟨rfl, rfl⟩) | (go_at_call 42; refine (mpeek_run m g s _ _ HI.out.2).mono ?_; rintro e w2 ⟨rfl, rfl⟩; first | rw [← HP1.out] | rw [← HP2.out]))
    go_ret
    exact ⟨rfl, Below.refl _ _⟩
  have d2 : decide (2147483648 ≤ p2.1) = false := decide_eq_false h2
  rw [if_neg (by omega)]
  have n1 : IntKind.i64.wrap p1.1 = p1.1 := by rw [IntKind.wrap_i64]; omega
  have n2 : IntKind.i64.wrap p2.1 = p2.1 := by rw [IntKind.wrap_i64]; omega
  go_enter Try.func71, Try.ntmps71
  go_wp2_with (first | (go_at_call 171; refine (config_run l P T G _ HI.out.1).mono ?_; rintro e w2 ⟨rfl, hb⟩) | (go_at_call 168; refine (word_run _ 0 0 0 _ _).mono ?_; rintro e w2 ⟨rfl, rfl⟩) | (go_at_call 42; refine (mpeek_run m g s _ _ HI.out.2).mono ?_; rintro e w2 ⟨rfl, rfl⟩; first | rw [← HP1.out] | rw [← HP2.out]))
  go_ret
  exact ⟨rfl, hb⟩
end Go.Proofs.Ytokpgbocomhpiaa.Idlem
