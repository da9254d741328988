/- The document's list of processors. -/
import Derived.Test.YtlhnnggceebpjaaGreatListPR
import Derived.Test.YtlhnnggceebpjaaGreatBase5
set_option maxRecDepth 100000
set_option maxHeartbeats 4000000
set_option linter.unusedVariables false
set_option linter.unusedSimpArgs false
namespace Go.Proofs.YtlhnnggceebpjaaGreat.Idlep
open Go.RowKit Go.Shelf Go.Proofs.YtlhnnggceebpjaaGreat.TK Go.Proofs.YtlhnnggceebpjaaGreat.Flag Go.Proofs.YtlhnnggceebpjaaGreat.Read Go.Proofs.YtlhnnggceebpjaaGreat.Grow Go.Proofs.YtlhnnggceebpjaaGreat.Words Go.Proofs.YtlhnnggceebpjaaGreat.Mem Go.Proofs.YtlhnnggceebpjaaGreat.Flow Go.Proofs.YtlhnnggceebpjaaGreat.Layout Go.Proofs.YtlhnnggceebpjaaGreat.Lock Go.Proofs.YtlhnnggceebpjaaGreat.Run Go.Proofs.YtlhnnggceebpjaaGreat.Sys Go.Proofs.YtlhnnggceebpjaaGreat.Mach Go.Proofs.YtlhnnggceebpjaaGreat.Doc Go.Proofs.YtlhnnggceebpjaaGreat.Ref05 Go.Proofs.YtlhnnggceebpjaaGreat.Bits Go.Proofs.YtlhnnggceebpjaaGreat.MapL
theorem w10 : wordN 10 = 10 := by decide
theorem w19 : wordN 19 = 19 := by decide
theorem rbit_run (p : Int) (w : World) : Calls Tryz.prog 213 #[.int .i64 p] w fun e w' => e = .returned (.int .u64 (bitOf p)) ∧ w = w' := by
  by_cases h1 : p < 0
  · have d1 : decide (p < 0) = true := decide_eq_true h1
    have HB := hid (show bitOf p = 0 by unfold bitOf; rw [if_neg (by omega)])
    rw [HB.out]
    go_enter Tryz.func213, Tryz.ntmps213
    go_wp2
    go_ret
    exact ⟨rfl, rfl⟩
  have d1 : decide (p < 0) = false := decide_eq_false h1
  by_cases h2 : 63 < p
  · have d2 : decide (63 < p) = true := decide_eq_true h2
    have HB := hid (show bitOf p = 0 by unfold bitOf; rw [if_neg (by omega)])
    rw [HB.out]
    go_enter Tryz.func213, Tryz.ntmps213
    go_wp2
    go_ret
    exact ⟨rfl, rfl⟩
  have d2 : decide (63 < p) = false := decide_eq_false h2
  obtain ⟨k, rfl⟩ : ∃ k : Nat, p = (k : Int) := ⟨p.toNat, by omega⟩
  have HB := hid (show bitOf (k : Int) = ((2 ^ k : Nat) : Int) by unfold bitOf; rw [if_pos (by omega)]; simp)
  rw [HB.out]
  go_enter Tryz.func213, Tryz.ntmps213
  go_wp2_with fail
  go_loopw [4, 3] (fun i o wr => ∃ j : Nat, j ≤ k ∧ i = .int .i64 (j : Int) ∧ o = .int .u64 ((2 ^ j : Nat) : Int) ∧ w = wr) (fun i _ _ => k - (intOf i).toNat)
  case atStart => exact ⟨0, by omega, rfl, rfl, rfl⟩
  case round =>
    obtain ⟨j, hj, rfl, rfl, rfl⟩ := hrel
    by_cases hlt : j < k
    · have hlt' : decide ((j : Int) < (k : Int)) = true := decide_eq_true (by omega)
      have hb : 2 ^ (j + 1) ≤ 2 ^ 63 := Nat.pow_le_pow_right (by omega) (by omega)
      have hs : 2 ^ (j + 1) = 2 * 2 ^ j := by rw [Nat.pow_succ, Nat.mul_comm]
      obtain ⟨m, hm⟩ : ∃ m, m = 2 ^ j := ⟨_, rfl⟩
      rw [← hm] at hs ⊢
      have hw : IntKind.u64.wrap (2 * (m : Int)) = 2 * (m : Int) := by rw [IntKind.wrap_u64]; omega
      have HM := hid hs
      clear hm hb hs
      go_wp2_with fail
      go_roundw
      case rel => exact ⟨j + 1, by omega, by go_num, by rw [HM.out]; first | rfl | (congr 1; push_cast; rfl) | simp, by first | trivial | rfl⟩
      case measure => simp [intOf]; omega
    · obtain rfl : j = k := by omega
      have hlt' : decide ((j : Int) < (j : Int)) = false := decide_eq_false (by omega)
      go_wp2
      go_ret
      exact ⟨rfl, rfl⟩
theorem rmasked_run (x p : Int) (w : World) (hx : 0 ≤ x ∧ x < 18446744073709551616) : Calls Tryz.prog 212 #[.int .u64 x, .int .i64 p] w fun e w' => e = .returned (.bool (hasB x p)) ∧ w = w' := by
  have HB := hid (fun w => rbit_run p w)
  have hr := bitOf_range p
  have HH := hid (show hasB x p = (decide (bitOf p ≠ 0) && decide (x / bitOf p % 2 = 1)) from rfl)
  rw [HH.out]
  obtain ⟨b, hbd⟩ : ∃ b, b = bitOf p := ⟨_, rfl⟩
  rw [← hbd] at HB hr ⊢
  clear hbd HH
  by_cases hb : b = 0
  · subst hb
    go_enter Tryz.func212, Tryz.ntmps212
    go_wp2_with fail
    refine (HB.out _).mono ?_
    rintro e w1 ⟨rfl, rfl⟩
    go_wp2
    go_ret
    exact ⟨by simp, rfl⟩
  · have hb1 : ((b : Int) == 0) = false := by simp [hb]
    have hb2 : ((b : Int) != 0) = true := by simp [hb]
    have hq : x.tdiv b = x / b := Int.tdiv_eq_ediv_of_nonneg hx.1
    obtain ⟨y, hy⟩ : ∃ y, y = x / b := ⟨_, rfl⟩
    have hy0 : 0 ≤ y := by rw [hy]; exact Int.ediv_nonneg hx.1 hr.1
    have hy1 : y ≤ x := by rw [hy]; exact Int.ediv_le_self _ hx.1
    have hyw : IntKind.u64.wrap y = y := by rw [IntKind.wrap_u64]; omega
    rw [← hy] at hq ⊢
    have hmod : y.tmod 2 = y % 2 := Int.tmod_eq_emod_of_nonneg hy0
    have HD := hid (show decide (b ≠ 0) = true from decide_eq_true hb)
    clear hy
    by_cases hm : y % 2 = 1
    · have HM := hid (decide_eq_true hm)
      go_enter Tryz.func212, Tryz.ntmps212
      go_wp2_with (first | (refine (HB.out _).mono ?_; rintro e w1 ⟨rfl, rfl⟩))
      go_ret
      exact ⟨ret_bool (by rw [HD.out, HM.out]; rfl), rfl⟩
    · have hm0 : y % 2 = 0 := by omega
      have HM := hid (decide_eq_false hm)
      clear hm
      go_enter Tryz.func212, Tryz.ntmps212
      go_wp2_with (first | (refine (HB.out _).mono ?_; rintro e w1 ⟨rfl, rfl⟩))
      go_ret
      exact ⟨ret_bool (by rw [HD.out, HM.out]; rfl), rfl⟩
theorem setB_no {x p : Int} (hx : 0 ≤ x ∧ x < 18446744073709551616) (h : hasB x p = false) : setB x p = x + bitOf p ∧ x + bitOf p < 18446744073709551616 := by
  have h2 := setB_range x p hx
  have h1 : setB x p = x + bitOf p := by unfold setB; rw [h]; rfl
  rw [h1] at h2
  exact ⟨h1, h2.2⟩
theorem delB_yes {x p : Int} (hx : 0 ≤ x ∧ x < 18446744073709551616) (h : hasB x p = true) : delB x p = x - bitOf p ∧ 0 ≤ x - bitOf p := by
  have h2 := delB_range x p hx
  have h1 : delB x p = x - bitOf p := by unfold delB; rw [h]; rfl
  rw [h1] at h2
  exact ⟨h1, h2.1⟩
theorem rput17_run (l : Nat) (P T G p : Int) (B r : Nat) (v : Value) (a : RunSt) (got : List Int) (s0 : PpSt) (w : World) (h : RunAt w B r v a) (hg : Fits got a) (hs : a.stop = false → s0 = .a) (hP : 0 ≤ P ∧ P ≤ 1000) :
    Calls Tryz.prog 272 #[.pointer (some ⟨r, 0, none⟩), .agg #[.int .i64 P, .int .i64 T, .int .i64 G], .int .i64 p] w fun e w' => ∃ q b s1, e = .returned (.int .i64 q) ∧ RunAt w' B r v b ∧ Kept [r] w w' ∧ Ran (ppM l P p).sys got s0 a s1 b ∧ Fits got b ∧ (b.stop = false → (ppM l P p).sys.want s1 = none) ∧ (a.stop = false → q = s1.h p) := by
  have HI := hid (DI.start (M := (ppM l P p).sys) (P := P) (T := T) (G := G) h hg s0)
  have HP := hid (And.intro hP trivial)
  have HS := hid hs
  obtain ⟨z0, z1, z2, z3⟩ := HI.out.cells
  have n1 : IntKind.u64.wrap (IntKind.u64.wrap p + 1) = u1 p := rfl
  clear h hg hs hP
  go_enter Tryz.func272, Tryz.ntmps272
  go_wp2_with fail
  refine (dl_run HI.out 19 (fun h => by rw [HS.out h, ← w19]; rfl)).mono ?_
  rintro e w2 ⟨b1, s1, x1, rfl, hI, ho1⟩
  have E1 := hid (show b1.stop = false → a.stop = false ∧ s1 = .b x1 from fun h => by obtain ⟨h1, h2⟩ := ho1.1 h; refine ⟨h1, ?_⟩; rw [h2, HS.out h1]; rfl)
  have F1 := hid (show a.stop = false → s1.h p = p from fun h => by
    cases hb : b1.stop with
    | false => rw [(E1.out hb).2]; rfl
    | true => rw [(ho1.2.2.1 hb).1, HS.out h]; rfl)
  have hx1 := ho1.2.1
  (have HI := hid hI; obtain ⟨z0, z1, z2, z3⟩ := HI.out.cells; clear hI)
  clear ho1
  go_wp2_with fail
  refine (rmasked_run x1 p _ hx1).mono ?_
  rintro e w3 ⟨rfl, rfl⟩
  cases hh : hasB x1 p with
  | true =>
    have hsb : setB x1 p = x1 := by unfold setB; rw [hh]; rfl
    have HSB := hid hsb
    clear hh hsb
    go_wp2_with fail
    refine (ds_run HI.out 19 _ (fun h => by rw [(E1.out h).2, ← w19]; first | rfl | exact congrArg (fun z => some (Wnt.mk 2 (wordN 19) 0 z false)) HSB.out)).mono ?_
    rintro e w4 ⟨rfl, b2, s2, x2, hI, ho2⟩
    have e2 : b2.stop = false → a.stop = false ∧ s2 = .c := fun h => by obtain ⟨h1, h2⟩ := ho2.1 h; refine ⟨(E1.out h1).1, ?_⟩; rw [h2, (E1.out h1).2]; rfl
    have f2 : a.stop = false → s2.h p = p := fun h => by
      cases hb : b2.stop with
      | false => rw [(e2 hb).2]; rfl
      | true => rw [(ho2.2.2.1 hb).1]; exact F1.out h
    (have HI := hid hI; obtain ⟨z0, z1, z2, z3⟩ := HI.out.cells; clear hI)
    clear ho2
    go_wp2_with fail
    refine (dl_run HI.out 9 (fun h => by rw [(e2 h).2, ← w9]; rfl)).mono ?_
    rintro e w5 ⟨b3, s3, x3, rfl, hI, ho3⟩
    have e3 : b3.stop = false → a.stop = false ∧ s3 = .d x3 := fun h => by obtain ⟨h1, h2⟩ := ho3.1 h; refine ⟨(e2 h1).1, ?_⟩; rw [h2, (e2 h1).2]; rfl
    have f3 : a.stop = false → s3.h p = p := fun h => by
      cases hb : b3.stop with
      | false => rw [(e3 hb).2]; rfl
      | true => rw [(ho3.2.2.1 hb).1]; exact f2 h
    (have HI := hid hI; obtain ⟨z0, z1, z2, z3⟩ := HI.out.cells; clear hI)
    clear ho3 e2 f2
    go_wp2_with fail
    (refine (procat_run P T G _ _ _ HP.out.1 (by omega)).mono ?_; rintro e w1 ⟨rfl, hb⟩; (have HI := hid (HI.out.quiet hb); clear hb; obtain ⟨z0, z1, z2, z3⟩ := HI.out.cells))
    go_wp2_with fail
    refine (ds_run HI.out (pr P p 7) x3 (fun h => by rw [(e3 h).2]; rfl)).mono ?_
    rintro e w6 ⟨rfl, b4, s4, x4, hI, ho4⟩
    have e4 : b4.stop = false → a.stop = false ∧ s4 = .e := fun h => by obtain ⟨h1, h2⟩ := ho4.1 h; refine ⟨(e3 h1).1, ?_⟩; rw [h2, (e3 h1).2]; rfl
    have f4 : a.stop = false → s4.h p = p := fun h => by
      cases hb : b4.stop with
      | false => rw [(e4 hb).2]; rfl
      | true => rw [(ho4.2.2.1 hb).1]; exact f3 h
    (have HI := hid hI; obtain ⟨z0, z1, z2, z3⟩ := HI.out.cells; clear hI)
    clear ho4 e3 f3
    go_wp2_with fail
    refine (ds_run HI.out 9 (u1 p) (fun h => by rw [(e4 h).2, ← w9]; rfl)).mono ?_
    rintro e w7 ⟨rfl, b5, s5, x5, hI, ho5⟩
    have e5 : b5.stop = false → a.stop = false ∧ s5 = .f := fun h => by obtain ⟨h1, h2⟩ := ho5.1 h; refine ⟨(e4 h1).1, ?_⟩; rw [h2, (e4 h1).2]; rfl
    have f5 : b5.stop = true → a.stop = false → s5.h p = p := fun hb h => by rw [(ho5.2.2.1 hb).1]; exact f4 h
    (have HI := hid hI; obtain ⟨z0, z1, z2, z3⟩ := HI.out.cells; clear hI)
    clear ho5 e4 f4
    cases hb : b5.stop with
    | false =>
      rw [hb] at z3
      have HE := hid (And.intro hb (e5 hb))
      clear e5 f5 hb
      go_wp2_with fail
      refine (da_run HI.out 10 1 (fun h => by rw [HE.out.2.2, ← w10]; rfl)).mono ?_
      rintro e w8 ⟨b6, s6, x6, rfl, hI, ho6⟩
      have HE6 := hid (show (b6.stop = false → s6 = .done) ∧ s6.h p = -1 by
        have e6 : b6.stop = false → s6 = .done := fun h => by obtain ⟨h1, h2⟩ := ho6.1 h; rw [h2, HE.out.2.2]; rfl
        refine ⟨e6, ?_⟩
        cases hb : b6.stop with
        | false => rw [e6 hb]; rfl
        | true => rw [(ho6.2.2.1 hb).1, HE.out.2.2]; rfl)
      (have HI := hid hI; obtain ⟨z0, z1, z2, z3⟩ := HI.out.cells; clear hI)
      clear ho6
      go_wp2
      go_ret
      exact ⟨_, b6, s6, rfl, HI.out.run, HI.out.kept, HI.out.ran, HI.out.good, fun h => by rw [HE6.out.1 h]; rfl, fun _ => HE6.out.2.symm⟩
    | true =>
      rw [hb] at z3
      have HE := hid (And.intro hb (f5 hb))
      clear e5 f5 hb
      go_wp2_with fail
      refine (da_run HI.out 10 1 (fun h => absurd (HE.out.1.symm.trans h) (by simp))).mono ?_
      rintro e w8 ⟨b6, s6, x6, rfl, hI, ho6⟩
      have HE6 := hid (show b6.stop = true ∧ s6 = s5 by
        have e6 : b6.stop = true := by
          cases hb : b6.stop with
          | true => rfl
          | false => exact absurd (HE.out.1.symm.trans (ho6.1 hb).1) (by simp)
        exact ⟨e6, (ho6.2.2.1 e6).1⟩)
      (have HI := hid hI; obtain ⟨z0, z1, z2, z3⟩ := HI.out.cells; clear hI)
      clear ho6
      go_wp2
      go_ret
      exact ⟨_, b6, s6, rfl, HI.out.run, HI.out.kept, HI.out.ran, HI.out.good, fun h => absurd (HE6.out.1.symm.trans h) (by simp), fun h => by rw [HE6.out.2]; exact (HE.out.2 h).symm⟩
  | false =>
    obtain ⟨hsb, hlt⟩ := setB_no hx1 hh
    have hbr := bitOf_range p
    have HBT := hid (fun w => rbit_run p w)
    have nw : IntKind.u64.wrap (x1 + bitOf p) = setB x1 p := by rw [hsb, IntKind.wrap_u64]; omega
    obtain ⟨bb, hbb⟩ : ∃ bb, bb = bitOf p := ⟨_, rfl⟩
    rw [← hbb] at nw HBT
    clear hh hsb hlt hbr hbb
    go_wp2_with fail
    refine (HBT.out _).mono ?_
    rintro e w9 ⟨rfl, rfl⟩
    go_wp2_with fail
    refine (ds_run HI.out 19 _ (fun h => by rw [(E1.out h).2, ← w19]; first | rfl | exact congrArg (fun z => some (Wnt.mk 2 (wordN 19) 0 z false)) HSB.out)).mono ?_
    rintro e w4 ⟨rfl, b2, s2, x2, hI, ho2⟩
    have e2 : b2.stop = false → a.stop = false ∧ s2 = .c := fun h => by obtain ⟨h1, h2⟩ := ho2.1 h; refine ⟨(E1.out h1).1, ?_⟩; rw [h2, (E1.out h1).2]; rfl
    have f2 : a.stop = false → s2.h p = p := fun h => by
      cases hb : b2.stop with
      | false => rw [(e2 hb).2]; rfl
      | true => rw [(ho2.2.2.1 hb).1]; exact F1.out h
    (have HI := hid hI; obtain ⟨z0, z1, z2, z3⟩ := HI.out.cells; clear hI)
    clear ho2
    go_wp2_with fail
    refine (dl_run HI.out 9 (fun h => by rw [(e2 h).2, ← w9]; rfl)).mono ?_
    rintro e w5 ⟨b3, s3, x3, rfl, hI, ho3⟩
    have e3 : b3.stop = false → a.stop = false ∧ s3 = .d x3 := fun h => by obtain ⟨h1, h2⟩ := ho3.1 h; refine ⟨(e2 h1).1, ?_⟩; rw [h2, (e2 h1).2]; rfl
    have f3 : a.stop = false → s3.h p = p := fun h => by
      cases hb : b3.stop with
      | false => rw [(e3 hb).2]; rfl
      | true => rw [(ho3.2.2.1 hb).1]; exact f2 h
    (have HI := hid hI; obtain ⟨z0, z1, z2, z3⟩ := HI.out.cells; clear hI)
    clear ho3 e2 f2
    go_wp2_with fail
    (refine (procat_run P T G _ _ _ HP.out.1 (by omega)).mono ?_; rintro e w1 ⟨rfl, hb⟩; (have HI := hid (HI.out.quiet hb); clear hb; obtain ⟨z0, z1, z2, z3⟩ := HI.out.cells))
    go_wp2_with fail
    refine (ds_run HI.out (pr P p 7) x3 (fun h => by rw [(e3 h).2]; rfl)).mono ?_
    rintro e w6 ⟨rfl, b4, s4, x4, hI, ho4⟩
    have e4 : b4.stop = false → a.stop = false ∧ s4 = .e := fun h => by obtain ⟨h1, h2⟩ := ho4.1 h; refine ⟨(e3 h1).1, ?_⟩; rw [h2, (e3 h1).2]; rfl
    have f4 : a.stop = false → s4.h p = p := fun h => by
      cases hb : b4.stop with
      | false => rw [(e4 hb).2]; rfl
      | true => rw [(ho4.2.2.1 hb).1]; exact f3 h
    (have HI := hid hI; obtain ⟨z0, z1, z2, z3⟩ := HI.out.cells; clear hI)
    clear ho4 e3 f3
    go_wp2_with fail
    refine (ds_run HI.out 9 (u1 p) (fun h => by rw [(e4 h).2, ← w9]; rfl)).mono ?_
    rintro e w7 ⟨rfl, b5, s5, x5, hI, ho5⟩
    have e5 : b5.stop = false → a.stop = false ∧ s5 = .f := fun h => by obtain ⟨h1, h2⟩ := ho5.1 h; refine ⟨(e4 h1).1, ?_⟩; rw [h2, (e4 h1).2]; rfl
    have f5 : b5.stop = true → a.stop = false → s5.h p = p := fun hb h => by rw [(ho5.2.2.1 hb).1]; exact f4 h
    (have HI := hid hI; obtain ⟨z0, z1, z2, z3⟩ := HI.out.cells; clear hI)
    clear ho5 e4 f4
    cases hb : b5.stop with
    | false =>
      rw [hb] at z3
      have HE := hid (And.intro hb (e5 hb))
      clear e5 f5 hb
      go_wp2_with fail
      refine (da_run HI.out 10 1 (fun h => by rw [HE.out.2.2, ← w10]; rfl)).mono ?_
      rintro e w8 ⟨b6, s6, x6, rfl, hI, ho6⟩
      have HE6 := hid (show (b6.stop = false → s6 = .done) ∧ s6.h p = -1 by
        have e6 : b6.stop = false → s6 = .done := fun h => by obtain ⟨h1, h2⟩ := ho6.1 h; rw [h2, HE.out.2.2]; rfl
        refine ⟨e6, ?_⟩
        cases hb : b6.stop with
        | false => rw [e6 hb]; rfl
        | true => rw [(ho6.2.2.1 hb).1, HE.out.2.2]; rfl)
      (have HI := hid hI; obtain ⟨z0, z1, z2, z3⟩ := HI.out.cells; clear hI)
      clear ho6
      go_wp2
      go_ret
      exact ⟨_, b6, s6, rfl, HI.out.run, HI.out.kept, HI.out.ran, HI.out.good, fun h => by rw [HE6.out.1 h]; rfl, fun _ => HE6.out.2.symm⟩
    | true =>
      rw [hb] at z3
      have HE := hid (And.intro hb (f5 hb))
      clear e5 f5 hb
      go_wp2_with fail
      refine (da_run HI.out 10 1 (fun h => absurd (HE.out.1.symm.trans h) (by simp))).mono ?_
      rintro e w8 ⟨b6, s6, x6, rfl, hI, ho6⟩
      have HE6 := hid (show b6.stop = true ∧ s6 = s5 by
        have e6 : b6.stop = true := by
          cases hb : b6.stop with
          | true => rfl
          | false => exact absurd (HE.out.1.symm.trans (ho6.1 hb).1) (by simp)
        exact ⟨e6, (ho6.2.2.1 e6).1⟩)
      (have HI := hid hI; obtain ⟨z0, z1, z2, z3⟩ := HI.out.cells; clear hI)
      clear ho6
      go_wp2
      go_ret
      exact ⟨_, b6, s6, rfl, HI.out.run, HI.out.kept, HI.out.ran, HI.out.good, fun h => absurd (HE6.out.1.symm.trans h) (by simp), fun h => by rw [HE6.out.2]; exact (HE.out.2 h).symm⟩
end Go.Proofs.YtlhnnggceebpjaaGreat.Idlep
