/- The document's getting of a processor. -/
import Derived.Test.YtlhnnggceebpjaaGreatIdlepB
set_option maxRecDepth 100000
set_option maxHeartbeats 4000000
set_option linter.unusedVariables false
set_option linter.unusedSimpArgs false
namespace Go.Proofs.YtlhnnggceebpjaaGreat.Idlep
open Go.RowKit Go.Shelf Go.Proofs.YtlhnnggceebpjaaGreat.TK Go.Proofs.YtlhnnggceebpjaaGreat.Flag Go.Proofs.YtlhnnggceebpjaaGreat.Read Go.Proofs.YtlhnnggceebpjaaGreat.Grow Go.Proofs.YtlhnnggceebpjaaGreat.Words Go.Proofs.YtlhnnggceebpjaaGreat.Mem Go.Proofs.YtlhnnggceebpjaaGreat.Flow Go.Proofs.YtlhnnggceebpjaaGreat.Layout Go.Proofs.YtlhnnggceebpjaaGreat.Lock Go.Proofs.YtlhnnggceebpjaaGreat.Run Go.Proofs.YtlhnnggceebpjaaGreat.Sys Go.Proofs.YtlhnnggceebpjaaGreat.Mach Go.Proofs.YtlhnnggceebpjaaGreat.Doc Go.Proofs.YtlhnnggceebpjaaGreat.Ref05 Go.Proofs.YtlhnnggceebpjaaGreat.Bits Go.Proofs.YtlhnnggceebpjaaGreat.MapL
theorem rget17_run (l : Nat) (P T G : Int) (B r : Nat) (v : Value) (a : RunSt) (got : List Int) (s0 : PgSt) (w : World) (h : RunAt w B r v a) (hg : Fits got a) (hs : a.stop = false → s0 = .h) (hP : 0 ≤ P ∧ P ≤ 1000) :
    Calls Tryz.prog 145 #[.pointer (some ⟨r, 0, none⟩), .agg #[.int .i64 P, .int .i64 T, .int .i64 G]] w fun e w' => ∃ q b s1, e = .returned (.int .i64 q) ∧ RunAt w' B r v b ∧ Kept [r] w w' ∧ Ran (pgM l P).sys got s0 a s1 b ∧ Fits got b ∧ (b.stop = false → (pgM l P).sys.want s1 = none) ∧ (a.stop = false → q = s1.p) := by
  have HI := hid (DI.start (M := (pgM l P).sys) (P := P) (T := T) (G := G) h hg s0)
  have HP := hid (And.intro hP trivial)
  have HS := hid hs
  obtain ⟨z0, z1, z2, z3⟩ := HI.out.cells
  clear h hg hs hP
  go_enter Tryz.func145, Tryz.ntmps145
  go_wp2_with fail
  refine (dl_run HI.out 9 (fun h => by rw [HS.out h, ← w9]; rfl)).mono ?_
  rintro e w2 ⟨b1, s1, x1, rfl, hI, ho1⟩
  (have HI := hid hI; obtain ⟨z0, z1, z2, z3⟩ := HI.out.cells; clear hI)
  by_cases hx : x1 = 0
  · subst hx
    have HE := hid (show (b1.stop = false → s1 = .none) ∧ (a.stop = false → s1.p = -1) by
      have e1 : b1.stop = false → a.stop = false ∧ s1 = .none := fun h => by obtain ⟨h1, h2⟩ := ho1.1 h; refine ⟨h1, ?_⟩; rw [h2, HS.out h1]; show pgNext .h 0 = _; simp [pgNext]
      refine ⟨fun h => (e1 h).2, fun h => ?_⟩
      cases hb : b1.stop with
      | false => rw [(e1 hb).2]; rfl
      | true => rw [(ho1.2.2.1 hb).1, HS.out h]; rfl)
    clear ho1
    go_wp2
    go_ret
    exact ⟨-1, b1, s1, rfl, HI.out.run, HI.out.kept, HI.out.ran, HI.out.good, fun h => by rw [HE.out.1 h]; rfl, fun h => (HE.out.2 h).symm⟩
  · have hb1 : b1.stop = false := by
      cases hb : b1.stop with
      | false => rfl
      | true => exact absurd (ho1.2.2.1 hb).2 hx
    obtain ⟨ha, h2⟩ := ho1.1 hb1
    have e1 : s1 = .b x1 := by
      rw [h2, HS.out ha]
      show pgNext .h x1 = _
      simp [pgNext, hx]
    have q1 : ((x1 : Int) == 0) = false := by simp [hx]
    have m1 : IntKind.i64.wrap (IntKind.i64.wrap x1 - 1) = nOf x1 := rfl
    have m2 : wrap64 (wrap64 x1 - 1) = nOf x1 := by unfold nOf; simp only [IntWalk.i64_left]
    clear ho1 hx hb1 h2
    go_wp2_with fail
    (refine (procat_run P T G _ _ _ HP.out.1 (by omega)).mono ?_; rintro e w1 ⟨rfl, hb⟩; (have HI := hid (HI.out.quiet hb); clear hb; obtain ⟨z0, z1, z2, z3⟩ := HI.out.cells))
    go_wp2_with fail
    refine (dl_run HI.out (pr P (nOf x1) 7) (fun h => by rw [e1]; rfl)).mono ?_
    rintro e w3 ⟨b2, s2, x2, rfl, hI, ho2⟩
    have e2 : b2.stop = false → s2 = .c x1 x2 := fun h => by obtain ⟨h1, h2⟩ := ho2.1 h; rw [h2, e1]; rfl
    have f2 : s2.p = -1 := by
      cases hb : b2.stop with
      | false => rw [e2 hb]; rfl
      | true => rw [(ho2.2.2.1 hb).1, e1]; rfl
    (have HI := hid hI; obtain ⟨z0, z1, z2, z3⟩ := HI.out.cells; clear hI)
    clear ho2
    go_wp2_with fail
    refine (dl_run HI.out 19 (fun h => by rw [e2 h, ← w19]; rfl)).mono ?_
    rintro e w4 ⟨b3, s3, x3, rfl, hI, ho3⟩
    have E3 := hid (show b3.stop = false → s3 = .d x1 x2 x3 from fun h => by obtain ⟨h1, h2⟩ := ho3.1 h; rw [h2, e2 h1]; rfl)
    have F3 := hid (show s3.p = -1 by
      cases hb : b3.stop with
      | false => rw [E3.out hb]; rfl
      | true => rw [(ho3.2.2.1 hb).1]; exact f2)
    have hx3 := ho3.2.1
    (have HI := hid hI; obtain ⟨z0, z1, z2, z3⟩ := HI.out.cells; clear hI)
    clear ho3 e2 f2 e1 ha
    go_wp2_with fail
    refine (rmasked_run x3 (nOf x1) _ hx3).mono ?_
    rintro e w5 ⟨rfl, rfl⟩
    cases hh : hasB x3 (nOf x1) with
    | false =>
      have hsb : delB x3 (nOf x1) = x3 := by unfold delB; rw [hh]; rfl
      have HSB := hid hsb
      clear hh hsb
      go_wp2_with fail
      refine (ds_run HI.out 19 _ (fun h => by rw [E3.out h, ← w19]; first | rfl | exact congrArg (fun z => some (Wnt.mk 2 (wordN 19) 0 z false)) HSB.out)).mono ?_
      rintro e w6 ⟨rfl, b4, s4, x4, hI, ho4⟩
      have e4 : b4.stop = false → s4 = .e x1 x2 := fun h => by obtain ⟨h1, h2⟩ := ho4.1 h; rw [h2, E3.out h1]; rfl
      have f4 : s4.p = -1 := by
        cases hb : b4.stop with
        | false => rw [e4 hb]; rfl
        | true => rw [(ho4.2.2.1 hb).1]; exact F3.out
      (have HI := hid hI; obtain ⟨z0, z1, z2, z3⟩ := HI.out.cells; clear hI)
      clear ho4
      go_wp2_with fail
      refine (ds_run HI.out 9 x2 (fun h => by rw [e4 h, ← w9]; rfl)).mono ?_
      rintro e w7 ⟨rfl, b5, s5, x5, hI, ho5⟩
      have e5 : b5.stop = false → s5 = .f x1 x2 := fun h => by obtain ⟨h1, h2⟩ := ho5.1 h; rw [h2, e4 h1]; rfl
      have f5 : b5.stop = true → s5.p = -1 := fun hb => by rw [(ho5.2.2.1 hb).1]; exact f4
      (have HI := hid hI; obtain ⟨z0, z1, z2, z3⟩ := HI.out.cells; clear hI)
      clear ho5 e4 f4
      cases hb : b5.stop with
      | false =>
        rw [hb] at z3
        have HE := hid (And.intro hb (e5 hb))
        clear e5 f5 hb
        go_wp2_with fail
        refine (da_run HI.out 10 4294967295 (fun h => by rw [HE.out.2, ← w10]; rfl)).mono ?_
        rintro e w8 ⟨b6, s6, x6, rfl, hI, ho6⟩
        have HE6 := hid (show (b6.stop = false → s6 = .got x1 x2) ∧ s6.p = nOf x1 by
          have e6 : b6.stop = false → s6 = .got x1 x2 := fun h => by obtain ⟨h1, h2⟩ := ho6.1 h; rw [h2, HE.out.2]; rfl
          refine ⟨e6, ?_⟩
          cases hb : b6.stop with
          | false => rw [e6 hb]; rfl
          | true => rw [(ho6.2.2.1 hb).1, HE.out.2]; rfl)
        (have HI := hid hI; obtain ⟨z0, z1, z2, z3⟩ := HI.out.cells; clear hI)
        clear ho6
        go_wp2
        go_ret
        exact ⟨_, b6, s6, rfl, HI.out.run, HI.out.kept, HI.out.ran, HI.out.good, fun h => by rw [HE6.out.1 h]; rfl, fun _ => HE6.out.2.symm⟩
      | true =>
        rw [hb] at z3
        have HE := hid (And.intro hb (f5 hb))
        clear e5 f5 hb
        go_wp2_with fail
        refine (da_run HI.out 10 4294967295 (fun h => absurd (HE.out.1.symm.trans h) (by simp))).mono ?_
        rintro e w8 ⟨b6, s6, x6, rfl, hI, ho6⟩
        have HE6 := hid (show b6.stop = true ∧ s6.p = -1 by
          have e6 : b6.stop = true := by
            cases hb : b6.stop with
            | true => rfl
            | false => exact absurd (HE.out.1.symm.trans (ho6.1 hb).1) (by simp)
          exact ⟨e6, by rw [(ho6.2.2.1 e6).1]; exact HE.out.2⟩)
        (have HI := hid hI; obtain ⟨z0, z1, z2, z3⟩ := HI.out.cells; clear hI)
        clear ho6
        go_wp2
        go_ret
        exact ⟨_, b6, s6, rfl, HI.out.run, HI.out.kept, HI.out.ran, HI.out.good, fun h => absurd (HE6.out.1.symm.trans h) (by simp), fun _ => HE6.out.2.symm⟩
    | true =>
      obtain ⟨hsb, hlt⟩ := delB_yes hx3 hh
      have hbr := bitOf_range (nOf x1)
      have HBT := hid (fun w => rbit_run (nOf x1) w)
      have nw : IntKind.u64.wrap (x3 - bitOf (nOf x1)) = delB x3 (nOf x1) := by rw [hsb, IntKind.wrap_u64]; omega
      obtain ⟨bb, hbb⟩ : ∃ bb, bb = bitOf (nOf x1) := ⟨_, rfl⟩
      rw [← hbb] at nw HBT
      clear hh hsb hlt hbr hbb
      go_wp2_with fail
      refine (HBT.out _).mono ?_
      rintro e w9 ⟨rfl, rfl⟩
      go_wp2_with fail
      refine (ds_run HI.out 19 _ (fun h => by rw [E3.out h, ← w19]; first | rfl | exact congrArg (fun z => some (Wnt.mk 2 (wordN 19) 0 z false)) HSB.out)).mono ?_
      rintro e w6 ⟨rfl, b4, s4, x4, hI, ho4⟩
      have e4 : b4.stop = false → s4 = .e x1 x2 := fun h => by obtain ⟨h1, h2⟩ := ho4.1 h; rw [h2, E3.out h1]; rfl
      have f4 : s4.p = -1 := by
        cases hb : b4.stop with
        | false => rw [e4 hb]; rfl
        | true => rw [(ho4.2.2.1 hb).1]; exact F3.out
      (have HI := hid hI; obtain ⟨z0, z1, z2, z3⟩ := HI.out.cells; clear hI)
      clear ho4
      go_wp2_with fail
      refine (ds_run HI.out 9 x2 (fun h => by rw [e4 h, ← w9]; rfl)).mono ?_
      rintro e w7 ⟨rfl, b5, s5, x5, hI, ho5⟩
      have e5 : b5.stop = false → s5 = .f x1 x2 := fun h => by obtain ⟨h1, h2⟩ := ho5.1 h; rw [h2, e4 h1]; rfl
      have f5 : b5.stop = true → s5.p = -1 := fun hb => by rw [(ho5.2.2.1 hb).1]; exact f4
      (have HI := hid hI; obtain ⟨z0, z1, z2, z3⟩ := HI.out.cells; clear hI)
      clear ho5 e4 f4
      cases hb : b5.stop with
      | false =>
        rw [hb] at z3
        have HE := hid (And.intro hb (e5 hb))
        clear e5 f5 hb
        go_wp2_with fail
        refine (da_run HI.out 10 4294967295 (fun h => by rw [HE.out.2, ← w10]; rfl)).mono ?_
        rintro e w8 ⟨b6, s6, x6, rfl, hI, ho6⟩
        have HE6 := hid (show (b6.stop = false → s6 = .got x1 x2) ∧ s6.p = nOf x1 by
          have e6 : b6.stop = false → s6 = .got x1 x2 := fun h => by obtain ⟨h1, h2⟩ := ho6.1 h; rw [h2, HE.out.2]; rfl
          refine ⟨e6, ?_⟩
          cases hb : b6.stop with
          | false => rw [e6 hb]; rfl
          | true => rw [(ho6.2.2.1 hb).1, HE.out.2]; rfl)
        (have HI := hid hI; obtain ⟨z0, z1, z2, z3⟩ := HI.out.cells; clear hI)
        clear ho6
        go_wp2
        go_ret
        exact ⟨_, b6, s6, rfl, HI.out.run, HI.out.kept, HI.out.ran, HI.out.good, fun h => by rw [HE6.out.1 h]; rfl, fun _ => HE6.out.2.symm⟩
      | true =>
        rw [hb] at z3
        have HE := hid (And.intro hb (f5 hb))
        clear e5 f5 hb
        go_wp2_with fail
        refine (da_run HI.out 10 4294967295 (fun h => absurd (HE.out.1.symm.trans h) (by simp))).mono ?_
        rintro e w8 ⟨b6, s6, x6, rfl, hI, ho6⟩
        have HE6 := hid (show b6.stop = true ∧ s6.p = -1 by
          have e6 : b6.stop = true := by
            cases hb : b6.stop with
            | true => rfl
            | false => exact absurd (HE.out.1.symm.trans (ho6.1 hb).1) (by simp)
          exact ⟨e6, by rw [(ho6.2.2.1 e6).1]; exact HE.out.2⟩)
        (have HI := hid hI; obtain ⟨z0, z1, z2, z3⟩ := HI.out.cells; clear hI)
        clear ho6
        go_wp2
        go_ret
        exact ⟨_, b6, s6, rfl, HI.out.run, HI.out.kept, HI.out.ran, HI.out.good, fun h => absurd (HE6.out.1.symm.trans h) (by simp), fun _ => HE6.out.2.symm⟩
end Go.Proofs.YtlhnnggceebpjaaGreat.Idlep
