/- The document's getting and putting back of a goroutine. -/
import Derived.Test.YtncmajflakkibaaGfree
import Derived.Test.YtncmajflakkibaaDocSub
set_option maxRecDepth 100000
set_option maxHeartbeats 4000000
set_option linter.unusedVariables false
set_option linter.unusedSimpArgs false
namespace Go.Proofs.Ytncmajflakkibaa.Gfree
open Go.RowKit Go.Shelf Go.Proofs.Ytncmajflakkibaa.TK Go.Proofs.Ytncmajflakkibaa.Flag Go.Proofs.Ytncmajflakkibaa.Read Go.Proofs.Ytncmajflakkibaa.Grow Go.Proofs.Ytncmajflakkibaa.Words Go.Proofs.Ytncmajflakkibaa.Mem Go.Proofs.Ytncmajflakkibaa.Flow Go.Proofs.Ytncmajflakkibaa.Layout Go.Proofs.Ytncmajflakkibaa.Lock Go.Proofs.Ytncmajflakkibaa.Run Go.Proofs.Ytncmajflakkibaa.Sys Go.Proofs.Ytncmajflakkibaa.Mach Go.Proofs.Ytncmajflakkibaa.Doc Go.Proofs.Ytncmajflakkibaa.Ref05
theorem w16 : wordN 16 = 16 := by decide
theorem w17 : wordN 17 = 17 := by decide
theorem gg_embA (P T G who : Int) (l : Nat) : Emb (ggY P T G who) (aqM l 1 who).sys (fun _ => GgSt.f) GgSt.acq := fun s W h => ⟨h, fun a => rfl⟩
theorem gg_embR (P T G who wd g : Int) (l : Nat) : Emb (ggY P T G who) (rlM l 1).sys (fun _ => GgSt.done wd g) (GgSt.rel wd g) := fun s W h => ⟨h, fun a => rfl⟩
/-- What is known ahead of the release. -/
def Tail (a b : RunSt) (s : GgSt) (gt : Int) : Prop := (b.stop = false → a.stop = false ∧ ∃ wd g, s = .rel wd g .puts ∧ (gt ≠ 0 → g = nOf gt) ∧ (gt = 0 → g = -1)) ∧ (b.stop = true → a.stop = false → ggG s = -1)
theorem rel_g (l : Nat) (wd g : Int) (q : RlSt) : ggG (runs (rlM l 1).sys (fun _ => GgSt.done wd g) (GgSt.rel wd g) q) = g := by
  unfold runs
  split <;> rfl
theorem acq_g (l : Nat) (who : Int) (q : AcqSt) : ggG (runs (aqM l 1 who).sys (fun _ => GgSt.f) GgSt.acq q) = -1 := by
  unfold runs
  split <;> rfl
theorem rget11_run (P T G who : Int) (B r : Nat) (v : Value) (a : RunSt) (got : List Int) (s0 : GgSt) (w : World) (h : RunAt w B r v a) (hg : Fits got a) (hs : a.stop = false → s0 = .acq .ask) (hP : (0 ≤ P ∧ P ≤ 1000) ∧ (0 ≤ T ∧ T ≤ 1000) ∧ G ≤ 100000) (hG : 1 ≤ G) (hw : 0 ≤ who ∧ who ≤ 1000) :
    Calls Try.prog 49 #[.pointer (some ⟨r, 0, none⟩), .agg #[.int .i64 P, .int .i64 T, .int .i64 G], .int .i64 who] w fun e w' => ∃ gt hd b s1, e = .returned (.tuple #[.int .u64 gt, .bool hd]) ∧ RunAt w' B r v b ∧ Kept [r] w w' ∧ Ran (ggY P T G who) got s0 a s1 b ∧ Fits got b ∧ (b.stop = false → (ggY P T G who).want s1 = none) ∧ (a.stop = false → ggG s1 = if hd then nOf gt else -1) := by
  have HI := hid (DI.start (M := ggY P T G who) (P := P) (T := T) (G := G) h hg s0)
  have HP := hid hP
  have HS := hid hs
  have HWH := hid hw
  have nG : IntKind.u64.wrap G = G := by rw [IntKind.wrap_u64]; omega
  obtain ⟨z0, z1, z2, z3⟩ := HI.out.cells
  clear h hg hs hP hw
  go_enter Try.func49, Try.ntmps49
  go_wp2_with fail
  refine (dacq_run HI.out 0 1 who (fun _ => GgSt.f) GgSt.acq (gg_embA P T G who 0) HS.out (by omega) HWH.out).mono ?_
  rintro e w2 ⟨z, b1, s1, q1, rfl, hI, hp1, _⟩
  have E1 := hid (show (b1.stop = false → a.stop = false ∧ s1 = .f) ∧ (a.stop = false → ggG s1 = -1) from ⟨hp1.on, fun h => by rw [hp1.mid h]; exact acq_g 0 who q1⟩)
  clear hp1
  (have HI := hid hI; obtain ⟨z0, z1, z2, z3⟩ := HI.out.cells; clear hI)
  go_wp2_with fail
  refine (dl_run HI.out 16 (fun h => by rw [(E1.out.1 h).2, ← w16]; rfl)).mono ?_
  rintro e w3 ⟨b2, s2, x2, rfl, hI, ho2⟩
  have E2 := hid (show (b2.stop = false → a.stop = false ∧ s2 = if x2 = 0 then .m else .n x2) ∧ (a.stop = false → ggG s2 = -1) from by
    have e1 : b2.stop = false → a.stop = false ∧ s2 = if x2 = 0 then .m else .n x2 := fun h => by obtain ⟨h1, h2⟩ := ho2.1 h; exact ⟨(E1.out.1 h1).1, by rw [h2, (E1.out.1 h1).2]; rfl⟩
    refine ⟨e1, fun h => ?_⟩
    cases hb : b2.stop with
    | false => rw [(e1 hb).2]; split <;> rfl
    | true => rw [(ho2.2.2.1 hb).1]; exact E1.out.2 h)
  (have HI := hid hI; obtain ⟨z0, z1, z2, z3⟩ := HI.out.cells; clear hI)
  by_cases hx : x2 = 0
  · subst hx
    rw [if_pos rfl] at E2
    clear ho2
    go_wp2_with fail
    refine (dl_run HI.out 17 (fun h => by rw [(E2.out.1 h).2, ← w17]; rfl)).mono ?_
    rintro e w4 ⟨b3, s3, x3, rfl, hI, ho3⟩
    have E3 := hid (show (b3.stop = false → a.stop = false ∧ s3 = if x3 < G then .sg (x3 + 1) else .rel 0 (-1) .puts) ∧ (b3.stop = true → x3 = 0) ∧ (b3.stop = true → a.stop = false → ggG s3 = -1) ∧ (0 ≤ x3 ∧ x3 < 18446744073709551616) from
      ⟨fun h => by obtain ⟨h1, h2⟩ := ho3.1 h; exact ⟨(E2.out.1 h1).1, by rw [h2, (E2.out.1 h1).2]; rfl⟩, fun h => (ho3.2.2.1 h).2, fun hb h => by rw [(ho3.2.2.1 hb).1]; exact E2.out.2 h, ho3.2.1⟩)
    (have HI := hid hI; obtain ⟨z0, z1, z2, z3⟩ := HI.out.cells; clear hI)
    clear ho3
    by_cases hlt : x3 < G
    · have hlt' : decide (x3 < G) = true := decide_eq_true hlt
      have n1 : IntKind.u64.wrap (x3 + 1) = x3 + 1 := by have := E3.out.2.2.2; have := HP.out.2.2; rw [IntKind.wrap_u64]; omega
      have hnz : x3 + 1 ≠ 0 := by have := E3.out.2.2.2; omega
      have hz1 : ((x3 + 1 : Int) != 0) = true := by simpa using hnz
      have hz2 : ((x3 + 1 : Int) == 0) = false := by simpa using hnz
      rw [if_pos hlt] at E3
      have HNZ := hid hnz
      clear hnz hlt
      go_wp2_with fail
      refine (ds_run HI.out 17 (x3 + 1) (fun h => by rw [(E3.out.1 h).2, ← w17]; rfl)).mono ?_
      rintro e w5 ⟨rfl, b4, s4, x4, hI, ho4⟩
      have HTL := hid (show Tail a b4 s4 (x3 + 1) from ⟨fun h => by obtain ⟨h1, h2⟩ := ho4.1 h; exact ⟨(E3.out.1 h1).1, x3 + 1, nOf (x3 + 1), by rw [h2, (E3.out.1 h1).2]; rfl, fun _ => rfl, fun h => absurd h HNZ.out⟩, fun hb h => by
        rw [(ho4.2.2.1 hb).1]
        cases hb3 : b3.stop with
        | false => rw [(E3.out.1 hb3).2]; rfl
        | true => exact E3.out.2.2.1 hb3 h⟩)
      clear ho4
      (have HI := hid hI; obtain ⟨z0, z1, z2, z3⟩ := HI.out.cells; clear hI)
      cases hb4 : b4.stop with
      | true =>
        rw [hb4] at z3
        have HB4 := hid hb4
        clear hb4
        go_wp2_with fail
        refine (drel_run HI.out 0 1 (fun _ => GgSt.done 0 0) (GgSt.rel 0 0) (gg_embR P T G who 0 0 0) (fun h => absurd (HB4.out.symm.trans h) (by simp)) (by omega)).mono ?_
        rintro e w9 ⟨rfl, b5, s5, q5, hI, hp5, hq5⟩
        have HX := hid (And.intro (hp5.off HB4.out) (HTL.out.2 HB4.out))
        have HI := hid hI
        clear hI hp5 hq5
        go_wp2
        go_ret2
        refine ⟨_, false, b5, s5, by first | rfl | trivial, HI.out.run, HI.out.kept, HI.out.ran, HI.out.good, fun h => absurd (HX.out.1.2.symm.trans h) (by simp), fun h => ?_⟩
        rw [HX.out.1.1]
        exact HX.out.2 h
      | false =>
        rw [hb4] at z3
        obtain ⟨ha, wd, g, hs4, hg1, hg2⟩ := HTL.out.1 hb4
        have HX := hid (And.intro hb4 (And.intro ha (And.intro hs4 (And.intro hg1 hg2))))
        clear hb4 ha hs4 hg1 hg2
        go_wp2_with fail
        refine (drel_run HI.out 0 1 (fun _ => GgSt.done wd g) (GgSt.rel wd g) (gg_embR P T G who wd g 0) (fun h => HX.out.2.2.1) (by omega)).mono ?_
        rintro e w9 ⟨rfl, b5, s5, q5, hI, hp5, hq5⟩
        have HY := hid (show (b5.stop = false → (ggY P T G who).want s5 = none) ∧ ggG s5 = g from ⟨fun h => by rw [(hp5.on h).2]; rfl, by rw [hp5.mid HX.out.1]; exact rel_g 0 wd g q5⟩)
        have HI := hid hI
        clear hI hp5 hq5
        go_wp2
        go_ret2
        refine ⟨_, true, b5, s5, by first | rfl | trivial, HI.out.run, HI.out.kept, HI.out.ran, HI.out.good, HY.out.1, fun h => ?_⟩
        rw [HY.out.2]
        exact HX.out.2.2.2.1 HNZ.out
    · have hlt' : decide (x3 < G) = false := decide_eq_false hlt
      have hb3 : b3.stop = false := by
        cases hb : b3.stop with
        | false => rfl
        | true => exact absurd (by rw [E3.out.2.1 hb]; omega) hlt
      rw [if_neg hlt] at E3
      obtain ⟨b4, hb4d⟩ : ∃ b4, b4 = b3 := ⟨_, rfl⟩
      have HTL := hid (show Tail a b4 s3 0 from by rw [hb4d]; exact ⟨fun h => ⟨(E3.out.1 h).1, 0, -1, (E3.out.1 h).2, fun h => absurd rfl h, fun _ => rfl⟩, fun h => absurd (hb3.symm.trans h) (by simp)⟩)
      rw [← hb4d] at HI z3
      clear hb3 hlt hb4d E3
      cases hb4 : b4.stop with
      | true =>
        rw [hb4] at z3
        have HB4 := hid hb4
        clear hb4
        go_wp2_with fail
        refine (drel_run HI.out 0 1 (fun _ => GgSt.done 0 0) (GgSt.rel 0 0) (gg_embR P T G who 0 0 0) (fun h => absurd (HB4.out.symm.trans h) (by simp)) (by omega)).mono ?_
        rintro e w9 ⟨rfl, b5, s5, q5, hI, hp5, hq5⟩
        have HX := hid (And.intro (hp5.off HB4.out) (HTL.out.2 HB4.out))
        have HI := hid hI
        clear hI hp5 hq5
        go_wp2
        go_ret2
        refine ⟨_, false, b5, s5, by first | rfl | trivial, HI.out.run, HI.out.kept, HI.out.ran, HI.out.good, fun h => absurd (HX.out.1.2.symm.trans h) (by simp), fun h => ?_⟩
        rw [HX.out.1.1]
        exact HX.out.2 h
      | false =>
        rw [hb4] at z3
        obtain ⟨ha, wd, g, hs4, hg1, hg2⟩ := HTL.out.1 hb4
        have HX := hid (And.intro hb4 (And.intro ha (And.intro hs4 (And.intro hg1 hg2))))
        clear hb4 ha hs4 hg1 hg2
        go_wp2_with fail
        refine (drel_run HI.out 0 1 (fun _ => GgSt.done wd g) (GgSt.rel wd g) (gg_embR P T G who wd g 0) (fun h => HX.out.2.2.1) (by omega)).mono ?_
        rintro e w9 ⟨rfl, b5, s5, q5, hI, hp5, hq5⟩
        have HY := hid (show (b5.stop = false → (ggY P T G who).want s5 = none) ∧ ggG s5 = g from ⟨fun h => by rw [(hp5.on h).2]; rfl, by rw [hp5.mid HX.out.1]; exact rel_g 0 wd g q5⟩)
        have HI := hid hI
        clear hI hp5 hq5
        go_wp2
        go_ret2
        refine ⟨_, false, b5, s5, by first | rfl | trivial, HI.out.run, HI.out.kept, HI.out.ran, HI.out.good, HY.out.1, fun h => ?_⟩
        rw [HY.out.2]
        first | exact HX.out.2.2.2.2 rfl | exact HX.out.2.2.2.2 trivial
  · have hb2 : b2.stop = false := by
      cases hb : b2.stop with
      | false => rfl
      | true => exact absurd (ho2.2.2.1 hb).2 hx
    obtain ⟨ha, hs2⟩ := E2.out.1 hb2
    rw [if_neg hx] at hs2
    have hz1 : ((x2 : Int) == 0) = false := by simp [hx]
    have hz2 : ((x2 : Int) != 0) = true := by simp [hx]
    have m1 : IntKind.i64.wrap (IntKind.i64.wrap x2 - 1) = nOf x2 := rfl
    have m2 : wrap64 (wrap64 x2 - 1) = nOf x2 := by unfold nOf; simp only [IntWalk.i64_left]
    have HNZ := hid hx
    have HA := hid (And.intro ha hs2)
    clear hx hb2 ha hs2 ho2 E2
    go_wp2_with fail
    (refine (gat_run P T G _ _ _ HP.out.1 HP.out.2.1 HP.out.2.2 (by omega)).mono ?_; rintro e w1 ⟨rfl, hb⟩; (have HI := hid (HI.out.quiet hb); clear hb; obtain ⟨z0, z1, z2, z3⟩ := HI.out.cells))
    go_wp2_with fail
    refine (dl_run HI.out (gg P T G (nOf x2) 1) (fun h => by rw [HA.out.2]; rfl)).mono ?_
    rintro e w4 ⟨b3, s3, x3, rfl, hI, ho3⟩
    have E3 := hid (show (b3.stop = false → s3 = .st x2 x3) ∧ ggG s3 = -1 from by
      have e1 : b3.stop = false → s3 = .st x2 x3 := fun h => by rw [(ho3.1 h).2, HA.out.2]; rfl
      refine ⟨e1, ?_⟩
      cases hb : b3.stop with
      | false => rw [e1 hb]; rfl
      | true => rw [(ho3.2.2.1 hb).1, HA.out.2]; rfl)
    (have HI := hid hI; obtain ⟨z0, z1, z2, z3⟩ := HI.out.cells; clear hI)
    clear ho3
    go_wp2_with fail
    refine (ds_run HI.out 16 x3 (fun h => by rw [E3.out.1 h, ← w16]; rfl)).mono ?_
    rintro e w5 ⟨rfl, b4, s4, x4, hI, ho4⟩
    have HTL := hid (show Tail a b4 s4 x2 from ⟨fun h => by obtain ⟨h1, h2⟩ := ho4.1 h; exact ⟨HA.out.1, x2, nOf x2, by rw [h2, E3.out.1 h1]; rfl, fun _ => rfl, fun h => absurd h HNZ.out⟩, fun hb h => by rw [(ho4.2.2.1 hb).1]; exact E3.out.2⟩)
    clear ho4
    (have HI := hid hI; obtain ⟨z0, z1, z2, z3⟩ := HI.out.cells; clear hI)
    cases hb4 : b4.stop with
    | true =>
      rw [hb4] at z3
      have HB4 := hid hb4
      clear hb4
      go_wp2_with fail
      refine (drel_run HI.out 0 1 (fun _ => GgSt.done 0 0) (GgSt.rel 0 0) (gg_embR P T G who 0 0 0) (fun h => absurd (HB4.out.symm.trans h) (by simp)) (by omega)).mono ?_
      rintro e w9 ⟨rfl, b5, s5, q5, hI, hp5, hq5⟩
      have HX := hid (And.intro (hp5.off HB4.out) (HTL.out.2 HB4.out))
      have HI := hid hI
      clear hI hp5 hq5
      go_wp2
      go_ret2
      refine ⟨_, false, b5, s5, by first | rfl | trivial, HI.out.run, HI.out.kept, HI.out.ran, HI.out.good, fun h => absurd (HX.out.1.2.symm.trans h) (by simp), fun h => ?_⟩
      rw [HX.out.1.1]
      exact HX.out.2 h
    | false =>
      rw [hb4] at z3
      obtain ⟨ha, wd, g, hs4, hg1, hg2⟩ := HTL.out.1 hb4
      have HX := hid (And.intro hb4 (And.intro ha (And.intro hs4 (And.intro hg1 hg2))))
      clear hb4 ha hs4 hg1 hg2
      go_wp2_with fail
      refine (drel_run HI.out 0 1 (fun _ => GgSt.done wd g) (GgSt.rel wd g) (gg_embR P T G who wd g 0) (fun h => HX.out.2.2.1) (by omega)).mono ?_
      rintro e w9 ⟨rfl, b5, s5, q5, hI, hp5, hq5⟩
      have HY := hid (show (b5.stop = false → (ggY P T G who).want s5 = none) ∧ ggG s5 = g from ⟨fun h => by rw [(hp5.on h).2]; rfl, by rw [hp5.mid HX.out.1]; exact rel_g 0 wd g q5⟩)
      have HI := hid hI
      clear hI hp5 hq5
      go_wp2
      go_ret2
      refine ⟨_, true, b5, s5, by first | rfl | trivial, HI.out.run, HI.out.kept, HI.out.ran, HI.out.good, HY.out.1, fun h => ?_⟩
      rw [HY.out.2]
      exact HX.out.2.2.2.1 HNZ.out
theorem gp_embA (P T G who g : Int) (l : Nat) : Emb (gpY P T G who g) (aqM l 1 who).sys (fun _ => GpSt.f) GpSt.acq := fun s W h => ⟨h, fun a => rfl⟩
theorem gp_embR (P T G who g : Int) (l : Nat) : Emb (gpY P T G who g) (rlM l 1).sys (fun _ => GpSt.done) GpSt.rel := fun s W h => ⟨h, fun a => rfl⟩
theorem rput11_run (P T G who g : Int) (B r : Nat) (v : Value) (a : RunSt) (got : List Int) (s0 : GpSt) (w : World) (h : RunAt w B r v a) (hg : Fits got a) (hs : a.stop = false → s0 = .acq .ask) (hP : (0 ≤ P ∧ P ≤ 1000) ∧ (0 ≤ T ∧ T ≤ 1000) ∧ G ≤ 100000) (hg1 : 0 ≤ g ∧ g ≤ 100000) (hw : 0 ≤ who ∧ who ≤ 1000) :
    Calls Try.prog 56 #[.pointer (some ⟨r, 0, none⟩), .agg #[.int .i64 P, .int .i64 T, .int .i64 G], .int .i64 who, .int .i64 g] w fun e w' => e = .returned (.tuple #[]) ∧ ∃ b s1, RunAt w' B r v b ∧ Kept [r] w w' ∧ Ran (gpY P T G who g) got s0 a s1 b ∧ Fits got b ∧ (b.stop = false → (gpY P T G who g).want s1 = none) := by
  have HI := hid (DI.start (M := gpY P T G who g) (P := P) (T := T) (G := G) h hg s0)
  have HP := hid hP
  have HS := hid hs
  have HWH := hid hw
  have n1 : IntKind.u64.wrap g = g := by rw [IntKind.wrap_u64]; omega
  have n2 : IntKind.u64.wrap (g + 1) = g + 1 := by rw [IntKind.wrap_u64]; omega
  obtain ⟨z0, z1, z2, z3⟩ := HI.out.cells
  clear h hg hs hP hw
  go_enter Try.func56, Try.ntmps56
  go_wp2_with fail
  refine (dacq_run HI.out 0 1 who (fun _ => GpSt.f) GpSt.acq (gp_embA P T G who g 0) HS.out (by omega) HWH.out).mono ?_
  rintro e w2 ⟨z, b1, s1, q1, rfl, hI, hp1, _⟩
  have E1 := hid hp1.on
  clear hp1
  (have HI := hid hI; obtain ⟨z0, z1, z2, z3⟩ := HI.out.cells; clear hI)
  go_wp2_with fail
  refine (dl_run HI.out 16 (fun h => by rw [(E1.out h).2, ← w16]; rfl)).mono ?_
  rintro e w3 ⟨b2, s2, x2, rfl, hI, ho2⟩
  have E2 := hid (show b2.stop = false → s2 = .ln x2 from fun h => by obtain ⟨h1, h2⟩ := ho2.1 h; rw [h2, (E1.out h1).2]; rfl)
  (have HI := hid hI; obtain ⟨z0, z1, z2, z3⟩ := HI.out.cells; clear hI)
  clear ho2
  go_wp2_with fail
  (refine (gat_run P T G _ _ _ HP.out.1 HP.out.2.1 HP.out.2.2 (by omega)).mono ?_; rintro e w1 ⟨rfl, hb⟩; (have HI := hid (HI.out.quiet hb); clear hb; obtain ⟨z0, z1, z2, z3⟩ := HI.out.cells))
  go_wp2_with fail
  refine (ds_run HI.out (gg P T G g 1) x2 (fun h => by rw [E2.out h]; rfl)).mono ?_
  rintro e w4 ⟨rfl, b3, s3, x3, hI, ho3⟩
  have E3 := hid (show b3.stop = false → s3 = .ly from fun h => by obtain ⟨h1, h2⟩ := ho3.1 h; rw [h2, E2.out h1]; rfl)
  (have HI := hid hI; obtain ⟨z0, z1, z2, z3⟩ := HI.out.cells; clear hI)
  clear ho3
  go_wp2_with fail
  refine (ds_run HI.out 16 (g + 1) (fun h => by rw [E3.out h, ← w16]; rfl)).mono ?_
  rintro e w5 ⟨rfl, b4, s4, x4, hI, ho4⟩
  have E4 := hid (show b4.stop = false → s4 = .rel .puts from fun h => by obtain ⟨h1, h2⟩ := ho4.1 h; rw [h2, E3.out h1]; rfl)
  (have HI := hid hI; obtain ⟨z0, z1, z2, z3⟩ := HI.out.cells; clear hI)
  clear ho4
  go_wp2_with fail
  refine (drel_run HI.out 0 1 (fun _ => GpSt.done) GpSt.rel (gp_embR P T G who g 0) E4.out (by omega)).mono ?_
  rintro e w9 ⟨rfl, b5, s5, q5, hI, hp5, hq5⟩
  have HY := hid (show b5.stop = false → (gpY P T G who g).want s5 = none from fun h => by rw [(hp5.on h).2]; rfl)
  have HI := hid hI
  clear hI hp5 hq5
  go_wp2
  go_returns
  exact ⟨by first | rfl | trivial, b5, s5, HI.out.run, HI.out.kept, HI.out.ran, HI.out.good, HY.out⟩
end Go.Proofs.Ytncmajflakkibaa.Gfree
