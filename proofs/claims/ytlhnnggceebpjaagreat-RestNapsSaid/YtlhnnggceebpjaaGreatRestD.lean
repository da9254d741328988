/- The document's coming to rest. -/
import Derived.Test.YtlhnnggceebpjaaGreatRestSpinsW
import Derived.Test.YtlhnnggceebpjaaGreatDocSubs
import Derived.Test.YtlhnnggceebpjaaGreatDocOut
set_option maxRecDepth 100000
set_option maxHeartbeats 4000000
set_option linter.unusedVariables false
set_option linter.unusedSimpArgs false
namespace Go.Proofs.YtlhnnggceebpjaaGreat.Rest
open Go.RowKit Go.Shelf Go.Proofs.YtlhnnggceebpjaaGreat.TK Go.Proofs.YtlhnnggceebpjaaGreat.Flag Go.Proofs.YtlhnnggceebpjaaGreat.Read Go.Proofs.YtlhnnggceebpjaaGreat.Grow Go.Proofs.YtlhnnggceebpjaaGreat.Words Go.Proofs.YtlhnnggceebpjaaGreat.Mem Go.Proofs.YtlhnnggceebpjaaGreat.Flow Go.Proofs.YtlhnnggceebpjaaGreat.Layout Go.Proofs.YtlhnnggceebpjaaGreat.Lock Go.Proofs.YtlhnnggceebpjaaGreat.Run Go.Proofs.YtlhnnggceebpjaaGreat.Sys Go.Proofs.YtlhnnggceebpjaaGreat.Mach Go.Proofs.YtlhnnggceebpjaaGreat.Doc Go.Proofs.YtlhnnggceebpjaaGreat.Ref05 Go.Proofs.YtlhnnggceebpjaaGreat.Subs Go.Proofs.YtlhnnggceebpjaaGreat.Wake Go.Proofs.YtlhnnggceebpjaaGreat.Note
theorem th_eq {P T t : Int} (h : 0 ≤ t ∧ t < T) : th P T t 0 = 20 + 264 * P + 3 * t + 0 := by
  unfold th placeN
  rw [if_pos ⟨rfl, h.1, h.2, by decide, by decide⟩]
  omega
theorem np_embS (P T who : Int) : Emb (npY P T who) (slSys (th P T who 0)) (fun _ => NpSt.gv) NpSt.sl := fun s W h => ⟨h, fun a => rfl⟩
theorem npsays_sl (P T who : Int) (q : SlSt) : npP (runs (slSys (th P T who 0)) (fun _ => NpSt.gv) NpSt.sl q) = -1 ∧ npS (runs (slSys (th P T who 0)) (fun _ => NpSt.gv) NpSt.sl q) = false := by
  unfold runs
  split <;> exact ⟨rfl, rfl⟩
theorem rnap20_run (P T G who : Int) (B r : Nat) (v : Value) (a : RunSt) (got : List Int) (s0 : NpSt) (w : World) (h : RunAt w B r v a) (hg : Fits got a) (hs : s0 = .sl (.waits false)) (ha : a.stop = false) (hP : (0 ≤ P ∧ P ≤ 1000) ∧ (0 ≤ who ∧ who < T) ∧ T ≤ 1000) :
    Calls Tryz.prog 51 #[.pointer (some ⟨r, 0, none⟩), .agg #[.int .i64 P, .int .i64 T, .int .i64 G], .int .i64 who] w fun e w' => ∃ pv sv nv b s1, e = .returned (.agg #[.int .i64 pv, .bool sv, .bool nv]) ∧ RunAt w' B r v b ∧ Kept [r] w w' ∧ Ran (npY P T who) got s0 a s1 b ∧ Fits got b ∧ (b.stop = false → (npY P T who).want s1 = none) ∧ npP s1 = pv ∧ npS s1 = sv := by
  have hlt := h.blk.lt
  have hSt := DR.start (M := npY P T who) (P := P) (T := T) (G := G) (TO := 67) h hg s0 [.int .i64 0, .bool false, .bool false] (by decide)
  have hD := DO.start hSt.1 hSt.2.2 hSt.2.1 hlt rfl rfl (by decide) [.int .i64 (-1), .bool false, .bool true]
  have hsz : ((w.alloc (.cells #[.int .i64 P, .int .i64 T, .int .i64 G] 23)).alloc (.cells [Value.int .i64 0, .bool false, .bool false].toArray 67)).heap.size = w.heap.size + 1 + 1 := by simp
  rw [hsz] at hD
  have HI := hid hD
  clear hD hsz
  have HP := hid hP
  have HS := hid hs
  have HAS := hid ha
  (obtain ⟨z0, z1, z2, z3⟩ := HI.out.di.cells)
  (have q0 := HI.out.out.cell 0; have q1 := HI.out.out.cell 1; have q2 := HI.out.out.cell 2; have qf := HI.out.out.frozen; have q5 := HI.out.res.cell 0; have q6 := HI.out.res.cell 1; have q7 := HI.out.res.cell 2; have qg := HI.out.res.frozen; simp only [List.getElem?_cons_zero, List.getElem?_cons_succ, List.set_cons_zero, List.set_cons_succ, List.set_nil] at q0 q1 q2 q5 q6 q7)
  rw [ha] at z3
  clear h hg hs hP hSt hlt ha
  go_enter Tryz.func51, Tryz.ntmps51
  go_wp2_with fail
  refine (rsleep_run B r v a got P T G who (th P T who 0) (.waits false) _ HI.out.di.run HI.out.di.good (fun _ => rfl) HP.out.1 HP.out.2.1 HP.out.2.2 (th_eq HP.out.2.1)).mono ?_
  rintro e w2 ⟨rfl, b1, q1, h1, h2, h3, h4, h5⟩
  obtain ⟨s1, hI, hp1⟩ := past_of (fun _ => NpSt.gv) NpSt.sl (np_embS P T who) HI.out.di h1 h2 h3 h4 (fun _ => by rw [HS.out]; exact (runs_on (M := slSys (th P T who 0)) (s := SlSt.waits false) (fun h => by cases h)).symm) h5
  have E1 := hid (show (b1.stop = false → s1 = .gv) ∧ npP s1 = -1 ∧ npS s1 = false from ⟨fun h => (hp1.on h).2, by rw [hp1.mid HAS.out]; exact npsays_sl P T who q1⟩)
  (have HI := hid (HI.out.step hI); clear hI; (obtain ⟨z0, z1, z2, z3⟩ := HI.out.di.cells); (have q0 := HI.out.out.cell 0; have q1 := HI.out.out.cell 1; have q2 := HI.out.out.cell 2; have qf := HI.out.out.frozen; have q5 := HI.out.res.cell 0; have q6 := HI.out.res.cell 1; have q7 := HI.out.res.cell 2; have qg := HI.out.res.frozen; simp only [List.getElem?_cons_zero, List.getElem?_cons_succ, List.set_cons_zero, List.set_cons_succ, List.set_nil] at q0 q1 q2 q5 q6 q7))
  clear h1 h2 h3 h4 h5 hp1
  go_wp2_with fail
  (refine (threadat_run P T G _ _ _ HP.out.1 HP.out.2.2 (by omega)).mono ?_; rintro e w1 ⟨rfl, hb⟩; (have HI := hid (HI.out.quiet hb); clear hb; (obtain ⟨z0, z1, z2, z3⟩ := HI.out.di.cells); (have q0 := HI.out.out.cell 0; have q1 := HI.out.out.cell 1; have q2 := HI.out.out.cell 2; have qf := HI.out.out.frozen; have q5 := HI.out.res.cell 0; have q6 := HI.out.res.cell 1; have q7 := HI.out.res.cell 2; have qg := HI.out.res.frozen; simp only [List.getElem?_cons_zero, List.getElem?_cons_succ, List.set_cons_zero, List.set_cons_succ, List.set_nil] at q0 q1 q2 q5 q6 q7)))
  go_wp2_with fail
  refine (dl_run HI.out.di (th P T who 1) (fun h => by rw [E1.out.1 h]; rfl)).mono ?_
  rintro e w3 ⟨b2, s2, x2, rfl, hI, ho2⟩
  have E2 := hid (show (b2.stop = false → s2 = .z x2) ∧ (npP s2 = -1 ∧ npS s2 = false) ∧ Rng x2 from ⟨fun h => by rw [(ho2.1 h).2, E1.out.1 (ho2.1 h).1]; rfl, by
    cases hb : b2.stop with
    | false => rw [(ho2.1 hb).2, E1.out.1 (ho2.1 hb).1]; exact ⟨rfl, rfl⟩
    | true => rw [(ho2.2.2.1 hb).1]; exact E1.out.2, ho2.2.1⟩)
  (have HI := hid (HI.out.step hI); clear hI; (obtain ⟨z0, z1, z2, z3⟩ := HI.out.di.cells); (have q0 := HI.out.out.cell 0; have q1 := HI.out.out.cell 1; have q2 := HI.out.out.cell 2; have qf := HI.out.out.frozen; have q5 := HI.out.res.cell 0; have q6 := HI.out.res.cell 1; have q7 := HI.out.res.cell 2; have qg := HI.out.res.frozen; simp only [List.getElem?_cons_zero, List.getElem?_cons_succ, List.set_cons_zero, List.set_cons_succ, List.set_nil] at q0 q1 q2 q5 q6 q7))
  clear ho2
  go_wp2_with fail
  (refine (threadat_run P T G _ _ _ HP.out.1 HP.out.2.2 (by omega)).mono ?_; rintro e w1 ⟨rfl, hb⟩; (have HI := hid (HI.out.quiet hb); clear hb; (obtain ⟨z0, z1, z2, z3⟩ := HI.out.di.cells); (have q0 := HI.out.out.cell 0; have q1 := HI.out.out.cell 1; have q2 := HI.out.out.cell 2; have qf := HI.out.out.frozen; have q5 := HI.out.res.cell 0; have q6 := HI.out.res.cell 1; have q7 := HI.out.res.cell 2; have qg := HI.out.res.frozen; simp only [List.getElem?_cons_zero, List.getElem?_cons_succ, List.set_cons_zero, List.set_cons_succ, List.set_nil] at q0 q1 q2 q5 q6 q7)))
  go_wp2_with fail
  refine (ds_run HI.out.di (th P T who 1) 0 (fun h => by rw [E2.out.1 h]; rfl)).mono ?_
  rintro e w4 ⟨rfl, b3, s3, x3, hI, ho3⟩
  have E3 := hid (show (b3.stop = false → s3 = .st x2) ∧ (b3.stop = true → npP s3 = -1 ∧ npS s3 = false) from ⟨fun h => by rw [(ho3.1 h).2, E2.out.1 (ho3.1 h).1]; rfl, fun h => by rw [(ho3.2.2.1 h).1]; exact E2.out.2.1⟩)
  (have HI := hid (HI.out.step hI); clear hI; (obtain ⟨z0, z1, z2, z3⟩ := HI.out.di.cells); (have q0 := HI.out.out.cell 0; have q1 := HI.out.out.cell 1; have q2 := HI.out.out.cell 2; have qf := HI.out.out.frozen; have q5 := HI.out.res.cell 0; have q6 := HI.out.res.cell 1; have q7 := HI.out.res.cell 2; have qg := HI.out.res.frozen; simp only [List.getElem?_cons_zero, List.getElem?_cons_succ, List.set_cons_zero, List.set_cons_succ, List.set_nil] at q0 q1 q2 q5 q6 q7))
  clear ho3
  cases hb3 : b3.stop with
  | true =>
    rw [hb3] at z3
    have HZ := hid (And.intro hb3 (E3.out.2 hb3))
    clear hb3 E3
    go_wp2
    ((try simp only [Exit.inBlock, Exit.then]); refine bodyPost_ret (results_cell_row rfl _ _ _ _ _ _ _ rfl (((HI.out.setR 0 _).setR 1 _).setR 2 _).res Tryz.underlying67 rfl (by kernel_rfl)) rfl ?_)
    exact ⟨-1, false, true, b3, s3, rfl, (((HI.out.setR 0 _).setR 1 _).setR 2 _).di.run, (((HI.out.setR 0 _).setR 1 _).setR 2 _).kept, HI.out.di.ran, HI.out.di.good, fun h => absurd (HZ.out.1.symm.trans h) (by simp), HZ.out.2⟩
  | false =>
    rw [hb3] at z3
    have HZ := hid (E3.out.1 hb3)
    have hr := E2.out.2.2
    unfold Rng at hr
    have hm : x2.tmod 4294967296 = x2 % 4294967296 := Int.tmod_eq_emod_of_nonneg hr.1
    have hgp : gvP x2 = x2 % 4294967296 - 1 := rfl
    obtain ⟨k, hk⟩ : ∃ k, k = x2 % 4294967296 := ⟨_, rfl⟩
    have hk1 : 0 ≤ k ∧ k < 4294967296 := by omega
    rw [← hk] at hm hgp
    have n1 : IntKind.i64.wrap k = k := by rw [IntKind.wrap_i64]; omega
    have n2 : IntKind.i64.wrap (k - 1) = k - 1 := by rw [IntKind.wrap_i64]; omega
    have n3 : wrap64 k = k := by rw [← IntWalk.i64_left]; exact n1
    have n4 : wrap64 (k - 1) = k - 1 := by rw [← IntWalk.i64_left]; exact n2
    have hk' := hk.symm
    have HGP := hid hgp
    by_cases hs1 : 4294967296 ≤ x2
    · have d1 : decide (4294967296 ≤ x2) = true := decide_eq_true hs1
      have HSP := hid (show gvS x2 = true from d1)
      clear hb3 E3 hr hk hk1 hgp hs1
      have HI := hid ((HI.out.setO 0 (.int .i64 (k - 1))).setO 1 (.bool true))
      (obtain ⟨z0, z1, z2, z3⟩ := HI.out.di.cells)
      (have q0 := HI.out.out.cell 0; have q1 := HI.out.out.cell 1; have q2 := HI.out.out.cell 2; have qf := HI.out.out.frozen; have q5 := HI.out.res.cell 0; have q6 := HI.out.res.cell 1; have q7 := HI.out.res.cell 2; have qg := HI.out.res.frozen; simp only [List.getElem?_cons_zero, List.getElem?_cons_succ, List.set_cons_zero, List.set_cons_succ, List.set_nil] at q0 q1 q2 q5 q6 q7)
      go_wp2_with fail
      (refine (procat_run P T G _ _ _ HP.out.1 (by omega)).mono ?_; rintro e w1 ⟨rfl, hb⟩; (have HI := hid (HI.out.quiet hb); clear hb; (obtain ⟨z0, z1, z2, z3⟩ := HI.out.di.cells); (have q0 := HI.out.out.cell 0; have q1 := HI.out.out.cell 1; have q2 := HI.out.out.cell 2; have qf := HI.out.out.frozen; have q5 := HI.out.res.cell 0; have q6 := HI.out.res.cell 1; have q7 := HI.out.res.cell 2; have qg := HI.out.res.frozen; simp only [List.getElem?_cons_zero, List.getElem?_cons_succ, List.set_cons_zero, List.set_cons_succ, List.set_nil] at q0 q1 q2 q5 q6 q7)))
      go_wp2_with fail
      refine (ds_run HI.out.di (pr P (k - 1) 0) 1 (fun h => by rw [HZ.out, ← HGP.out]; rfl)).mono ?_
      rintro e w5 ⟨rfl, b4, s4, x4, hI, ho4⟩
      have E4 := hid (show (b4.stop = false → (npY P T who).want s4 = none) ∧ npP s4 = k - 1 ∧ npS s4 = true from ⟨fun h => by rw [(ho4.1 h).2, HZ.out]; rfl, by
        cases hb : b4.stop with
        | false => rw [(ho4.1 hb).2, HZ.out]; exact ⟨HGP.out, HSP.out⟩
        | true => rw [(ho4.2.2.1 hb).1, HZ.out]; exact ⟨HGP.out, HSP.out⟩⟩)
      (have HI := hid (HI.out.step hI); clear hI; (obtain ⟨z0, z1, z2, z3⟩ := HI.out.di.cells); (have q0 := HI.out.out.cell 0; have q1 := HI.out.out.cell 1; have q2 := HI.out.out.cell 2; have qf := HI.out.out.frozen; have q5 := HI.out.res.cell 0; have q6 := HI.out.res.cell 1; have q7 := HI.out.res.cell 2; have qg := HI.out.res.frozen; simp only [List.getElem?_cons_zero, List.getElem?_cons_succ, List.set_cons_zero, List.set_cons_succ, List.set_nil] at q0 q1 q2 q5 q6 q7))
      clear ho4
      go_wp2
      ((try simp only [Exit.inBlock, Exit.then]); refine bodyPost_ret (results_cell_row rfl _ _ _ _ _ _ _ rfl (((HI.out.setR 0 _).setR 1 _).setR 2 _).res Tryz.underlying67 rfl (by kernel_rfl)) rfl ?_)
      exact ⟨k - 1, true, true, b4, s4, rfl, (((HI.out.setR 0 _).setR 1 _).setR 2 _).di.run, (((HI.out.setR 0 _).setR 1 _).setR 2 _).kept, HI.out.di.ran, HI.out.di.good, E4.out⟩
    · have d1 : decide (4294967296 ≤ x2) = false := decide_eq_false hs1
      have HSP := hid (show gvS x2 = false from d1)
      clear hb3 E3 hr hk hk1 hgp hs1
      have HI := hid ((HI.out.setO 0 (.int .i64 (k - 1))).setO 1 (.bool false))
      (obtain ⟨z0, z1, z2, z3⟩ := HI.out.di.cells)
      (have q0 := HI.out.out.cell 0; have q1 := HI.out.out.cell 1; have q2 := HI.out.out.cell 2; have qf := HI.out.out.frozen; have q5 := HI.out.res.cell 0; have q6 := HI.out.res.cell 1; have q7 := HI.out.res.cell 2; have qg := HI.out.res.frozen; simp only [List.getElem?_cons_zero, List.getElem?_cons_succ, List.set_cons_zero, List.set_cons_succ, List.set_nil] at q0 q1 q2 q5 q6 q7)
      go_wp2_with fail
      (refine (procat_run P T G _ _ _ HP.out.1 (by omega)).mono ?_; rintro e w1 ⟨rfl, hb⟩; (have HI := hid (HI.out.quiet hb); clear hb; (obtain ⟨z0, z1, z2, z3⟩ := HI.out.di.cells); (have q0 := HI.out.out.cell 0; have q1 := HI.out.out.cell 1; have q2 := HI.out.out.cell 2; have qf := HI.out.out.frozen; have q5 := HI.out.res.cell 0; have q6 := HI.out.res.cell 1; have q7 := HI.out.res.cell 2; have qg := HI.out.res.frozen; simp only [List.getElem?_cons_zero, List.getElem?_cons_succ, List.set_cons_zero, List.set_cons_succ, List.set_nil] at q0 q1 q2 q5 q6 q7)))
      go_wp2_with fail
      refine (ds_run HI.out.di (pr P (k - 1) 0) 1 (fun h => by rw [HZ.out, ← HGP.out]; rfl)).mono ?_
      rintro e w5 ⟨rfl, b4, s4, x4, hI, ho4⟩
      have E4 := hid (show (b4.stop = false → (npY P T who).want s4 = none) ∧ npP s4 = k - 1 ∧ npS s4 = false from ⟨fun h => by rw [(ho4.1 h).2, HZ.out]; rfl, by
        cases hb : b4.stop with
        | false => rw [(ho4.1 hb).2, HZ.out]; exact ⟨HGP.out, HSP.out⟩
        | true => rw [(ho4.2.2.1 hb).1, HZ.out]; exact ⟨HGP.out, HSP.out⟩⟩)
      (have HI := hid (HI.out.step hI); clear hI; (obtain ⟨z0, z1, z2, z3⟩ := HI.out.di.cells); (have q0 := HI.out.out.cell 0; have q1 := HI.out.out.cell 1; have q2 := HI.out.out.cell 2; have qf := HI.out.out.frozen; have q5 := HI.out.res.cell 0; have q6 := HI.out.res.cell 1; have q7 := HI.out.res.cell 2; have qg := HI.out.res.frozen; simp only [List.getElem?_cons_zero, List.getElem?_cons_succ, List.set_cons_zero, List.set_cons_succ, List.set_nil] at q0 q1 q2 q5 q6 q7))
      clear ho4
      go_wp2
      ((try simp only [Exit.inBlock, Exit.then]); refine bodyPost_ret (results_cell_row rfl _ _ _ _ _ _ _ rfl (((HI.out.setR 0 _).setR 1 _).setR 2 _).res Tryz.underlying67 rfl (by kernel_rfl)) rfl ?_)
      exact ⟨k - 1, false, true, b4, s4, rfl, (((HI.out.setR 0 _).setR 1 _).setR 2 _).di.run, (((HI.out.setR 0 _).setR 1 _).setR 2 _).kept, HI.out.di.ran, HI.out.di.good, E4.out⟩
end Go.Proofs.YtlhnnggceebpjaaGreat.Rest
