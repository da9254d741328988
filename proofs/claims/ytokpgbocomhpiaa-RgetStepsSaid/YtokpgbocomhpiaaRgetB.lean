/- The document's getting of a goroutine. -/
import Derived.Test.YtokpgbocomhpiaaRget
import Derived.Test.YtokpgbocomhpiaaDoc
set_option maxRecDepth 100000
set_option maxHeartbeats 4000000
set_option linter.unusedVariables false
set_option linter.unusedSimpArgs false
namespace Go.Proofs.Ytokpgbocomhpiaa.Rget
open Go.RowKit Go.Shelf Go.Proofs.Ytokpgbocomhpiaa.TK Go.Proofs.Ytokpgbocomhpiaa.Flag Go.Proofs.Ytokpgbocomhpiaa.Read Go.Proofs.Ytokpgbocomhpiaa.Grow Go.Proofs.Ytokpgbocomhpiaa.Words Go.Proofs.Ytokpgbocomhpiaa.Mem Go.Proofs.Ytokpgbocomhpiaa.Flow Go.Proofs.Ytokpgbocomhpiaa.Layout Go.Proofs.Ytokpgbocomhpiaa.Lock Go.Proofs.Ytokpgbocomhpiaa.Run Go.Proofs.Ytokpgbocomhpiaa.Sys Go.Proofs.Ytokpgbocomhpiaa.Mach Go.Proofs.Ytokpgbocomhpiaa.Doc Go.Proofs.Ytokpgbocomhpiaa.Ref05
theorem nOf_ne (x : Int) (h : W64 x) (hx : x ≠ 0) : nOf x ≠ -1 := by
  unfold nOf
  obtain ⟨h1, h2⟩ := h
  rw [IntKind.wrap_i64, IntKind.wrap_i64]
  omega
theorem rnext15_run (l : Nat) (P T G p : Int) (fr : Bool) (hd wd : Int) (B r : Nat) (v : Value) (a : RunSt) (got : List Int) (s0 : RtSt) (w : World) (h : RunAt w B r v a) (hg : Fits got a) (hs : a.stop = false → s0 = .ask hd wd) (hP : 0 ≤ P ∧ P ≤ 1000) :
    Calls Try.prog 177 #[.pointer (some ⟨r, 0, none⟩), .agg #[.int .i64 P, .int .i64 T, .int .i64 G], .int .i64 p] w fun e w' => ∃ g b s1, e = .returned (.int .i64 g) ∧ RunAt w' B r v b ∧ Kept [r] w w' ∧ Ran (rtM l P p fr).sys got s0 a s1 b ∧ Fits got b ∧ (b.stop = false → a.stop = false ∧ ((g = -1 ∧ ∃ x, W64 x ∧ s1 = missed fr hd x) ∨ (∃ x, g = nOf x ∧ W64 x ∧ x ≠ 0 ∧ s1 = .got hd x (!fr)))) ∧ (b.stop = true → g = -1) := by
  have HI := hid (DI.start (M := (rtM l P p fr).sys) (P := P) (T := T) (G := G) h hg s0)
  have HP := hid (And.intro hP trivial)
  have HS := hid hs
  obtain ⟨z0, z1, z2, z3⟩ := HI.out.cells
  clear h hg hs hP
  go_enter Try.func177, Try.ntmps177
  go_wp2_with fail
  (refine (procat_run P T G _ _ _ HP.out.1 (by omega)).mono ?_; rintro e w1 ⟨rfl, hb⟩; (have HI := hid (HI.out.quiet hb); clear hb; obtain ⟨z0, z1, z2, z3⟩ := HI.out.cells))
  go_wp2_with fail
  refine (dl_run HI.out (pr P p 3) (fun h => by rw [HS.out h]; rfl)).mono ?_
  rintro e w2 ⟨b1, s1, x1, rfl, hI, ho1⟩
  (have HI := hid hI; obtain ⟨z0, z1, z2, z3⟩ := HI.out.cells; clear hI)
  by_cases hx : x1 = 0
  · subst hx
    have HE := hid (show b1.stop = false → a.stop = false ∧ s1 = missed fr hd 0 from fun h => by obtain ⟨h1, h2⟩ := ho1.1 h; refine ⟨h1, ?_⟩; rw [h2, HS.out h1]; show rtNext fr (.ask hd wd) 0 = _; simp [rtNext])
    clear ho1
    go_wp2
    go_ret
    exact ⟨-1, b1, s1, rfl, HI.out.run, HI.out.kept, HI.out.ran, HI.out.good, fun h => ⟨(HE.out h).1, .inl ⟨rfl, 0, ⟨by omega, by omega⟩, (HE.out h).2⟩⟩, fun _ => rfl⟩
  · have hb1 : b1.stop = false := by
      cases hb : b1.stop with
      | false => rfl
      | true => exact absurd (ho1.2.2.1 hb).2 hx
    obtain ⟨ha, h2⟩ := ho1.1 hb1
    have e1 : s1 = .sw hd x1 := by
      rw [h2, HS.out ha]
      show rtNext fr (.ask hd wd) x1 = _
      simp [rtNext, hx]
    have q1 : ((x1 : Int) == 0) = false := by simp [hx]
    have q2 : ((x1 : Int) != 0) = true := by simp [hx]
    have m1 : IntKind.i64.wrap (IntKind.i64.wrap x1 - 1) = nOf x1 := rfl
    have m2 : wrap64 (wrap64 x1 - 1) = nOf x1 := by unfold nOf; simp only [IntWalk.i64_left]
    have HA := hid (And.intro ha (And.intro ho1.2.1 hx))
    clear ho1 hx hb1 h2 ha
    go_wp2_with fail
    refine (dw_run HI.out (pr P p 3) x1 0 (fun h => by rw [e1]; rfl)).mono ?_
    rintro e w3 ⟨b2, s2, y, rfl, hI, ho2⟩
    (have HI := hid hI; obtain ⟨z0, z1, z2, z3⟩ := HI.out.cells; clear hI)
    by_cases hy : y = 1
    · subst hy
      have hb2 : b2.stop = false := by
        cases hb : b2.stop with
        | false => rfl
        | true => exact absurd (ho2.2.2.1 hb).2 (by decide)
      have HE := hid (show b2.stop = false ∧ s2 = .got hd x1 (!fr) from ⟨hb2, by rw [(ho2.1 hb2).2, e1]; show rtNext fr (.sw hd x1) 1 = _; simp [rtNext]⟩)
      clear ho2 hb2 e1
      go_wp2
      go_ret
      exact ⟨_, b2, s2, rfl, HI.out.run, HI.out.kept, HI.out.ran, HI.out.good, fun _ => ⟨HA.out.1, .inr ⟨x1, by first | rfl | exact m2 | exact m1, HA.out.2.1, HA.out.2.2, HE.out.2⟩⟩, fun h => absurd (HE.out.1.symm.trans h) (by simp)⟩
    · have hyb : ((y : Int) == 1) = false := by simp [hy]
      have HE := hid (show b2.stop = false → s2 = missed fr hd x1 from fun h => by rw [(ho2.1 h).2, e1]; show rtNext fr (.sw hd x1) y = _; simp [rtNext, hy])
      clear ho2 e1 hy
      go_wp2
      go_ret
      exact ⟨_, b2, s2, rfl, HI.out.run, HI.out.kept, HI.out.ran, HI.out.good, fun h => ⟨HA.out.1, .inl ⟨rfl, x1, HA.out.2.1, HE.out h⟩⟩, fun _ => rfl⟩
theorem rget15_run_t (l : Nat) (P T G p : Int) (B r : Nat) (v : Value) (a : RunSt) (got : List Int) (s0 : RtSt) (w : World) (h : RunAt w B r v a) (hg : Fits got a) (hs : a.stop = false → ∃ hd wd, s0 = .look hd wd) (hP : 0 ≤ P ∧ P ≤ 1000) :
    Calls Try.prog 87 #[.pointer (some ⟨r, 0, none⟩), .agg #[.int .i64 P, .int .i64 T, .int .i64 G], .int .i64 p, .bool true] w fun e w' => ∃ g i b s1, e = .returned (.agg #[.int .i64 g, .bool i]) ∧ RunAt w' B r v b ∧ Kept [r] w w' ∧ Ran (rtM l P p true).sys got s0 a s1 b ∧ Fits got b ∧ (b.stop = false → (rtM l P p true).sys.want s1 = none ∧ g = s1.g ∧ i = s1.i) := by
  have hlt := h.blk.lt
  obtain ⟨wA, hwA⟩ : ∃ wA, wA = (w.alloc (.cells #[.int .i64 P, .int .i64 T, .int .i64 G] 36)).alloc (.cells #[.int .i64 0, .bool false] 109) := ⟨_, rfl⟩
  have hbA : Below w.heap.size w wA := by rw [hwA]; exact (below_one w _).alloc (by simp) _
  have HRES : Hid (Blk wA (w.heap.size + 1) [.int .i64 0, .bool false] 109) := by rw [hwA]; exact Blk.new_at _ _ (by simp)
  have HBOX : Blk wA w.heap.size [.int .i64 P, .int .i64 T, .int .i64 G] 36 := by rw [hwA]; exact (Blk.new w [.int .i64 P, .int .i64 T, .int .i64 G] 36).alloc _
  have HI : Hid (DI (rtM l P p true).sys got s0 a wA wA B r w.heap.size v P T G a s0) := ⟨h.quiet hbA, Kept.refl _ _, .same _ _, hg, HBOX⟩
  have HRB := hid (show w.heap.size + 1 ≠ r by omega)
  have FIN := hid (fun (wX : World) (b : RunSt) (s : RtSt) (v0 v1 : Value) (hd : DI (rtM l P p true).sys got s0 a wA wX B r w.heap.size v P T G b s) => (show RunAt ((wX.setCell ⟨w.heap.size + 1, 0, none⟩ v0).setCell ⟨w.heap.size + 1, 1, none⟩ v1) B r v b ∧ Kept [r] w ((wX.setCell ⟨w.heap.size + 1, 0, none⟩ v0).setCell ⟨w.heap.size + 1, 1, none⟩ v1) ∧ Blk ((wX.setCell ⟨w.heap.size + 1, 0, none⟩ v0).setCell ⟨w.heap.size + 1, 1, none⟩ v1) (w.heap.size + 1) [v0, v1] 109 from by
    have hk : Kept [w.heap.size + 1] wX ((wX.setCell ⟨w.heap.size + 1, 0, none⟩ v0).setCell ⟨w.heap.size + 1, 1, none⟩ v1) := ((Kept.refl _ _).set (.inl (by simp)) _).set (.inl (by simp)) _
    have hrX := HRES.out.kept hd.kept (by simp [HRB.out])
    refine ⟨hd.run.kept hk (by simp [Ne.symm HRB.out]) (by intro i hi; simp at hi; subst hi; exact own_type hd.run.grow hrX (by decide)), ?_, (hrX.set 0 v0).set 1 v1⟩
    exact ((Kept.of_below hbA [r]).trans hd.kept (by intro i hi; exact .inl hi)).trans hk (by intro i hi; simp at hi; subst hi; exact .inr (by omega))))
  have HP := hid (And.intro hP trivial)
  have HLK := hid hs
  obtain ⟨z0, z1, z2, z3⟩ := HI.out.cells
  have HWA := hid hwA
  clear h hg hs hP hbA HBOX hlt
  go_enter Try.func87, Try.ntmps87
  go_wp2_with fail
  rw [← HWA.out]
  go_loopw [] (fun wr => ∃ b s, DI (rtM l P p true).sys got s0 a wA wr B r w.heap.size v P T G b s ∧ (b.stop = false → ∃ hd wd, s = .look hd wd)) (fun wr => Run.leftOf got.length r wr)
  case atStart => exact ⟨_, _, HI.out, HLK.out⟩
  case round =>
    clear HI HLK
    obtain ⟨b, s, hI, hlk⟩ := hrel
    have hleft := left_eq (got := got) hI.run
    (have HI := hid hI; obtain ⟨z0, z1, z2, z3⟩ := HI.out.cells; clear hI)
    (have q5 := (HRES.out.kept HI.out.kept (by simp [HRB.out])).cell 0; have q6 := (HRES.out.kept HI.out.kept (by simp [HRB.out])).cell 1; have qf := (HRES.out.kept HI.out.kept (by simp [HRB.out])).frozen; simp only [List.getElem?_cons_zero, List.getElem?_cons_succ] at q5 q6)
    cases hbs : b.stop with
    | true =>
      rw [hbs] at z3
      have HE := hid hbs
      clear hlk hbs
      go_wp2
      (((try simp only [Exit.inBlock, Exit.then]); refine bodyPost_ret (results_cell_row rfl _ _ _ _ _ _ _ rfl (FIN.out _ _ _ _ _ HI.out).2.2 Try.underlying109 rfl (by kernel_rfl)) rfl ?_))
      exact ⟨-1, false, b, s, rfl, (FIN.out _ b s _ _ HI.out).1, (FIN.out _ b s _ _ HI.out).2.1, HI.out.ran, HI.out.good, fun h => absurd (HE.out.symm.trans h) (by simp)⟩
    | false =>
      obtain ⟨hd, wd, rfl⟩ := hlk hbs
      rw [hbs] at z3
      have HL := hid (And.intro hbs hleft)
      clear hlk hbs hleft
      go_wp2_with fail
      (refine (procat_run P T G _ _ _ HP.out.1 (by omega)).mono ?_; rintro e w1 ⟨rfl, hb⟩; (have HI := hid (HI.out.quiet hb); clear hb; obtain ⟨z0, z1, z2, z3⟩ := HI.out.cells))
      go_wp2_with fail
      refine (dl_run HI.out (pr P p 1) (fun h => rfl)).mono ?_
      rintro e w2 ⟨b1, s1, x1, rfl, hI, ho1⟩
      have e1 : b1.stop = false → s1 = .tl x1 wd := fun h => by obtain ⟨h1, h2⟩ := ho1.1 h; rw [h2]; rfl
      (have HI := hid hI; obtain ⟨z0, z1, z2, z3⟩ := HI.out.cells; clear hI)
      go_wp2_with fail
      (refine (procat_run P T G _ _ _ HP.out.1 (by omega)).mono ?_; rintro e w1 ⟨rfl, hb⟩; (have HI := hid (HI.out.quiet hb); clear hb; obtain ⟨z0, z1, z2, z3⟩ := HI.out.cells))
      go_wp2_with fail
      refine (dl_run HI.out (pr P p 2) (fun h => by rw [e1 h]; rfl)).mono ?_
      rintro e w3 ⟨b2, s2, x2, rfl, hI, ho2⟩
      (have HI := hid hI; obtain ⟨z0, z1, z2, z3⟩ := HI.out.cells; clear hI)
      clear q5 q6 qf
      (have q5 := (HRES.out.kept HI.out.kept (by simp [HRB.out])).cell 0; have q6 := (HRES.out.kept HI.out.kept (by simp [HRB.out])).cell 1; have qf := (HRES.out.kept HI.out.kept (by simp [HRB.out])).frozen; simp only [List.getElem?_cons_zero, List.getElem?_cons_succ] at q5 q6)
      cases hb2 : b2.stop with
      | true =>
        rw [hb2] at z3
        have HE := hid hb2
        clear ho1 ho2 e1 hb2
        go_wp2
        (((try simp only [Exit.inBlock, Exit.then]); refine bodyPost_ret (results_cell_row rfl _ _ _ _ _ _ _ rfl (FIN.out _ _ _ _ _ HI.out).2.2 Try.underlying109 rfl (by kernel_rfl)) rfl ?_))
        exact ⟨-1, false, b2, s2, rfl, (FIN.out _ b2 s2 _ _ HI.out).1, (FIN.out _ b2 s2 _ _ HI.out).2.1, HI.out.ran, HI.out.good, fun h => absurd (HE.out.symm.trans h) (by simp)⟩
      | false =>
        rw [hb2] at z3
        obtain ⟨hb1, h2⟩ := ho2.1 hb2
        rw [e1 hb1] at h2
        have hdec : left got b2 < left got b := Nat.lt_of_le_of_lt ho2.2.2.2.2 (ho1.2.2.2.1 HL.out.1)
        have HX := hid (And.intro ho1.2.1 (And.intro ho2.2.1 (And.intro hb2 hdec)))
        clear ho1 ho2 e1 hb1 hb2 hdec
        by_cases hm : Ring.manyOf x1 x2 = 0
        · have e2 : s2 = (if true then .ask x1 wd else .none x1 wd) := by rw [h2]; show rtNext true (.tl x1 wd) x2 = _; simp [rtNext, hm]
          have HM := hid (fun w => Ring.rmany_run x1 x2 w HX.out.1 HX.out.2.1)
          rw [hm] at HM
          simp only [if_true, Bool.false_eq_true, if_false] at e2
          clear h2 hm
          go_wp2_with fail
          refine (HM.out _).mono ?_
          rintro e w4 ⟨rfl, rfl⟩
          go_wp2_with fail
          refine (rnext15_run l P T G p true x1 wd B r v b2 got s2 _ HI.out.run HI.out.good (fun _ => e2) HP.out.1).mono ?_
          rintro e w5 ⟨gz, b3, s3, rfl, hr3, hk3, hran3, hg3, hon3, hoff3⟩
          have hI : DI (rtM l P p true).sys got s0 a wA w5 B r w.heap.size v P T G b3 s3 := ⟨hr3, HI.out.kept.trans hk3 (by intro i hi; exact .inl hi), HI.out.ran.trans hran3, hg3, HI.out.box.kept hk3 (by have := HI.out.ne; simpa using this)⟩
          have HE := hid (show b3.stop = false → (rtM l P p true).sys.want s3 = none ∧ gz = s3.g ∧ false = s3.i from fun h => by
            rcases (hon3 h).2 with ⟨h1, x, _, h2⟩ | ⟨x, h1, _, _, h2⟩
            · rw [h1, h2]; exact ⟨rfl, rfl, rfl⟩
            · rw [h1, h2]; exact ⟨rfl, rfl, rfl⟩)
          clear hr3 hk3 hran3 hg3 hon3 hoff3 e2
          (have HI := hid hI; obtain ⟨z0, z1, z2, z3⟩ := HI.out.cells; clear hI)
          clear q5 q6 qf
          (have q5 := (HRES.out.kept HI.out.kept (by simp [HRB.out])).cell 0; have q6 := (HRES.out.kept HI.out.kept (by simp [HRB.out])).cell 1; have qf := (HRES.out.kept HI.out.kept (by simp [HRB.out])).frozen; simp only [List.getElem?_cons_zero, List.getElem?_cons_succ] at q5 q6)
          go_wp2
          (((try simp only [Exit.inBlock, Exit.then]); refine bodyPost_ret (results_cell_row rfl _ _ _ _ _ _ _ rfl (FIN.out _ _ _ _ _ HI.out).2.2 Try.underlying109 rfl (by kernel_rfl)) rfl ?_))
          exact ⟨gz, false, b3, s3, rfl, (FIN.out _ b3 s3 _ _ HI.out).1, (FIN.out _ b3 s3 _ _ HI.out).2.1, HI.out.ran, HI.out.good, HE.out⟩
        · have e2 : s2 = .rd x1 wd := by rw [h2]; show rtNext true (.tl x1 wd) x2 = _; simp [rtNext, hm]
          have HM := hid (fun w => Ring.rmany_run x1 x2 w HX.out.1 HX.out.2.1)
          obtain ⟨mo, hmo⟩ : ∃ mo, mo = Ring.manyOf x1 x2 := ⟨_, rfl⟩
          rw [← hmo] at HM hm
          have hmq : ((mo : Int) == 0) = false := by simp [hm]
          have hx1 := HX.out.1
          have n1 : IntKind.u64.wrap (x1 + 1) % 4294967296 = nextW x1 := rfl
          have n3 : 0 ≤ IntKind.u64.wrap (x1 + 1) := by rw [IntKind.wrap_u64]; omega
          have n2 : (IntKind.u64.wrap (x1 + 1)).tmod 4294967296 = nextW x1 := Int.tmod_eq_emod_of_nonneg n3
          clear h2 hm hmo
          go_wp2_with fail
          refine (HM.out _).mono ?_
          rintro e w4 ⟨rfl, rfl⟩
          go_wp2_with fail
          refine (ringat_run P T G p x1 _ HP.out.1 hx1).mono ?_
          rintro e w5 ⟨rfl, hb⟩
          (have HI := hid (HI.out.quiet hb); clear hb; obtain ⟨z0, z1, z2, z3⟩ := HI.out.cells)
          go_wp2_with fail
          refine (dl_run HI.out (rg P p x1) (fun h => by rw [e2]; rfl)).mono ?_
          rintro e w6 ⟨b3, s3, x3, rfl, hI, ho3⟩
          have e3 : b3.stop = false → s3 = .tk x1 x3 := fun h => by obtain ⟨h1, h2⟩ := ho3.1 h; rw [h2, e2]; rfl
          have hl3 := ho3.2.2.2.1 HX.out.2.2.1
          (have HI := hid hI; obtain ⟨z0, z1, z2, z3⟩ := HI.out.cells; clear hI)
          go_wp2_with fail
          (refine (procat_run P T G _ _ _ HP.out.1 (by omega)).mono ?_; rintro e w1 ⟨rfl, hb⟩; (have HI := hid (HI.out.quiet hb); clear hb; obtain ⟨z0, z1, z2, z3⟩ := HI.out.cells))
          go_wp2_with fail
          refine (dw_run HI.out (pr P p 1) x1 (nextW x1) (fun h => by rw [e3 h]; rfl)).mono ?_
          rintro e w7 ⟨b4, s4, y, rfl, hI, ho4⟩
          have hl4 := ho4.2.2.2.2
          (have HI := hid hI; obtain ⟨z0, z1, z2, z3⟩ := HI.out.cells; clear hI)
          clear q5 q6 qf
          (have q5 := (HRES.out.kept HI.out.kept (by simp [HRB.out])).cell 0; have q6 := (HRES.out.kept HI.out.kept (by simp [HRB.out])).cell 1; have qf := (HRES.out.kept HI.out.kept (by simp [HRB.out])).frozen; simp only [List.getElem?_cons_zero, List.getElem?_cons_succ] at q5 q6)
          have m1 : IntKind.i64.wrap (IntKind.i64.wrap x3 - 1) = nOf x3 := rfl
          have m2 : wrap64 (wrap64 x3 - 1) = nOf x3 := by unfold nOf; simp only [IntWalk.i64_left]
          by_cases hy : y = 1
          · subst hy
            have hb4 : b4.stop = false := by
              cases hb : b4.stop with
              | false => rfl
              | true => exact absurd (ho4.2.2.1 hb).2 (by decide)
            have HE := hid (show b4.stop = false ∧ s4 = .got x1 x3 false from ⟨hb4, by rw [(ho4.1 hb4).2, e3 (ho4.1 hb4).1]; show rtNext true (.tk x1 x3) 1 = _; simp [rtNext]⟩)
            clear ho3 ho4 e2 e3 hb4 hl3 hl4
            go_wp2
            (((try simp only [Exit.inBlock, Exit.then]); refine bodyPost_ret (results_cell_row rfl _ _ _ _ _ _ _ rfl (FIN.out _ _ _ _ _ HI.out).2.2 Try.underlying109 rfl (by kernel_rfl)) rfl ?_))
            exact ⟨_, false, b4, s4, rfl, (FIN.out _ b4 s4 _ _ HI.out).1, (FIN.out _ b4 s4 _ _ HI.out).2.1, HI.out.ran, HI.out.good, fun _ => by rw [HE.out.2]; exact ⟨rfl, by first | rfl | exact m2 | exact m1, rfl⟩⟩
          · have hyb : ((y : Int) == 1) = false := by simp [hy]
            have HE := hid (show b4.stop = false → ∃ hd wd, s4 = .look hd wd from fun h => ⟨x1, x3, by rw [(ho4.1 h).2, e3 (ho4.1 h).1]; show rtNext true (.tk x1 x3) y = _; simp [rtNext, hy]⟩)
            have hl7 := left_eq (got := got) HI.out.run
            have hfin : left got b4 < left got b := Nat.lt_of_le_of_lt hl4 (Nat.lt_trans hl3 HX.out.2.2.2)
            have HF := hid (And.intro hl7 hfin)
            clear ho3 ho4 e2 e3 hl3 hl4 hl7 hfin hy q5 q6 qf
            go_wp2_with fail
            go_roundw
            case rel => exact ⟨b4, s4, HI.out, HE.out⟩
            case measure =>
              rw [HF.out.1, HL.out.2]
              exact HF.out.2
theorem rget15_run_f (l : Nat) (P T G p : Int) (B r : Nat) (v : Value) (a : RunSt) (got : List Int) (s0 : RtSt) (w : World) (h : RunAt w B r v a) (hg : Fits got a) (hs : a.stop = false → ∃ hd wd, s0 = .ask hd wd) (hP : 0 ≤ P ∧ P ≤ 1000) :
    Calls Try.prog 87 #[.pointer (some ⟨r, 0, none⟩), .agg #[.int .i64 P, .int .i64 T, .int .i64 G], .int .i64 p, .bool false] w fun e w' => ∃ g i b s1, e = .returned (.agg #[.int .i64 g, .bool i]) ∧ RunAt w' B r v b ∧ Kept [r] w w' ∧ Ran (rtM l P p false).sys got s0 a s1 b ∧ Fits got b ∧ (b.stop = false → (rtM l P p false).sys.want s1 = none ∧ g = s1.g ∧ i = s1.i) := by
  have hlt := h.blk.lt
  obtain ⟨wA, hwA⟩ : ∃ wA, wA = (w.alloc (.cells #[.int .i64 P, .int .i64 T, .int .i64 G] 36)).alloc (.cells #[.int .i64 0, .bool false] 109) := ⟨_, rfl⟩
  have hbA : Below w.heap.size w wA := by rw [hwA]; exact (below_one w _).alloc (by simp) _
  have HRES : Hid (Blk wA (w.heap.size + 1) [.int .i64 0, .bool false] 109) := by rw [hwA]; exact Blk.new_at _ _ (by simp)
  have HBOX : Blk wA w.heap.size [.int .i64 P, .int .i64 T, .int .i64 G] 36 := by rw [hwA]; exact (Blk.new w [.int .i64 P, .int .i64 T, .int .i64 G] 36).alloc _
  have HI : Hid (DI (rtM l P p false).sys got s0 a wA wA B r w.heap.size v P T G a s0) := ⟨h.quiet hbA, Kept.refl _ _, .same _ _, hg, HBOX⟩
  have HRB := hid (show w.heap.size + 1 ≠ r by omega)
  have FIN := hid (fun (wX : World) (b : RunSt) (s : RtSt) (v0 v1 : Value) (hd : DI (rtM l P p false).sys got s0 a wA wX B r w.heap.size v P T G b s) => (show RunAt ((wX.setCell ⟨w.heap.size + 1, 0, none⟩ v0).setCell ⟨w.heap.size + 1, 1, none⟩ v1) B r v b ∧ Kept [r] w ((wX.setCell ⟨w.heap.size + 1, 0, none⟩ v0).setCell ⟨w.heap.size + 1, 1, none⟩ v1) ∧ Blk ((wX.setCell ⟨w.heap.size + 1, 0, none⟩ v0).setCell ⟨w.heap.size + 1, 1, none⟩ v1) (w.heap.size + 1) [v0, v1] 109 from by
    have hk : Kept [w.heap.size + 1] wX ((wX.setCell ⟨w.heap.size + 1, 0, none⟩ v0).setCell ⟨w.heap.size + 1, 1, none⟩ v1) := ((Kept.refl _ _).set (.inl (by simp)) _).set (.inl (by simp)) _
    have hrX := HRES.out.kept hd.kept (by simp [HRB.out])
    refine ⟨hd.run.kept hk (by simp [Ne.symm HRB.out]) (by intro i hi; simp at hi; subst hi; exact own_type hd.run.grow hrX (by decide)), ?_, (hrX.set 0 v0).set 1 v1⟩
    exact ((Kept.of_below hbA [r]).trans hd.kept (by intro i hi; exact .inl hi)).trans hk (by intro i hi; simp at hi; subst hi; exact .inr (by omega))))
  have HP := hid (And.intro hP trivial)
  obtain ⟨hd, wd, hs⟩ : ∃ hd wd, a.stop = false → s0 = .ask hd wd := by
    cases ha : a.stop with
    | true => exact ⟨0, 0, fun h => by cases h⟩
    | false => obtain ⟨hd, wd, h⟩ := hs ha; exact ⟨hd, wd, fun _ => h⟩
  have HS := hid hs
  obtain ⟨z0, z1, z2, z3⟩ := HI.out.cells
  have HWA := hid hwA
  clear h hg hs hP hbA HBOX hlt
  go_enter Try.func87, Try.ntmps87
  go_wp2_with fail
  rw [← HWA.out]
  refine (rnext15_run l P T G p false hd wd B r v a got s0 _ HI.out.run HI.out.good HS.out HP.out.1).mono ?_
  rintro e w5 ⟨gz, b3, s3, rfl, hr3, hk3, hran3, hg3, hon3, hoff3⟩
  have hI : DI (rtM l P p false).sys got s0 a wA w5 B r w.heap.size v P T G b3 s3 := ⟨hr3, HI.out.kept.trans hk3 (by intro i hi; exact .inl hi), HI.out.ran.trans hran3, hg3, HI.out.box.kept hk3 (by have := HI.out.ne; simpa using this)⟩
  clear hr3 hk3 hran3 hg3
  (have HI := hid hI; obtain ⟨z0, z1, z2, z3⟩ := HI.out.cells; clear hI)
  (have q5 := (HRES.out.kept HI.out.kept (by simp [HRB.out])).cell 0; have q6 := (HRES.out.kept HI.out.kept (by simp [HRB.out])).cell 1; have qf := (HRES.out.kept HI.out.kept (by simp [HRB.out])).frozen; simp only [List.getElem?_cons_zero, List.getElem?_cons_succ] at q5 q6)
  cases hb3 : b3.stop with
  | true =>
    rw [hb3] at z3
    obtain rfl := hoff3 hb3
    have HLK := hid (show b3.stop = false → ∃ hd wd, s3 = .look hd wd from fun h => absurd (hb3.symm.trans h) (by simp))
    clear hon3 hoff3 hb3 q5 q6 qf
    go_wp2_with fail
    go_loopw [] (fun wr => ∃ b s, DI (rtM l P p false).sys got s0 a wA wr B r w.heap.size v P T G b s ∧ (b.stop = false → ∃ hd wd, s = .look hd wd)) (fun wr => Run.leftOf got.length r wr)
    case atStart => exact ⟨_, _, HI.out, HLK.out⟩
    case round =>
      clear HI HLK
      obtain ⟨b, s, hI, hlk⟩ := hrel
      have hleft := left_eq (got := got) hI.run
      (have HI := hid hI; obtain ⟨z0, z1, z2, z3⟩ := HI.out.cells; clear hI)
      (have q5 := (HRES.out.kept HI.out.kept (by simp [HRB.out])).cell 0; have q6 := (HRES.out.kept HI.out.kept (by simp [HRB.out])).cell 1; have qf := (HRES.out.kept HI.out.kept (by simp [HRB.out])).frozen; simp only [List.getElem?_cons_zero, List.getElem?_cons_succ] at q5 q6)
      cases hbs : b.stop with
      | true =>
        rw [hbs] at z3
        have HE := hid hbs
        clear hlk hbs
        go_wp2
        (((try simp only [Exit.inBlock, Exit.then]); refine bodyPost_ret (results_cell_row rfl _ _ _ _ _ _ _ rfl (FIN.out _ _ _ _ _ HI.out).2.2 Try.underlying109 rfl (by kernel_rfl)) rfl ?_))
        exact ⟨-1, false, b, s, rfl, (FIN.out _ b s _ _ HI.out).1, (FIN.out _ b s _ _ HI.out).2.1, HI.out.ran, HI.out.good, fun h => absurd (HE.out.symm.trans h) (by simp)⟩
      | false =>
        obtain ⟨hd, wd, rfl⟩ := hlk hbs
        rw [hbs] at z3
        have HL := hid (And.intro hbs hleft)
        clear hlk hbs hleft
        go_wp2_with fail
        (refine (procat_run P T G _ _ _ HP.out.1 (by omega)).mono ?_; rintro e w1 ⟨rfl, hb⟩; (have HI := hid (HI.out.quiet hb); clear hb; obtain ⟨z0, z1, z2, z3⟩ := HI.out.cells))
        go_wp2_with fail
        refine (dl_run HI.out (pr P p 1) (fun h => rfl)).mono ?_
        rintro e w2 ⟨b1, s1, x1, rfl, hI, ho1⟩
        have e1 : b1.stop = false → s1 = .tl x1 wd := fun h => by obtain ⟨h1, h2⟩ := ho1.1 h; rw [h2]; rfl
        (have HI := hid hI; obtain ⟨z0, z1, z2, z3⟩ := HI.out.cells; clear hI)
        go_wp2_with fail
        (refine (procat_run P T G _ _ _ HP.out.1 (by omega)).mono ?_; rintro e w1 ⟨rfl, hb⟩; (have HI := hid (HI.out.quiet hb); clear hb; obtain ⟨z0, z1, z2, z3⟩ := HI.out.cells))
        go_wp2_with fail
        refine (dl_run HI.out (pr P p 2) (fun h => by rw [e1 h]; rfl)).mono ?_
        rintro e w3 ⟨b2, s2, x2, rfl, hI, ho2⟩
        (have HI := hid hI; obtain ⟨z0, z1, z2, z3⟩ := HI.out.cells; clear hI)
        clear q5 q6 qf
        (have q5 := (HRES.out.kept HI.out.kept (by simp [HRB.out])).cell 0; have q6 := (HRES.out.kept HI.out.kept (by simp [HRB.out])).cell 1; have qf := (HRES.out.kept HI.out.kept (by simp [HRB.out])).frozen; simp only [List.getElem?_cons_zero, List.getElem?_cons_succ] at q5 q6)
        cases hb2 : b2.stop with
        | true =>
          rw [hb2] at z3
          have HE := hid hb2
          clear ho1 ho2 e1 hb2
          go_wp2
          (((try simp only [Exit.inBlock, Exit.then]); refine bodyPost_ret (results_cell_row rfl _ _ _ _ _ _ _ rfl (FIN.out _ _ _ _ _ HI.out).2.2 Try.underlying109 rfl (by kernel_rfl)) rfl ?_))
          exact ⟨-1, false, b2, s2, rfl, (FIN.out _ b2 s2 _ _ HI.out).1, (FIN.out _ b2 s2 _ _ HI.out).2.1, HI.out.ran, HI.out.good, fun h => absurd (HE.out.symm.trans h) (by simp)⟩
        | false =>
          rw [hb2] at z3
          obtain ⟨hb1, h2⟩ := ho2.1 hb2
          rw [e1 hb1] at h2
          have hdec : left got b2 < left got b := Nat.lt_of_le_of_lt ho2.2.2.2.2 (ho1.2.2.2.1 HL.out.1)
          have HX := hid (And.intro ho1.2.1 (And.intro ho2.2.1 (And.intro hb2 hdec)))
          clear ho1 ho2 e1 hb1 hb2 hdec
          by_cases hm : Ring.manyOf x1 x2 = 0
          · have e2 : s2 = (if false then .ask x1 wd else .none x1 wd) := by rw [h2]; show rtNext false (.tl x1 wd) x2 = _; simp [rtNext, hm]
            have HM := hid (fun w => Ring.rmany_run x1 x2 w HX.out.1 HX.out.2.1)
            rw [hm] at HM
            simp only [if_true, Bool.false_eq_true, if_false] at e2
            clear h2 hm
            go_wp2_with fail
            refine (HM.out _).mono ?_
            rintro e w4 ⟨rfl, rfl⟩
            have HE := hid e2
            clear e2
            go_wp2
            (((try simp only [Exit.inBlock, Exit.then]); refine bodyPost_ret (results_cell_row rfl _ _ _ _ _ _ _ rfl (FIN.out _ _ _ _ _ HI.out).2.2 Try.underlying109 rfl (by kernel_rfl)) rfl ?_))
            exact ⟨-1, false, b2, s2, rfl, (FIN.out _ b2 s2 _ _ HI.out).1, (FIN.out _ b2 s2 _ _ HI.out).2.1, HI.out.ran, HI.out.good, fun _ => by rw [HE.out]; exact ⟨rfl, rfl, rfl⟩⟩
          · have e2 : s2 = .rd x1 wd := by rw [h2]; show rtNext false (.tl x1 wd) x2 = _; simp [rtNext, hm]
            have HM := hid (fun w => Ring.rmany_run x1 x2 w HX.out.1 HX.out.2.1)
            obtain ⟨mo, hmo⟩ : ∃ mo, mo = Ring.manyOf x1 x2 := ⟨_, rfl⟩
            rw [← hmo] at HM hm
            have hmq : ((mo : Int) == 0) = false := by simp [hm]
            have hx1 := HX.out.1
            have n1 : IntKind.u64.wrap (x1 + 1) % 4294967296 = nextW x1 := rfl
            have n3 : 0 ≤ IntKind.u64.wrap (x1 + 1) := by rw [IntKind.wrap_u64]; omega
            have n2 : (IntKind.u64.wrap (x1 + 1)).tmod 4294967296 = nextW x1 := Int.tmod_eq_emod_of_nonneg n3
            clear h2 hm hmo
            go_wp2_with fail
            refine (HM.out _).mono ?_
            rintro e w4 ⟨rfl, rfl⟩
            go_wp2_with fail
            refine (ringat_run P T G p x1 _ HP.out.1 hx1).mono ?_
            rintro e w5 ⟨rfl, hb⟩
            (have HI := hid (HI.out.quiet hb); clear hb; obtain ⟨z0, z1, z2, z3⟩ := HI.out.cells)
            go_wp2_with fail
            refine (dl_run HI.out (rg P p x1) (fun h => by rw [e2]; rfl)).mono ?_
            rintro e w6 ⟨b3, s3, x3, rfl, hI, ho3⟩
            have e3 : b3.stop = false → s3 = .tk x1 x3 := fun h => by obtain ⟨h1, h2⟩ := ho3.1 h; rw [h2, e2]; rfl
            have hl3 := ho3.2.2.2.1 HX.out.2.2.1
            (have HI := hid hI; obtain ⟨z0, z1, z2, z3⟩ := HI.out.cells; clear hI)
            go_wp2_with fail
            (refine (procat_run P T G _ _ _ HP.out.1 (by omega)).mono ?_; rintro e w1 ⟨rfl, hb⟩; (have HI := hid (HI.out.quiet hb); clear hb; obtain ⟨z0, z1, z2, z3⟩ := HI.out.cells))
            go_wp2_with fail
            refine (dw_run HI.out (pr P p 1) x1 (nextW x1) (fun h => by rw [e3 h]; rfl)).mono ?_
            rintro e w7 ⟨b4, s4, y, rfl, hI, ho4⟩
            have hl4 := ho4.2.2.2.2
            (have HI := hid hI; obtain ⟨z0, z1, z2, z3⟩ := HI.out.cells; clear hI)
            clear q5 q6 qf
            (have q5 := (HRES.out.kept HI.out.kept (by simp [HRB.out])).cell 0; have q6 := (HRES.out.kept HI.out.kept (by simp [HRB.out])).cell 1; have qf := (HRES.out.kept HI.out.kept (by simp [HRB.out])).frozen; simp only [List.getElem?_cons_zero, List.getElem?_cons_succ] at q5 q6)
            have m1 : IntKind.i64.wrap (IntKind.i64.wrap x3 - 1) = nOf x3 := rfl
            have m2 : wrap64 (wrap64 x3 - 1) = nOf x3 := by unfold nOf; simp only [IntWalk.i64_left]
            by_cases hy : y = 1
            · subst hy
              have hb4 : b4.stop = false := by
                cases hb : b4.stop with
                | false => rfl
                | true => exact absurd (ho4.2.2.1 hb).2 (by decide)
              have HE := hid (show b4.stop = false ∧ s4 = .got x1 x3 false from ⟨hb4, by rw [(ho4.1 hb4).2, e3 (ho4.1 hb4).1]; show rtNext false (.tk x1 x3) 1 = _; simp [rtNext]⟩)
              clear ho3 ho4 e2 e3 hb4 hl3 hl4
              go_wp2
              (((try simp only [Exit.inBlock, Exit.then]); refine bodyPost_ret (results_cell_row rfl _ _ _ _ _ _ _ rfl (FIN.out _ _ _ _ _ HI.out).2.2 Try.underlying109 rfl (by kernel_rfl)) rfl ?_))
              exact ⟨_, false, b4, s4, rfl, (FIN.out _ b4 s4 _ _ HI.out).1, (FIN.out _ b4 s4 _ _ HI.out).2.1, HI.out.ran, HI.out.good, fun _ => by rw [HE.out.2]; exact ⟨rfl, by first | rfl | exact m2 | exact m1, rfl⟩⟩
            · have hyb : ((y : Int) == 1) = false := by simp [hy]
              have HE := hid (show b4.stop = false → ∃ hd wd, s4 = .look hd wd from fun h => ⟨x1, x3, by rw [(ho4.1 h).2, e3 (ho4.1 h).1]; show rtNext false (.tk x1 x3) y = _; simp [rtNext, hy]⟩)
              have hl7 := left_eq (got := got) HI.out.run
              have hfin : left got b4 < left got b := Nat.lt_of_le_of_lt hl4 (Nat.lt_trans hl3 HX.out.2.2.2)
              have HF := hid (And.intro hl7 hfin)
              clear ho3 ho4 e2 e3 hl3 hl4 hl7 hfin hy q5 q6 qf
              go_wp2_with fail
              go_roundw
              case rel => exact ⟨b4, s4, HI.out, HE.out⟩
              case measure =>
                rw [HF.out.1, HL.out.2]
                exact HF.out.2
  | false =>
    rw [hb3] at z3
    rcases (hon3 hb3).2 with ⟨h1, x, _, h2⟩ | ⟨x, h1, hxw, hx0, h2⟩
    · subst h1
      have HLK := hid (show b3.stop = false → ∃ hd wd, s3 = .look hd wd from fun _ => ⟨_, _, h2⟩)
      clear hon3 hoff3 hb3 h2 q5 q6 qf
      go_wp2_with fail
      go_loopw [] (fun wr => ∃ b s, DI (rtM l P p false).sys got s0 a wA wr B r w.heap.size v P T G b s ∧ (b.stop = false → ∃ hd wd, s = .look hd wd)) (fun wr => Run.leftOf got.length r wr)
      case atStart => exact ⟨_, _, HI.out, HLK.out⟩
      case round =>
        clear HI HLK
        obtain ⟨b, s, hI, hlk⟩ := hrel
        have hleft := left_eq (got := got) hI.run
        (have HI := hid hI; obtain ⟨z0, z1, z2, z3⟩ := HI.out.cells; clear hI)
        (have q5 := (HRES.out.kept HI.out.kept (by simp [HRB.out])).cell 0; have q6 := (HRES.out.kept HI.out.kept (by simp [HRB.out])).cell 1; have qf := (HRES.out.kept HI.out.kept (by simp [HRB.out])).frozen; simp only [List.getElem?_cons_zero, List.getElem?_cons_succ] at q5 q6)
        cases hbs : b.stop with
        | true =>
          rw [hbs] at z3
          have HE := hid hbs
          clear hlk hbs
          go_wp2
          (((try simp only [Exit.inBlock, Exit.then]); refine bodyPost_ret (results_cell_row rfl _ _ _ _ _ _ _ rfl (FIN.out _ _ _ _ _ HI.out).2.2 Try.underlying109 rfl (by kernel_rfl)) rfl ?_))
          exact ⟨-1, false, b, s, rfl, (FIN.out _ b s _ _ HI.out).1, (FIN.out _ b s _ _ HI.out).2.1, HI.out.ran, HI.out.good, fun h => absurd (HE.out.symm.trans h) (by simp)⟩
        | false =>
          obtain ⟨hd, wd, rfl⟩ := hlk hbs
          rw [hbs] at z3
          have HL := hid (And.intro hbs hleft)
          clear hlk hbs hleft
          go_wp2_with fail
          (refine (procat_run P T G _ _ _ HP.out.1 (by omega)).mono ?_; rintro e w1 ⟨rfl, hb⟩; (have HI := hid (HI.out.quiet hb); clear hb; obtain ⟨z0, z1, z2, z3⟩ := HI.out.cells))
          go_wp2_with fail
          refine (dl_run HI.out (pr P p 1) (fun h => rfl)).mono ?_
          rintro e w2 ⟨b1, s1, x1, rfl, hI, ho1⟩
          have e1 : b1.stop = false → s1 = .tl x1 wd := fun h => by obtain ⟨h1, h2⟩ := ho1.1 h; rw [h2]; rfl
          (have HI := hid hI; obtain ⟨z0, z1, z2, z3⟩ := HI.out.cells; clear hI)
          go_wp2_with fail
          (refine (procat_run P T G _ _ _ HP.out.1 (by omega)).mono ?_; rintro e w1 ⟨rfl, hb⟩; (have HI := hid (HI.out.quiet hb); clear hb; obtain ⟨z0, z1, z2, z3⟩ := HI.out.cells))
          go_wp2_with fail
          refine (dl_run HI.out (pr P p 2) (fun h => by rw [e1 h]; rfl)).mono ?_
          rintro e w3 ⟨b2, s2, x2, rfl, hI, ho2⟩
          (have HI := hid hI; obtain ⟨z0, z1, z2, z3⟩ := HI.out.cells; clear hI)
          clear q5 q6 qf
          (have q5 := (HRES.out.kept HI.out.kept (by simp [HRB.out])).cell 0; have q6 := (HRES.out.kept HI.out.kept (by simp [HRB.out])).cell 1; have qf := (HRES.out.kept HI.out.kept (by simp [HRB.out])).frozen; simp only [List.getElem?_cons_zero, List.getElem?_cons_succ] at q5 q6)
          cases hb2 : b2.stop with
          | true =>
            rw [hb2] at z3
            have HE := hid hb2
            clear ho1 ho2 e1 hb2
            go_wp2
            (((try simp only [Exit.inBlock, Exit.then]); refine bodyPost_ret (results_cell_row rfl _ _ _ _ _ _ _ rfl (FIN.out _ _ _ _ _ HI.out).2.2 Try.underlying109 rfl (by kernel_rfl)) rfl ?_))
            exact ⟨-1, false, b2, s2, rfl, (FIN.out _ b2 s2 _ _ HI.out).1, (FIN.out _ b2 s2 _ _ HI.out).2.1, HI.out.ran, HI.out.good, fun h => absurd (HE.out.symm.trans h) (by simp)⟩
          | false =>
            rw [hb2] at z3
            obtain ⟨hb1, h2⟩ := ho2.1 hb2
            rw [e1 hb1] at h2
            have hdec : left got b2 < left got b := Nat.lt_of_le_of_lt ho2.2.2.2.2 (ho1.2.2.2.1 HL.out.1)
            have HX := hid (And.intro ho1.2.1 (And.intro ho2.2.1 (And.intro hb2 hdec)))
            clear ho1 ho2 e1 hb1 hb2 hdec
            by_cases hm : Ring.manyOf x1 x2 = 0
            · have e2 : s2 = (if false then .ask x1 wd else .none x1 wd) := by rw [h2]; show rtNext false (.tl x1 wd) x2 = _; simp [rtNext, hm]
              have HM := hid (fun w => Ring.rmany_run x1 x2 w HX.out.1 HX.out.2.1)
              rw [hm] at HM
              simp only [if_true, Bool.false_eq_true, if_false] at e2
              clear h2 hm
              go_wp2_with fail
              refine (HM.out _).mono ?_
              rintro e w4 ⟨rfl, rfl⟩
              have HE := hid e2
              clear e2
              go_wp2
              (((try simp only [Exit.inBlock, Exit.then]); refine bodyPost_ret (results_cell_row rfl _ _ _ _ _ _ _ rfl (FIN.out _ _ _ _ _ HI.out).2.2 Try.underlying109 rfl (by kernel_rfl)) rfl ?_))
              exact ⟨-1, false, b2, s2, rfl, (FIN.out _ b2 s2 _ _ HI.out).1, (FIN.out _ b2 s2 _ _ HI.out).2.1, HI.out.ran, HI.out.good, fun _ => by rw [HE.out]; exact ⟨rfl, rfl, rfl⟩⟩
            · have e2 : s2 = .rd x1 wd := by rw [h2]; show rtNext false (.tl x1 wd) x2 = _; simp [rtNext, hm]
              have HM := hid (fun w => Ring.rmany_run x1 x2 w HX.out.1 HX.out.2.1)
              obtain ⟨mo, hmo⟩ : ∃ mo, mo = Ring.manyOf x1 x2 := ⟨_, rfl⟩
              rw [← hmo] at HM hm
              have hmq : ((mo : Int) == 0) = false := by simp [hm]
              have hx1 := HX.out.1
              have n1 : IntKind.u64.wrap (x1 + 1) % 4294967296 = nextW x1 := rfl
              have n3 : 0 ≤ IntKind.u64.wrap (x1 + 1) := by rw [IntKind.wrap_u64]; omega
              have n2 : (IntKind.u64.wrap (x1 + 1)).tmod 4294967296 = nextW x1 := Int.tmod_eq_emod_of_nonneg n3
              clear h2 hm hmo
              go_wp2_with fail
              refine (HM.out _).mono ?_
              rintro e w4 ⟨rfl, rfl⟩
              go_wp2_with fail
              refine (ringat_run P T G p x1 _ HP.out.1 hx1).mono ?_
              rintro e w5 ⟨rfl, hb⟩
              (have HI := hid (HI.out.quiet hb); clear hb; obtain ⟨z0, z1, z2, z3⟩ := HI.out.cells)
              go_wp2_with fail
              refine (dl_run HI.out (rg P p x1) (fun h => by rw [e2]; rfl)).mono ?_
              rintro e w6 ⟨b3, s3, x3, rfl, hI, ho3⟩
              have e3 : b3.stop = false → s3 = .tk x1 x3 := fun h => by obtain ⟨h1, h2⟩ := ho3.1 h; rw [h2, e2]; rfl
              have hl3 := ho3.2.2.2.1 HX.out.2.2.1
              (have HI := hid hI; obtain ⟨z0, z1, z2, z3⟩ := HI.out.cells; clear hI)
              go_wp2_with fail
              (refine (procat_run P T G _ _ _ HP.out.1 (by omega)).mono ?_; rintro e w1 ⟨rfl, hb⟩; (have HI := hid (HI.out.quiet hb); clear hb; obtain ⟨z0, z1, z2, z3⟩ := HI.out.cells))
              go_wp2_with fail
              refine (dw_run HI.out (pr P p 1) x1 (nextW x1) (fun h => by rw [e3 h]; rfl)).mono ?_
              rintro e w7 ⟨b4, s4, y, rfl, hI, ho4⟩
              have hl4 := ho4.2.2.2.2
              (have HI := hid hI; obtain ⟨z0, z1, z2, z3⟩ := HI.out.cells; clear hI)
              clear q5 q6 qf
              (have q5 := (HRES.out.kept HI.out.kept (by simp [HRB.out])).cell 0; have q6 := (HRES.out.kept HI.out.kept (by simp [HRB.out])).cell 1; have qf := (HRES.out.kept HI.out.kept (by simp [HRB.out])).frozen; simp only [List.getElem?_cons_zero, List.getElem?_cons_succ] at q5 q6)
              have m1 : IntKind.i64.wrap (IntKind.i64.wrap x3 - 1) = nOf x3 := rfl
              have m2 : wrap64 (wrap64 x3 - 1) = nOf x3 := by unfold nOf; simp only [IntWalk.i64_left]
              by_cases hy : y = 1
              · subst hy
                have hb4 : b4.stop = false := by
                  cases hb : b4.stop with
                  | false => rfl
                  | true => exact absurd (ho4.2.2.1 hb).2 (by decide)
                have HE := hid (show b4.stop = false ∧ s4 = .got x1 x3 false from ⟨hb4, by rw [(ho4.1 hb4).2, e3 (ho4.1 hb4).1]; show rtNext false (.tk x1 x3) 1 = _; simp [rtNext]⟩)
                clear ho3 ho4 e2 e3 hb4 hl3 hl4
                go_wp2
                (((try simp only [Exit.inBlock, Exit.then]); refine bodyPost_ret (results_cell_row rfl _ _ _ _ _ _ _ rfl (FIN.out _ _ _ _ _ HI.out).2.2 Try.underlying109 rfl (by kernel_rfl)) rfl ?_))
                exact ⟨_, false, b4, s4, rfl, (FIN.out _ b4 s4 _ _ HI.out).1, (FIN.out _ b4 s4 _ _ HI.out).2.1, HI.out.ran, HI.out.good, fun _ => by rw [HE.out.2]; exact ⟨rfl, by first | rfl | exact m2 | exact m1, rfl⟩⟩
              · have hyb : ((y : Int) == 1) = false := by simp [hy]
                have HE := hid (show b4.stop = false → ∃ hd wd, s4 = .look hd wd from fun h => ⟨x1, x3, by rw [(ho4.1 h).2, e3 (ho4.1 h).1]; show rtNext false (.tk x1 x3) y = _; simp [rtNext, hy]⟩)
                have hl7 := left_eq (got := got) HI.out.run
                have hfin : left got b4 < left got b := Nat.lt_of_le_of_lt hl4 (Nat.lt_trans hl3 HX.out.2.2.2)
                have HF := hid (And.intro hl7 hfin)
                clear ho3 ho4 e2 e3 hl3 hl4 hl7 hfin hy q5 q6 qf
                go_wp2_with fail
                go_roundw
                case rel => exact ⟨b4, s4, HI.out, HE.out⟩
                case measure =>
                  rw [HF.out.1, HL.out.2]
                  exact HF.out.2
    · have hne := nOf_ne x hxw hx0
      rw [← h1] at hne
      have hnb : ((gz : Int) == -1) = false := by simp [hne]
      have hnb2 : ((gz : Int) != -1) = true := by simp [hne]
      have HE := hid (And.intro h1 h2)
      clear hon3 hoff3 hb3 h1 h2 hne
      go_wp2
      (((try simp only [Exit.inBlock, Exit.then]); refine bodyPost_ret (results_cell_row rfl _ _ _ _ _ _ _ rfl (FIN.out _ _ _ _ _ HI.out).2.2 Try.underlying109 rfl (by kernel_rfl)) rfl ?_))
      exact ⟨gz, true, b3, s3, rfl, (FIN.out _ b3 s3 _ _ HI.out).1, (FIN.out _ b3 s3 _ _ HI.out).2.1, HI.out.ran, HI.out.good, fun _ => by rw [HE.out.2]; exact ⟨rfl, HE.out.1, rfl⟩⟩
end Go.Proofs.Ytokpgbocomhpiaa.Rget
