/- The document's starting of a thread. -/
import Derived.Test.YtlhnnggceebpjaaGreatWake
import Derived.Test.YtlhnnggceebpjaaGreatDocSubs
import Derived.Test.YtlhnnggceebpjaaGreatDocOut
set_option maxRecDepth 100000
set_option maxHeartbeats 4000000
set_option linter.unusedVariables false
set_option linter.unusedSimpArgs false
namespace Go.Proofs.YtlhnnggceebpjaaGreat.Wake
open Go.RowKit Go.Shelf Go.Proofs.YtlhnnggceebpjaaGreat.TK Go.Proofs.YtlhnnggceebpjaaGreat.Flag Go.Proofs.YtlhnnggceebpjaaGreat.Read Go.Proofs.YtlhnnggceebpjaaGreat.Grow Go.Proofs.YtlhnnggceebpjaaGreat.Words Go.Proofs.YtlhnnggceebpjaaGreat.Mem Go.Proofs.YtlhnnggceebpjaaGreat.Flow Go.Proofs.YtlhnnggceebpjaaGreat.Layout Go.Proofs.YtlhnnggceebpjaaGreat.Lock Go.Proofs.YtlhnnggceebpjaaGreat.Run Go.Proofs.YtlhnnggceebpjaaGreat.Sys Go.Proofs.YtlhnnggceebpjaaGreat.Mach Go.Proofs.YtlhnnggceebpjaaGreat.Doc Go.Proofs.YtlhnnggceebpjaaGreat.Ref05 Go.Proofs.YtlhnnggceebpjaaGreat.Subs
theorem w13 : wordN 13 = 13 := by decide
theorem w14 : wordN 14 = 14 := by decide
theorem rword_run (p : Int) (sp : Bool) (w : World) : Calls Tryz.prog 273 #[.int .i64 p, .bool sp] w fun e w' => e = .returned (.int .u64 (wkw p sp)) ∧ w = w' := by
  have n1 : IntKind.u64.wrap (IntKind.u64.wrap p + 1) = Idlep.u1 p := rfl
  cases sp with
  | true =>
    have n2 : IntKind.u64.wrap (IntKind.u64.wrap (4294967296 + IntKind.u64.wrap p) + 1) = wkw p true := by
      unfold wkw Idlep.u1
      simp only [if_true]
      simp only [IntKind.wrap_u64]
      omega
    go_enter Tryz.func273, Tryz.ntmps273
    go_wp2
    go_ret
    exact ⟨rfl, rfl⟩
  | false =>
    have n2 : Idlep.u1 p = wkw p false := rfl
    rw [← n2]
    clear n2
    go_enter Tryz.func273, Tryz.ntmps273
    go_wp2
    go_ret
    exact ⟨rfl, rfl⟩
theorem st_embG (P T p : Int) (sp lf : Bool) (l : Nat) : Emb (stY P T p sp lf) (Idlem.mgM l P T).sys (stGot sp) StSt.get := fun s W h => ⟨h, fun a => rfl⟩
theorem st_embR (P T p t : Int) (sp lf : Bool) (l : Nat) : Emb (stY P T p sp lf) (rlM l 0).sys (fun _ => StSt.gv t) (StSt.rel t) := fun s W h => ⟨h, fun a => rfl⟩
theorem st_embP (P T p : Int) (sp lf : Bool) (l : Nat) : Emb (stY P T p sp lf) (Idlep.ppM l P p).sys (fun _ => StSt.out .puts) StSt.put := fun s W h => ⟨h, fun a => rfl⟩
theorem st_embO (P T p : Int) (sp lf : Bool) (l : Nat) : Emb (stY P T p sp lf) (rlM l 0).sys (fun _ => StSt.fin2) StSt.out := fun s W h => ⟨h, fun a => rfl⟩
/-- What the document's answer tells of the state. -/
def StSays (p : Int) (a : RunSt) (s : StSt) (h t : Int) : Prop := a.stop = false → h = stH p s ∧ t = stT s
theorem says_get (P T p : Int) (sp : Bool) (l : Nat) (q : Idlem.MgSt) : stH p (runs (Idlem.mgM l P T).sys (stGot sp) StSt.get q) = p ∧ stT (runs (Idlem.mgM l P T).sys (stGot sp) StSt.get q) = q.t := by
  unfold runs stGot
  split
  · split
    · rename_i h
      rw [h]
      split <;> exact ⟨rfl, rfl⟩
    · exact ⟨rfl, rfl⟩
  · exact ⟨rfl, rfl⟩
theorem says_rel (p t : Int) (l : Nat) (q : RlSt) : stH p (runs (rlM l 0).sys (fun _ => StSt.gv t) (StSt.rel t) q) = p ∧ stT (runs (rlM l 0).sys (fun _ => StSt.gv t) (StSt.rel t) q) = t := by
  unfold runs
  split <;> exact ⟨rfl, rfl⟩
theorem says_out (p : Int) (l : Nat) (q : RlSt) : stH p (runs (rlM l 0).sys (fun _ => StSt.fin2) StSt.out q) = -1 ∧ stT (runs (rlM l 0).sys (fun _ => StSt.fin2) StSt.out q) = -1 := by
  unfold runs
  split <;> exact ⟨rfl, rfl⟩
theorem says_put (P p : Int) (l : Nat) (q : Idlep.PpSt) : stH p (runs (Idlep.ppM l P p).sys (fun _ => StSt.out .puts) StSt.put q) = q.h p ∧ stT (runs (Idlep.ppM l P p).sys (fun _ => StSt.out .puts) StSt.put q) = -1 := by
  unfold runs
  split
  · rename_i h
    have hd : q.h p = -1 := by cases q <;> first | rfl | (exact absurd h (by intro h; cases h))
    exact ⟨hd.symm, rfl⟩
  · exact ⟨rfl, rfl⟩
theorem rstart19_run (P T G p : Int) (sp lf : Bool) (B r : Nat) (v : Value) (a : RunSt) (got : List Int) (s0 : StSt) (w : World) (h : RunAt w B r v a) (hg : Fits got a) (hs : a.stop = false → s0 = .get .h) (hP : (0 ≤ P ∧ P ≤ 1000) ∧ 1 ≤ T ∧ T ≤ 1000) :
    Calls Tryz.prog 238 #[.pointer (some ⟨r, 0, none⟩), .agg #[.int .i64 P, .int .i64 T, .int .i64 G], .int .i64 p, .bool sp, .bool lf] w fun e w' => ∃ hh ht b s1, e = .returned (.agg #[.int .i64 hh, .int .i64 ht, .bool false]) ∧ RunAt w' B r v b ∧ Kept [r] w w' ∧ Ran (stY P T p sp lf) got s0 a s1 b ∧ Fits got b ∧ (b.stop = false → (stY P T p sp lf).want s1 = none) ∧ StSays p a s1 hh ht := by
  have hlt := h.blk.lt
  have hSt := DR.start (M := stY P T p sp lf) (P := P) (T := T) (G := G) (TO := 133) h hg s0 [.int .i64 0, .int .i64 0, .bool false] (by decide)
  obtain ⟨wA, hwA⟩ : ∃ wA, wA = (w.alloc (.cells #[.int .i64 P, .int .i64 T, .int .i64 G] 23)).alloc (.cells #[.int .i64 0, .int .i64 0, .bool false] 133) := ⟨_, rfl⟩
  have hSt : DI (stY P T p sp lf) got s0 a wA wA B r w.heap.size v P T G a s0 ∧ Blk wA (w.heap.size + 1) [.int .i64 0, .int .i64 0, .bool false] 133 ∧ Below w.heap.size w wA := by rw [hwA]; exact hSt
  have HI := hid hSt.1
  have HRES := hid (And.intro hSt.2.1 (And.intro hSt.2.2 hlt))
  have HP := hid (And.intro hP.1 (And.intro hP.2 hP.2.2))
  have HS := hid hs
  obtain ⟨z0, z1, z2, z3⟩ := HI.out.cells
  have HWA := hid hwA
  clear h hg hs hP hSt hlt hwA
  go_enter Tryz.func238, Tryz.ntmps238
  go_wp2_with fail
  rw [← HWA.out]
  refine (dmget_run HI.out 0 (stGot sp) StSt.get (st_embG P T p sp lf 0) HS.out ⟨HP.out.1, HP.out.2.1⟩).mono ?_
  rintro e w2 ⟨t, b1, s1, q1, rfl, hI, hp1, ht1⟩
  have E1 := hid (show (b1.stop = false → a.stop = false ∧ s1 = stGot sp q1 ∧ t = q1.t) ∧ (a.stop = false → stH p s1 = p ∧ stT s1 = t) from ⟨fun h => ⟨(hp1.on h).1, (hp1.on h).2, ht1 (hp1.on h).1⟩, fun ha => by rw [hp1.mid ha, ht1 ha]; exact says_get P T p sp 0 q1⟩)
  have HI := hid hI
  have HI := hid (show DO (stY P T p sp lf) got s0 a w (w2.alloc (.cells #[.int .i64 p, .int .i64 t, .bool false] 133)) B r w.heap.size w2.heap.size (w.heap.size + 1) v P T G b1 s1 133 [.int .i64 p, .int .i64 t, .bool false] [.int .i64 0, .int .i64 0, .bool false] from DO.start HI.out HRES.out.2.1 HRES.out.1 HRES.out.2.2 rfl rfl (by decide) [.int .i64 p, .int .i64 t, .bool false])
  (obtain ⟨z0, z1, z2, z3⟩ := HI.out.di.cells)
  (have q0 := HI.out.out.cell 0; have q1 := HI.out.out.cell 1; have q2 := HI.out.out.cell 2; have qf := HI.out.out.frozen; have q5 := HI.out.res.cell 0; have q6 := HI.out.res.cell 1; have q7 := HI.out.res.cell 2; have qg := HI.out.res.frozen; simp only [List.getElem?_cons_zero, List.getElem?_cons_succ, List.set_cons_zero, List.set_cons_succ, List.set_nil] at q0 q1 q2 q5 q6 q7)
  clear hI hp1 ht1 HRES
  cases hb1 : b1.stop with
  | true =>
    rw [hb1] at z3
    have HZ := hid (And.intro hb1 E1.out.2)
    clear hb1
    go_wp2
    ((try simp only [Exit.inBlock, Exit.then]); refine bodyPost_ret (results_cell_row rfl _ _ _ _ _ _ _ rfl (((HI.out.setR 0 _).setR 1 _).setR 2 _).res Tryz.underlying133 rfl (by kernel_rfl)) rfl ?_)
    exact ⟨p, t, b1, s1, rfl, (((HI.out.setR 0 _).setR 1 _).setR 2 _).di.run, (((HI.out.setR 0 _).setR 1 _).setR 2 _).kept, HI.out.di.ran, HI.out.di.good, fun h => absurd (HZ.out.1.symm.trans h) (by simp), fun ha => ⟨(HZ.out.2 ha).1.symm, (HZ.out.2 ha).2.symm⟩⟩
  | false =>
    rw [hb1] at z3
    obtain ⟨ha, hs1, htq⟩ := E1.out.1 hb1
    have HA := hid ha
    by_cases ht : t = -1
    · subst ht
      have hg1 : s1 = if sp then .cnt else .nd := by rw [hs1]; unfold stGot; rw [if_pos htq.symm]
      clear hb1 hs1 htq E1 ha
      cases sp with
      | true =>
        have HC := hid (show s1 = .cnt from hg1)
        clear hg1
        go_wp2_with fail
        refine (da_run HI.out.di 13 4294967295 (fun h => by rw [HC.out, ← w13]; rfl)).mono ?_
        rintro e w3 ⟨b2, s2, x2, rfl, hI, ho2⟩
        have HND := hid (show (b2.stop = false → s2 = .nd) ∧ (a.stop = false → stH p s2 = p ∧ stT s2 = -1) from by
          have e1 : b2.stop = false → s2 = .nd := fun h => by obtain ⟨h1, h2⟩ := ho2.1 h; rw [h2, HC.out]; rfl
          refine ⟨e1, fun _ => ?_⟩
          cases hb : b2.stop with
          | false => rw [e1 hb]; exact ⟨rfl, rfl⟩
          | true => rw [(ho2.2.2.1 hb).1, HC.out]; exact ⟨rfl, rfl⟩)
        (have HI := hid (HI.out.step hI); clear hI; (obtain ⟨z0, z1, z2, z3⟩ := HI.out.di.cells); (have q0 := HI.out.out.cell 0; have q1 := HI.out.out.cell 1; have q2 := HI.out.out.cell 2; have qf := HI.out.out.frozen; have q5 := HI.out.res.cell 0; have q6 := HI.out.res.cell 1; have q7 := HI.out.res.cell 2; have qg := HI.out.res.frozen; simp only [List.getElem?_cons_zero, List.getElem?_cons_succ, List.set_cons_zero, List.set_cons_succ, List.set_nil] at q0 q1 q2 q5 q6 q7))
        clear ho2
        -- 'Needs', and what follows: HND tells the state
        go_wp2_with fail
        refine (ds_run HI.out.di 14 1 (fun h => by rw [(HND.out.1 h), ← w14]; rfl)).mono ?_
        rintro e w3 ⟨rfl, b3, s3, x3, hI, ho3⟩
        have HN3 := hid (show (b3.stop = false → s3 = if lf then .gb else .put .a) ∧ (b3.stop = true → a.stop = false → stH p s3 = p ∧ stT s3 = -1) from ⟨fun h => by obtain ⟨h1, h2⟩ := ho3.1 h; rw [h2, HND.out.1 h1]; rfl, fun h ha => by rw [(ho3.2.2.1 h).1]; exact HND.out.2 ha⟩)
        (have HI := hid (HI.out.step hI); clear hI; (obtain ⟨z0, z1, z2, z3⟩ := HI.out.di.cells); (have q0 := HI.out.out.cell 0; have q1 := HI.out.out.cell 1; have q2 := HI.out.out.cell 2; have qf := HI.out.out.frozen; have q5 := HI.out.res.cell 0; have q6 := HI.out.res.cell 1; have q7 := HI.out.res.cell 2; have qg := HI.out.res.frozen; simp only [List.getElem?_cons_zero, List.getElem?_cons_succ, List.set_cons_zero, List.set_cons_succ, List.set_nil] at q0 q1 q2 q5 q6 q7))
        clear ho3
        cases hb3 : b3.stop with
        | true =>
          rw [hb3] at z3
          have HZ := hid (And.intro hb3 (HN3.out.2 hb3))
          clear hb3
          go_wp2
          ((try simp only [Exit.inBlock, Exit.then]); refine bodyPost_ret (results_cell_row rfl _ _ _ _ _ _ _ rfl (((HI.out.setR 0 _).setR 1 _).setR 2 _).res Tryz.underlying133 rfl (by kernel_rfl)) rfl ?_)
          exact ⟨p, -1, b3, s3, rfl, (((HI.out.setR 0 _).setR 1 _).setR 2 _).di.run, (((HI.out.setR 0 _).setR 1 _).setR 2 _).kept, HI.out.di.ran, HI.out.di.good, fun h => absurd (HZ.out.1.symm.trans h) (by simp), fun ha => ⟨(HZ.out.2 ha).1.symm, (HZ.out.2 ha).2.symm⟩⟩
        | false =>
          rw [hb3] at z3
          have HZ := hid (And.intro hb3 (HN3.out.1 hb3))
          clear hb3
          cases lf with
          | true =>
            go_wp2_with fail
            (refine (procat_run P T G _ _ _ HP.out.1 (by omega)).mono ?_; rintro e w1 ⟨rfl, hb⟩; (have HI := hid (HI.out.quiet hb); clear hb; (obtain ⟨z0, z1, z2, z3⟩ := HI.out.di.cells); (have q0 := HI.out.out.cell 0; have q1 := HI.out.out.cell 1; have q2 := HI.out.out.cell 2; have qf := HI.out.out.frozen; have q5 := HI.out.res.cell 0; have q6 := HI.out.res.cell 1; have q7 := HI.out.res.cell 2; have qg := HI.out.res.frozen; simp only [List.getElem?_cons_zero, List.getElem?_cons_succ, List.set_cons_zero, List.set_cons_succ, List.set_nil] at q0 q1 q2 q5 q6 q7)))
            go_wp2_with fail
            refine (ds_run HI.out.di (pr P p 0) 2 (fun h => by rw [HZ.out.2]; rfl)).mono ?_
            rintro e w4 ⟨rfl, b4, s4, x4, hI, ho4⟩
            have HSO := hid (show b4.stop = false → s4 = .out .puts from fun h => by obtain ⟨h1, h2⟩ := ho4.1 h; rw [h2, HZ.out.2]; rfl)
            have HV4 := hid (show b4.stop = true → stH p s4 = p ∧ stT s4 = -1 from fun h => by rw [(ho4.2.2.1 h).1, HZ.out.2]; exact ⟨rfl, rfl⟩)
            (have HI := hid (HI.out.step hI); clear hI; (obtain ⟨z0, z1, z2, z3⟩ := HI.out.di.cells); (have q0 := HI.out.out.cell 0; have q1 := HI.out.out.cell 1; have q2 := HI.out.out.cell 2; have qf := HI.out.out.frozen; have q5 := HI.out.res.cell 0; have q6 := HI.out.res.cell 1; have q7 := HI.out.res.cell 2; have qg := HI.out.res.frozen; simp only [List.getElem?_cons_zero, List.getElem?_cons_succ, List.set_cons_zero, List.set_cons_succ, List.set_nil] at q0 q1 q2 q5 q6 q7))
            clear ho4
            cases hb4 : b4.stop with
            | true =>
              rw [hb4] at z3
              have HVO := hid (show b4.stop = true → a.stop = false → p = stH p s4 ∧ -1 = stT s4 from fun h _ => ⟨(HV4.out h).1.symm, (HV4.out h).2.symm⟩)
              have HVF := hid (show b4.stop = false → p = -1 from fun h => absurd (hb4.symm.trans h) (by simp))
              clear hb4
              -- the release that ends it: HS tells the state, HV what it holds
              go_wp2_with fail
              refine (drel_run HI.out.di 0 0 (fun _ => StSt.fin2) StSt.out (st_embO P T p true true 0) HSO.out (by omega)).mono ?_
              rintro e w9 ⟨rfl, b9, s9, q9, hI, hp9, hq9⟩
              have HY := hid (show (b9.stop = false → (stY P T p true true).want s9 = none) ∧ StSays p a s9 p (-1) from ⟨fun h => by rw [(hp9.on h).2]; rfl, fun ha => by
                cases hb : b4.stop with
                | true => rw [(hp9.off hb).1]; exact HVO.out hb ha
                | false => rw [hp9.mid hb]; have := says_out p 0 q9; exact ⟨by first | exact (HVF.out hb).trans this.1.symm | exact this.1.symm, this.2.symm⟩⟩)
              have HI := hid (HI.out.step hI)
              (have q0 := HI.out.out.cell 0; have q1 := HI.out.out.cell 1; have q2 := HI.out.out.cell 2; have qf := HI.out.out.frozen; have q5 := HI.out.res.cell 0; have q6 := HI.out.res.cell 1; have q7 := HI.out.res.cell 2; have qg := HI.out.res.frozen; simp only [List.getElem?_cons_zero, List.getElem?_cons_succ, List.set_cons_zero, List.set_cons_succ, List.set_nil] at q0 q1 q2 q5 q6 q7); clear hI hp9 hq9
              go_wp2
              ((try simp only [Exit.inBlock, Exit.then]); refine bodyPost_ret (results_cell_row rfl _ _ _ _ _ _ _ rfl (((HI.out.setR 0 _).setR 1 _).setR 2 _).res Tryz.underlying133 rfl (by kernel_rfl)) rfl ?_)
              exact ⟨p, -1, b9, s9, rfl, (((HI.out.setR 0 _).setR 1 _).setR 2 _).di.run, (((HI.out.setR 0 _).setR 1 _).setR 2 _).kept, HI.out.di.ran, HI.out.di.good, HY.out.1, HY.out.2⟩
            | false =>
              rw [hb4] at z3
              have HVO := hid (show b4.stop = true → a.stop = false → (-1 : Int) = stH p s4 ∧ -1 = stT s4 from fun h => absurd (hb4.symm.trans h) (by simp))
              have HVF := hid (show b4.stop = false → (-1 : Int) = -1 from fun _ => rfl)
              have HI := hid (HI.out.setO 0 (.int .i64 (-1)))
              clear hb4
              -- the release that ends it: HS tells the state, HV what it holds
              go_wp2_with fail
              refine (drel_run HI.out.di 0 0 (fun _ => StSt.fin2) StSt.out (st_embO P T p true true 0) HSO.out (by omega)).mono ?_
              rintro e w9 ⟨rfl, b9, s9, q9, hI, hp9, hq9⟩
              have HY := hid (show (b9.stop = false → (stY P T p true true).want s9 = none) ∧ StSays p a s9 (-1) (-1) from ⟨fun h => by rw [(hp9.on h).2]; rfl, fun ha => by
                cases hb : b4.stop with
                | true => rw [(hp9.off hb).1]; exact HVO.out hb ha
                | false => rw [hp9.mid hb]; have := says_out p 0 q9; exact ⟨by first | exact (HVF.out hb).trans this.1.symm | exact this.1.symm, this.2.symm⟩⟩)
              have HI := hid (HI.out.step hI)
              (have q0 := HI.out.out.cell 0; have q1 := HI.out.out.cell 1; have q2 := HI.out.out.cell 2; have qf := HI.out.out.frozen; have q5 := HI.out.res.cell 0; have q6 := HI.out.res.cell 1; have q7 := HI.out.res.cell 2; have qg := HI.out.res.frozen; simp only [List.getElem?_cons_zero, List.getElem?_cons_succ, List.set_cons_zero, List.set_cons_succ, List.set_nil] at q0 q1 q2 q5 q6 q7); clear hI hp9 hq9
              go_wp2
              ((try simp only [Exit.inBlock, Exit.then]); refine bodyPost_ret (results_cell_row rfl _ _ _ _ _ _ _ rfl (((HI.out.setR 0 _).setR 1 _).setR 2 _).res Tryz.underlying133 rfl (by kernel_rfl)) rfl ?_)
              exact ⟨(-1), -1, b9, s9, rfl, (((HI.out.setR 0 _).setR 1 _).setR 2 _).di.run, (((HI.out.setR 0 _).setR 1 _).setR 2 _).kept, HI.out.di.ran, HI.out.di.good, HY.out.1, HY.out.2⟩
          | false =>
            go_wp2_with fail
            refine (dpput_run HI.out.di 0 p (fun _ => StSt.out .puts) StSt.put (st_embP P T p true false 0) (fun _ => HZ.out.2) HP.out.1).mono ?_
            rintro e w4 ⟨h4, b4, s4, q4, rfl, hI, hp4, hh4⟩
            have HSO := hid (show b4.stop = false → s4 = .out .puts from fun h => (hp4.on h).2)
            have HM4 := hid (show h4 = stH p s4 ∧ -1 = stT s4 from by rw [hp4.mid HZ.out.1]; have := says_put P p 0 q4; exact ⟨by rw [this.1]; exact hh4 HZ.out.1, this.2.symm⟩)
            have HVO := hid (show b4.stop = true → a.stop = false → h4 = stH p s4 ∧ -1 = stT s4 from fun _ _ => HM4.out)
            have HVF := hid (show b4.stop = false → h4 = -1 from fun h => by rw [HM4.out.1, HSO.out h]; rfl)
            (have HI := hid (HI.out.step hI); clear hI; (obtain ⟨z0, z1, z2, z3⟩ := HI.out.di.cells); (have q0 := HI.out.out.cell 0; have q1 := HI.out.out.cell 1; have q2 := HI.out.out.cell 2; have qf := HI.out.out.frozen; have q5 := HI.out.res.cell 0; have q6 := HI.out.res.cell 1; have q7 := HI.out.res.cell 2; have qg := HI.out.res.frozen; simp only [List.getElem?_cons_zero, List.getElem?_cons_succ, List.set_cons_zero, List.set_cons_succ, List.set_nil] at q0 q1 q2 q5 q6 q7))
            have HI := hid (HI.out.setO 0 (.int .i64 h4))
            clear hp4 hh4
            -- the release that ends it: HS tells the state, HV what it holds
            go_wp2_with fail
            refine (drel_run HI.out.di 0 0 (fun _ => StSt.fin2) StSt.out (st_embO P T p true false 0) HSO.out (by omega)).mono ?_
            rintro e w9 ⟨rfl, b9, s9, q9, hI, hp9, hq9⟩
            have HY := hid (show (b9.stop = false → (stY P T p true false).want s9 = none) ∧ StSays p a s9 h4 (-1) from ⟨fun h => by rw [(hp9.on h).2]; rfl, fun ha => by
              cases hb : b4.stop with
              | true => rw [(hp9.off hb).1]; exact HVO.out hb ha
              | false => rw [hp9.mid hb]; have := says_out p 0 q9; exact ⟨by first | exact (HVF.out hb).trans this.1.symm | exact this.1.symm, this.2.symm⟩⟩)
            have HI := hid (HI.out.step hI)
            (have q0 := HI.out.out.cell 0; have q1 := HI.out.out.cell 1; have q2 := HI.out.out.cell 2; have qf := HI.out.out.frozen; have q5 := HI.out.res.cell 0; have q6 := HI.out.res.cell 1; have q7 := HI.out.res.cell 2; have qg := HI.out.res.frozen; simp only [List.getElem?_cons_zero, List.getElem?_cons_succ, List.set_cons_zero, List.set_cons_succ, List.set_nil] at q0 q1 q2 q5 q6 q7); clear hI hp9 hq9
            go_wp2
            ((try simp only [Exit.inBlock, Exit.then]); refine bodyPost_ret (results_cell_row rfl _ _ _ _ _ _ _ rfl (((HI.out.setR 0 _).setR 1 _).setR 2 _).res Tryz.underlying133 rfl (by kernel_rfl)) rfl ?_)
            exact ⟨h4, -1, b9, s9, rfl, (((HI.out.setR 0 _).setR 1 _).setR 2 _).di.run, (((HI.out.setR 0 _).setR 1 _).setR 2 _).kept, HI.out.di.ran, HI.out.di.good, HY.out.1, HY.out.2⟩
      | false =>
        have HND := hid (show (b1.stop = false → s1 = .nd) ∧ (a.stop = false → stH p s1 = p ∧ stT s1 = -1) from ⟨fun _ => hg1, fun _ => by rw [hg1]; exact ⟨rfl, rfl⟩⟩)
        clear hg1
        -- 'Needs', and what follows: HND tells the state
        go_wp2_with fail
        refine (ds_run HI.out.di 14 1 (fun h => by rw [(HND.out.1 h), ← w14]; rfl)).mono ?_
        rintro e w3 ⟨rfl, b3, s3, x3, hI, ho3⟩
        have HN3 := hid (show (b3.stop = false → s3 = if lf then .gb else .put .a) ∧ (b3.stop = true → a.stop = false → stH p s3 = p ∧ stT s3 = -1) from ⟨fun h => by obtain ⟨h1, h2⟩ := ho3.1 h; rw [h2, HND.out.1 h1]; rfl, fun h ha => by rw [(ho3.2.2.1 h).1]; exact HND.out.2 ha⟩)
        (have HI := hid (HI.out.step hI); clear hI; (obtain ⟨z0, z1, z2, z3⟩ := HI.out.di.cells); (have q0 := HI.out.out.cell 0; have q1 := HI.out.out.cell 1; have q2 := HI.out.out.cell 2; have qf := HI.out.out.frozen; have q5 := HI.out.res.cell 0; have q6 := HI.out.res.cell 1; have q7 := HI.out.res.cell 2; have qg := HI.out.res.frozen; simp only [List.getElem?_cons_zero, List.getElem?_cons_succ, List.set_cons_zero, List.set_cons_succ, List.set_nil] at q0 q1 q2 q5 q6 q7))
        clear ho3
        cases hb3 : b3.stop with
        | true =>
          rw [hb3] at z3
          have HZ := hid (And.intro hb3 (HN3.out.2 hb3))
          clear hb3
          go_wp2
          ((try simp only [Exit.inBlock, Exit.then]); refine bodyPost_ret (results_cell_row rfl _ _ _ _ _ _ _ rfl (((HI.out.setR 0 _).setR 1 _).setR 2 _).res Tryz.underlying133 rfl (by kernel_rfl)) rfl ?_)
          exact ⟨p, -1, b3, s3, rfl, (((HI.out.setR 0 _).setR 1 _).setR 2 _).di.run, (((HI.out.setR 0 _).setR 1 _).setR 2 _).kept, HI.out.di.ran, HI.out.di.good, fun h => absurd (HZ.out.1.symm.trans h) (by simp), fun ha => ⟨(HZ.out.2 ha).1.symm, (HZ.out.2 ha).2.symm⟩⟩
        | false =>
          rw [hb3] at z3
          have HZ := hid (And.intro hb3 (HN3.out.1 hb3))
          clear hb3
          cases lf with
          | true =>
            go_wp2_with fail
            (refine (procat_run P T G _ _ _ HP.out.1 (by omega)).mono ?_; rintro e w1 ⟨rfl, hb⟩; (have HI := hid (HI.out.quiet hb); clear hb; (obtain ⟨z0, z1, z2, z3⟩ := HI.out.di.cells); (have q0 := HI.out.out.cell 0; have q1 := HI.out.out.cell 1; have q2 := HI.out.out.cell 2; have qf := HI.out.out.frozen; have q5 := HI.out.res.cell 0; have q6 := HI.out.res.cell 1; have q7 := HI.out.res.cell 2; have qg := HI.out.res.frozen; simp only [List.getElem?_cons_zero, List.getElem?_cons_succ, List.set_cons_zero, List.set_cons_succ, List.set_nil] at q0 q1 q2 q5 q6 q7)))
            go_wp2_with fail
            refine (ds_run HI.out.di (pr P p 0) 2 (fun h => by rw [HZ.out.2]; rfl)).mono ?_
            rintro e w4 ⟨rfl, b4, s4, x4, hI, ho4⟩
            have HSO := hid (show b4.stop = false → s4 = .out .puts from fun h => by obtain ⟨h1, h2⟩ := ho4.1 h; rw [h2, HZ.out.2]; rfl)
            have HV4 := hid (show b4.stop = true → stH p s4 = p ∧ stT s4 = -1 from fun h => by rw [(ho4.2.2.1 h).1, HZ.out.2]; exact ⟨rfl, rfl⟩)
            (have HI := hid (HI.out.step hI); clear hI; (obtain ⟨z0, z1, z2, z3⟩ := HI.out.di.cells); (have q0 := HI.out.out.cell 0; have q1 := HI.out.out.cell 1; have q2 := HI.out.out.cell 2; have qf := HI.out.out.frozen; have q5 := HI.out.res.cell 0; have q6 := HI.out.res.cell 1; have q7 := HI.out.res.cell 2; have qg := HI.out.res.frozen; simp only [List.getElem?_cons_zero, List.getElem?_cons_succ, List.set_cons_zero, List.set_cons_succ, List.set_nil] at q0 q1 q2 q5 q6 q7))
            clear ho4
            cases hb4 : b4.stop with
            | true =>
              rw [hb4] at z3
              have HVO := hid (show b4.stop = true → a.stop = false → p = stH p s4 ∧ -1 = stT s4 from fun h _ => ⟨(HV4.out h).1.symm, (HV4.out h).2.symm⟩)
              have HVF := hid (show b4.stop = false → p = -1 from fun h => absurd (hb4.symm.trans h) (by simp))
              clear hb4
              -- the release that ends it: HS tells the state, HV what it holds
              go_wp2_with fail
              refine (drel_run HI.out.di 0 0 (fun _ => StSt.fin2) StSt.out (st_embO P T p false true 0) HSO.out (by omega)).mono ?_
              rintro e w9 ⟨rfl, b9, s9, q9, hI, hp9, hq9⟩
              have HY := hid (show (b9.stop = false → (stY P T p false true).want s9 = none) ∧ StSays p a s9 p (-1) from ⟨fun h => by rw [(hp9.on h).2]; rfl, fun ha => by
                cases hb : b4.stop with
                | true => rw [(hp9.off hb).1]; exact HVO.out hb ha
                | false => rw [hp9.mid hb]; have := says_out p 0 q9; exact ⟨by first | exact (HVF.out hb).trans this.1.symm | exact this.1.symm, this.2.symm⟩⟩)
              have HI := hid (HI.out.step hI)
              (have q0 := HI.out.out.cell 0; have q1 := HI.out.out.cell 1; have q2 := HI.out.out.cell 2; have qf := HI.out.out.frozen; have q5 := HI.out.res.cell 0; have q6 := HI.out.res.cell 1; have q7 := HI.out.res.cell 2; have qg := HI.out.res.frozen; simp only [List.getElem?_cons_zero, List.getElem?_cons_succ, List.set_cons_zero, List.set_cons_succ, List.set_nil] at q0 q1 q2 q5 q6 q7); clear hI hp9 hq9
              go_wp2
              ((try simp only [Exit.inBlock, Exit.then]); refine bodyPost_ret (results_cell_row rfl _ _ _ _ _ _ _ rfl (((HI.out.setR 0 _).setR 1 _).setR 2 _).res Tryz.underlying133 rfl (by kernel_rfl)) rfl ?_)
              exact ⟨p, -1, b9, s9, rfl, (((HI.out.setR 0 _).setR 1 _).setR 2 _).di.run, (((HI.out.setR 0 _).setR 1 _).setR 2 _).kept, HI.out.di.ran, HI.out.di.good, HY.out.1, HY.out.2⟩
            | false =>
              rw [hb4] at z3
              have HVO := hid (show b4.stop = true → a.stop = false → (-1 : Int) = stH p s4 ∧ -1 = stT s4 from fun h => absurd (hb4.symm.trans h) (by simp))
              have HVF := hid (show b4.stop = false → (-1 : Int) = -1 from fun _ => rfl)
              have HI := hid (HI.out.setO 0 (.int .i64 (-1)))
              clear hb4
              -- the release that ends it: HS tells the state, HV what it holds
              go_wp2_with fail
              refine (drel_run HI.out.di 0 0 (fun _ => StSt.fin2) StSt.out (st_embO P T p false true 0) HSO.out (by omega)).mono ?_
              rintro e w9 ⟨rfl, b9, s9, q9, hI, hp9, hq9⟩
              have HY := hid (show (b9.stop = false → (stY P T p false true).want s9 = none) ∧ StSays p a s9 (-1) (-1) from ⟨fun h => by rw [(hp9.on h).2]; rfl, fun ha => by
                cases hb : b4.stop with
                | true => rw [(hp9.off hb).1]; exact HVO.out hb ha
                | false => rw [hp9.mid hb]; have := says_out p 0 q9; exact ⟨by first | exact (HVF.out hb).trans this.1.symm | exact this.1.symm, this.2.symm⟩⟩)
              have HI := hid (HI.out.step hI)
              (have q0 := HI.out.out.cell 0; have q1 := HI.out.out.cell 1; have q2 := HI.out.out.cell 2; have qf := HI.out.out.frozen; have q5 := HI.out.res.cell 0; have q6 := HI.out.res.cell 1; have q7 := HI.out.res.cell 2; have qg := HI.out.res.frozen; simp only [List.getElem?_cons_zero, List.getElem?_cons_succ, List.set_cons_zero, List.set_cons_succ, List.set_nil] at q0 q1 q2 q5 q6 q7); clear hI hp9 hq9
              go_wp2
              ((try simp only [Exit.inBlock, Exit.then]); refine bodyPost_ret (results_cell_row rfl _ _ _ _ _ _ _ rfl (((HI.out.setR 0 _).setR 1 _).setR 2 _).res Tryz.underlying133 rfl (by kernel_rfl)) rfl ?_)
              exact ⟨(-1), -1, b9, s9, rfl, (((HI.out.setR 0 _).setR 1 _).setR 2 _).di.run, (((HI.out.setR 0 _).setR 1 _).setR 2 _).kept, HI.out.di.ran, HI.out.di.good, HY.out.1, HY.out.2⟩
          | false =>
            go_wp2_with fail
            refine (dpput_run HI.out.di 0 p (fun _ => StSt.out .puts) StSt.put (st_embP P T p false false 0) (fun _ => HZ.out.2) HP.out.1).mono ?_
            rintro e w4 ⟨h4, b4, s4, q4, rfl, hI, hp4, hh4⟩
            have HSO := hid (show b4.stop = false → s4 = .out .puts from fun h => (hp4.on h).2)
            have HM4 := hid (show h4 = stH p s4 ∧ -1 = stT s4 from by rw [hp4.mid HZ.out.1]; have := says_put P p 0 q4; exact ⟨by rw [this.1]; exact hh4 HZ.out.1, this.2.symm⟩)
            have HVO := hid (show b4.stop = true → a.stop = false → h4 = stH p s4 ∧ -1 = stT s4 from fun _ _ => HM4.out)
            have HVF := hid (show b4.stop = false → h4 = -1 from fun h => by rw [HM4.out.1, HSO.out h]; rfl)
            (have HI := hid (HI.out.step hI); clear hI; (obtain ⟨z0, z1, z2, z3⟩ := HI.out.di.cells); (have q0 := HI.out.out.cell 0; have q1 := HI.out.out.cell 1; have q2 := HI.out.out.cell 2; have qf := HI.out.out.frozen; have q5 := HI.out.res.cell 0; have q6 := HI.out.res.cell 1; have q7 := HI.out.res.cell 2; have qg := HI.out.res.frozen; simp only [List.getElem?_cons_zero, List.getElem?_cons_succ, List.set_cons_zero, List.set_cons_succ, List.set_nil] at q0 q1 q2 q5 q6 q7))
            have HI := hid (HI.out.setO 0 (.int .i64 h4))
            clear hp4 hh4
            -- the release that ends it: HS tells the state, HV what it holds
            go_wp2_with fail
            refine (drel_run HI.out.di 0 0 (fun _ => StSt.fin2) StSt.out (st_embO P T p false false 0) HSO.out (by omega)).mono ?_
            rintro e w9 ⟨rfl, b9, s9, q9, hI, hp9, hq9⟩
            have HY := hid (show (b9.stop = false → (stY P T p false false).want s9 = none) ∧ StSays p a s9 h4 (-1) from ⟨fun h => by rw [(hp9.on h).2]; rfl, fun ha => by
              cases hb : b4.stop with
              | true => rw [(hp9.off hb).1]; exact HVO.out hb ha
              | false => rw [hp9.mid hb]; have := says_out p 0 q9; exact ⟨by first | exact (HVF.out hb).trans this.1.symm | exact this.1.symm, this.2.symm⟩⟩)
            have HI := hid (HI.out.step hI)
            (have q0 := HI.out.out.cell 0; have q1 := HI.out.out.cell 1; have q2 := HI.out.out.cell 2; have qf := HI.out.out.frozen; have q5 := HI.out.res.cell 0; have q6 := HI.out.res.cell 1; have q7 := HI.out.res.cell 2; have qg := HI.out.res.frozen; simp only [List.getElem?_cons_zero, List.getElem?_cons_succ, List.set_cons_zero, List.set_cons_succ, List.set_nil] at q0 q1 q2 q5 q6 q7); clear hI hp9 hq9
            go_wp2
            ((try simp only [Exit.inBlock, Exit.then]); refine bodyPost_ret (results_cell_row rfl _ _ _ _ _ _ _ rfl (((HI.out.setR 0 _).setR 1 _).setR 2 _).res Tryz.underlying133 rfl (by kernel_rfl)) rfl ?_)
            exact ⟨h4, -1, b9, s9, rfl, (((HI.out.setR 0 _).setR 1 _).setR 2 _).di.run, (((HI.out.setR 0 _).setR 1 _).setR 2 _).kept, HI.out.di.ran, HI.out.di.good, HY.out.1, HY.out.2⟩
    · have hg1 : s1 = .rel t .puts := by rw [hs1, htq]; unfold stGot; rw [if_neg (by rw [← htq]; exact ht)]
      have ht1 : ((t : Int) == -1) = false := by simpa using ht
      have HC := hid hg1
      clear hb1 hs1 htq E1 ha hg1 ht
      go_wp2_with fail
      refine (drel_run HI.out.di 0 0 (fun _ => StSt.gv t) (StSt.rel t) (st_embR P T p t sp lf 0) (fun _ => HC.out) (by omega)).mono ?_
      rintro e w3 ⟨rfl, b2, s2, q2, hI, hp2, _⟩
      have E2 := hid (show (b2.stop = false → s2 = .gv t) ∧ (a.stop = false → stH p s2 = p ∧ stT s2 = t) from ⟨fun h => (hp2.on h).2, fun _ => by
        cases hb : b1.stop with
        | true => rw [(hp2.off hb).1, HC.out]; exact ⟨rfl, rfl⟩
        | false => rw [hp2.mid hb]; exact says_rel p t 0 q2⟩)
      (have HI := hid (HI.out.step hI); clear hI; (obtain ⟨z0, z1, z2, z3⟩ := HI.out.di.cells); (have q0 := HI.out.out.cell 0; have q1 := HI.out.out.cell 1; have q2 := HI.out.out.cell 2; have qf := HI.out.out.frozen; have q5 := HI.out.res.cell 0; have q6 := HI.out.res.cell 1; have q7 := HI.out.res.cell 2; have qg := HI.out.res.frozen; simp only [List.getElem?_cons_zero, List.getElem?_cons_succ, List.set_cons_zero, List.set_cons_succ, List.set_nil] at q0 q1 q2 q5 q6 q7))
      clear hp2
      go_wp2_with (first | (go_at_call 273; refine (rword_run p sp _).mono ?_; rintro e w9 ⟨rfl, rfl⟩))
      (refine (threadat_run P T G _ _ _ HP.out.1 HP.out.2.2 (by omega)).mono ?_; rintro e w1 ⟨rfl, hb⟩; (have HI := hid (HI.out.quiet hb); clear hb; (obtain ⟨z0, z1, z2, z3⟩ := HI.out.di.cells); (have q0 := HI.out.out.cell 0; have q1 := HI.out.out.cell 1; have q2 := HI.out.out.cell 2; have qf := HI.out.out.frozen; have q5 := HI.out.res.cell 0; have q6 := HI.out.res.cell 1; have q7 := HI.out.res.cell 2; have qg := HI.out.res.frozen; simp only [List.getElem?_cons_zero, List.getElem?_cons_succ, List.set_cons_zero, List.set_cons_succ, List.set_nil] at q0 q1 q2 q5 q6 q7)))
      go_wp2_with (first | (go_at_call 273; refine (rword_run p sp _).mono ?_; rintro e w9 ⟨rfl, rfl⟩))
      refine (ds_run HI.out.di (th P T t 1) (wkw p sp) (fun h => by rw [E2.out.1 h]; rfl)).mono ?_
      rintro e w4 ⟨rfl, b3, s3, x3, hI, ho3⟩
      have E3 := hid (show (b3.stop = false → s3 = .wk t false) ∧ (b3.stop = true → a.stop = false → stH p s3 = p ∧ stT s3 = t) from ⟨fun h => by obtain ⟨h1, h2⟩ := ho3.1 h; rw [h2, E2.out.1 h1]; rfl, fun h ha => by rw [(ho3.2.2.1 h).1]; exact E2.out.2 ha⟩)
      (have HI := hid (HI.out.step hI); clear hI; (obtain ⟨z0, z1, z2, z3⟩ := HI.out.di.cells); (have q0 := HI.out.out.cell 0; have q1 := HI.out.out.cell 1; have q2 := HI.out.out.cell 2; have qf := HI.out.out.frozen; have q5 := HI.out.res.cell 0; have q6 := HI.out.res.cell 1; have q7 := HI.out.res.cell 2; have qg := HI.out.res.frozen; simp only [List.getElem?_cons_zero, List.getElem?_cons_succ, List.set_cons_zero, List.set_cons_succ, List.set_nil] at q0 q1 q2 q5 q6 q7))
      clear ho3
      cases hb3 : b3.stop with
      | true =>
        rw [hb3] at z3
        have HZ := hid (And.intro hb3 (E3.out.2 hb3))
        clear hb3
        go_wp2_with fail
        refine (dwake_run HI.out.di t ⟨HP.out.1, HP.out.2.2⟩ (fun h => absurd (HZ.out.1.symm.trans h) (by simp))).mono ?_
        rintro e w5 ⟨rfl, b4, s4, x4, hI, ho4⟩
        have HY := hid (show b4.stop = true ∧ s4 = s3 from by
          have e4 : b4.stop = true := by
            cases hb : b4.stop with
            | true => rfl
            | false => exact absurd (HZ.out.1.symm.trans (ho4.1 hb).1) (by simp)
          exact ⟨e4, (ho4.2.2.1 e4).1⟩)
        have HI := hid (HI.out.step hI)
        (have q0 := HI.out.out.cell 0; have q1 := HI.out.out.cell 1; have q2 := HI.out.out.cell 2; have qf := HI.out.out.frozen; have q5 := HI.out.res.cell 0; have q6 := HI.out.res.cell 1; have q7 := HI.out.res.cell 2; have qg := HI.out.res.frozen; simp only [List.getElem?_cons_zero, List.getElem?_cons_succ, List.set_cons_zero, List.set_cons_succ, List.set_nil] at q0 q1 q2 q5 q6 q7); clear hI ho4
        go_wp2
        ((try simp only [Exit.inBlock, Exit.then]); refine bodyPost_ret (results_cell_row rfl _ _ _ _ _ _ _ rfl (((HI.out.setR 0 _).setR 1 _).setR 2 _).res Tryz.underlying133 rfl (by kernel_rfl)) rfl ?_)
        exact ⟨p, t, b4, s4, rfl, (((HI.out.setR 0 _).setR 1 _).setR 2 _).di.run, (((HI.out.setR 0 _).setR 1 _).setR 2 _).kept, HI.out.di.ran, HI.out.di.good, fun h => absurd (HY.out.1.symm.trans h) (by simp), fun ha => by rw [HY.out.2]; exact ⟨(HZ.out.2 ha).1.symm, (HZ.out.2 ha).2.symm⟩⟩
      | false =>
        rw [hb3] at z3
        have HZ := hid (And.intro hb3 (E3.out.1 hb3))
        have HI := hid (HI.out.setO 0 (.int .i64 (-1)))
        (obtain ⟨z0, z1, z2, z3⟩ := HI.out.di.cells)
        (have q0 := HI.out.out.cell 0; have q1 := HI.out.out.cell 1; have q2 := HI.out.out.cell 2; have qf := HI.out.out.frozen; have q5 := HI.out.res.cell 0; have q6 := HI.out.res.cell 1; have q7 := HI.out.res.cell 2; have qg := HI.out.res.frozen; simp only [List.getElem?_cons_zero, List.getElem?_cons_succ, List.set_cons_zero, List.set_cons_succ, List.set_nil] at q0 q1 q2 q5 q6 q7)
        clear hb3
        go_wp2_with fail
        refine (dwake_run HI.out.di t ⟨HP.out.1, HP.out.2.2⟩ (fun h => by rw [HZ.out.2]; rfl)).mono ?_
        rintro e w5 ⟨rfl, b4, s4, x4, hI, ho4⟩
        have HY := hid (show (b4.stop = false → s4 = .fin1 t) ∧ (stH p s4 = -1 ∧ stT s4 = t) from by
          have e1 : b4.stop = false → s4 = .fin1 t := fun h => by obtain ⟨h1, h2⟩ := ho4.1 h; rw [h2, HZ.out.2]; rfl
          refine ⟨e1, ?_⟩
          cases hb : b4.stop with
          | false => rw [e1 hb]; exact ⟨rfl, rfl⟩
          | true => rw [(ho4.2.2.1 hb).1, HZ.out.2]; exact ⟨rfl, rfl⟩)
        have HI := hid (HI.out.step hI)
        (have q0 := HI.out.out.cell 0; have q1 := HI.out.out.cell 1; have q2 := HI.out.out.cell 2; have qf := HI.out.out.frozen; have q5 := HI.out.res.cell 0; have q6 := HI.out.res.cell 1; have q7 := HI.out.res.cell 2; have qg := HI.out.res.frozen; simp only [List.getElem?_cons_zero, List.getElem?_cons_succ, List.set_cons_zero, List.set_cons_succ, List.set_nil] at q0 q1 q2 q5 q6 q7); clear hI ho4
        go_wp2
        ((try simp only [Exit.inBlock, Exit.then]); refine bodyPost_ret (results_cell_row rfl _ _ _ _ _ _ _ rfl (((HI.out.setR 0 _).setR 1 _).setR 2 _).res Tryz.underlying133 rfl (by kernel_rfl)) rfl ?_)
        exact ⟨-1, t, b4, s4, rfl, (((HI.out.setR 0 _).setR 1 _).setR 2 _).di.run, (((HI.out.setR 0 _).setR 1 _).setR 2 _).kept, HI.out.di.ran, HI.out.di.good, fun h => by rw [HY.out.1 h]; rfl, fun ha => ⟨HY.out.2.1.symm, HY.out.2.2.symm⟩⟩
end Go.Proofs.YtlhnnggceebpjaaGreat.Wake
