/- The document's coming out of a system call. -/
import Derived.Test.YtlhnnggceebpjaaGreatSyscD
set_option maxRecDepth 100000
set_option maxHeartbeats 4000000
set_option linter.unusedVariables false
set_option linter.unusedSimpArgs false
namespace Go.Proofs.YtlhnnggceebpjaaGreat.Sysc
open Go.RowKit Go.Shelf Go.Proofs.YtlhnnggceebpjaaGreat.TK Go.Proofs.YtlhnnggceebpjaaGreat.Flag Go.Proofs.YtlhnnggceebpjaaGreat.Read Go.Proofs.YtlhnnggceebpjaaGreat.Grow Go.Proofs.YtlhnnggceebpjaaGreat.Words Go.Proofs.YtlhnnggceebpjaaGreat.Mem Go.Proofs.YtlhnnggceebpjaaGreat.Flow Go.Proofs.YtlhnnggceebpjaaGreat.Layout Go.Proofs.YtlhnnggceebpjaaGreat.Lock Go.Proofs.YtlhnnggceebpjaaGreat.Run Go.Proofs.YtlhnnggceebpjaaGreat.Sys Go.Proofs.YtlhnnggceebpjaaGreat.Mach Go.Proofs.YtlhnnggceebpjaaGreat.Doc Go.Proofs.YtlhnnggceebpjaaGreat.Ref05 Go.Proofs.YtlhnnggceebpjaaGreat.Subs Go.Proofs.YtlhnnggceebpjaaGreat.IWords Go.Proofs.YtlhnnggceebpjaaGreat.Globq
section
variable {σ : Type} {M : Rsys σ} {got : List Int} {s0 s s' : σ} {a b b' : RunSt} {w0 w00 wA w w' : World} {B r bx o rs gb : Nat} {v : Value} {P T G n : Int} {os rv : List Value}
/-- With a list of one number. -/
structure DG {σ : Type} (M : Rsys σ) (got : List Int) (s0 : σ) (a : RunSt) (w00 w : World) (B r bx o rs : Nat) (v : Value) (P T G : Int) (b : RunSt) (s : σ) (os rv : List Value) (gb : Nat) (n : Int) : Prop where
  do_ : DO M got s0 a w00 w B r bx o rs v P T G b s 96 os rv
  lst : Blk w gb [.int .i64 n] 3
theorem DG.di (h : DG M got s0 a w00 w B r bx o rs v P T G b s os rv gb n) : DI M got s0 a w w B r bx v P T G b s := h.do_.di
theorem DG.out (h : DG M got s0 a w00 w B r bx o rs v P T G b s os rv gb n) : Blk w o os 96 := h.do_.out
theorem DG.res (h : DG M got s0 a w00 w B r bx o rs v P T G b s os rv gb n) : Blk w rs rv 96 := h.do_.res
theorem DG.kept (h : DG M got s0 a w00 w B r bx o rs v P T G b s os rv gb n) : Kept [r] w00 w := h.do_.kept
theorem DG.ner (h : DG M got s0 a w00 w B r bx o rs v P T G b s os rv gb n) : gb ≠ r := Blk.ne h.lst h.do_.di.run.blk (by decide)
theorem DG.step (h : DG M got s0 a w00 w B r bx o rs v P T G b s os rv gb n) (h' : DI M got s0 a w w' B r bx v P T G b' s') : DG M got s0 a w00 w' B r bx o rs v P T G b' s' os rv gb n :=
  ⟨h.do_.step h', h.lst.kept h'.kept (by simpa using h.ner)⟩
theorem DG.quiet (h : DG M got s0 a w00 w B r bx o rs v P T G b s os rv gb n) (hb : Below w.heap.size w w') : DG M got s0 a w00 w' B r bx o rs v P T G b s os rv gb n := ⟨h.do_.quiet hb, h.lst.quiet hb⟩
theorem DG.setO (h : DG M got s0 a w00 w B r bx o rs v P T G b s os rv gb n) (i : Nat) (x : Value) : DG M got s0 a w00 (w.setCell ⟨o, i, none⟩ x) B r bx o rs v P T G b s (os.set i x) rv gb n :=
  ⟨h.do_.setO i x, h.lst.kept (S := [o]) ((Kept.refl _ _).set (.inl (by simp)) _) (by have := Blk.ne h.lst h.do_.out (by decide); simpa using this)⟩
theorem DG.setR (h : DG M got s0 a w00 w B r bx o rs v P T G b s os rv gb n) (i : Nat) (x : Value) : DG M got s0 a w00 (w.setCell ⟨rs, i, none⟩ x) B r bx o rs v P T G b s os (rv.set i x) gb n :=
  ⟨h.do_.setR i x, h.lst.kept (S := [rs]) ((Kept.refl _ _).set (.inl (by simp)) _) (by have := Blk.ne h.lst h.do_.res (by decide); simpa using this)⟩
theorem DG.mk_ (h : DO M got s0 a w00 w B r bx o rs v P T G b s 96 os rv) (n : Int) : DG M got s0 a w00 (w.alloc (.cells #[.int .i64 n] 3)) B r bx o rs v P T G b s os rv w.heap.size n :=
  ⟨h.quiet (below_one _ _), Blk.new w _ _⟩
theorem row1 {w : World} {gb : Nat} {n : Int} {T : TypeId} (h : Blk w gb [.int .i64 n] T) : RowOf (encI .i64) 1 w (some ⟨gb, 0, none⟩) [n] := by
  intro i hi
  refine ⟨_, rfl, ?_⟩
  intro j v hv
  have hj : j = 0 := by
    have := (List.getElem?_eq_some_iff.1 hv).1
    simpa [encI] using this
  subst hj
  have hi0 : i = 0 := by simp at hi; omega
  subst hi0
  rw [show (⟨gb, 0, none⟩ : Addr).add (0 * 1 + 0) = ⟨gb, 0, none⟩ by unfold Addr.add; simp]
  exact (h.cell _).trans hv
end
section
variable (P T G who o n : Int) (l : Nat)
theorem so_embA1 : Emb (soY P T G who o n) (aqM l 0 who).sys (fun _ => SoSt.gt1 .h) SoSt.aq1 := fun s W h => ⟨h, fun a => rfl⟩
theorem so_embG1 : Emb (soY P T G who o n) (Idlep.pgM l P).sys (fun u => SoSt.rl1 u .puts) SoSt.gt1 := fun s W h => ⟨h, fun a => rfl⟩
theorem so_embR1 (u : Idlep.PgSt) : Emb (soY P T G who o n) (rlM l 0).sys (fun _ => soLeft u) (SoSt.rl1 u) := fun s W h => ⟨h, fun a => rfl⟩
theorem so_embA2 : Emb (soY P T G who o n) (aqM l 0 who).sys (fun _ => SoSt.gt2 .h) SoSt.aq2 := fun s W h => ⟨h, fun a => rfl⟩
theorem so_embG2 : Emb (soY P T G who o n) (Idlep.pgM l P).sys soGot2 SoSt.gt2 := fun s W h => ⟨h, fun a => rfl⟩
theorem so_embR2 (v : Int) : Emb (soY P T G who o n) (rlM l 0).sys (fun _ => SoSt.ho v) (SoSt.rl2 v) := fun s W h => ⟨h, fun a => rfl⟩
theorem so_embQ : Emb (soY P T G who o n) (qpY P T G [n]) (fun _ => SoSt.rl3 .puts) SoSt.qp := fun s W h => ⟨h, fun a => rfl⟩
theorem so_embR3 : Emb (soY P T G who o n) (rlM l 0).sys (fun _ => SoSt.fq) SoSt.rl3 := fun s W h => ⟨h, fun a => rfl⟩
end
/-- What is told of a state. -/
def SoSays (o n : Int) (s : SoSt) (pv : Int) (cm rn : Bool) (hl : List Int) : Prop := soP o s = pv ∧ soCame s = cm ∧ soRuns s = rn ∧ soHeld n s = hl
theorem w9 : wordN 9 = 9 := by decide
theorem rout24_run (P T G who o n : Int) (B r : Nat) (v : Value) (a : RunSt) (got : List Int) (s0 : SoSt) (w : World) (h : RunAt w B r v a) (hg : Fits got a) (ha : a.stop = false) (hs : s0 = .sw) (hP : (0 ≤ P ∧ P ≤ 1000) ∧ (0 ≤ T ∧ T ≤ 1000) ∧ G ≤ 100000) (hw : 0 ≤ who ∧ who ≤ 1000) :
    Calls Tryz.prog 69 #[.pointer (some ⟨r, 0, none⟩), .agg #[.int .i64 P, .int .i64 T, .int .i64 G], .int .i64 who, .int .i64 o, .int .i64 n] w fun e w' => ∃ pv cm rn a' c' hl b s1, e = .returned (.agg #[.int .i64 pv, .bool cm, .bool rn, .slice a' (hl : List Int).length c']) ∧ RunAt w' B r v b ∧ Kept [r] w w' ∧ Ran (soY P T G who o n) got s0 a s1 b ∧ Fits got b ∧ (b.stop = false → (soY P T G who o n).want s1 = none) ∧ SoSays o n s1 pv cm rn hl ∧ RowOf (encI .i64) 1 w' a' hl := by
  have hlt := h.blk.lt
  have hSt := DR.start (M := soY P T G who o n) (P := P) (T := T) (G := G) (TO := 96) h hg s0 [.int .i64 0, .bool false, .bool false, .slice none 0 0] (by decide)
  have hD := DO.start hSt.1 hSt.2.2 hSt.2.1 hlt rfl rfl (by decide) [.int .i64 (-1), .bool false, .bool false, .slice none 0 0]
  have hsz : ((w.alloc (.cells #[.int .i64 P, .int .i64 T, .int .i64 G] 23)).alloc (.cells [Value.int .i64 0, .bool false, .bool false, .slice none 0 0].toArray 96)).heap.size = w.heap.size + 1 + 1 := by simp
  rw [hsz] at hD
  have HI := hid hD
  clear hD hsz
  have HP := hid hP
  have HS := hid hs
  have HWH := hid hw
  have HNIL := hid (fun (w : World) => (show RowOf (encI .i64) 1 w none ([] : List Int) from fun i hi => absurd hi (by simp)))
  (obtain ⟨z0, z1, z2, z3⟩ := HI.out.di.cells)
  (have q0 := HI.out.out.cell 0; have q1 := HI.out.out.cell 1; have q2 := HI.out.out.cell 2; have q3 := HI.out.out.cell 3; have qf := HI.out.out.frozen; have q5 := HI.out.res.cell 0; have q6 := HI.out.res.cell 1; have q7 := HI.out.res.cell 2; have q8 := HI.out.res.cell 3; have qg := HI.out.res.frozen; simp only [List.getElem?_cons_zero, List.getElem?_cons_succ, List.set_cons_zero, List.set_cons_succ, List.set_nil] at q0 q1 q2 q3 q5 q6 q7 q8)
  clear h hg hs hP hw hSt hlt ha
  go_enter Tryz.func69, Tryz.ntmps69
  go_wp2_with fail
  (refine (gat_run P T G _ _ _ HP.out.1 HP.out.2.1 HP.out.2.2 (by omega)).mono ?_; rintro e w1 ⟨rfl, hb⟩; (have HI := hid (HI.out.quiet hb); clear hb; (try clear q0 q1 q2 q3 qf q5 q6 q7 q8 qg); (try clear z0 z1 z2); (try clear z3); (try clear u0 u1 u2 u3 uf u5 u6 u7 u8 ug uz0 uz1 uz2); (try clear uz3); (try clear t_0 t_1 t_2 t_3 t_f t_5 t_6 t_7 t_8 t_g tz0 tz1 tz2 tz3); (obtain ⟨z0, z1, z2, z3⟩ := HI.out.di.cells); (have q0 := HI.out.out.cell 0; have q1 := HI.out.out.cell 1; have q2 := HI.out.out.cell 2; have q3 := HI.out.out.cell 3; have qf := HI.out.out.frozen; have q5 := HI.out.res.cell 0; have q6 := HI.out.res.cell 1; have q7 := HI.out.res.cell 2; have q8 := HI.out.res.cell 3; have qg := HI.out.res.frozen; simp only [List.getElem?_cons_zero, List.getElem?_cons_succ, List.set_cons_zero, List.set_cons_succ, List.set_nil] at q0 q1 q2 q3 q5 q6 q7 q8)))
  go_wp2_with fail
  (refine (procat_run P T G _ _ _ HP.out.1 (by omega)).mono ?_; rintro e w1 ⟨rfl, hb⟩; (have HI := hid (HI.out.quiet hb); clear hb; (try clear q0 q1 q2 q3 qf q5 q6 q7 q8 qg); (try clear z0 z1 z2); (try clear z3); (try clear u0 u1 u2 u3 uf u5 u6 u7 u8 ug uz0 uz1 uz2); (try clear uz3); (try clear t_0 t_1 t_2 t_3 t_f t_5 t_6 t_7 t_8 t_g tz0 tz1 tz2 tz3); (obtain ⟨z0, z1, z2, z3⟩ := HI.out.di.cells); (have q0 := HI.out.out.cell 0; have q1 := HI.out.out.cell 1; have q2 := HI.out.out.cell 2; have q3 := HI.out.out.cell 3; have qf := HI.out.out.frozen; have q5 := HI.out.res.cell 0; have q6 := HI.out.res.cell 1; have q7 := HI.out.res.cell 2; have q8 := HI.out.res.cell 3; have qg := HI.out.res.frozen; simp only [List.getElem?_cons_zero, List.getElem?_cons_succ, List.set_cons_zero, List.set_cons_succ, List.set_nil] at q0 q1 q2 q3 q5 q6 q7 q8)))
  go_wp2_with fail
  refine (dw_run HI.out.di (pr P o 0) 2 1 (fun h => by rw [HS.out]; rfl)).mono ?_
  rintro e w2 ⟨b1, s1, x1, rfl, hI, ho1⟩
  have E1 := hid (show (b1.stop = false → s1 = if x1 = 1 then .ad else .id) ∧ (b1.stop = true → s1 = .sw ∧ x1 = 0) from ⟨fun h => by rw [(ho1.1 h).2, HS.out]; rfl, fun h => ⟨by rw [(ho1.2.2.1 h).1, HS.out], (ho1.2.2.1 h).2⟩⟩)
  (have HI := hid (HI.out.step hI); clear hI; (try clear q0 q1 q2 q3 qf q5 q6 q7 q8 qg); (try clear z0 z1 z2); (try clear z3); (try clear u0 u1 u2 u3 uf u5 u6 u7 u8 ug uz0 uz1 uz2); (try clear uz3); (try clear t_0 t_1 t_2 t_3 t_f t_5 t_6 t_7 t_8 t_g tz0 tz1 tz2 tz3); (obtain ⟨z0, z1, z2, z3⟩ := HI.out.di.cells); (have q0 := HI.out.out.cell 0; have q1 := HI.out.out.cell 1; have q2 := HI.out.out.cell 2; have q3 := HI.out.out.cell 3; have qf := HI.out.out.frozen; have q5 := HI.out.res.cell 0; have q6 := HI.out.res.cell 1; have q7 := HI.out.res.cell 2; have q8 := HI.out.res.cell 3; have qg := HI.out.res.frozen; simp only [List.getElem?_cons_zero, List.getElem?_cons_succ, List.set_cons_zero, List.set_cons_succ, List.set_nil] at q0 q1 q2 q3 q5 q6 q7 q8))
  clear ho1
  by_cases hx : x1 = 1
  · subst hx
    have HS1 := hid (show s1 = .ad from by
      cases hb : b1.stop with
      | false => exact E1.out.1 hb
      | true => exact absurd (E1.out.2 hb).2 (by decide))
    have HI := hid (HI.out.setO 0 (.int .i64 o))
    (obtain ⟨uz0, uz1, uz2, uz3⟩ := HI.out.di.cells; have u0 := HI.out.out.cell 0; have u1 := HI.out.out.cell 1; have u2 := HI.out.out.cell 2; have u3 := HI.out.out.cell 3; have uf := HI.out.out.frozen; have u5 := HI.out.res.cell 0; have u6 := HI.out.res.cell 1; have u7 := HI.out.res.cell 2; have u8 := HI.out.res.cell 3; have ug := HI.out.res.frozen; simp only [List.getElem?_cons_zero, List.getElem?_cons_succ, List.set_cons_zero, List.set_cons_succ, List.set_nil] at u0 u1 u2 u3 u5 u6 u7 u8)
    clear E1
    go_wp2_with fail
    (refine (procat_run P T G _ _ _ HP.out.1 (by omega)).mono ?_; rintro e w1 ⟨rfl, hb⟩; (have HI := hid (HI.out.quiet hb); clear hb; (try clear q0 q1 q2 q3 qf q5 q6 q7 q8 qg); (try clear z0 z1 z2); (try clear z3); (try clear u0 u1 u2 u3 uf u5 u6 u7 u8 ug uz0 uz1 uz2); (try clear uz3); (try clear t_0 t_1 t_2 t_3 t_f t_5 t_6 t_7 t_8 t_g tz0 tz1 tz2 tz3); (obtain ⟨z0, z1, z2, z3⟩ := HI.out.di.cells); (have q0 := HI.out.out.cell 0; have q1 := HI.out.out.cell 1; have q2 := HI.out.out.cell 2; have q3 := HI.out.out.cell 3; have qf := HI.out.out.frozen; have q5 := HI.out.res.cell 0; have q6 := HI.out.res.cell 1; have q7 := HI.out.res.cell 2; have q8 := HI.out.res.cell 3; have qg := HI.out.res.frozen; simp only [List.getElem?_cons_zero, List.getElem?_cons_succ, List.set_cons_zero, List.set_cons_succ, List.set_nil] at q0 q1 q2 q3 q5 q6 q7 q8)))
    go_wp2_with fail
    refine (da_run HI.out.di (pr P o 5) 1 (fun h => by rw [HS1.out]; rfl)).mono ?_
    rintro e w3 ⟨b2, s2, x2, rfl, hI, ho2⟩
    have E2 := hid (show (b2.stop = false → s2 = .ru o) ∧ (b2.stop = true → s2 = .ad) from ⟨fun h => by rw [(ho2.1 h).2, HS1.out]; rfl, fun h => by rw [(ho2.2.2.1 h).1, HS1.out]⟩)
    clear ho2
    (have HI := hid (HI.out.step hI); clear hI; (try clear q0 q1 q2 q3 qf q5 q6 q7 q8 qg); (try clear z0 z1 z2); (try clear z3); (try clear u0 u1 u2 u3 uf u5 u6 u7 u8 ug uz0 uz1 uz2); (try clear uz3); (try clear t_0 t_1 t_2 t_3 t_f t_5 t_6 t_7 t_8 t_g tz0 tz1 tz2 tz3); (obtain ⟨z0, z1, z2, z3⟩ := HI.out.di.cells); (have q0 := HI.out.out.cell 0; have q1 := HI.out.out.cell 1; have q2 := HI.out.out.cell 2; have q3 := HI.out.out.cell 3; have qf := HI.out.out.frozen; have q5 := HI.out.res.cell 0; have q6 := HI.out.res.cell 1; have q7 := HI.out.res.cell 2; have q8 := HI.out.res.cell 3; have qg := HI.out.res.frozen; simp only [List.getElem?_cons_zero, List.getElem?_cons_succ, List.set_cons_zero, List.set_cons_succ, List.set_nil] at q0 q1 q2 q3 q5 q6 q7 q8))
    go_wp2_with fail
    refine (ds_run HI.out.di (gg P T G n 0) 2 (fun h => by rw [E2.out.1 h]; rfl)).mono ?_
    rintro e w4 ⟨rfl, b3, s3, x3, hI, ho3⟩
    have E3 := hid (show (b3.stop = false → s3 = .fr o) ∧ SoSays o n s3 o (!b3.stop) (!b3.stop) [] from by
      have e1 : b3.stop = false → s3 = .fr o := fun h => by rw [(ho3.1 h).2, E2.out.1 (ho3.1 h).1]; rfl
      refine ⟨e1, ?_⟩
      cases hb : b3.stop with
      | false => rw [e1 hb]; exact ⟨rfl, rfl, rfl, rfl⟩
      | true =>
        rw [(ho3.2.2.1 hb).1]
        cases hb2 : b2.stop with
        | false => rw [E2.out.1 hb2]; exact ⟨rfl, rfl, rfl, rfl⟩
        | true => rw [E2.out.2 hb2]; exact ⟨rfl, rfl, rfl, rfl⟩)
    clear ho3
    (have HI := hid (HI.out.step hI); clear hI; (try clear q0 q1 q2 q3 qf q5 q6 q7 q8 qg); (try clear z0 z1 z2); (try clear z3); (try clear u0 u1 u2 u3 uf u5 u6 u7 u8 ug uz0 uz1 uz2); (try clear uz3); (try clear t_0 t_1 t_2 t_3 t_f t_5 t_6 t_7 t_8 t_g tz0 tz1 tz2 tz3); (obtain ⟨z0, z1, z2, z3⟩ := HI.out.di.cells); (have q0 := HI.out.out.cell 0; have q1 := HI.out.out.cell 1; have q2 := HI.out.out.cell 2; have q3 := HI.out.out.cell 3; have qf := HI.out.out.frozen; have q5 := HI.out.res.cell 0; have q6 := HI.out.res.cell 1; have q7 := HI.out.res.cell 2; have q8 := HI.out.res.cell 3; have qg := HI.out.res.frozen; simp only [List.getElem?_cons_zero, List.getElem?_cons_succ, List.set_cons_zero, List.set_cons_succ, List.set_nil] at q0 q1 q2 q3 q5 q6 q7 q8))
    obtain ⟨sb, hsb⟩ : ∃ sb, sb = b3.stop := ⟨_, rfl⟩
    rw [← hsb] at z3
    have HSB := hid hsb
    clear hsb
    have HI := hid ((HI.out.setO 1 (.bool !sb)).setO 2 (.bool !sb))
    (obtain ⟨uz0, uz1, uz2, uz3⟩ := HI.out.di.cells; have u0 := HI.out.out.cell 0; have u1 := HI.out.out.cell 1; have u2 := HI.out.out.cell 2; have u3 := HI.out.out.cell 3; have uf := HI.out.out.frozen; have u5 := HI.out.res.cell 0; have u6 := HI.out.res.cell 1; have u7 := HI.out.res.cell 2; have u8 := HI.out.res.cell 3; have ug := HI.out.res.frozen; simp only [List.getElem?_cons_zero, List.getElem?_cons_succ, List.set_cons_zero, List.set_cons_succ, List.set_nil] at u0 u1 u2 u3 u5 u6 u7 u8)
    go_wp2
    ((try simp only [Exit.inBlock, Exit.then]); refine bodyPost_ret (results_cell_row rfl _ _ _ _ _ _ _ rfl ((((HI.out.setR 0 _).setR 1 _).setR 2 _).setR 3 _).res Tryz.underlying96 rfl (by kernel_rfl)) rfl ?_)
    exact ⟨o, !sb, !sb, none, 0, [], b3, s3, rfl, ((((HI.out.setR 0 _).setR 1 _).setR 2 _).setR 3 _).di.run, ((((HI.out.setR 0 _).setR 1 _).setR 2 _).setR 3 _).kept, HI.out.di.ran, HI.out.di.good, fun h => by rw [E3.out.1 h]; rfl, by rw [HSB.out]; exact E3.out.2, HNIL.out _⟩
  · have hx1 : ((x1 : Int) == 1) = false := by simpa using hx
    cases hb1 : b1.stop with
    | true =>
      rw [hb1] at z3
      have HZ := hid (And.intro hb1 (E1.out.2 hb1).1)
      clear hb1
      go_wp2
      ((try simp only [Exit.inBlock, Exit.then]); refine bodyPost_ret (results_cell_row rfl _ _ _ _ _ _ _ rfl ((((HI.out.setR 0 _).setR 1 _).setR 2 _).setR 3 _).res Tryz.underlying96 rfl (by kernel_rfl)) rfl ?_)
      exact ⟨-1, false, false, none, 0, [], b1, s1, rfl, ((((HI.out.setR 0 _).setR 1 _).setR 2 _).setR 3 _).di.run, ((((HI.out.setR 0 _).setR 1 _).setR 2 _).setR 3 _).kept, HI.out.di.ran, HI.out.di.good, fun h => absurd (HZ.out.1.symm.trans h) (by simp), by rw [HZ.out.2]; exact ⟨rfl, rfl, rfl, rfl⟩, HNIL.out _⟩
    | false =>
      rw [hb1] at z3
      have HS1 := hid (show s1 = .id by rw [E1.out.1 hb1, if_neg hx])
      clear hb1 E1 hx
      go_wp2_with fail
      refine (dl_run HI.out.di 9 (fun h => by rw [HS1.out, ← w9]; rfl)).mono ?_
      rintro e w3 ⟨b2, s2, x2, rfl, hI, ho2⟩
      have E2 := hid (show (b2.stop = false → s2 = if x2 = 0 then .wt else .aq1 .ask) ∧ (b2.stop = true → s2 = .id ∧ x2 = 0) from ⟨fun h => by rw [(ho2.1 h).2, HS1.out]; rfl, fun h => ⟨by rw [(ho2.2.2.1 h).1, HS1.out], (ho2.2.2.1 h).2⟩⟩)
      clear ho2 HS1
      (have HI := hid (HI.out.step hI); clear hI; (try clear q0 q1 q2 q3 qf q5 q6 q7 q8 qg); (try clear z0 z1 z2); (try clear z3); (try clear u0 u1 u2 u3 uf u5 u6 u7 u8 ug uz0 uz1 uz2); (try clear uz3); (try clear t_0 t_1 t_2 t_3 t_f t_5 t_6 t_7 t_8 t_g tz0 tz1 tz2 tz3); (obtain ⟨z0, z1, z2, z3⟩ := HI.out.di.cells); (have q0 := HI.out.out.cell 0; have q1 := HI.out.out.cell 1; have q2 := HI.out.out.cell 2; have q3 := HI.out.out.cell 3; have qf := HI.out.out.frozen; have q5 := HI.out.res.cell 0; have q6 := HI.out.res.cell 1; have q7 := HI.out.res.cell 2; have q8 := HI.out.res.cell 3; have qg := HI.out.res.frozen; simp only [List.getElem?_cons_zero, List.getElem?_cons_succ, List.set_cons_zero, List.set_cons_succ, List.set_nil] at q0 q1 q2 q3 q5 q6 q7 q8))
      by_cases hx : x2 = 0
      · subst hx
        rw [if_pos rfl] at E2
        obtain ⟨bw, hbw⟩ : ∃ bw, bw = b2 := ⟨_, rfl⟩
        obtain ⟨sv, hsv⟩ : ∃ sv, sv = s2 := ⟨_, rfl⟩
        rw [← hbw, ← hsv] at HI E2
        rw [← hbw] at z3
        have EW := hid (show (bw.stop = false → sv = .wt) ∧ (bw.stop = true → SoSays o n sv (-1) false false []) from ⟨E2.out.1, fun h => by rw [(E2.out.2 h).1]; exact ⟨rfl, rfl, rfl, rfl⟩⟩)
        clear E2 hbw hsv
        go_wp2_with fail
        refine (ds_run HI.out.di (gg P T G n 0) 1 (fun h => by rw [EW.out.1 h]; rfl)).mono ?_
        rintro e v1 ⟨rfl, c1, t1, y1, hI, hp1⟩
        have F1 := hid (show (c1.stop = false → t1 = .aq2 .ask) ∧ (c1.stop = true → SoSays o n t1 (-1) false false []) from ⟨fun h => by rw [(hp1.1 h).2, EW.out.1 (hp1.1 h).1]; rfl, fun h => by
          rw [(hp1.2.2.1 h).1]
          cases hb : bw.stop with
          | false => rw [EW.out.1 hb]; exact ⟨rfl, rfl, rfl, rfl⟩
          | true => exact EW.out.2 hb⟩)
        clear hp1 EW
        (have HI := hid (HI.out.step hI); clear hI; (try clear q0 q1 q2 q3 qf q5 q6 q7 q8 qg); (try clear z0 z1 z2); (try clear z3); (try clear u0 u1 u2 u3 uf u5 u6 u7 u8 ug uz0 uz1 uz2); (try clear uz3); (try clear t_0 t_1 t_2 t_3 t_f t_5 t_6 t_7 t_8 t_g tz0 tz1 tz2 tz3); (obtain ⟨z0, z1, z2, z3⟩ := HI.out.di.cells); (have q0 := HI.out.out.cell 0; have q1 := HI.out.out.cell 1; have q2 := HI.out.out.cell 2; have q3 := HI.out.out.cell 3; have qf := HI.out.out.frozen; have q5 := HI.out.res.cell 0; have q6 := HI.out.res.cell 1; have q7 := HI.out.res.cell 2; have q8 := HI.out.res.cell 3; have qg := HI.out.res.frozen; simp only [List.getElem?_cons_zero, List.getElem?_cons_succ, List.set_cons_zero, List.set_cons_succ, List.set_nil] at q0 q1 q2 q3 q5 q6 q7 q8))
        cases hc1 : c1.stop with
        | true =>
          rw [hc1] at z3
          have HZ := hid (And.intro hc1 (F1.out.2 hc1))
          clear hc1
          go_wp2
          ((try simp only [Exit.inBlock, Exit.then]); refine bodyPost_ret (results_cell_row rfl _ _ _ _ _ _ _ rfl ((((HI.out.setR 0 _).setR 1 _).setR 2 _).setR 3 _).res Tryz.underlying96 rfl (by kernel_rfl)) rfl ?_)
          exact ⟨-1, false, false, none, 0, [], c1, t1, rfl, ((((HI.out.setR 0 _).setR 1 _).setR 2 _).setR 3 _).di.run, ((((HI.out.setR 0 _).setR 1 _).setR 2 _).setR 3 _).kept, HI.out.di.ran, HI.out.di.good, fun h => absurd (HZ.out.1.symm.trans h) (by simp), HZ.out.2, HNIL.out _⟩
        | false =>
          rw [hc1] at z3
          have HT1 := hid (F1.out.1 hc1)
          clear hc1 F1
          have hG := DG.mk_ (HI.out.setO 1 (.bool true)) n
          obtain ⟨gb, hgb⟩ : ∃ gb, gb = (v1.setCell ⟨w.heap.size + 1 + 1, 1, none⟩ (.bool true)).heap.size := ⟨_, rfl⟩
          rw [← hgb] at hG
          have HI := hid hG
          (obtain ⟨uz0, uz1, uz2, uz3⟩ := HI.out.di.cells; have u0 := HI.out.out.cell 0; have u1 := HI.out.out.cell 1; have u2 := HI.out.out.cell 2; have u3 := HI.out.out.cell 3; have uf := HI.out.out.frozen; have u5 := HI.out.res.cell 0; have u6 := HI.out.res.cell 1; have u7 := HI.out.res.cell 2; have u8 := HI.out.res.cell 3; have ug := HI.out.res.frozen; simp only [List.getElem?_cons_zero, List.getElem?_cons_succ, List.set_cons_zero, List.set_cons_succ, List.set_nil] at u0 u1 u2 u3 u5 u6 u7 u8)
          have HI := hid (hG.setO 3 (.slice (some ⟨gb, 0, none⟩) 1 1))
          have hgb1 : v1.heap.size = gb := by rw [hgb]; simp
          clear hG hgb
          (obtain ⟨tz0, tz1, tz2, tz3⟩ := HI.out.di.cells; have t_0 := HI.out.out.cell 0; have t_1 := HI.out.out.cell 1; have t_2 := HI.out.out.cell 2; have t_3 := HI.out.out.cell 3; have t_f := HI.out.out.frozen; have t_5 := HI.out.res.cell 0; have t_6 := HI.out.res.cell 1; have t_7 := HI.out.res.cell 2; have t_8 := HI.out.res.cell 3; have t_g := HI.out.res.frozen; simp only [List.getElem?_cons_zero, List.getElem?_cons_succ, List.set_cons_zero, List.set_cons_succ, List.set_nil] at t_0 t_1 t_2 t_3 t_5 t_6 t_7 t_8)
          go_wp2_with fail
          clear hgb1
          refine (dacq_run HI.out.di 0 0 who _ _ (so_embA2 P T G who o n 0) (fun _ => HT1.out) (by omega) HWH.out).mono ?_
          rintro e v2 ⟨z, c2, t2, ra, rfl, hI, hp2, _⟩
          have F2 := hid (show (c2.stop = false → t2 = .gt2 .h) ∧ (c2.stop = true → SoSays o n t2 (-1) true false [n]) from ⟨fun h => (hp2.on h).2, fun h => by
            cases hb : c1.stop with
            | true => rw [(hp2.off hb).1, HT1.out]; exact ⟨rfl, rfl, rfl, rfl⟩
            | false => rw [hp2.mid hb, runs_on (hp2.wait hb h)]; exact ⟨rfl, rfl, rfl, rfl⟩⟩)
          clear hp2 HT1
          (have HI := hid (HI.out.step hI); clear hI; (try clear q0 q1 q2 q3 qf q5 q6 q7 q8 qg); (try clear z0 z1 z2); (try clear z3); (try clear u0 u1 u2 u3 uf u5 u6 u7 u8 ug uz0 uz1 uz2); (try clear uz3); (try clear t_0 t_1 t_2 t_3 t_f t_5 t_6 t_7 t_8 t_g tz0 tz1 tz2 tz3); (obtain ⟨z0, z1, z2, z3⟩ := HI.out.di.cells); (have q0 := HI.out.out.cell 0; have q1 := HI.out.out.cell 1; have q2 := HI.out.out.cell 2; have q3 := HI.out.out.cell 3; have qf := HI.out.out.frozen; have q5 := HI.out.res.cell 0; have q6 := HI.out.res.cell 1; have q7 := HI.out.res.cell 2; have q8 := HI.out.res.cell 3; have qg := HI.out.res.frozen; simp only [List.getElem?_cons_zero, List.getElem?_cons_succ, List.set_cons_zero, List.set_cons_succ, List.set_nil] at q0 q1 q2 q3 q5 q6 q7 q8))
          cases hc2 : c2.stop with
          | true =>
            rw [hc2] at z3
            have HZ := hid (And.intro hc2 (F2.out.2 hc2))
            clear hc2
            go_wp2
            ((try simp only [Exit.inBlock, Exit.then]); refine bodyPost_ret (results_cell_row rfl _ _ _ _ _ _ _ rfl ((((HI.out.setR 0 _).setR 1 _).setR 2 _).setR 3 _).res Tryz.underlying96 rfl (by kernel_rfl)) rfl ?_)
            exact ⟨-1, true, false, some ⟨gb, 0, none⟩, 1, [n], c2, t2, rfl, ((((HI.out.setR 0 _).setR 1 _).setR 2 _).setR 3 _).di.run, ((((HI.out.setR 0 _).setR 1 _).setR 2 _).setR 3 _).kept, HI.out.di.ran, HI.out.di.good, fun h => absurd (HZ.out.1.symm.trans h) (by simp), HZ.out.2, row1 ((((HI.out.setR 0 _).setR 1 _).setR 2 _).setR 3 _).lst⟩
          | false =>
            rw [hc2] at z3
            have HT2 := hid (And.intro hc2 (F2.out.1 hc2))
            clear hc2 F2
            go_wp2_with fail
            refine (dpget_run HI.out.di 0 _ _ (so_embG2 P T G who o n 0) (fun _ => HT2.out.2) HP.out.1).mono ?_
            rintro e v3 ⟨pw, c3, t3, rb, rfl, hI, hp3, hpw⟩
            have F3 := hid (show (c3.stop = false → t3 = soGot2 rb) ∧ pw = rb.p ∧ (c3.stop = true → SoSays o n t3 pw true false [n]) from ⟨fun h => (hp3.on h).2, hpw HT2.out.1, fun h => by
              rw [hp3.mid HT2.out.1, runs_on (hp3.wait HT2.out.1 h), hpw HT2.out.1]; exact ⟨rfl, rfl, rfl, rfl⟩⟩)
            clear hp3 hpw HT2
            (have HI := hid (HI.out.step hI); clear hI; (try clear q0 q1 q2 q3 qf q5 q6 q7 q8 qg); (try clear z0 z1 z2); (try clear z3); (try clear u0 u1 u2 u3 uf u5 u6 u7 u8 ug uz0 uz1 uz2); (try clear uz3); (try clear t_0 t_1 t_2 t_3 t_f t_5 t_6 t_7 t_8 t_g tz0 tz1 tz2 tz3); (obtain ⟨z0, z1, z2, z3⟩ := HI.out.di.cells); (have q0 := HI.out.out.cell 0; have q1 := HI.out.out.cell 1; have q2 := HI.out.out.cell 2; have q3 := HI.out.out.cell 3; have qf := HI.out.out.frozen; have q5 := HI.out.res.cell 0; have q6 := HI.out.res.cell 1; have q7 := HI.out.res.cell 2; have q8 := HI.out.res.cell 3; have qg := HI.out.res.frozen; simp only [List.getElem?_cons_zero, List.getElem?_cons_succ, List.set_cons_zero, List.set_cons_succ, List.set_nil] at q0 q1 q2 q3 q5 q6 q7 q8))
            have HI := hid (HI.out.setO 0 (.int .i64 pw))
            (obtain ⟨uz0, uz1, uz2, uz3⟩ := HI.out.di.cells; have u0 := HI.out.out.cell 0; have u1 := HI.out.out.cell 1; have u2 := HI.out.out.cell 2; have u3 := HI.out.out.cell 3; have uf := HI.out.out.frozen; have u5 := HI.out.res.cell 0; have u6 := HI.out.res.cell 1; have u7 := HI.out.res.cell 2; have u8 := HI.out.res.cell 3; have ug := HI.out.res.frozen; simp only [List.getElem?_cons_zero, List.getElem?_cons_succ, List.set_cons_zero, List.set_cons_succ, List.set_nil] at u0 u1 u2 u3 u5 u6 u7 u8)
            have z3 := uz3
            clear uz3
            cases hc3 : c3.stop with
            | true =>
              rw [hc3] at z3
              have HZ := hid (And.intro hc3 (F3.out.2.2 hc3))
              clear hc3
              go_wp2
              ((try simp only [Exit.inBlock, Exit.then]); refine bodyPost_ret (results_cell_row rfl _ _ _ _ _ _ _ rfl ((((HI.out.setR 0 _).setR 1 _).setR 2 _).setR 3 _).res Tryz.underlying96 rfl (by kernel_rfl)) rfl ?_)
              exact ⟨pw, true, false, some ⟨gb, 0, none⟩, 1, [n], c3, t3, rfl, ((((HI.out.setR 0 _).setR 1 _).setR 2 _).setR 3 _).di.run, ((((HI.out.setR 0 _).setR 1 _).setR 2 _).setR 3 _).kept, HI.out.di.ran, HI.out.di.good, fun h => absurd (HZ.out.1.symm.trans h) (by simp), HZ.out.2, row1 ((((HI.out.setR 0 _).setR 1 _).setR 2 _).setR 3 _).lst⟩
            | false =>
              rw [hc3] at z3
              have HT3 := hid (And.intro hc3 (show t3 = if pw = -1 then .qp (.ln 0) else .rl2 pw .puts by rw [F3.out.1 hc3, F3.out.2.1]; rfl))
              clear hc3 F3
              by_cases hpw : pw = -1
              · subst hpw
                rw [if_pos rfl] at HT3
                have hG := DG.mk_ HI.out.do_ n
                obtain ⟨gb2, hgb⟩ : ∃ gb2, gb2 = (v3.setCell ⟨w.heap.size + 1 + 1, 0, none⟩ (.int .i64 (-1))).heap.size := ⟨_, rfl⟩
                rw [← hgb] at hG
                have HI := hid hG
                (obtain ⟨tz0, tz1, tz2, tz3⟩ := HI.out.di.cells; have t_0 := HI.out.out.cell 0; have t_1 := HI.out.out.cell 1; have t_2 := HI.out.out.cell 2; have t_3 := HI.out.out.cell 3; have t_f := HI.out.out.frozen; have t_5 := HI.out.res.cell 0; have t_6 := HI.out.res.cell 1; have t_7 := HI.out.res.cell 2; have t_8 := HI.out.res.cell 3; have t_g := HI.out.res.frozen; simp only [List.getElem?_cons_zero, List.getElem?_cons_succ, List.set_cons_zero, List.set_cons_succ, List.set_nil] at t_0 t_1 t_2 t_3 t_5 t_6 t_7 t_8)
                have hgb1 : v3.heap.size = gb2 := by rw [hgb]; simp
                clear hG hgb
                go_wp2_with fail
                clear hgb1
                refine (rput13_run P T G [n] ⟨gb2, 0, none⟩ 1 B r v c3 got (.ln 0) _ HI.out.di.run HI.out.di.good HT3.out.1 rfl (by simp) HP.out (by simp) (row1 HI.out.lst) HI.out.ner).mono ?_
                rintro e v4 ⟨held, c4, rq, rfl, h1, h2, h3, h4, h5, h6⟩
                obtain ⟨t4, hI, hp4⟩ := past_of _ _ (so_embQ P T G who o n) HI.out.di h1 h2 h3 h4 (fun _ => by rw [HT3.out.2]; exact (runs_on (M := qpY P T G [n]) (s := QpSt.ln 0) (fun h => by cases h)).symm) (fun h => by rw [h5 h]; rfl)
                have F4 := hid (show (c4.stop = false → t4 = .rl3 .puts ∧ held = false) ∧ (c4.stop = true → SoSays o n t4 (-1) true false (if held then [n] else [])) from ⟨fun h => ⟨(hp4.on h).2, by
                  rw [h5 h] at h6
                  cases held with
                  | false => rfl
                  | true => exact absurd h6 (by decide)⟩, fun h => by
                  rw [hp4.mid HT3.out.1, runs_on (hp4.wait HT3.out.1 h)]
                  refine ⟨rfl, rfl, rfl, ?_⟩
                  show (if qpL rq then [] else [n]) = _
                  rw [h6]
                  cases held <;> rfl⟩)
                clear hp4 h1 h2 h3 h4 h5 h6 HT3
                (have HI := hid (HI.out.step hI); clear hI; (try clear q0 q1 q2 q3 qf q5 q6 q7 q8 qg); (try clear z0 z1 z2); (try clear z3); (try clear u0 u1 u2 u3 uf u5 u6 u7 u8 ug uz0 uz1 uz2); (try clear uz3); (try clear t_0 t_1 t_2 t_3 t_f t_5 t_6 t_7 t_8 t_g tz0 tz1 tz2 tz3); (obtain ⟨z0, z1, z2, z3⟩ := HI.out.di.cells); (have q0 := HI.out.out.cell 0; have q1 := HI.out.out.cell 1; have q2 := HI.out.out.cell 2; have q3 := HI.out.out.cell 3; have qf := HI.out.out.frozen; have q5 := HI.out.res.cell 0; have q6 := HI.out.res.cell 1; have q7 := HI.out.res.cell 2; have q8 := HI.out.res.cell 3; have qg := HI.out.res.frozen; simp only [List.getElem?_cons_zero, List.getElem?_cons_succ, List.set_cons_zero, List.set_cons_succ, List.set_nil] at q0 q1 q2 q3 q5 q6 q7 q8))
                cases held with
                | true =>
                  have HI := hid (HI.out.setO 3 (.slice (some ⟨gb2, 0, none⟩) 1 1))
                  (obtain ⟨uz0, uz1, uz2, uz3⟩ := HI.out.di.cells; have u0 := HI.out.out.cell 0; have u1 := HI.out.out.cell 1; have u2 := HI.out.out.cell 2; have u3 := HI.out.out.cell 3; have uf := HI.out.out.frozen; have u5 := HI.out.res.cell 0; have u6 := HI.out.res.cell 1; have u7 := HI.out.res.cell 2; have u8 := HI.out.res.cell 3; have ug := HI.out.res.frozen; simp only [List.getElem?_cons_zero, List.getElem?_cons_succ, List.set_cons_zero, List.set_cons_succ, List.set_nil] at u0 u1 u2 u3 u5 u6 u7 u8)
                  go_wp2_with fail
                  refine (drel_run HI.out.di 0 0 _ _ (so_embR3 P T G who o n 0) (fun h => (F4.out.1 h).1) (by omega)).mono ?_
                  rintro e v5 ⟨rfl, c5, t5, rd, hI, hp5, _⟩
                  have F5 := hid (And.intro (show c5.stop = false → (soY P T G who o n).want t5 = none from fun h => by rw [(hp5.on h).2]; rfl) (by
                    have hf := F4.out
                    cases hb : c4.stop with
                    | true => rw [(hp5.off hb).1]; exact hf.2 hb
                    | false =>
                      first
                        | exact absurd (hf.1 hb).2 (by decide)
                        | (show SoSays o n t5 (-1) true false []
                           rw [hp5.mid hb]
                           unfold runs
                           split <;> exact ⟨rfl, rfl, rfl, rfl⟩) : SoSays o n t5 (-1) true false _))
                  clear hp5 F4
                  (have HI := hid (HI.out.step hI); clear hI; (try clear q0 q1 q2 q3 qf q5 q6 q7 q8 qg); (try clear z0 z1 z2); (try clear z3); (try clear u0 u1 u2 u3 uf u5 u6 u7 u8 ug uz0 uz1 uz2); (try clear uz3); (try clear t_0 t_1 t_2 t_3 t_f t_5 t_6 t_7 t_8 t_g tz0 tz1 tz2 tz3); (obtain ⟨z0, z1, z2, z3⟩ := HI.out.di.cells); (have q0 := HI.out.out.cell 0; have q1 := HI.out.out.cell 1; have q2 := HI.out.out.cell 2; have q3 := HI.out.out.cell 3; have qf := HI.out.out.frozen; have q5 := HI.out.res.cell 0; have q6 := HI.out.res.cell 1; have q7 := HI.out.res.cell 2; have q8 := HI.out.res.cell 3; have qg := HI.out.res.frozen; simp only [List.getElem?_cons_zero, List.getElem?_cons_succ, List.set_cons_zero, List.set_cons_succ, List.set_nil] at q0 q1 q2 q3 q5 q6 q7 q8))
                  go_wp2
                  ((try simp only [Exit.inBlock, Exit.then]); refine bodyPost_ret (results_cell_row rfl _ _ _ _ _ _ _ rfl ((((HI.out.setR 0 _).setR 1 _).setR 2 _).setR 3 _).res Tryz.underlying96 rfl (by kernel_rfl)) rfl ?_)
                  exact ⟨-1, true, false, some ⟨gb2, 0, none⟩, 1, [n], c5, t5, rfl, ((((HI.out.setR 0 _).setR 1 _).setR 2 _).setR 3 _).di.run, ((((HI.out.setR 0 _).setR 1 _).setR 2 _).setR 3 _).kept, HI.out.di.ran, HI.out.di.good, F5.out.1, F5.out.2, row1 ((((HI.out.setR 0 _).setR 1 _).setR 2 _).setR 3 _).lst⟩
                | false =>
                  have HI := hid (HI.out.setO 3 (.slice none 0 0))
                  (obtain ⟨uz0, uz1, uz2, uz3⟩ := HI.out.di.cells; have u0 := HI.out.out.cell 0; have u1 := HI.out.out.cell 1; have u2 := HI.out.out.cell 2; have u3 := HI.out.out.cell 3; have uf := HI.out.out.frozen; have u5 := HI.out.res.cell 0; have u6 := HI.out.res.cell 1; have u7 := HI.out.res.cell 2; have u8 := HI.out.res.cell 3; have ug := HI.out.res.frozen; simp only [List.getElem?_cons_zero, List.getElem?_cons_succ, List.set_cons_zero, List.set_cons_succ, List.set_nil] at u0 u1 u2 u3 u5 u6 u7 u8)
                  go_wp2_with fail
                  refine (drel_run HI.out.di 0 0 _ _ (so_embR3 P T G who o n 0) (fun h => (F4.out.1 h).1) (by omega)).mono ?_
                  rintro e v5 ⟨rfl, c5, t5, rd, hI, hp5, _⟩
                  have F5 := hid (And.intro (show c5.stop = false → (soY P T G who o n).want t5 = none from fun h => by rw [(hp5.on h).2]; rfl) (by
                    have hf := F4.out
                    cases hb : c4.stop with
                    | true => rw [(hp5.off hb).1]; exact hf.2 hb
                    | false =>
                      first
                        | exact absurd (hf.1 hb).2 (by decide)
                        | (show SoSays o n t5 (-1) true false []
                           rw [hp5.mid hb]
                           unfold runs
                           split <;> exact ⟨rfl, rfl, rfl, rfl⟩) : SoSays o n t5 (-1) true false _))
                  clear hp5 F4
                  (have HI := hid (HI.out.step hI); clear hI; (try clear q0 q1 q2 q3 qf q5 q6 q7 q8 qg); (try clear z0 z1 z2); (try clear z3); (try clear u0 u1 u2 u3 uf u5 u6 u7 u8 ug uz0 uz1 uz2); (try clear uz3); (try clear t_0 t_1 t_2 t_3 t_f t_5 t_6 t_7 t_8 t_g tz0 tz1 tz2 tz3); (obtain ⟨z0, z1, z2, z3⟩ := HI.out.di.cells); (have q0 := HI.out.out.cell 0; have q1 := HI.out.out.cell 1; have q2 := HI.out.out.cell 2; have q3 := HI.out.out.cell 3; have qf := HI.out.out.frozen; have q5 := HI.out.res.cell 0; have q6 := HI.out.res.cell 1; have q7 := HI.out.res.cell 2; have q8 := HI.out.res.cell 3; have qg := HI.out.res.frozen; simp only [List.getElem?_cons_zero, List.getElem?_cons_succ, List.set_cons_zero, List.set_cons_succ, List.set_nil] at q0 q1 q2 q3 q5 q6 q7 q8))
                  go_wp2
                  ((try simp only [Exit.inBlock, Exit.then]); refine bodyPost_ret (results_cell_row rfl _ _ _ _ _ _ _ rfl ((((HI.out.setR 0 _).setR 1 _).setR 2 _).setR 3 _).res Tryz.underlying96 rfl (by kernel_rfl)) rfl ?_)
                  exact ⟨-1, true, false, none, 0, [], c5, t5, rfl, ((((HI.out.setR 0 _).setR 1 _).setR 2 _).setR 3 _).di.run, ((((HI.out.setR 0 _).setR 1 _).setR 2 _).setR 3 _).kept, HI.out.di.ran, HI.out.di.good, F5.out.1, F5.out.2, HNIL.out _⟩
              · have hpn : ((pw : Int) != -1) = true := by simpa using hpw
                rw [if_neg hpw] at HT3
                clear hpw
                go_wp2_with fail
                refine (drel_run HI.out.di 0 0 _ _ (so_embR2 P T G who o n 0 pw) (fun _ => HT3.out.2) (by omega)).mono ?_
                rintro e v4 ⟨rfl, c4, t4, rc, hI, hp4, _⟩
                have F4 := hid (show (c4.stop = false → t4 = .ho pw) ∧ (c4.stop = true → SoSays o n t4 pw true false [n]) from ⟨fun h => (hp4.on h).2, fun h => by
                  rw [hp4.mid HT3.out.1, runs_on (hp4.wait HT3.out.1 h)]; exact ⟨rfl, rfl, rfl, rfl⟩⟩)
                clear hp4 HT3
                (have HI := hid (HI.out.step hI); clear hI; (try clear q0 q1 q2 q3 qf q5 q6 q7 q8 qg); (try clear z0 z1 z2); (try clear z3); (try clear u0 u1 u2 u3 uf u5 u6 u7 u8 ug uz0 uz1 uz2); (try clear uz3); (try clear t_0 t_1 t_2 t_3 t_f t_5 t_6 t_7 t_8 t_g tz0 tz1 tz2 tz3); (obtain ⟨z0, z1, z2, z3⟩ := HI.out.di.cells); (have q0 := HI.out.out.cell 0; have q1 := HI.out.out.cell 1; have q2 := HI.out.out.cell 2; have q3 := HI.out.out.cell 3; have qf := HI.out.out.frozen; have q5 := HI.out.res.cell 0; have q6 := HI.out.res.cell 1; have q7 := HI.out.res.cell 2; have q8 := HI.out.res.cell 3; have qg := HI.out.res.frozen; simp only [List.getElem?_cons_zero, List.getElem?_cons_succ, List.set_cons_zero, List.set_cons_succ, List.set_nil] at q0 q1 q2 q3 q5 q6 q7 q8))
                go_wp2_with fail
                (refine (procat_run P T G _ _ _ HP.out.1 (by omega)).mono ?_; rintro e w1 ⟨rfl, hb⟩; (have HI := hid (HI.out.quiet hb); clear hb; (try clear q0 q1 q2 q3 qf q5 q6 q7 q8 qg); (try clear z0 z1 z2); (try clear z3); (try clear u0 u1 u2 u3 uf u5 u6 u7 u8 ug uz0 uz1 uz2); (try clear uz3); (try clear t_0 t_1 t_2 t_3 t_f t_5 t_6 t_7 t_8 t_g tz0 tz1 tz2 tz3); (obtain ⟨z0, z1, z2, z3⟩ := HI.out.di.cells); (have q0 := HI.out.out.cell 0; have q1 := HI.out.out.cell 1; have q2 := HI.out.out.cell 2; have q3 := HI.out.out.cell 3; have qf := HI.out.out.frozen; have q5 := HI.out.res.cell 0; have q6 := HI.out.res.cell 1; have q7 := HI.out.res.cell 2; have q8 := HI.out.res.cell 3; have qg := HI.out.res.frozen; simp only [List.getElem?_cons_zero, List.getElem?_cons_succ, List.set_cons_zero, List.set_cons_succ, List.set_nil] at q0 q1 q2 q3 q5 q6 q7 q8)))
                go_wp2_with fail
                refine (ds_run HI.out.di (pr P pw 0) 1 (fun h => by rw [F4.out.1 h]; rfl)).mono ?_
                rintro e v5 ⟨rfl, c5, t5, y5, hI, hp5⟩
                have F5 := hid (show (c5.stop = false → (soY P T G who o n).want t5 = none) ∧ SoSays o n t5 pw true false [n] from ⟨fun h => by rw [(hp5.1 h).2, F4.out.1 (hp5.1 h).1]; rfl, by
                  cases hb : c5.stop with
                  | false => rw [(hp5.1 hb).2, F4.out.1 (hp5.1 hb).1]; exact ⟨rfl, rfl, rfl, rfl⟩
                  | true =>
                    rw [(hp5.2.2.1 hb).1]
                    cases hb4 : c4.stop with
                    | false => rw [F4.out.1 hb4]; exact ⟨rfl, rfl, rfl, rfl⟩
                    | true => exact F4.out.2 hb4⟩)
                clear hp5 F4
                (have HI := hid (HI.out.step hI); clear hI; (try clear q0 q1 q2 q3 qf q5 q6 q7 q8 qg); (try clear z0 z1 z2); (try clear z3); (try clear u0 u1 u2 u3 uf u5 u6 u7 u8 ug uz0 uz1 uz2); (try clear uz3); (try clear t_0 t_1 t_2 t_3 t_f t_5 t_6 t_7 t_8 t_g tz0 tz1 tz2 tz3); (obtain ⟨z0, z1, z2, z3⟩ := HI.out.di.cells); (have q0 := HI.out.out.cell 0; have q1 := HI.out.out.cell 1; have q2 := HI.out.out.cell 2; have q3 := HI.out.out.cell 3; have qf := HI.out.out.frozen; have q5 := HI.out.res.cell 0; have q6 := HI.out.res.cell 1; have q7 := HI.out.res.cell 2; have q8 := HI.out.res.cell 3; have qg := HI.out.res.frozen; simp only [List.getElem?_cons_zero, List.getElem?_cons_succ, List.set_cons_zero, List.set_cons_succ, List.set_nil] at q0 q1 q2 q3 q5 q6 q7 q8))
                go_wp2
                ((try simp only [Exit.inBlock, Exit.then]); refine bodyPost_ret (results_cell_row rfl _ _ _ _ _ _ _ rfl ((((HI.out.setR 0 _).setR 1 _).setR 2 _).setR 3 _).res Tryz.underlying96 rfl (by kernel_rfl)) rfl ?_)
                exact ⟨pw, true, false, some ⟨gb, 0, none⟩, 1, [n], c5, t5, rfl, ((((HI.out.setR 0 _).setR 1 _).setR 2 _).setR 3 _).di.run, ((((HI.out.setR 0 _).setR 1 _).setR 2 _).setR 3 _).kept, HI.out.di.ran, HI.out.di.good, F5.out.1, F5.out.2, row1 ((((HI.out.setR 0 _).setR 1 _).setR 2 _).setR 3 _).lst⟩
      · have hz1 : ((x2 : Int) != 0) = true := by simpa using hx
        have HS2 := hid (show s2 = .aq1 .ask from by
          cases hb : b2.stop with
          | false => rw [E2.out.1 hb, if_neg hx]
          | true => exact absurd (E2.out.2 hb).2 hx)
        clear E2 hx
        go_wp2_with fail
        refine (dacq_run HI.out.di 0 0 who _ _ (so_embA1 P T G who o n 0) (fun _ => HS2.out) (by omega) HWH.out).mono ?_
        rintro e w4 ⟨z, b3, s3, qa, rfl, hI, hp3, _⟩
        have E3 := hid (show (b3.stop = false → s3 = .gt1 .h) ∧ (b3.stop = true → SoSays o n s3 (-1) false false []) from ⟨fun h => (hp3.on h).2, fun h => by
          cases hb : b2.stop with
          | true => rw [(hp3.off hb).1, HS2.out]; exact ⟨rfl, rfl, rfl, rfl⟩
          | false => rw [hp3.mid hb, runs_on (hp3.wait hb h)]; exact ⟨rfl, rfl, rfl, rfl⟩⟩)
        clear hp3 HS2
        (have HI := hid (HI.out.step hI); clear hI; (try clear q0 q1 q2 q3 qf q5 q6 q7 q8 qg); (try clear z0 z1 z2); (try clear z3); (try clear u0 u1 u2 u3 uf u5 u6 u7 u8 ug uz0 uz1 uz2); (try clear uz3); (try clear t_0 t_1 t_2 t_3 t_f t_5 t_6 t_7 t_8 t_g tz0 tz1 tz2 tz3); (obtain ⟨z0, z1, z2, z3⟩ := HI.out.di.cells); (have q0 := HI.out.out.cell 0; have q1 := HI.out.out.cell 1; have q2 := HI.out.out.cell 2; have q3 := HI.out.out.cell 3; have qf := HI.out.out.frozen; have q5 := HI.out.res.cell 0; have q6 := HI.out.res.cell 1; have q7 := HI.out.res.cell 2; have q8 := HI.out.res.cell 3; have qg := HI.out.res.frozen; simp only [List.getElem?_cons_zero, List.getElem?_cons_succ, List.set_cons_zero, List.set_cons_succ, List.set_nil] at q0 q1 q2 q3 q5 q6 q7 q8))
        cases hb3 : b3.stop with
        | true =>
          rw [hb3] at z3
          have HZ := hid (And.intro hb3 (E3.out.2 hb3))
          clear hb3
          go_wp2
          ((try simp only [Exit.inBlock, Exit.then]); refine bodyPost_ret (results_cell_row rfl _ _ _ _ _ _ _ rfl ((((HI.out.setR 0 _).setR 1 _).setR 2 _).setR 3 _).res Tryz.underlying96 rfl (by kernel_rfl)) rfl ?_)
          exact ⟨-1, false, false, none, 0, [], b3, s3, rfl, ((((HI.out.setR 0 _).setR 1 _).setR 2 _).setR 3 _).di.run, ((((HI.out.setR 0 _).setR 1 _).setR 2 _).setR 3 _).kept, HI.out.di.ran, HI.out.di.good, fun h => absurd (HZ.out.1.symm.trans h) (by simp), HZ.out.2, HNIL.out _⟩
        | false =>
          rw [hb3] at z3
          have HS3 := hid (And.intro hb3 (E3.out.1 hb3))
          clear hb3 E3
          go_wp2_with fail
          refine (dpget_run HI.out.di 0 _ _ (so_embG1 P T G who o n 0) (fun _ => HS3.out.2) HP.out.1).mono ?_
          rintro e w5 ⟨pv, b4, s4, qb, rfl, hI, hp4, hpv⟩
          have E4 := hid (show (b4.stop = false → s4 = .rl1 qb .puts) ∧ pv = qb.p ∧ (b4.stop = true → SoSays o n s4 pv false false []) from ⟨fun h => (hp4.on h).2, hpv HS3.out.1, fun h => by
            rw [hp4.mid HS3.out.1, runs_on (hp4.wait HS3.out.1 h), hpv HS3.out.1]; exact ⟨rfl, rfl, rfl, rfl⟩⟩)
          clear hp4 hpv HS3
          (have HI := hid (HI.out.step hI); clear hI; (try clear q0 q1 q2 q3 qf q5 q6 q7 q8 qg); (try clear z0 z1 z2); (try clear z3); (try clear u0 u1 u2 u3 uf u5 u6 u7 u8 ug uz0 uz1 uz2); (try clear uz3); (try clear t_0 t_1 t_2 t_3 t_f t_5 t_6 t_7 t_8 t_g tz0 tz1 tz2 tz3); (obtain ⟨z0, z1, z2, z3⟩ := HI.out.di.cells); (have q0 := HI.out.out.cell 0; have q1 := HI.out.out.cell 1; have q2 := HI.out.out.cell 2; have q3 := HI.out.out.cell 3; have qf := HI.out.out.frozen; have q5 := HI.out.res.cell 0; have q6 := HI.out.res.cell 1; have q7 := HI.out.res.cell 2; have q8 := HI.out.res.cell 3; have qg := HI.out.res.frozen; simp only [List.getElem?_cons_zero, List.getElem?_cons_succ, List.set_cons_zero, List.set_cons_succ, List.set_nil] at q0 q1 q2 q3 q5 q6 q7 q8))
          have HI := hid (HI.out.setO 0 (.int .i64 pv))
          (obtain ⟨uz0, uz1, uz2, uz3⟩ := HI.out.di.cells; have u0 := HI.out.out.cell 0; have u1 := HI.out.out.cell 1; have u2 := HI.out.out.cell 2; have u3 := HI.out.out.cell 3; have uf := HI.out.out.frozen; have u5 := HI.out.res.cell 0; have u6 := HI.out.res.cell 1; have u7 := HI.out.res.cell 2; have u8 := HI.out.res.cell 3; have ug := HI.out.res.frozen; simp only [List.getElem?_cons_zero, List.getElem?_cons_succ, List.set_cons_zero, List.set_cons_succ, List.set_nil] at u0 u1 u2 u3 u5 u6 u7 u8)
          have z3 := uz3
          clear uz3
          cases hb4 : b4.stop with
          | true =>
            rw [hb4] at z3
            have HZ := hid (And.intro hb4 (E4.out.2.2 hb4))
            clear hb4
            go_wp2
            ((try simp only [Exit.inBlock, Exit.then]); refine bodyPost_ret (results_cell_row rfl _ _ _ _ _ _ _ rfl ((((HI.out.setR 0 _).setR 1 _).setR 2 _).setR 3 _).res Tryz.underlying96 rfl (by kernel_rfl)) rfl ?_)
            exact ⟨pv, false, false, none, 0, [], b4, s4, rfl, ((((HI.out.setR 0 _).setR 1 _).setR 2 _).setR 3 _).di.run, ((((HI.out.setR 0 _).setR 1 _).setR 2 _).setR 3 _).kept, HI.out.di.ran, HI.out.di.good, fun h => absurd (HZ.out.1.symm.trans h) (by simp), HZ.out.2, HNIL.out _⟩
          | false =>
            rw [hb4] at z3
            have HS4 := hid (And.intro hb4 (And.intro (E4.out.1 hb4) E4.out.2.1))
            clear hb4 E4
            go_wp2_with fail
            refine (drel_run HI.out.di 0 0 _ _ (so_embR1 P T G who o n 0 qb) (fun _ => HS4.out.2.1) (by omega)).mono ?_
            rintro e w6 ⟨rfl, b5, s5, qc, hI, hp5, _⟩
            have E5 := hid (show (b5.stop = false → s5 = if pv = -1 then .wt else .st pv) ∧ (b5.stop = true → SoSays o n s5 pv false false []) from ⟨fun h => by rw [(hp5.on h).2, HS4.out.2.2]; rfl, fun h => by
              rw [hp5.mid HS4.out.1, runs_on (hp5.wait HS4.out.1 h), HS4.out.2.2]; exact ⟨rfl, rfl, rfl, rfl⟩⟩)
            clear hp5 HS4
            (have HI := hid (HI.out.step hI); clear hI; (try clear q0 q1 q2 q3 qf q5 q6 q7 q8 qg); (try clear z0 z1 z2); (try clear z3); (try clear u0 u1 u2 u3 uf u5 u6 u7 u8 ug uz0 uz1 uz2); (try clear uz3); (try clear t_0 t_1 t_2 t_3 t_f t_5 t_6 t_7 t_8 t_g tz0 tz1 tz2 tz3); (obtain ⟨z0, z1, z2, z3⟩ := HI.out.di.cells); (have q0 := HI.out.out.cell 0; have q1 := HI.out.out.cell 1; have q2 := HI.out.out.cell 2; have q3 := HI.out.out.cell 3; have qf := HI.out.out.frozen; have q5 := HI.out.res.cell 0; have q6 := HI.out.res.cell 1; have q7 := HI.out.res.cell 2; have q8 := HI.out.res.cell 3; have qg := HI.out.res.frozen; simp only [List.getElem?_cons_zero, List.getElem?_cons_succ, List.set_cons_zero, List.set_cons_succ, List.set_nil] at q0 q1 q2 q3 q5 q6 q7 q8))
            cases hb5 : b5.stop with
            | true =>
              rw [hb5] at z3
              have HZ := hid (And.intro hb5 (E5.out.2 hb5))
              clear hb5
              go_wp2
              ((try simp only [Exit.inBlock, Exit.then]); refine bodyPost_ret (results_cell_row rfl _ _ _ _ _ _ _ rfl ((((HI.out.setR 0 _).setR 1 _).setR 2 _).setR 3 _).res Tryz.underlying96 rfl (by kernel_rfl)) rfl ?_)
              exact ⟨pv, false, false, none, 0, [], b5, s5, rfl, ((((HI.out.setR 0 _).setR 1 _).setR 2 _).setR 3 _).di.run, ((((HI.out.setR 0 _).setR 1 _).setR 2 _).setR 3 _).kept, HI.out.di.ran, HI.out.di.good, fun h => absurd (HZ.out.1.symm.trans h) (by simp), HZ.out.2, HNIL.out _⟩
            | false =>
              by_cases hpv : pv = -1
              · subst hpv
                obtain ⟨bw, hbw⟩ : ∃ bw, bw = b5 := ⟨_, rfl⟩
                obtain ⟨sv, hsv⟩ : ∃ sv, sv = s5 := ⟨_, rfl⟩
                rw [← hbw, ← hsv] at HI E5
                rw [← hbw] at z3 hb5
                have EW := hid (show (bw.stop = false → sv = .wt) ∧ (bw.stop = true → SoSays o n sv (-1) false false []) from ⟨fun h => E5.out.1 h, E5.out.2⟩)
                rw [hb5] at z3
                clear E5 hbw hsv hb5
                go_wp2_with fail
                refine (ds_run HI.out.di (gg P T G n 0) 1 (fun h => by rw [EW.out.1 h]; rfl)).mono ?_
                rintro e v1 ⟨rfl, c1, t1, y1, hI, hp1⟩
                have F1 := hid (show (c1.stop = false → t1 = .aq2 .ask) ∧ (c1.stop = true → SoSays o n t1 (-1) false false []) from ⟨fun h => by rw [(hp1.1 h).2, EW.out.1 (hp1.1 h).1]; rfl, fun h => by
                  rw [(hp1.2.2.1 h).1]
                  cases hb : bw.stop with
                  | false => rw [EW.out.1 hb]; exact ⟨rfl, rfl, rfl, rfl⟩
                  | true => exact EW.out.2 hb⟩)
                clear hp1 EW
                (have HI := hid (HI.out.step hI); clear hI; (try clear q0 q1 q2 q3 qf q5 q6 q7 q8 qg); (try clear z0 z1 z2); (try clear z3); (try clear u0 u1 u2 u3 uf u5 u6 u7 u8 ug uz0 uz1 uz2); (try clear uz3); (try clear t_0 t_1 t_2 t_3 t_f t_5 t_6 t_7 t_8 t_g tz0 tz1 tz2 tz3); (obtain ⟨z0, z1, z2, z3⟩ := HI.out.di.cells); (have q0 := HI.out.out.cell 0; have q1 := HI.out.out.cell 1; have q2 := HI.out.out.cell 2; have q3 := HI.out.out.cell 3; have qf := HI.out.out.frozen; have q5 := HI.out.res.cell 0; have q6 := HI.out.res.cell 1; have q7 := HI.out.res.cell 2; have q8 := HI.out.res.cell 3; have qg := HI.out.res.frozen; simp only [List.getElem?_cons_zero, List.getElem?_cons_succ, List.set_cons_zero, List.set_cons_succ, List.set_nil] at q0 q1 q2 q3 q5 q6 q7 q8))
                cases hc1 : c1.stop with
                | true =>
                  rw [hc1] at z3
                  have HZ := hid (And.intro hc1 (F1.out.2 hc1))
                  clear hc1
                  go_wp2
                  ((try simp only [Exit.inBlock, Exit.then]); refine bodyPost_ret (results_cell_row rfl _ _ _ _ _ _ _ rfl ((((HI.out.setR 0 _).setR 1 _).setR 2 _).setR 3 _).res Tryz.underlying96 rfl (by kernel_rfl)) rfl ?_)
                  exact ⟨-1, false, false, none, 0, [], c1, t1, rfl, ((((HI.out.setR 0 _).setR 1 _).setR 2 _).setR 3 _).di.run, ((((HI.out.setR 0 _).setR 1 _).setR 2 _).setR 3 _).kept, HI.out.di.ran, HI.out.di.good, fun h => absurd (HZ.out.1.symm.trans h) (by simp), HZ.out.2, HNIL.out _⟩
                | false =>
                  rw [hc1] at z3
                  have HT1 := hid (F1.out.1 hc1)
                  clear hc1 F1
                  have hG := DG.mk_ (HI.out.setO 1 (.bool true)) n
                  obtain ⟨gb, hgb⟩ : ∃ gb, gb = (v1.setCell ⟨w.heap.size + 1 + 1, 1, none⟩ (.bool true)).heap.size := ⟨_, rfl⟩
                  rw [← hgb] at hG
                  have HI := hid hG
                  (obtain ⟨uz0, uz1, uz2, uz3⟩ := HI.out.di.cells; have u0 := HI.out.out.cell 0; have u1 := HI.out.out.cell 1; have u2 := HI.out.out.cell 2; have u3 := HI.out.out.cell 3; have uf := HI.out.out.frozen; have u5 := HI.out.res.cell 0; have u6 := HI.out.res.cell 1; have u7 := HI.out.res.cell 2; have u8 := HI.out.res.cell 3; have ug := HI.out.res.frozen; simp only [List.getElem?_cons_zero, List.getElem?_cons_succ, List.set_cons_zero, List.set_cons_succ, List.set_nil] at u0 u1 u2 u3 u5 u6 u7 u8)
                  have HI := hid (hG.setO 3 (.slice (some ⟨gb, 0, none⟩) 1 1))
                  have hgb1 : v1.heap.size = gb := by rw [hgb]; simp
                  clear hG hgb
                  (obtain ⟨tz0, tz1, tz2, tz3⟩ := HI.out.di.cells; have t_0 := HI.out.out.cell 0; have t_1 := HI.out.out.cell 1; have t_2 := HI.out.out.cell 2; have t_3 := HI.out.out.cell 3; have t_f := HI.out.out.frozen; have t_5 := HI.out.res.cell 0; have t_6 := HI.out.res.cell 1; have t_7 := HI.out.res.cell 2; have t_8 := HI.out.res.cell 3; have t_g := HI.out.res.frozen; simp only [List.getElem?_cons_zero, List.getElem?_cons_succ, List.set_cons_zero, List.set_cons_succ, List.set_nil] at t_0 t_1 t_2 t_3 t_5 t_6 t_7 t_8)
                  go_wp2_with fail
                  clear hgb1
                  refine (dacq_run HI.out.di 0 0 who _ _ (so_embA2 P T G who o n 0) (fun _ => HT1.out) (by omega) HWH.out).mono ?_
                  rintro e v2 ⟨z, c2, t2, ra, rfl, hI, hp2, _⟩
                  have F2 := hid (show (c2.stop = false → t2 = .gt2 .h) ∧ (c2.stop = true → SoSays o n t2 (-1) true false [n]) from ⟨fun h => (hp2.on h).2, fun h => by
                    cases hb : c1.stop with
                    | true => rw [(hp2.off hb).1, HT1.out]; exact ⟨rfl, rfl, rfl, rfl⟩
                    | false => rw [hp2.mid hb, runs_on (hp2.wait hb h)]; exact ⟨rfl, rfl, rfl, rfl⟩⟩)
                  clear hp2 HT1
                  (have HI := hid (HI.out.step hI); clear hI; (try clear q0 q1 q2 q3 qf q5 q6 q7 q8 qg); (try clear z0 z1 z2); (try clear z3); (try clear u0 u1 u2 u3 uf u5 u6 u7 u8 ug uz0 uz1 uz2); (try clear uz3); (try clear t_0 t_1 t_2 t_3 t_f t_5 t_6 t_7 t_8 t_g tz0 tz1 tz2 tz3); (obtain ⟨z0, z1, z2, z3⟩ := HI.out.di.cells); (have q0 := HI.out.out.cell 0; have q1 := HI.out.out.cell 1; have q2 := HI.out.out.cell 2; have q3 := HI.out.out.cell 3; have qf := HI.out.out.frozen; have q5 := HI.out.res.cell 0; have q6 := HI.out.res.cell 1; have q7 := HI.out.res.cell 2; have q8 := HI.out.res.cell 3; have qg := HI.out.res.frozen; simp only [List.getElem?_cons_zero, List.getElem?_cons_succ, List.set_cons_zero, List.set_cons_succ, List.set_nil] at q0 q1 q2 q3 q5 q6 q7 q8))
                  cases hc2 : c2.stop with
                  | true =>
                    rw [hc2] at z3
                    have HZ := hid (And.intro hc2 (F2.out.2 hc2))
                    clear hc2
                    go_wp2
                    ((try simp only [Exit.inBlock, Exit.then]); refine bodyPost_ret (results_cell_row rfl _ _ _ _ _ _ _ rfl ((((HI.out.setR 0 _).setR 1 _).setR 2 _).setR 3 _).res Tryz.underlying96 rfl (by kernel_rfl)) rfl ?_)
                    exact ⟨-1, true, false, some ⟨gb, 0, none⟩, 1, [n], c2, t2, rfl, ((((HI.out.setR 0 _).setR 1 _).setR 2 _).setR 3 _).di.run, ((((HI.out.setR 0 _).setR 1 _).setR 2 _).setR 3 _).kept, HI.out.di.ran, HI.out.di.good, fun h => absurd (HZ.out.1.symm.trans h) (by simp), HZ.out.2, row1 ((((HI.out.setR 0 _).setR 1 _).setR 2 _).setR 3 _).lst⟩
                  | false =>
                    rw [hc2] at z3
                    have HT2 := hid (And.intro hc2 (F2.out.1 hc2))
                    clear hc2 F2
                    go_wp2_with fail
                    refine (dpget_run HI.out.di 0 _ _ (so_embG2 P T G who o n 0) (fun _ => HT2.out.2) HP.out.1).mono ?_
                    rintro e v3 ⟨pw, c3, t3, rb, rfl, hI, hp3, hpw⟩
                    have F3 := hid (show (c3.stop = false → t3 = soGot2 rb) ∧ pw = rb.p ∧ (c3.stop = true → SoSays o n t3 pw true false [n]) from ⟨fun h => (hp3.on h).2, hpw HT2.out.1, fun h => by
                      rw [hp3.mid HT2.out.1, runs_on (hp3.wait HT2.out.1 h), hpw HT2.out.1]; exact ⟨rfl, rfl, rfl, rfl⟩⟩)
                    clear hp3 hpw HT2
                    (have HI := hid (HI.out.step hI); clear hI; (try clear q0 q1 q2 q3 qf q5 q6 q7 q8 qg); (try clear z0 z1 z2); (try clear z3); (try clear u0 u1 u2 u3 uf u5 u6 u7 u8 ug uz0 uz1 uz2); (try clear uz3); (try clear t_0 t_1 t_2 t_3 t_f t_5 t_6 t_7 t_8 t_g tz0 tz1 tz2 tz3); (obtain ⟨z0, z1, z2, z3⟩ := HI.out.di.cells); (have q0 := HI.out.out.cell 0; have q1 := HI.out.out.cell 1; have q2 := HI.out.out.cell 2; have q3 := HI.out.out.cell 3; have qf := HI.out.out.frozen; have q5 := HI.out.res.cell 0; have q6 := HI.out.res.cell 1; have q7 := HI.out.res.cell 2; have q8 := HI.out.res.cell 3; have qg := HI.out.res.frozen; simp only [List.getElem?_cons_zero, List.getElem?_cons_succ, List.set_cons_zero, List.set_cons_succ, List.set_nil] at q0 q1 q2 q3 q5 q6 q7 q8))
                    have HI := hid (HI.out.setO 0 (.int .i64 pw))
                    (obtain ⟨uz0, uz1, uz2, uz3⟩ := HI.out.di.cells; have u0 := HI.out.out.cell 0; have u1 := HI.out.out.cell 1; have u2 := HI.out.out.cell 2; have u3 := HI.out.out.cell 3; have uf := HI.out.out.frozen; have u5 := HI.out.res.cell 0; have u6 := HI.out.res.cell 1; have u7 := HI.out.res.cell 2; have u8 := HI.out.res.cell 3; have ug := HI.out.res.frozen; simp only [List.getElem?_cons_zero, List.getElem?_cons_succ, List.set_cons_zero, List.set_cons_succ, List.set_nil] at u0 u1 u2 u3 u5 u6 u7 u8)
                    have z3 := uz3
                    clear uz3
                    cases hc3 : c3.stop with
                    | true =>
                      rw [hc3] at z3
                      have HZ := hid (And.intro hc3 (F3.out.2.2 hc3))
                      clear hc3
                      go_wp2
                      ((try simp only [Exit.inBlock, Exit.then]); refine bodyPost_ret (results_cell_row rfl _ _ _ _ _ _ _ rfl ((((HI.out.setR 0 _).setR 1 _).setR 2 _).setR 3 _).res Tryz.underlying96 rfl (by kernel_rfl)) rfl ?_)
                      exact ⟨pw, true, false, some ⟨gb, 0, none⟩, 1, [n], c3, t3, rfl, ((((HI.out.setR 0 _).setR 1 _).setR 2 _).setR 3 _).di.run, ((((HI.out.setR 0 _).setR 1 _).setR 2 _).setR 3 _).kept, HI.out.di.ran, HI.out.di.good, fun h => absurd (HZ.out.1.symm.trans h) (by simp), HZ.out.2, row1 ((((HI.out.setR 0 _).setR 1 _).setR 2 _).setR 3 _).lst⟩
                    | false =>
                      rw [hc3] at z3
                      have HT3 := hid (And.intro hc3 (show t3 = if pw = -1 then .qp (.ln 0) else .rl2 pw .puts by rw [F3.out.1 hc3, F3.out.2.1]; rfl))
                      clear hc3 F3
                      by_cases hpw : pw = -1
                      · subst hpw
                        rw [if_pos rfl] at HT3
                        have hG := DG.mk_ HI.out.do_ n
                        obtain ⟨gb2, hgb⟩ : ∃ gb2, gb2 = (v3.setCell ⟨w.heap.size + 1 + 1, 0, none⟩ (.int .i64 (-1))).heap.size := ⟨_, rfl⟩
                        rw [← hgb] at hG
                        have HI := hid hG
                        (obtain ⟨tz0, tz1, tz2, tz3⟩ := HI.out.di.cells; have t_0 := HI.out.out.cell 0; have t_1 := HI.out.out.cell 1; have t_2 := HI.out.out.cell 2; have t_3 := HI.out.out.cell 3; have t_f := HI.out.out.frozen; have t_5 := HI.out.res.cell 0; have t_6 := HI.out.res.cell 1; have t_7 := HI.out.res.cell 2; have t_8 := HI.out.res.cell 3; have t_g := HI.out.res.frozen; simp only [List.getElem?_cons_zero, List.getElem?_cons_succ, List.set_cons_zero, List.set_cons_succ, List.set_nil] at t_0 t_1 t_2 t_3 t_5 t_6 t_7 t_8)
                        have hgb1 : v3.heap.size = gb2 := by rw [hgb]; simp
                        clear hG hgb
                        go_wp2_with fail
                        clear hgb1
                        refine (rput13_run P T G [n] ⟨gb2, 0, none⟩ 1 B r v c3 got (.ln 0) _ HI.out.di.run HI.out.di.good HT3.out.1 rfl (by simp) HP.out (by simp) (row1 HI.out.lst) HI.out.ner).mono ?_
                        rintro e v4 ⟨held, c4, rq, rfl, h1, h2, h3, h4, h5, h6⟩
                        obtain ⟨t4, hI, hp4⟩ := past_of _ _ (so_embQ P T G who o n) HI.out.di h1 h2 h3 h4 (fun _ => by rw [HT3.out.2]; exact (runs_on (M := qpY P T G [n]) (s := QpSt.ln 0) (fun h => by cases h)).symm) (fun h => by rw [h5 h]; rfl)
                        have F4 := hid (show (c4.stop = false → t4 = .rl3 .puts ∧ held = false) ∧ (c4.stop = true → SoSays o n t4 (-1) true false (if held then [n] else [])) from ⟨fun h => ⟨(hp4.on h).2, by
                          rw [h5 h] at h6
                          cases held with
                          | false => rfl
                          | true => exact absurd h6 (by decide)⟩, fun h => by
                          rw [hp4.mid HT3.out.1, runs_on (hp4.wait HT3.out.1 h)]
                          refine ⟨rfl, rfl, rfl, ?_⟩
                          show (if qpL rq then [] else [n]) = _
                          rw [h6]
                          cases held <;> rfl⟩)
                        clear hp4 h1 h2 h3 h4 h5 h6 HT3
                        (have HI := hid (HI.out.step hI); clear hI; (try clear q0 q1 q2 q3 qf q5 q6 q7 q8 qg); (try clear z0 z1 z2); (try clear z3); (try clear u0 u1 u2 u3 uf u5 u6 u7 u8 ug uz0 uz1 uz2); (try clear uz3); (try clear t_0 t_1 t_2 t_3 t_f t_5 t_6 t_7 t_8 t_g tz0 tz1 tz2 tz3); (obtain ⟨z0, z1, z2, z3⟩ := HI.out.di.cells); (have q0 := HI.out.out.cell 0; have q1 := HI.out.out.cell 1; have q2 := HI.out.out.cell 2; have q3 := HI.out.out.cell 3; have qf := HI.out.out.frozen; have q5 := HI.out.res.cell 0; have q6 := HI.out.res.cell 1; have q7 := HI.out.res.cell 2; have q8 := HI.out.res.cell 3; have qg := HI.out.res.frozen; simp only [List.getElem?_cons_zero, List.getElem?_cons_succ, List.set_cons_zero, List.set_cons_succ, List.set_nil] at q0 q1 q2 q3 q5 q6 q7 q8))
                        cases held with
                        | true =>
                          have HI := hid (HI.out.setO 3 (.slice (some ⟨gb2, 0, none⟩) 1 1))
                          (obtain ⟨uz0, uz1, uz2, uz3⟩ := HI.out.di.cells; have u0 := HI.out.out.cell 0; have u1 := HI.out.out.cell 1; have u2 := HI.out.out.cell 2; have u3 := HI.out.out.cell 3; have uf := HI.out.out.frozen; have u5 := HI.out.res.cell 0; have u6 := HI.out.res.cell 1; have u7 := HI.out.res.cell 2; have u8 := HI.out.res.cell 3; have ug := HI.out.res.frozen; simp only [List.getElem?_cons_zero, List.getElem?_cons_succ, List.set_cons_zero, List.set_cons_succ, List.set_nil] at u0 u1 u2 u3 u5 u6 u7 u8)
                          go_wp2_with fail
                          refine (drel_run HI.out.di 0 0 _ _ (so_embR3 P T G who o n 0) (fun h => (F4.out.1 h).1) (by omega)).mono ?_
                          rintro e v5 ⟨rfl, c5, t5, rd, hI, hp5, _⟩
                          have F5 := hid (And.intro (show c5.stop = false → (soY P T G who o n).want t5 = none from fun h => by rw [(hp5.on h).2]; rfl) (by
                            have hf := F4.out
                            cases hb : c4.stop with
                            | true => rw [(hp5.off hb).1]; exact hf.2 hb
                            | false =>
                              first
                                | exact absurd (hf.1 hb).2 (by decide)
                                | (show SoSays o n t5 (-1) true false []
                                   rw [hp5.mid hb]
                                   unfold runs
                                   split <;> exact ⟨rfl, rfl, rfl, rfl⟩) : SoSays o n t5 (-1) true false _))
                          clear hp5 F4
                          (have HI := hid (HI.out.step hI); clear hI; (try clear q0 q1 q2 q3 qf q5 q6 q7 q8 qg); (try clear z0 z1 z2); (try clear z3); (try clear u0 u1 u2 u3 uf u5 u6 u7 u8 ug uz0 uz1 uz2); (try clear uz3); (try clear t_0 t_1 t_2 t_3 t_f t_5 t_6 t_7 t_8 t_g tz0 tz1 tz2 tz3); (obtain ⟨z0, z1, z2, z3⟩ := HI.out.di.cells); (have q0 := HI.out.out.cell 0; have q1 := HI.out.out.cell 1; have q2 := HI.out.out.cell 2; have q3 := HI.out.out.cell 3; have qf := HI.out.out.frozen; have q5 := HI.out.res.cell 0; have q6 := HI.out.res.cell 1; have q7 := HI.out.res.cell 2; have q8 := HI.out.res.cell 3; have qg := HI.out.res.frozen; simp only [List.getElem?_cons_zero, List.getElem?_cons_succ, List.set_cons_zero, List.set_cons_succ, List.set_nil] at q0 q1 q2 q3 q5 q6 q7 q8))
                          go_wp2
                          ((try simp only [Exit.inBlock, Exit.then]); refine bodyPost_ret (results_cell_row rfl _ _ _ _ _ _ _ rfl ((((HI.out.setR 0 _).setR 1 _).setR 2 _).setR 3 _).res Tryz.underlying96 rfl (by kernel_rfl)) rfl ?_)
                          exact ⟨-1, true, false, some ⟨gb2, 0, none⟩, 1, [n], c5, t5, rfl, ((((HI.out.setR 0 _).setR 1 _).setR 2 _).setR 3 _).di.run, ((((HI.out.setR 0 _).setR 1 _).setR 2 _).setR 3 _).kept, HI.out.di.ran, HI.out.di.good, F5.out.1, F5.out.2, row1 ((((HI.out.setR 0 _).setR 1 _).setR 2 _).setR 3 _).lst⟩
                        | false =>
                          have HI := hid (HI.out.setO 3 (.slice none 0 0))
                          (obtain ⟨uz0, uz1, uz2, uz3⟩ := HI.out.di.cells; have u0 := HI.out.out.cell 0; have u1 := HI.out.out.cell 1; have u2 := HI.out.out.cell 2; have u3 := HI.out.out.cell 3; have uf := HI.out.out.frozen; have u5 := HI.out.res.cell 0; have u6 := HI.out.res.cell 1; have u7 := HI.out.res.cell 2; have u8 := HI.out.res.cell 3; have ug := HI.out.res.frozen; simp only [List.getElem?_cons_zero, List.getElem?_cons_succ, List.set_cons_zero, List.set_cons_succ, List.set_nil] at u0 u1 u2 u3 u5 u6 u7 u8)
                          go_wp2_with fail
                          refine (drel_run HI.out.di 0 0 _ _ (so_embR3 P T G who o n 0) (fun h => (F4.out.1 h).1) (by omega)).mono ?_
                          rintro e v5 ⟨rfl, c5, t5, rd, hI, hp5, _⟩
                          have F5 := hid (And.intro (show c5.stop = false → (soY P T G who o n).want t5 = none from fun h => by rw [(hp5.on h).2]; rfl) (by
                            have hf := F4.out
                            cases hb : c4.stop with
                            | true => rw [(hp5.off hb).1]; exact hf.2 hb
                            | false =>
                              first
                                | exact absurd (hf.1 hb).2 (by decide)
                                | (show SoSays o n t5 (-1) true false []
                                   rw [hp5.mid hb]
                                   unfold runs
                                   split <;> exact ⟨rfl, rfl, rfl, rfl⟩) : SoSays o n t5 (-1) true false _))
                          clear hp5 F4
                          (have HI := hid (HI.out.step hI); clear hI; (try clear q0 q1 q2 q3 qf q5 q6 q7 q8 qg); (try clear z0 z1 z2); (try clear z3); (try clear u0 u1 u2 u3 uf u5 u6 u7 u8 ug uz0 uz1 uz2); (try clear uz3); (try clear t_0 t_1 t_2 t_3 t_f t_5 t_6 t_7 t_8 t_g tz0 tz1 tz2 tz3); (obtain ⟨z0, z1, z2, z3⟩ := HI.out.di.cells); (have q0 := HI.out.out.cell 0; have q1 := HI.out.out.cell 1; have q2 := HI.out.out.cell 2; have q3 := HI.out.out.cell 3; have qf := HI.out.out.frozen; have q5 := HI.out.res.cell 0; have q6 := HI.out.res.cell 1; have q7 := HI.out.res.cell 2; have q8 := HI.out.res.cell 3; have qg := HI.out.res.frozen; simp only [List.getElem?_cons_zero, List.getElem?_cons_succ, List.set_cons_zero, List.set_cons_succ, List.set_nil] at q0 q1 q2 q3 q5 q6 q7 q8))
                          go_wp2
                          ((try simp only [Exit.inBlock, Exit.then]); refine bodyPost_ret (results_cell_row rfl _ _ _ _ _ _ _ rfl ((((HI.out.setR 0 _).setR 1 _).setR 2 _).setR 3 _).res Tryz.underlying96 rfl (by kernel_rfl)) rfl ?_)
                          exact ⟨-1, true, false, none, 0, [], c5, t5, rfl, ((((HI.out.setR 0 _).setR 1 _).setR 2 _).setR 3 _).di.run, ((((HI.out.setR 0 _).setR 1 _).setR 2 _).setR 3 _).kept, HI.out.di.ran, HI.out.di.good, F5.out.1, F5.out.2, HNIL.out _⟩
                      · have hpn : ((pw : Int) != -1) = true := by simpa using hpw
                        rw [if_neg hpw] at HT3
                        clear hpw
                        go_wp2_with fail
                        refine (drel_run HI.out.di 0 0 _ _ (so_embR2 P T G who o n 0 pw) (fun _ => HT3.out.2) (by omega)).mono ?_
                        rintro e v4 ⟨rfl, c4, t4, rc, hI, hp4, _⟩
                        have F4 := hid (show (c4.stop = false → t4 = .ho pw) ∧ (c4.stop = true → SoSays o n t4 pw true false [n]) from ⟨fun h => (hp4.on h).2, fun h => by
                          rw [hp4.mid HT3.out.1, runs_on (hp4.wait HT3.out.1 h)]; exact ⟨rfl, rfl, rfl, rfl⟩⟩)
                        clear hp4 HT3
                        (have HI := hid (HI.out.step hI); clear hI; (try clear q0 q1 q2 q3 qf q5 q6 q7 q8 qg); (try clear z0 z1 z2); (try clear z3); (try clear u0 u1 u2 u3 uf u5 u6 u7 u8 ug uz0 uz1 uz2); (try clear uz3); (try clear t_0 t_1 t_2 t_3 t_f t_5 t_6 t_7 t_8 t_g tz0 tz1 tz2 tz3); (obtain ⟨z0, z1, z2, z3⟩ := HI.out.di.cells); (have q0 := HI.out.out.cell 0; have q1 := HI.out.out.cell 1; have q2 := HI.out.out.cell 2; have q3 := HI.out.out.cell 3; have qf := HI.out.out.frozen; have q5 := HI.out.res.cell 0; have q6 := HI.out.res.cell 1; have q7 := HI.out.res.cell 2; have q8 := HI.out.res.cell 3; have qg := HI.out.res.frozen; simp only [List.getElem?_cons_zero, List.getElem?_cons_succ, List.set_cons_zero, List.set_cons_succ, List.set_nil] at q0 q1 q2 q3 q5 q6 q7 q8))
                        go_wp2_with fail
                        (refine (procat_run P T G _ _ _ HP.out.1 (by omega)).mono ?_; rintro e w1 ⟨rfl, hb⟩; (have HI := hid (HI.out.quiet hb); clear hb; (try clear q0 q1 q2 q3 qf q5 q6 q7 q8 qg); (try clear z0 z1 z2); (try clear z3); (try clear u0 u1 u2 u3 uf u5 u6 u7 u8 ug uz0 uz1 uz2); (try clear uz3); (try clear t_0 t_1 t_2 t_3 t_f t_5 t_6 t_7 t_8 t_g tz0 tz1 tz2 tz3); (obtain ⟨z0, z1, z2, z3⟩ := HI.out.di.cells); (have q0 := HI.out.out.cell 0; have q1 := HI.out.out.cell 1; have q2 := HI.out.out.cell 2; have q3 := HI.out.out.cell 3; have qf := HI.out.out.frozen; have q5 := HI.out.res.cell 0; have q6 := HI.out.res.cell 1; have q7 := HI.out.res.cell 2; have q8 := HI.out.res.cell 3; have qg := HI.out.res.frozen; simp only [List.getElem?_cons_zero, List.getElem?_cons_succ, List.set_cons_zero, List.set_cons_succ, List.set_nil] at q0 q1 q2 q3 q5 q6 q7 q8)))
                        go_wp2_with fail
                        refine (ds_run HI.out.di (pr P pw 0) 1 (fun h => by rw [F4.out.1 h]; rfl)).mono ?_
                        rintro e v5 ⟨rfl, c5, t5, y5, hI, hp5⟩
                        have F5 := hid (show (c5.stop = false → (soY P T G who o n).want t5 = none) ∧ SoSays o n t5 pw true false [n] from ⟨fun h => by rw [(hp5.1 h).2, F4.out.1 (hp5.1 h).1]; rfl, by
                          cases hb : c5.stop with
                          | false => rw [(hp5.1 hb).2, F4.out.1 (hp5.1 hb).1]; exact ⟨rfl, rfl, rfl, rfl⟩
                          | true =>
                            rw [(hp5.2.2.1 hb).1]
                            cases hb4 : c4.stop with
                            | false => rw [F4.out.1 hb4]; exact ⟨rfl, rfl, rfl, rfl⟩
                            | true => exact F4.out.2 hb4⟩)
                        clear hp5 F4
                        (have HI := hid (HI.out.step hI); clear hI; (try clear q0 q1 q2 q3 qf q5 q6 q7 q8 qg); (try clear z0 z1 z2); (try clear z3); (try clear u0 u1 u2 u3 uf u5 u6 u7 u8 ug uz0 uz1 uz2); (try clear uz3); (try clear t_0 t_1 t_2 t_3 t_f t_5 t_6 t_7 t_8 t_g tz0 tz1 tz2 tz3); (obtain ⟨z0, z1, z2, z3⟩ := HI.out.di.cells); (have q0 := HI.out.out.cell 0; have q1 := HI.out.out.cell 1; have q2 := HI.out.out.cell 2; have q3 := HI.out.out.cell 3; have qf := HI.out.out.frozen; have q5 := HI.out.res.cell 0; have q6 := HI.out.res.cell 1; have q7 := HI.out.res.cell 2; have q8 := HI.out.res.cell 3; have qg := HI.out.res.frozen; simp only [List.getElem?_cons_zero, List.getElem?_cons_succ, List.set_cons_zero, List.set_cons_succ, List.set_nil] at q0 q1 q2 q3 q5 q6 q7 q8))
                        go_wp2
                        ((try simp only [Exit.inBlock, Exit.then]); refine bodyPost_ret (results_cell_row rfl _ _ _ _ _ _ _ rfl ((((HI.out.setR 0 _).setR 1 _).setR 2 _).setR 3 _).res Tryz.underlying96 rfl (by kernel_rfl)) rfl ?_)
                        exact ⟨pw, true, false, some ⟨gb, 0, none⟩, 1, [n], c5, t5, rfl, ((((HI.out.setR 0 _).setR 1 _).setR 2 _).setR 3 _).di.run, ((((HI.out.setR 0 _).setR 1 _).setR 2 _).setR 3 _).kept, HI.out.di.ran, HI.out.di.good, F5.out.1, F5.out.2, row1 ((((HI.out.setR 0 _).setR 1 _).setR 2 _).setR 3 _).lst⟩
              · have hpn : ((pv : Int) != -1) = true := by simpa using hpv
                rw [hb5] at z3
                have HS5 := hid (show s5 = .st pv by rw [E5.out.1 hb5, if_neg hpv])
                clear hb5 E5 hpv
                go_wp2_with fail
                (refine (procat_run P T G _ _ _ HP.out.1 (by omega)).mono ?_; rintro e w1 ⟨rfl, hb⟩; (have HI := hid (HI.out.quiet hb); clear hb; (try clear q0 q1 q2 q3 qf q5 q6 q7 q8 qg); (try clear z0 z1 z2); (try clear z3); (try clear u0 u1 u2 u3 uf u5 u6 u7 u8 ug uz0 uz1 uz2); (try clear uz3); (try clear t_0 t_1 t_2 t_3 t_f t_5 t_6 t_7 t_8 t_g tz0 tz1 tz2 tz3); (obtain ⟨z0, z1, z2, z3⟩ := HI.out.di.cells); (have q0 := HI.out.out.cell 0; have q1 := HI.out.out.cell 1; have q2 := HI.out.out.cell 2; have q3 := HI.out.out.cell 3; have qf := HI.out.out.frozen; have q5 := HI.out.res.cell 0; have q6 := HI.out.res.cell 1; have q7 := HI.out.res.cell 2; have q8 := HI.out.res.cell 3; have qg := HI.out.res.frozen; simp only [List.getElem?_cons_zero, List.getElem?_cons_succ, List.set_cons_zero, List.set_cons_succ, List.set_nil] at q0 q1 q2 q3 q5 q6 q7 q8)))
                go_wp2_with fail
                refine (ds_run HI.out.di (pr P pv 0) 1 (fun h => by rw [HS5.out]; rfl)).mono ?_
                rintro e w7 ⟨rfl, b6, s6, x6, hI, ho6⟩
                have E6 := hid (show (b6.stop = false → s6 = .ru pv) ∧ (b6.stop = true → s6 = .st pv) from ⟨fun h => by rw [(ho6.1 h).2, HS5.out]; rfl, fun h => by rw [(ho6.2.2.1 h).1, HS5.out]⟩)
                clear ho6 HS5
                (have HI := hid (HI.out.step hI); clear hI; (try clear q0 q1 q2 q3 qf q5 q6 q7 q8 qg); (try clear z0 z1 z2); (try clear z3); (try clear u0 u1 u2 u3 uf u5 u6 u7 u8 ug uz0 uz1 uz2); (try clear uz3); (try clear t_0 t_1 t_2 t_3 t_f t_5 t_6 t_7 t_8 t_g tz0 tz1 tz2 tz3); (obtain ⟨z0, z1, z2, z3⟩ := HI.out.di.cells); (have q0 := HI.out.out.cell 0; have q1 := HI.out.out.cell 1; have q2 := HI.out.out.cell 2; have q3 := HI.out.out.cell 3; have qf := HI.out.out.frozen; have q5 := HI.out.res.cell 0; have q6 := HI.out.res.cell 1; have q7 := HI.out.res.cell 2; have q8 := HI.out.res.cell 3; have qg := HI.out.res.frozen; simp only [List.getElem?_cons_zero, List.getElem?_cons_succ, List.set_cons_zero, List.set_cons_succ, List.set_nil] at q0 q1 q2 q3 q5 q6 q7 q8))
                go_wp2_with fail
                refine (ds_run HI.out.di (gg P T G n 0) 2 (fun h => by rw [E6.out.1 h]; rfl)).mono ?_
                rintro e w8 ⟨rfl, b3, s3, x3, hI, ho3⟩
                have E3 := hid (show (b3.stop = false → s3 = .fr pv) ∧ SoSays o n s3 pv (!b3.stop) (!b3.stop) [] from by
                  have e1 : b3.stop = false → s3 = .fr pv := fun h => by rw [(ho3.1 h).2, E6.out.1 (ho3.1 h).1]; rfl
                  refine ⟨e1, ?_⟩
                  cases hb : b3.stop with
                  | false => rw [e1 hb]; exact ⟨rfl, rfl, rfl, rfl⟩
                  | true =>
                    rw [(ho3.2.2.1 hb).1]
                    cases hb2 : b6.stop with
                    | false => rw [E6.out.1 hb2]; exact ⟨rfl, rfl, rfl, rfl⟩
                    | true => rw [E6.out.2 hb2]; exact ⟨rfl, rfl, rfl, rfl⟩)
                clear ho3 E6
                (have HI := hid (HI.out.step hI); clear hI; (try clear q0 q1 q2 q3 qf q5 q6 q7 q8 qg); (try clear z0 z1 z2); (try clear z3); (try clear u0 u1 u2 u3 uf u5 u6 u7 u8 ug uz0 uz1 uz2); (try clear uz3); (try clear t_0 t_1 t_2 t_3 t_f t_5 t_6 t_7 t_8 t_g tz0 tz1 tz2 tz3); (obtain ⟨z0, z1, z2, z3⟩ := HI.out.di.cells); (have q0 := HI.out.out.cell 0; have q1 := HI.out.out.cell 1; have q2 := HI.out.out.cell 2; have q3 := HI.out.out.cell 3; have qf := HI.out.out.frozen; have q5 := HI.out.res.cell 0; have q6 := HI.out.res.cell 1; have q7 := HI.out.res.cell 2; have q8 := HI.out.res.cell 3; have qg := HI.out.res.frozen; simp only [List.getElem?_cons_zero, List.getElem?_cons_succ, List.set_cons_zero, List.set_cons_succ, List.set_nil] at q0 q1 q2 q3 q5 q6 q7 q8))
                obtain ⟨sb, hsb⟩ : ∃ sb, sb = b3.stop := ⟨_, rfl⟩
                rw [← hsb] at z3
                have HSB := hid hsb
                clear hsb
                have HI := hid ((HI.out.setO 1 (.bool !sb)).setO 2 (.bool !sb))
                (obtain ⟨uz0, uz1, uz2, uz3⟩ := HI.out.di.cells; have u0 := HI.out.out.cell 0; have u1 := HI.out.out.cell 1; have u2 := HI.out.out.cell 2; have u3 := HI.out.out.cell 3; have uf := HI.out.out.frozen; have u5 := HI.out.res.cell 0; have u6 := HI.out.res.cell 1; have u7 := HI.out.res.cell 2; have u8 := HI.out.res.cell 3; have ug := HI.out.res.frozen; simp only [List.getElem?_cons_zero, List.getElem?_cons_succ, List.set_cons_zero, List.set_cons_succ, List.set_nil] at u0 u1 u2 u3 u5 u6 u7 u8)
                go_wp2
                ((try simp only [Exit.inBlock, Exit.then]); refine bodyPost_ret (results_cell_row rfl _ _ _ _ _ _ _ rfl ((((HI.out.setR 0 _).setR 1 _).setR 2 _).setR 3 _).res Tryz.underlying96 rfl (by kernel_rfl)) rfl ?_)
                exact ⟨pv, !sb, !sb, none, 0, [], b3, s3, rfl, ((((HI.out.setR 0 _).setR 1 _).setR 2 _).setR 3 _).di.run, ((((HI.out.setR 0 _).setR 1 _).setR 2 _).setR 3 _).kept, HI.out.di.ran, HI.out.di.good, fun h => by rw [E3.out.1 h]; rfl, by rw [HSB.out]; exact E3.out.2, HNIL.out _⟩
end Go.Proofs.YtlhnnggceebpjaaGreat.Sysc
