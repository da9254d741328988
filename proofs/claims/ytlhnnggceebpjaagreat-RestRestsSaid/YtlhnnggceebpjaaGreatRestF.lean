/- The document's coming to rest: the whole of it. -/
import Derived.Test.YtlhnnggceebpjaaGreatRestD
set_option maxRecDepth 100000
set_option maxHeartbeats 4000000
set_option linter.unusedVariables false
set_option linter.unusedSimpArgs false
namespace Go.Proofs.YtlhnnggceebpjaaGreat.Rest
open Go.RowKit Go.Shelf Go.Proofs.YtlhnnggceebpjaaGreat.TK Go.Proofs.YtlhnnggceebpjaaGreat.Flag Go.Proofs.YtlhnnggceebpjaaGreat.Read Go.Proofs.YtlhnnggceebpjaaGreat.Grow Go.Proofs.YtlhnnggceebpjaaGreat.Words Go.Proofs.YtlhnnggceebpjaaGreat.Mem Go.Proofs.YtlhnnggceebpjaaGreat.Flow Go.Proofs.YtlhnnggceebpjaaGreat.Layout Go.Proofs.YtlhnnggceebpjaaGreat.Lock Go.Proofs.YtlhnnggceebpjaaGreat.Run Go.Proofs.YtlhnnggceebpjaaGreat.Sys Go.Proofs.YtlhnnggceebpjaaGreat.Mach Go.Proofs.YtlhnnggceebpjaaGreat.Doc Go.Proofs.YtlhnnggceebpjaaGreat.Ref05 Go.Proofs.YtlhnnggceebpjaaGreat.Subs Go.Proofs.YtlhnnggceebpjaaGreat.Wake Go.Proofs.YtlhnnggceebpjaaGreat.Note
section
variable {σ : Type} {M : Rsys σ} {got : List Int} {s0 s s' : σ} {a b b' : RunSt} {w0 w00 wA w w' : World} {B r bx o rs : Nat} {v : Value} {P T G : Int} {TO : TypeId} {os rv : List Value}
/-- With the result's cells. -/
structure DS {σ : Type} (M : Rsys σ) (got : List Int) (s0 : σ) (a : RunSt) (w00 w : World) (B r bx rs : Nat) (v : Value) (P T G : Int) (b : RunSt) (s : σ) (TO : TypeId) (rv : List Value) : Prop where
  di : DI M got s0 a w w B r bx v P T G b s
  kept : Kept [r] w00 w
  res : Blk w rs rv TO
  ne : rs ≠ r ∧ rs ≠ bx ∧ w00.heap.size ≤ rs
  ty : TO ≠ 25
theorem DS.step (h : DS M got s0 a w00 w B r bx rs v P T G b s TO rv) (h' : DI M got s0 a w w' B r bx v P T G b' s') : DS M got s0 a w00 w' B r bx rs v P T G b' s' TO rv :=
  ⟨h'.base, h.kept.trans h'.kept (by intro i hi; exact .inl hi), h.res.kept h'.kept (by simpa using h.ne.1), h.ne, h.ty⟩
theorem DS.quiet (h : DS M got s0 a w00 w B r bx rs v P T G b s TO rv) (hb : Below w.heap.size w w') : DS M got s0 a w00 w' B r bx rs v P T G b s TO rv := h.step (h.di.quiet hb)
theorem DS.setR (h : DS M got s0 a w00 w B r bx rs v P T G b s TO rv) (i : Nat) (x : Value) : DS M got s0 a w00 (w.setCell ⟨rs, i, none⟩ x) B r bx rs v P T G b s TO (rv.set i x) := by
  have hk : Kept [rs] w (w.setCell ⟨rs, i, none⟩ x) := (Kept.refl _ _).set (.inl (by simp)) _
  obtain ⟨n1, n2, n3⟩ := h.ne
  exact ⟨h.di.other h.res h.ty n1 n2 hk, h.kept.trans hk (by intro i hi; simp at hi; subst hi; exact .inr n3), h.res.set i x, h.ne, h.ty⟩
theorem DS.toO (h : DS M got s0 a w00 w B r bx rs v P T G b s TO rv) (hrl : r < w.heap.size) (os : List Value) : DO M got s0 a w00 (w.alloc (.cells os.toArray TO)) B r bx w.heap.size rs v P T G b s TO os rv := by
  have hl := h.di.box.lt
  have hrs := h.res.lt
  obtain ⟨n1, n2, n3⟩ := h.ne
  have hb := below_one w (.cells os.toArray TO)
  exact ⟨(h.di.quiet hb).base, h.kept.quiet hb, Blk.new w os TO, h.res.quiet hb, ⟨by omega, n1, by omega, by omega, n2, h.kept.size, n3⟩, h.ty⟩
end
theorem rs_embA (P T who : Int) (l : Nat) : Emb (rsY P T who) (aqM l 0 who).sys (fun _ => RsSt.nd) RsSt.aq := fun s W h => ⟨h, fun a => rfl⟩
theorem rs_embG (P T who : Int) (l : Nat) : Emb (rsY P T who) (Idlep.pgM l P).sys rsGot RsSt.gt := fun s W h => ⟨h, fun a => rfl⟩
theorem rs_embS (P T who : Int) (u : Idlep.PgSt) : Emb (rsY P T who) snY (fun _ => RsSt.rl u .puts) (RsSt.sn u) := fun s W h => ⟨h, fun a => rfl⟩
theorem rs_embR (P T who : Int) (u : Idlep.PgSt) (l : Nat) : Emb (rsY P T who) (rlM l 0).sys (fun _ => RsSt.ha u) (RsSt.rl u) := fun s W h => ⟨h, fun a => rfl⟩
theorem rs_embL (P T who : Int) (o : Option Idlep.PgSt) (l : Nat) : Emb (rsY P T who) (Idlem.mpM l P T who).sys (fun _ => RsSt.rl2 o .puts) (RsSt.li o) := fun z W h => ⟨h, fun a => rfl⟩
theorem rs_embR2 (P T who : Int) (o : Option Idlep.PgSt) (l : Nat) : Emb (rsY P T who) (rlM l 0).sys (fun _ => RsSt.np o (.sl (.waits false))) (RsSt.rl2 o) := fun s W h => ⟨h, fun a => rfl⟩
theorem rs_embN (P T who : Int) (o : Option Idlep.PgSt) : Emb (rsY P T who) (npY P T who) (RsSt.f2 o) (RsSt.np o) := fun s W h => ⟨h, fun a => rfl⟩
def RsSays (s : RsSt) (p : Int) (c : Bool) : Prop := rsP s = p ∧ rsS s = c
theorem rsays_aq {σ : Type} (M : Rsys AcqSt) (q : AcqSt) : RsSays (runs M (fun _ => RsSt.nd) RsSt.aq q) (-1) false := by unfold runs; split <;> exact ⟨rfl, rfl⟩
theorem rsays_sn (M : Rsys SnSt) (u : Idlep.PgSt) (q : SnSt) (h : M.want q = none → snC q = true) : RsSays (runs M (fun _ => RsSt.rl u .puts) (RsSt.sn u) q) u.p (snC q) := by
  unfold runs
  split
  · rename_i h1
    exact ⟨rfl, (h (by cases hq : M.want q with | none => rfl | some W => rw [hq] at h1; cases h1)).symm⟩
  · exact ⟨rfl, rfl⟩
theorem rsays_rl (M : Rsys RlSt) (u : Idlep.PgSt) (q : RlSt) : RsSays (runs M (fun _ => RsSt.ha u) (RsSt.rl u) q) u.p true := by unfold runs; split <;> exact ⟨rfl, rfl⟩
theorem rsays_li (M : Rsys Idlem.MpSt) (o : Option Idlep.PgSt) (q : Idlem.MpSt) : RsSays (runs M (fun _ => RsSt.rl2 o .puts) (RsSt.li o) q) (-1) false := by unfold runs; split <;> exact ⟨rfl, rfl⟩
theorem rsays_rl2 (M : Rsys RlSt) (o : Option Idlep.PgSt) (q : RlSt) : RsSays (runs M (fun _ => RsSt.np o (.sl (.waits false))) (RsSt.rl2 o) q) (-1) false := by unfold runs; split <;> exact ⟨rfl, rfl⟩
theorem rsays_np (M : Rsys NpSt) (o : Option Idlep.PgSt) (q : NpSt) : RsSays (runs M (RsSt.f2 o) (RsSt.np o) q) (npP q) (npS q) := by unfold runs; split <;> exact ⟨rfl, rfl⟩
theorem rrest20_run (P T G who : Int) (B r : Nat) (v : Value) (a : RunSt) (got : List Int) (s0 : RsSt) (w : World) (h : RunAt w B r v a) (hg : Fits got a) (hs : s0 = .aq .ask) (ha : a.stop = false) (hP : (0 ≤ P ∧ P ≤ 1000) ∧ (0 ≤ who ∧ who < T) ∧ T ≤ 1000) :
    Calls Tryz.prog 39 #[.pointer (some ⟨r, 0, none⟩), .agg #[.int .i64 P, .int .i64 T, .int .i64 G], .int .i64 who] w fun e w' => ∃ pv sv nv b s1, e = .returned (.agg #[.int .i64 pv, .bool sv, .bool nv]) ∧ RunAt w' B r v b ∧ Kept [r] w w' ∧ Ran (rsY P T who) got s0 a s1 b ∧ Fits got b ∧ (b.stop = false → (rsY P T who).want s1 = none) ∧ RsSays s1 pv sv := by
  have hlt := h.blk.lt
  have hSt := DR.start (M := rsY P T who) (P := P) (T := T) (G := G) (TO := 67) h hg s0 [.int .i64 0, .bool false, .bool false] (by decide)
  have hsz : ((w.alloc (.cells #[.int .i64 P, .int .i64 T, .int .i64 G] 23)).alloc (.cells [Value.int .i64 0, .bool false, .bool false].toArray 67)).heap.size = w.heap.size + 1 + 1 := by simp
  have HI := hid (show DS (rsY P T who) got s0 a w ((w.alloc (.cells #[.int .i64 P, .int .i64 T, .int .i64 G] 23)).alloc (.cells [Value.int .i64 0, .bool false, .bool false].toArray 67)) B r w.heap.size (w.heap.size + 1) v P T G a s0 67 [.int .i64 0, .bool false, .bool false] from ⟨hSt.1, Kept.of_below hSt.2.2 _, hSt.2.1, ⟨by omega, by omega, by omega⟩, by decide⟩)
  have HP := hid hP
  have HS := hid (And.intro hs ha)
  have HRL := hid hlt
  (obtain ⟨z0, z1, z2, z3⟩ := HI.out.di.cells)
  (have q5 := HI.out.res.cell 0; have q6 := HI.out.res.cell 1; have q7 := HI.out.res.cell 2; have qg := HI.out.res.frozen; simp only [List.getElem?_cons_zero, List.getElem?_cons_succ, List.set_cons_zero, List.set_cons_succ, List.set_nil] at q5 q6 q7)
  rw [ha] at z3
  clear h hg hs hP hSt hlt ha hsz
  go_enter Tryz.func39, Tryz.ntmps39
  go_wp2_with fail
  refine (dacq_run HI.out.di 0 0 who (fun _ => RsSt.nd) RsSt.aq (rs_embA P T who 0) (fun _ => HS.out.1) (by omega) (by have := HP.out; omega)).mono ?_
  rintro e w2 ⟨z, b1, s1, q1, rfl, hI, hp1, _⟩
  have E1 := hid (show (b1.stop = false → s1 = .nd) ∧ RsSays s1 (-1) false from ⟨fun h => (hp1.on h).2, by rw [hp1.mid HS.out.2]; exact rsays_aq (σ := Nat) _ _⟩)
  (have HI := hid (HI.out.step hI); clear hI; (obtain ⟨z0, z1, z2, z3⟩ := HI.out.di.cells); (have q5 := HI.out.res.cell 0; have q6 := HI.out.res.cell 1; have q7 := HI.out.res.cell 2; have qg := HI.out.res.frozen; simp only [List.getElem?_cons_zero, List.getElem?_cons_succ, List.set_cons_zero, List.set_cons_succ, List.set_nil] at q5 q6 q7))
  clear hp1
  go_wp2_with fail
  refine (dl_run HI.out.di 14 (fun h => by rw [E1.out.1 h, ← w14r]; rfl)).mono ?_
  rintro e w3 ⟨b2, s2, x2, rfl, hI, ho2⟩
  have E2 := hid (show (b2.stop = false → s2 = if x2 = 0 then .li none .h else .gt .h) ∧ (b2.stop = true → RsSays s2 (-1) false) from ⟨fun h => by rw [(ho2.1 h).2, E1.out.1 (ho2.1 h).1]; rfl, fun h => by rw [(ho2.2.2.1 h).1]; exact E1.out.2⟩)
  (have HI := hid (HI.out.step hI); clear hI; (obtain ⟨z0, z1, z2, z3⟩ := HI.out.di.cells); (have q5 := HI.out.res.cell 0; have q6 := HI.out.res.cell 1; have q7 := HI.out.res.cell 2; have qg := HI.out.res.frozen; simp only [List.getElem?_cons_zero, List.getElem?_cons_succ, List.set_cons_zero, List.set_cons_succ, List.set_nil] at q5 q6 q7))
  clear ho2
  cases hb2 : b2.stop with
  | true =>
    rw [hb2] at z3
    have HY := hid (And.intro hb2 (E2.out.2 hb2))
    clear hb2 E2
    go_wp2
    ((try simp only [Exit.inBlock, Exit.then]); refine bodyPost_ret (results_cell_row rfl _ _ _ _ _ _ _ rfl (((HI.out.setR 0 _).setR 1 _).setR 2 _).res Tryz.underlying67 rfl (by kernel_rfl)) rfl ?_)
    exact ⟨-1, false, false, b2, s2, rfl, (((HI.out.setR 0 _).setR 1 _).setR 2 _).di.run, (((HI.out.setR 0 _).setR 1 _).setR 2 _).kept, HI.out.di.ran, HI.out.di.good, fun h => absurd (HY.out.1.symm.trans h) (by simp), HY.out.2⟩
  | false =>
    rw [hb2] at z3
    by_cases hx : x2 = 0
    · subst hx
      have HZ := hid (And.intro hb2 (show s2 = .li none .h by rw [E2.out.1 hb2]; rfl))
      clear hb2 E2
      go_wp2_with fail
      refine (Idlem.rput18_run 0 P T G who B r v _ got .h _ HI.out.di.run HI.out.di.good (fun _ => rfl) ⟨HP.out.1, (by have := HP.out; omega), HP.out.2.2⟩).mono ?_
      rintro e w6 ⟨rfl, b5, q5, h1, h2, h3, h4, h5⟩
      obtain ⟨s5, hI, hp5⟩ := past_of (fun _ => RsSt.rl2 none .puts) (RsSt.li none) (rs_embL P T who none 0) HI.out.di h1 h2 h3 h4 (fun _ => by rw [HZ.out.2]; exact (runs_on (M := (Idlem.mpM 0 P T who).sys) (s := Idlem.MpSt.h) (fun h => by cases h)).symm) h5
      have E5 := hid (show (b5.stop = false → s5 = .rl2 none .puts) ∧ RsSays s5 (-1) false from ⟨fun h => (hp5.on h).2, by rw [hp5.mid HZ.out.1]; exact rsays_li _ _ _⟩)
      (have HI := hid (HI.out.step hI); clear hI; (obtain ⟨z0, z1, z2, z3⟩ := HI.out.di.cells); (have q5 := HI.out.res.cell 0; have q6 := HI.out.res.cell 1; have q7 := HI.out.res.cell 2; have qg := HI.out.res.frozen; simp only [List.getElem?_cons_zero, List.getElem?_cons_succ, List.set_cons_zero, List.set_cons_succ, List.set_nil] at q5 q6 q7))
      clear h1 h2 h3 h4 h5 hp5
      go_wp2_with fail
      refine (drel_run HI.out.di 0 0 (fun _ => RsSt.np none (.sl (.waits false))) (RsSt.rl2 none) (rs_embR2 P T who none 0) E5.out.1 (by omega)).mono ?_
      rintro e w7 ⟨rfl, b6, s6, q6, hI, hp6, _⟩
      have E6 := hid (show (b6.stop = false → s6 = .np none (.sl (.waits false))) ∧ RsSays s6 (-1) false from ⟨fun h => (hp6.on h).2, by
        cases hb : b5.stop with
        | true => rw [(hp6.off hb).1]; exact E5.out.2
        | false => rw [hp6.mid hb]; exact rsays_rl2 _ _ _⟩)
      (have HI := hid (HI.out.step hI); clear hI; (obtain ⟨z0, z1, z2, z3⟩ := HI.out.di.cells); (have q5 := HI.out.res.cell 0; have q6 := HI.out.res.cell 1; have q7 := HI.out.res.cell 2; have qg := HI.out.res.frozen; simp only [List.getElem?_cons_zero, List.getElem?_cons_succ, List.set_cons_zero, List.set_cons_succ, List.set_nil] at q5 q6 q7))
      clear hp6
      cases hb6 : b6.stop with
      | true =>
        rw [hb6] at z3
        have HY := hid (And.intro hb6 E6.out.2)
        clear hb6 E6
        go_wp2
        ((try simp only [Exit.inBlock, Exit.then]); refine bodyPost_ret (results_cell_row rfl _ _ _ _ _ _ _ rfl (((HI.out.setR 0 _).setR 1 _).setR 2 _).res Tryz.underlying67 rfl (by kernel_rfl)) rfl ?_)
        exact ⟨-1, false, false, b6, s6, rfl, (((HI.out.setR 0 _).setR 1 _).setR 2 _).di.run, (((HI.out.setR 0 _).setR 1 _).setR 2 _).kept, HI.out.di.ran, HI.out.di.good, fun h => absurd (HY.out.1.symm.trans h) (by simp), HY.out.2⟩
      | false =>
        rw [hb6] at z3
        have HY := hid (And.intro hb6 (E6.out.1 hb6))
        clear hb6 E6
        go_wp2_with fail
        refine (rnap20_run P T G who B r v b6 got (.sl (.waits false)) _ HI.out.di.run HI.out.di.good rfl HY.out.1 ⟨HP.out.1, HP.out.2.1, HP.out.2.2⟩).mono ?_
        rintro e w8 ⟨pv, sv, nv, b7, q7, rfl, h1, h2, h3, h4, h5, h6, h7⟩
        obtain ⟨s7, hI, hp7⟩ := past_of (RsSt.f2 none) (RsSt.np none) (rs_embN P T who none) HI.out.di h1 h2 h3 h4 (fun _ => by rw [HY.out.2]; exact (runs_on (M := npY P T who) (s := NpSt.sl (.waits false)) (fun h => by cases h)).symm) h5
        have E7 := hid (show (b7.stop = false → (rsY P T who).want s7 = none) ∧ RsSays s7 pv sv from ⟨fun h => by rw [(hp7.on h).2]; rfl, by rw [hp7.mid HY.out.1, ← h6, ← h7]; exact rsays_np _ _ _⟩)
        (have HI := hid (HI.out.step hI); clear hI; (obtain ⟨z0, z1, z2, z3⟩ := HI.out.di.cells); (have q5 := HI.out.res.cell 0; have q6 := HI.out.res.cell 1; have q7 := HI.out.res.cell 2; have qg := HI.out.res.frozen; simp only [List.getElem?_cons_zero, List.getElem?_cons_succ, List.set_cons_zero, List.set_cons_succ, List.set_nil] at q5 q6 q7))
        clear h1 h2 h3 h4 h5 h6 h7 hp7
        go_wp2
        ((try simp only [Exit.inBlock, Exit.then]); refine bodyPost_ret (results_cell_row rfl _ _ _ _ _ _ _ rfl (((HI.out.setR 0 _).setR 1 _).setR 2 _).res Tryz.underlying67 rfl (by kernel_rfl)) rfl ?_)
        exact ⟨pv, sv, nv, b7, s7, rfl, (((HI.out.setR 0 _).setR 1 _).setR 2 _).di.run, (((HI.out.setR 0 _).setR 1 _).setR 2 _).kept, HI.out.di.ran, HI.out.di.good, E7.out⟩
    · have d1 : ((x2 : Int) != 0) = true := by simpa using hx
      have HZ := hid (And.intro hb2 (show s2 = .gt .h by rw [E2.out.1 hb2, if_neg hx]))
      clear hb2 E2 hx
      go_wp2_with fail
      refine (dpget_run HI.out.di 0 rsGot RsSt.gt (rs_embG P T who 0) (fun _ => HZ.out.2) HP.out.1).mono ?_
      rintro e w5 ⟨p, b4, s4, q4, rfl, hI, hp4, hq4⟩
      have E4 := hid (show (b4.stop = false → s4 = rsGot q4) ∧ p = q4.p ∧ (b4.stop = true → s4 = .gt q4) from ⟨fun h => (hp4.on h).2, hq4 HZ.out.1, fun h => by rw [hp4.mid HZ.out.1]; exact runs_on (hp4.wait HZ.out.1 h)⟩)
      (have HI := hid (HI.out.step hI); clear hI; (obtain ⟨z0, z1, z2, z3⟩ := HI.out.di.cells); (have q5 := HI.out.res.cell 0; have q6 := HI.out.res.cell 1; have q7 := HI.out.res.cell 2; have qg := HI.out.res.frozen; simp only [List.getElem?_cons_zero, List.getElem?_cons_succ, List.set_cons_zero, List.set_cons_succ, List.set_nil] at q5 q6 q7))
      clear hp4 hq4
      cases hb4 : b4.stop with
      | true =>
        rw [hb4] at z3
        have HY := hid (And.intro hb4 (E4.out.2.2 hb4))
        clear hb4
        go_wp2
        ((try simp only [Exit.inBlock, Exit.then]); refine bodyPost_ret (results_cell_row rfl _ _ _ _ _ _ _ rfl (((HI.out.setR 0 _).setR 1 _).setR 2 _).res Tryz.underlying67 rfl (by kernel_rfl)) rfl ?_)
        exact ⟨p, false, false, b4, s4, rfl, (((HI.out.setR 0 _).setR 1 _).setR 2 _).di.run, (((HI.out.setR 0 _).setR 1 _).setR 2 _).kept, HI.out.di.ran, HI.out.di.good, fun h => absurd (HY.out.1.symm.trans h) (by simp), by rw [HY.out.2]; exact ⟨E4.out.2.1.symm, rfl⟩⟩
      | false =>
        rw [hb4] at z3
        by_cases hp1 : p = -1
        · subst hp1
          have HZ := hid (And.intro hb4 (show s4 = .li (some q4) .h by rw [E4.out.1 hb4]; exact if_pos E4.out.2.1.symm))
          clear hb4 E4
          go_wp2_with fail
          refine (Idlem.rput18_run 0 P T G who B r v _ got .h _ HI.out.di.run HI.out.di.good (fun _ => rfl) ⟨HP.out.1, (by have := HP.out; omega), HP.out.2.2⟩).mono ?_
          rintro e w6 ⟨rfl, b5, q5, h1, h2, h3, h4, h5⟩
          obtain ⟨s5, hI, hp5⟩ := past_of (fun _ => RsSt.rl2 (some q4) .puts) (RsSt.li (some q4)) (rs_embL P T who (some q4) 0) HI.out.di h1 h2 h3 h4 (fun _ => by rw [HZ.out.2]; exact (runs_on (M := (Idlem.mpM 0 P T who).sys) (s := Idlem.MpSt.h) (fun h => by cases h)).symm) h5
          have E5 := hid (show (b5.stop = false → s5 = .rl2 (some q4) .puts) ∧ RsSays s5 (-1) false from ⟨fun h => (hp5.on h).2, by rw [hp5.mid HZ.out.1]; exact rsays_li _ _ _⟩)
          (have HI := hid (HI.out.step hI); clear hI; (obtain ⟨z0, z1, z2, z3⟩ := HI.out.di.cells); (have q5 := HI.out.res.cell 0; have q6 := HI.out.res.cell 1; have q7 := HI.out.res.cell 2; have qg := HI.out.res.frozen; simp only [List.getElem?_cons_zero, List.getElem?_cons_succ, List.set_cons_zero, List.set_cons_succ, List.set_nil] at q5 q6 q7))
          clear h1 h2 h3 h4 h5 hp5
          go_wp2_with fail
          refine (drel_run HI.out.di 0 0 (fun _ => RsSt.np (some q4) (.sl (.waits false))) (RsSt.rl2 (some q4)) (rs_embR2 P T who (some q4) 0) E5.out.1 (by omega)).mono ?_
          rintro e w7 ⟨rfl, b6, s6, q6, hI, hp6, _⟩
          have E6 := hid (show (b6.stop = false → s6 = .np (some q4) (.sl (.waits false))) ∧ RsSays s6 (-1) false from ⟨fun h => (hp6.on h).2, by
            cases hb : b5.stop with
            | true => rw [(hp6.off hb).1]; exact E5.out.2
            | false => rw [hp6.mid hb]; exact rsays_rl2 _ _ _⟩)
          (have HI := hid (HI.out.step hI); clear hI; (obtain ⟨z0, z1, z2, z3⟩ := HI.out.di.cells); (have q5 := HI.out.res.cell 0; have q6 := HI.out.res.cell 1; have q7 := HI.out.res.cell 2; have qg := HI.out.res.frozen; simp only [List.getElem?_cons_zero, List.getElem?_cons_succ, List.set_cons_zero, List.set_cons_succ, List.set_nil] at q5 q6 q7))
          clear hp6
          cases hb6 : b6.stop with
          | true =>
            rw [hb6] at z3
            have HY := hid (And.intro hb6 E6.out.2)
            clear hb6 E6
            go_wp2
            ((try simp only [Exit.inBlock, Exit.then]); refine bodyPost_ret (results_cell_row rfl _ _ _ _ _ _ _ rfl (((HI.out.setR 0 _).setR 1 _).setR 2 _).res Tryz.underlying67 rfl (by kernel_rfl)) rfl ?_)
            exact ⟨-1, false, false, b6, s6, rfl, (((HI.out.setR 0 _).setR 1 _).setR 2 _).di.run, (((HI.out.setR 0 _).setR 1 _).setR 2 _).kept, HI.out.di.ran, HI.out.di.good, fun h => absurd (HY.out.1.symm.trans h) (by simp), HY.out.2⟩
          | false =>
            rw [hb6] at z3
            have HY := hid (And.intro hb6 (E6.out.1 hb6))
            clear hb6 E6
            go_wp2_with fail
            refine (rnap20_run P T G who B r v b6 got (.sl (.waits false)) _ HI.out.di.run HI.out.di.good rfl HY.out.1 ⟨HP.out.1, HP.out.2.1, HP.out.2.2⟩).mono ?_
            rintro e w8 ⟨pv, sv, nv, b7, q7, rfl, h1, h2, h3, h4, h5, h6, h7⟩
            obtain ⟨s7, hI, hp7⟩ := past_of (RsSt.f2 (some q4)) (RsSt.np (some q4)) (rs_embN P T who (some q4)) HI.out.di h1 h2 h3 h4 (fun _ => by rw [HY.out.2]; exact (runs_on (M := npY P T who) (s := NpSt.sl (.waits false)) (fun h => by cases h)).symm) h5
            have E7 := hid (show (b7.stop = false → (rsY P T who).want s7 = none) ∧ RsSays s7 pv sv from ⟨fun h => by rw [(hp7.on h).2]; rfl, by rw [hp7.mid HY.out.1, ← h6, ← h7]; exact rsays_np _ _ _⟩)
            (have HI := hid (HI.out.step hI); clear hI; (obtain ⟨z0, z1, z2, z3⟩ := HI.out.di.cells); (have q5 := HI.out.res.cell 0; have q6 := HI.out.res.cell 1; have q7 := HI.out.res.cell 2; have qg := HI.out.res.frozen; simp only [List.getElem?_cons_zero, List.getElem?_cons_succ, List.set_cons_zero, List.set_cons_succ, List.set_nil] at q5 q6 q7))
            clear h1 h2 h3 h4 h5 h6 h7 hp7
            go_wp2
            ((try simp only [Exit.inBlock, Exit.then]); refine bodyPost_ret (results_cell_row rfl _ _ _ _ _ _ _ rfl (((HI.out.setR 0 _).setR 1 _).setR 2 _).res Tryz.underlying67 rfl (by kernel_rfl)) rfl ?_)
            exact ⟨pv, sv, nv, b7, s7, rfl, (((HI.out.setR 0 _).setR 1 _).setR 2 _).di.run, (((HI.out.setR 0 _).setR 1 _).setR 2 _).kept, HI.out.di.ran, HI.out.di.good, E7.out⟩
        · have d2 : ((p : Int) != -1) = true := by simpa using hp1
          have HG := hid (show b4.stop = false ∧ s4 = .sn q4 .a ∧ p = q4.p from ⟨hb4, by rw [E4.out.1 hb4]; exact if_neg (by rw [← E4.out.2.1]; exact hp1), E4.out.2.1⟩)
          clear hb4 E4 hp1
          have HI := hid (HI.out.toO (by have := HRL.out; have := HI.out.kept.size; omega) [.int .i64 p, .bool false, .bool false])
          (obtain ⟨z0, z1, z2, z3⟩ := HI.out.di.cells)
          (have q0 := HI.out.out.cell 0; have q1 := HI.out.out.cell 1; have q2 := HI.out.out.cell 2; have qf := HI.out.out.frozen; have q5 := HI.out.res.cell 0; have q6 := HI.out.res.cell 1; have q7 := HI.out.res.cell 2; have qg := HI.out.res.frozen; simp only [List.getElem?_cons_zero, List.getElem?_cons_succ, List.set_cons_zero, List.set_cons_succ, List.set_nil] at q0 q1 q2 q5 q6 q7)
          go_wp2_with fail
          refine (rspin20_run B r v b4 got .a _ HI.out.di.run HI.out.di.good (fun _ => rfl) HG.out.1).mono ?_
          rintro e w6 ⟨cv, b5, q5, rfl, h1, h2, h3, h4, h5, h6⟩
          obtain ⟨s5, hI, hp5⟩ := past_of (fun _ => RsSt.rl q4 .puts) (RsSt.sn q4) (rs_embS P T who q4) HI.out.di h1 h2 h3 h4 (fun _ => by rw [HG.out.2.1]; exact (runs_on (M := snY) (s := SnSt.a) (fun h => by cases h)).symm) h5
          have hsnC : ∀ q : SnSt, snY.want q = none → snC q = true := fun q h => by cases q <;> first | rfl | cases h
          have E5 := hid (show (b5.stop = false → s5 = .rl q4 .puts ∧ cv = true) ∧ RsSays s5 q4.p cv from ⟨fun h => ⟨(hp5.on h).2, by rw [← h6]; exact hsnC _ (h5 h)⟩, by rw [hp5.mid HG.out.1, ← h6]; exact rsays_sn _ _ _ (hsnC _)⟩)
          (have HI := hid (HI.out.step hI); clear hI; (obtain ⟨z0, z1, z2, z3⟩ := HI.out.di.cells); (have q0 := HI.out.out.cell 0; have q1 := HI.out.out.cell 1; have q2 := HI.out.out.cell 2; have qf := HI.out.out.frozen; have q5 := HI.out.res.cell 0; have q6 := HI.out.res.cell 1; have q7 := HI.out.res.cell 2; have qg := HI.out.res.frozen; simp only [List.getElem?_cons_zero, List.getElem?_cons_succ, List.set_cons_zero, List.set_cons_succ, List.set_nil] at q0 q1 q2 q5 q6 q7))
          clear h1 h2 h3 h4 h5 h6 hp5 hsnC
          have HI := hid (HI.out.setO 1 (.bool cv))
          (obtain ⟨z0, z1, z2, z3⟩ := HI.out.di.cells)
          (have q0 := HI.out.out.cell 0; have q1 := HI.out.out.cell 1; have q2 := HI.out.out.cell 2; have qf := HI.out.out.frozen; have q5 := HI.out.res.cell 0; have q6 := HI.out.res.cell 1; have q7 := HI.out.res.cell 2; have qg := HI.out.res.frozen; simp only [List.getElem?_cons_zero, List.getElem?_cons_succ, List.set_cons_zero, List.set_cons_succ, List.set_nil] at q0 q1 q2 q5 q6 q7)
          go_wp2_with fail
          refine (drel_run HI.out.di 0 0 (fun _ => RsSt.ha q4) (RsSt.rl q4) (rs_embR P T who q4 0) (fun h => (E5.out.1 h).1) (by omega)).mono ?_
          rintro e w7 ⟨rfl, b6, s6, q6, hI, hp6, _⟩
          have E6 := hid (show (b6.stop = false → s6 = .ha q4 ∧ cv = true) ∧ RsSays s6 q4.p cv from ⟨fun h => ⟨(hp6.on h).2, (E5.out.1 (hp6.on h).1).2⟩, by
            cases hb : b5.stop with
            | true => rw [(hp6.off hb).1]; exact E5.out.2
            | false => rw [hp6.mid hb, (E5.out.1 hb).2]; exact rsays_rl _ _ _⟩)
          (have HI := hid (HI.out.step hI); clear hI; (obtain ⟨z0, z1, z2, z3⟩ := HI.out.di.cells); (have q0 := HI.out.out.cell 0; have q1 := HI.out.out.cell 1; have q2 := HI.out.out.cell 2; have qf := HI.out.out.frozen; have q5 := HI.out.res.cell 0; have q6 := HI.out.res.cell 1; have q7 := HI.out.res.cell 2; have qg := HI.out.res.frozen; simp only [List.getElem?_cons_zero, List.getElem?_cons_succ, List.set_cons_zero, List.set_cons_succ, List.set_nil] at q0 q1 q2 q5 q6 q7))
          clear hp6
          go_wp2_with fail
          (refine (procat_run P T G _ _ _ HP.out.1 (by omega)).mono ?_; rintro e w1 ⟨rfl, hb⟩; (have HI := hid (HI.out.quiet hb); clear hb; (obtain ⟨z0, z1, z2, z3⟩ := HI.out.di.cells); (have q0 := HI.out.out.cell 0; have q1 := HI.out.out.cell 1; have q2 := HI.out.out.cell 2; have qf := HI.out.out.frozen; have q5 := HI.out.res.cell 0; have q6 := HI.out.res.cell 1; have q7 := HI.out.res.cell 2; have qg := HI.out.res.frozen; simp only [List.getElem?_cons_zero, List.getElem?_cons_succ, List.set_cons_zero, List.set_cons_succ, List.set_nil] at q0 q1 q2 q5 q6 q7)))
          go_wp2_with fail
          refine (ds_run HI.out.di (pr P p 0) 1 (fun h => by rw [(E6.out.1 h).1, HG.out.2.2]; rfl)).mono ?_
          rintro e w8 ⟨rfl, b7, s7, x7, hI, ho7⟩
          have E7 := hid (show (b7.stop = false → (rsY P T who).want s7 = none) ∧ RsSays s7 p cv from ⟨fun h => by rw [(ho7.1 h).2, (E6.out.1 (ho7.1 h).1).1]; rfl, by
            cases hb : b7.stop with
            | false => rw [(ho7.1 hb).2, (E6.out.1 (ho7.1 hb).1).1, (E6.out.1 (ho7.1 hb).1).2, HG.out.2.2]; exact ⟨rfl, rfl⟩
            | true => rw [(ho7.2.2.1 hb).1, HG.out.2.2]; exact E6.out.2⟩)
          (have HI := hid (HI.out.step hI); clear hI; (obtain ⟨z0, z1, z2, z3⟩ := HI.out.di.cells); (have q0 := HI.out.out.cell 0; have q1 := HI.out.out.cell 1; have q2 := HI.out.out.cell 2; have qf := HI.out.out.frozen; have q5 := HI.out.res.cell 0; have q6 := HI.out.res.cell 1; have q7 := HI.out.res.cell 2; have qg := HI.out.res.frozen; simp only [List.getElem?_cons_zero, List.getElem?_cons_succ, List.set_cons_zero, List.set_cons_succ, List.set_nil] at q0 q1 q2 q5 q6 q7))
          clear ho7
          go_wp2
          ((try simp only [Exit.inBlock, Exit.then]); refine bodyPost_ret (results_cell_row rfl _ _ _ _ _ _ _ rfl (((HI.out.setR 0 _).setR 1 _).setR 2 _).res Tryz.underlying67 rfl (by kernel_rfl)) rfl ?_)
          exact ⟨p, cv, false, b7, s7, rfl, (((HI.out.setR 0 _).setR 1 _).setR 2 _).di.run, (((HI.out.setR 0 _).setR 1 _).setR 2 _).kept, HI.out.di.ran, HI.out.di.good, E7.out⟩
end Go.Proofs.YtlhnnggceebpjaaGreat.Rest
