/- The document's waking of some thread. -/
import Derived.Test.YtlhnnggceebpjaaGreatWaker
import Derived.Test.YtlhnnggceebpjaaGreatWakeD
set_option maxRecDepth 100000
set_option maxHeartbeats 4000000
set_option linter.unusedVariables false
set_option linter.unusedSimpArgs false
namespace Go.Proofs.YtlhnnggceebpjaaGreat.Wake
open Go.RowKit Go.Shelf Go.Proofs.YtlhnnggceebpjaaGreat.TK Go.Proofs.YtlhnnggceebpjaaGreat.Flag Go.Proofs.YtlhnnggceebpjaaGreat.Read Go.Proofs.YtlhnnggceebpjaaGreat.Grow Go.Proofs.YtlhnnggceebpjaaGreat.Words Go.Proofs.YtlhnnggceebpjaaGreat.Mem Go.Proofs.YtlhnnggceebpjaaGreat.Flow Go.Proofs.YtlhnnggceebpjaaGreat.Layout Go.Proofs.YtlhnnggceebpjaaGreat.Lock Go.Proofs.YtlhnnggceebpjaaGreat.Run Go.Proofs.YtlhnnggceebpjaaGreat.Sys Go.Proofs.YtlhnnggceebpjaaGreat.Mach Go.Proofs.YtlhnnggceebpjaaGreat.Doc Go.Proofs.YtlhnnggceebpjaaGreat.Ref05 Go.Proofs.YtlhnnggceebpjaaGreat.Subs
theorem wr_c_run {lo l x : Nat} {P T G who : Int} {st : WrSt} {w : World} (hA : (wrM lo l P T G who).at_ lo l x P T G who w st) :
    Calls Tryz.prog 187 #[.pointer (some ⟨x, 0, none⟩)] w fun e w' => e = .returned (.bool (wrC st)) ∧ w = w' := by
  obtain ⟨⟨e, hp, hi⟩, _⟩ := hA
  have y3 := hp.rest_ 3
  have e1 : w.cell? ⟨x, 12, none⟩ = some (.bool (wrC st)) := by
    simp only [Nat.reduceAdd] at y3
    rw [y3]
    cases st <;> rfl
  obtain ⟨q, hq⟩ : ∃ q, q = wrC st := ⟨_, rfl⟩
  rw [← hq] at e1 ⊢
  clear hp hi hq y3
  cases q with
  | true =>
    go_enter Tryz.func187, Tryz.ntmps187
    go_wp2
    go_ret
    exact ⟨rfl, rfl⟩
  | false =>
    go_enter Tryz.func187, Tryz.ntmps187
    go_wp2
    go_ret
    exact ⟨rfl, rfl⟩
theorem wr_h_run {lo l x : Nat} {P T G who : Int} {st : WrSt} {w : World} (hA : (wrM lo l P T G who).at_ lo l x P T G who w st) :
    Calls Tryz.prog 186 #[.pointer (some ⟨x, 0, none⟩)] w fun e w' => e = .returned (.int .i64 (wrH st)) ∧ w = w' := by
  obtain ⟨⟨e, hp, hi⟩, _⟩ := hA
  have y1 := hp.rest_ 1
  have y2 := hp.rest_ 2
  cases st with
  | ask => ((simp only [wrM, wrRest, wrR, Nat.reduceAdd, List.getElem?_cons_zero, List.getElem?_cons_succ] at y1 y2); clear hp hi; go_enter Tryz.func186, Tryz.ntmps186; (go_wp2_with (first | (go_at_call 131; refine (Idlep.pg_p_nil _).mono ?_; rintro e9 w9 ⟨rfl, rfl⟩))); go_ret; exact ⟨rfl, rfl⟩)
  | sw => ((simp only [wrM, wrRest, wrR, Nat.reduceAdd, List.getElem?_cons_zero, List.getElem?_cons_succ] at y1 y2); clear hp hi; go_enter Tryz.func186, Tryz.ntmps186; (go_wp2_with (first | (go_at_call 131; refine (Idlep.pg_p_nil _).mono ?_; rintro e9 w9 ⟨rfl, rfl⟩))); go_ret; exact ⟨rfl, rfl⟩)
  | none => ((simp only [wrM, wrRest, wrR, Nat.reduceAdd, List.getElem?_cons_zero, List.getElem?_cons_succ] at y1 y2); clear hp hi; go_enter Tryz.func186, Tryz.ntmps186; (go_wp2_with (first | (go_at_call 131; refine (Idlep.pg_p_nil _).mono ?_; rintro e9 w9 ⟨rfl, rfl⟩))); go_ret; exact ⟨rfl, rfl⟩)
  | acq s => ((simp only [wrM, wrRest, wrR, Nat.reduceAdd, List.getElem?_cons_zero, List.getElem?_cons_succ] at y1 y2); clear hp hi; go_enter Tryz.func186, Tryz.ntmps186; (go_wp2_with (first | (go_at_call 131; refine (Idlep.pg_p_nil _).mono ?_; rintro e9 w9 ⟨rfl, rfl⟩))); go_ret; exact ⟨rfl, rfl⟩)
  | get s =>
    have hq : (pgS lo l P T G who).at_ w e.1 s := hp.2.1
    (simp only [wrM, wrRest, wrR, Nat.reduceAdd, List.getElem?_cons_zero, List.getElem?_cons_succ] at y1 y2)
    have HG := hid (Idlep.pg_p_run hq)
    generalize hq2 : Idlep.PgSt.p _ = z at HG
    have HQ := hid hq2.symm
    clear hp hi hq hq2
    go_enter Tryz.func186, Tryz.ntmps186
    go_wp2_with fail
    refine HG.out.mono ?_
    rintro e1 w1 ⟨rfl, rfl⟩
    go_wp2
    go_ret
    exact ⟨by rw [HQ.out]; rfl, rfl⟩
  | st p s =>
    have hq : (stS lo l P T G who p true false).at_ w e.1 s := hp.2.1
    (simp only [wrM, wrRest, wrR, Nat.reduceAdd, List.getElem?_cons_zero, List.getElem?_cons_succ] at y1 y2)
    have HG := hid (st_h_run hq)
    generalize hq2 : stH p _ = z at HG
    have HQ := hid hq2.symm
    clear hp hi hq hq2
    go_enter Tryz.func186, Tryz.ntmps186
    go_wp2_with fail
    refine HG.out.mono ?_
    rintro e1 w1 ⟨rfl, rfl⟩
    go_wp2
    go_ret
    exact ⟨by rw [HQ.out]; rfl, rfl⟩
  | cnt q =>
    have hq : (pgS lo l P T G who).at_ w e.2 q := hi
    (simp only [wrM, wrRest, wrR, Nat.reduceAdd, List.getElem?_cons_zero, List.getElem?_cons_succ] at y1 y2)
    have HG := hid (Idlep.pg_p_run hq)
    generalize hq2 : Idlep.PgSt.p _ = z at HG
    have HQ := hid hq2.symm
    clear hp hi hq hq2
    go_enter Tryz.func186, Tryz.ntmps186
    go_wp2_with fail
    refine HG.out.mono ?_
    rintro e1 w1 ⟨rfl, rfl⟩
    go_wp2
    go_ret
    exact ⟨by rw [HQ.out]; rfl, rfl⟩
  | nd q =>
    have hq : (pgS lo l P T G who).at_ w e.2 q := hi
    (simp only [wrM, wrRest, wrR, Nat.reduceAdd, List.getElem?_cons_zero, List.getElem?_cons_succ] at y1 y2)
    have HG := hid (Idlep.pg_p_run hq)
    generalize hq2 : Idlep.PgSt.p _ = z at HG
    have HQ := hid hq2.symm
    clear hp hi hq hq2
    go_enter Tryz.func186, Tryz.ntmps186
    go_wp2_with fail
    refine HG.out.mono ?_
    rintro e1 w1 ⟨rfl, rfl⟩
    go_wp2
    go_ret
    exact ⟨by rw [HQ.out]; rfl, rfl⟩
  | rel q s =>
    have hq : (pgS lo l P T G who).at_ w e.2 q := hi
    (simp only [wrM, wrRest, wrR, Nat.reduceAdd, List.getElem?_cons_zero, List.getElem?_cons_succ] at y1 y2)
    have HG := hid (Idlep.pg_p_run hq)
    generalize hq2 : Idlep.PgSt.p _ = z at HG
    have HQ := hid hq2.symm
    clear hp hi hq hq2
    go_enter Tryz.func186, Tryz.ntmps186
    go_wp2_with fail
    refine HG.out.mono ?_
    rintro e1 w1 ⟨rfl, rfl⟩
    go_wp2
    go_ret
    exact ⟨by rw [HQ.out]; rfl, rfl⟩
  | fin1 p s =>
    have hq : (stS lo l P T G who p true false).at_ w e.1 s := hi
    (simp only [wrM, wrRest, wrR, Nat.reduceAdd, List.getElem?_cons_zero, List.getElem?_cons_succ] at y1 y2)
    have HG := hid (st_h_run hq)
    generalize hq2 : stH p _ = z at HG
    have HQ := hid hq2.symm
    clear hp hi hq hq2
    go_enter Tryz.func186, Tryz.ntmps186
    go_wp2_with fail
    refine HG.out.mono ?_
    rintro e1 w1 ⟨rfl, rfl⟩
    go_wp2
    go_ret
    exact ⟨by rw [HQ.out]; rfl, rfl⟩
  | fin2 q =>
    have hq : (pgS lo l P T G who).at_ w e.2 q := hi
    (simp only [wrM, wrRest, wrR, Nat.reduceAdd, List.getElem?_cons_zero, List.getElem?_cons_succ] at y1 y2)
    have HG := hid (Idlep.pg_p_run hq)
    generalize hq2 : Idlep.PgSt.p _ = z at HG
    have HQ := hid hq2.symm
    clear hp hi hq hq2
    go_enter Tryz.func186, Tryz.ntmps186
    go_wp2_with fail
    refine HG.out.mono ?_
    rintro e1 w1 ⟨rfl, rfl⟩
    go_wp2
    go_ret
    exact ⟨by rw [HQ.out]; rfl, rfl⟩
theorem wr_h_nil (w : World) : Calls Tryz.prog 186 #[.pointer none] w fun e w' => e = .returned (.int .i64 (-1)) ∧ w = w' := by
  go_enter Tryz.func186, Tryz.ntmps186
  go_wp2
  go_ret
  exact ⟨rfl, rfl⟩
theorem wr_c_nil (w : World) : Calls Tryz.prog 187 #[.pointer none] w fun e w' => e = .returned (.bool false) ∧ w = w' := by
  go_enter Tryz.func187, Tryz.ntmps187
  go_wp2
  go_ret
  exact ⟨rfl, rfl⟩
theorem wr_embA (P T who : Int) (l : Nat) : Emb (wrY P T who) (aqM l 0 who).sys (fun _ => WrSt.get .h) WrSt.acq := fun s W h => ⟨h, fun a => rfl⟩
theorem wr_embG (P T who : Int) (l : Nat) : Emb (wrY P T who) (Idlep.pgM l P).sys wrGot WrSt.get := fun s W h => ⟨h, fun a => rfl⟩
theorem wr_embS (P T who p : Int) : Emb (wrY P T who) (stY P T p true false) (WrSt.fin1 p) (WrSt.st p) := fun s W h => ⟨h, fun a => rfl⟩
theorem wr_embR (P T who : Int) (q : Idlep.PgSt) (l : Nat) : Emb (wrY P T who) (rlM l 0).sys (fun _ => WrSt.fin2 q) (WrSt.rel q) := fun s W h => ⟨h, fun a => rfl⟩
theorem wsays_acq (who : Int) (l : Nat) (q : AcqSt) : wrH (runs (aqM l 0 who).sys (fun _ => WrSt.get .h) WrSt.acq q) = -1 ∧ wrC (runs (aqM l 0 who).sys (fun _ => WrSt.get .h) WrSt.acq q) = true := by
  unfold runs
  split <;> exact ⟨rfl, rfl⟩
theorem wsays_rel (u : Idlep.PgSt) (l : Nat) (q : RlSt) : wrH (runs (rlM l 0).sys (fun _ => WrSt.fin2 u) (WrSt.rel u) q) = u.p ∧ wrC (runs (rlM l 0).sys (fun _ => WrSt.fin2 u) (WrSt.rel u) q) = false := by
  unfold runs
  split <;> exact ⟨rfl, rfl⟩
theorem wsays_st (P T p : Int) (q : StSt) : wrH (runs (stY P T p true false) (WrSt.fin1 p) (WrSt.st p) q) = stH p q ∧ wrC (runs (stY P T p true false) (WrSt.fin1 p) (WrSt.st p) q) = false := by
  unfold runs
  split <;> exact ⟨rfl, rfl⟩
/-- What the document's answer tells of the state. -/
def WrSays (a : RunSt) (s : WrSt) (h : Int) (c : Bool) : Prop := a.stop = false → h = wrH s ∧ c = wrC s
theorem rwake19_run (P T G who : Int) (B r : Nat) (v : Value) (a : RunSt) (got : List Int) (s0 : WrSt) (w : World) (h : RunAt w B r v a) (hg : Fits got a) (hs : a.stop = false → s0 = .ask) (ha : a.stop = false) (hP : (0 ≤ P ∧ P ≤ 1000) ∧ 1 ≤ T ∧ T ≤ 1000) (hw : 0 ≤ who ∧ who ≤ 1000) :
    Calls Tryz.prog 185 #[.pointer (some ⟨r, 0, none⟩), .agg #[.int .i64 P, .int .i64 T, .int .i64 G], .int .i64 who] w fun e w' => ∃ hh ht hc b s1, e = .returned (.agg #[.int .i64 hh, .int .i64 ht, .bool hc]) ∧ RunAt w' B r v b ∧ Kept [r] w w' ∧ Ran (wrY P T who) got s0 a s1 b ∧ Fits got b ∧ (b.stop = false → (wrY P T who).want s1 = none) ∧ WrSays a s1 hh hc := by
  have hlt := h.blk.lt
  have hSt := DR.start (M := wrY P T who) (P := P) (T := T) (G := G) (TO := 133) h hg s0 [.int .i64 0, .int .i64 0, .bool false] (by decide)
  have hD := DO.start hSt.1 hSt.2.2 hSt.2.1 hlt rfl rfl (by decide) [.int .i64 (-1), .int .i64 (-1), .bool false]
  have hsz : ((w.alloc (.cells #[.int .i64 P, .int .i64 T, .int .i64 G] 23)).alloc (.cells [Value.int .i64 0, .int .i64 0, .bool false].toArray 133)).heap.size = w.heap.size + 1 + 1 := by simp
  rw [hsz] at hD
  have HI := hid hD
  clear hD hsz
  have HP := hid (And.intro hP.1 (And.intro hP.2 hP.2.2))
  have HS := hid (hs ha)
  have HWH := hid hw
  have HAS := hid ha
  (obtain ⟨z0, z1, z2, z3⟩ := HI.out.di.cells)
  (have q0 := HI.out.out.cell 0; have q1 := HI.out.out.cell 1; have q2 := HI.out.out.cell 2; have qf := HI.out.out.frozen; have q5 := HI.out.res.cell 0; have q6 := HI.out.res.cell 1; have q7 := HI.out.res.cell 2; have qg := HI.out.res.frozen; simp only [List.getElem?_cons_zero, List.getElem?_cons_succ, List.set_cons_zero, List.set_cons_succ, List.set_nil] at q0 q1 q2 q5 q6 q7)
  rw [ha] at z3
  clear h hg hs hP hw hSt hlt ha
  go_enter Tryz.func185, Tryz.ntmps185
  go_wp2_with fail
  refine (dl_run HI.out.di 13 (fun h => by rw [HS.out, ← w13]; rfl)).mono ?_
  rintro e w2 ⟨b1, s1, x1, rfl, hI, ho1⟩
  have E1 := hid (show (b1.stop = false → s1 = if x1 = 0 then .sw else .none) ∧ (b1.stop = true → x1 = 0) ∧ (wrH s1 = -1 ∧ wrC s1 = false) from by
    have e1 : b1.stop = false → s1 = if x1 = 0 then .sw else .none := fun h => by obtain ⟨h1, h2⟩ := ho1.1 h; rw [h2, HS.out]; rfl
    refine ⟨e1, fun h => (ho1.2.2.1 h).2, ?_⟩
    cases hb : b1.stop with
    | false => rw [e1 hb]; split <;> exact ⟨rfl, rfl⟩
    | true => rw [(ho1.2.2.1 hb).1, HS.out]; exact ⟨rfl, rfl⟩)
  (have HI := hid (HI.out.step hI); clear hI; (obtain ⟨z0, z1, z2, z3⟩ := HI.out.di.cells); (have q0 := HI.out.out.cell 0; have q1 := HI.out.out.cell 1; have q2 := HI.out.out.cell 2; have qf := HI.out.out.frozen; have q5 := HI.out.res.cell 0; have q6 := HI.out.res.cell 1; have q7 := HI.out.res.cell 2; have qg := HI.out.res.frozen; simp only [List.getElem?_cons_zero, List.getElem?_cons_succ, List.set_cons_zero, List.set_cons_succ, List.set_nil] at q0 q1 q2 q5 q6 q7))
  clear ho1
  by_cases hx : x1 = 0
  case neg =>
    have hb1 : b1.stop = false := by
      cases hb : b1.stop with
      | false => rfl
      | true => exact absurd (E1.out.2.1 hb) hx
    have hx1 : ((x1 : Int) != 0) = true := by simpa using hx
    have HN := hid (show s1 = .none by rw [E1.out.1 hb1, if_neg hx])
    clear hb1 hx
    go_wp2
    ((try simp only [Exit.inBlock, Exit.then]); refine bodyPost_ret (results_cell_row rfl _ _ _ _ _ _ _ rfl (((HI.out.setR 0 _).setR 1 _).setR 2 _).res Tryz.underlying133 rfl (by kernel_rfl)) rfl ?_)
    exact ⟨-1, -1, false, b1, s1, rfl, (((HI.out.setR 0 _).setR 1 _).setR 2 _).di.run, (((HI.out.setR 0 _).setR 1 _).setR 2 _).kept, HI.out.di.ran, HI.out.di.good, fun _ => by rw [HN.out]; rfl, fun _ => ⟨E1.out.2.2.1.symm, E1.out.2.2.2.symm⟩⟩
  subst hx
  cases hb1 : b1.stop with
  | true =>
    rw [hb1] at z3
    have HZ := hid hb1
    clear hb1
    go_wp2
    ((try simp only [Exit.inBlock, Exit.then]); refine bodyPost_ret (results_cell_row rfl _ _ _ _ _ _ _ rfl (((HI.out.setR 0 _).setR 1 _).setR 2 _).res Tryz.underlying133 rfl (by kernel_rfl)) rfl ?_)
    exact ⟨-1, -1, false, b1, s1, rfl, (((HI.out.setR 0 _).setR 1 _).setR 2 _).di.run, (((HI.out.setR 0 _).setR 1 _).setR 2 _).kept, HI.out.di.ran, HI.out.di.good, fun h => absurd (HZ.out.symm.trans h) (by simp), fun _ => ⟨E1.out.2.2.1.symm, E1.out.2.2.2.symm⟩⟩
  | false =>
    rw [hb1] at z3
    have HS1 := hid (show s1 = .sw from E1.out.1 hb1)
    clear hb1 E1
    go_wp2_with fail
    refine (dw_run HI.out.di 13 0 1 (fun h => by rw [HS1.out, ← w13]; rfl)).mono ?_
    rintro e w3 ⟨b2, s2, x2, rfl, hI, ho2⟩
    have E2 := hid (show (b2.stop = false → s2 = if x2 = 1 then .acq .ask else .none) ∧ (b2.stop = true → x2 = 0 ∧ s2 = .sw) from
      ⟨fun h => by obtain ⟨h1, h2⟩ := ho2.1 h; rw [h2, HS1.out]; rfl, fun h => ⟨(ho2.2.2.1 h).2, by rw [(ho2.2.2.1 h).1]; exact HS1.out⟩⟩)
    (have HI := hid (HI.out.step hI); clear hI; (obtain ⟨z0, z1, z2, z3⟩ := HI.out.di.cells); (have q0 := HI.out.out.cell 0; have q1 := HI.out.out.cell 1; have q2 := HI.out.out.cell 2; have qf := HI.out.out.frozen; have q5 := HI.out.res.cell 0; have q6 := HI.out.res.cell 1; have q7 := HI.out.res.cell 2; have qg := HI.out.res.frozen; simp only [List.getElem?_cons_zero, List.getElem?_cons_succ, List.set_cons_zero, List.set_cons_succ, List.set_nil] at q0 q1 q2 q5 q6 q7))
    clear ho2 HS1
    by_cases hx : x2 = 1
    case neg =>
      have hx1 : ((x2 : Int) == 1) = false := by simpa using hx
      have HN := hid (show (b2.stop = false → s2 = .none) ∧ (wrH s2 = -1 ∧ wrC s2 = false) by
        have e1 : b2.stop = false → s2 = .none := fun h => by rw [E2.out.1 h, if_neg hx]
        refine ⟨e1, ?_⟩
        cases hb : b2.stop with
        | false => rw [e1 hb]; exact ⟨rfl, rfl⟩
        | true => rw [(E2.out.2 hb).2]; exact ⟨rfl, rfl⟩)
      clear hx E2
      go_wp2
      ((try simp only [Exit.inBlock, Exit.then]); refine bodyPost_ret (results_cell_row rfl _ _ _ _ _ _ _ rfl (((HI.out.setR 0 _).setR 1 _).setR 2 _).res Tryz.underlying133 rfl (by kernel_rfl)) rfl ?_)
      exact ⟨-1, -1, false, b2, s2, rfl, (((HI.out.setR 0 _).setR 1 _).setR 2 _).di.run, (((HI.out.setR 0 _).setR 1 _).setR 2 _).kept, HI.out.di.ran, HI.out.di.good, fun h => by rw [HN.out.1 h]; rfl, fun _ => ⟨HN.out.2.1.symm, HN.out.2.2.symm⟩⟩
    subst hx
    have hb2 : b2.stop = false := by
      cases hb : b2.stop with
      | false => rfl
      | true => exact absurd (E2.out.2 hb).1 (by decide)
    have HS2 := hid (show s2 = .acq .ask from E2.out.1 hb2)
    have HB2 := hid hb2
    have HI := hid (HI.out.setO 2 (.bool true))
    (obtain ⟨z0, z1, z2, z3⟩ := HI.out.di.cells)
    (have q0 := HI.out.out.cell 0; have q1 := HI.out.out.cell 1; have q2 := HI.out.out.cell 2; have qf := HI.out.out.frozen; have q5 := HI.out.res.cell 0; have q6 := HI.out.res.cell 1; have q7 := HI.out.res.cell 2; have qg := HI.out.res.frozen; simp only [List.getElem?_cons_zero, List.getElem?_cons_succ, List.set_cons_zero, List.set_cons_succ, List.set_nil] at q0 q1 q2 q5 q6 q7)
    clear E2 hb2
    go_wp2_with fail
    refine (dacq_run HI.out.di 0 0 who (fun _ => WrSt.get .h) WrSt.acq (wr_embA P T who 0) (fun _ => HS2.out) (by omega) HWH.out).mono ?_
    rintro e w4 ⟨z, b3, s3, q3, rfl, hI, hp3, _⟩
    have E3 := hid (show (b3.stop = false → s3 = .get .h) ∧ (wrH s3 = -1 ∧ wrC s3 = true) from ⟨fun h => (hp3.on h).2, by rw [hp3.mid HB2.out]; exact wsays_acq who 0 q3⟩)
    (have HI := hid (HI.out.step hI); clear hI; (obtain ⟨z0, z1, z2, z3⟩ := HI.out.di.cells); (have q0 := HI.out.out.cell 0; have q1 := HI.out.out.cell 1; have q2 := HI.out.out.cell 2; have qf := HI.out.out.frozen; have q5 := HI.out.res.cell 0; have q6 := HI.out.res.cell 1; have q7 := HI.out.res.cell 2; have qg := HI.out.res.frozen; simp only [List.getElem?_cons_zero, List.getElem?_cons_succ, List.set_cons_zero, List.set_cons_succ, List.set_nil] at q0 q1 q2 q5 q6 q7))
    clear hp3 HS2
    cases hb3 : b3.stop with
    | true =>
      rw [hb3] at z3
      have HZ := hid hb3
      clear hb3
      go_wp2
      ((try simp only [Exit.inBlock, Exit.then]); refine bodyPost_ret (results_cell_row rfl _ _ _ _ _ _ _ rfl (((HI.out.setR 0 _).setR 1 _).setR 2 _).res Tryz.underlying133 rfl (by kernel_rfl)) rfl ?_)
      exact ⟨-1, -1, true, b3, s3, rfl, (((HI.out.setR 0 _).setR 1 _).setR 2 _).di.run, (((HI.out.setR 0 _).setR 1 _).setR 2 _).kept, HI.out.di.ran, HI.out.di.good, fun h => absurd (HZ.out.symm.trans h) (by simp), fun _ => ⟨E3.out.2.1.symm, E3.out.2.2.symm⟩⟩
    | false =>
      rw [hb3] at z3
      have HS3 := hid (And.intro hb3 (E3.out.1 hb3))
      clear hb3 E3
      go_wp2_with fail
      refine (dpget_run HI.out.di 0 wrGot WrSt.get (wr_embG P T who 0) (fun _ => HS3.out.2) HP.out.1).mono ?_
      rintro e w5 ⟨p, b4, s4, q4, rfl, hI, hp4, hq4⟩
      have E4 := hid (show (b4.stop = false → s4 = wrGot q4) ∧ p = q4.p ∧ (b4.stop = true → s4 = .get q4) from ⟨fun h => (hp4.on h).2, hq4 HS3.out.1, fun h => by rw [hp4.mid HS3.out.1]; exact runs_on (hp4.wait HS3.out.1 h)⟩)
      (have HI := hid (HI.out.step hI); clear hI; (obtain ⟨z0, z1, z2, z3⟩ := HI.out.di.cells); (have q0 := HI.out.out.cell 0; have q1 := HI.out.out.cell 1; have q2 := HI.out.out.cell 2; have qf := HI.out.out.frozen; have q5 := HI.out.res.cell 0; have q6 := HI.out.res.cell 1; have q7 := HI.out.res.cell 2; have qg := HI.out.res.frozen; simp only [List.getElem?_cons_zero, List.getElem?_cons_succ, List.set_cons_zero, List.set_cons_succ, List.set_nil] at q0 q1 q2 q5 q6 q7))
      have HI := hid (HI.out.setO 0 (.int .i64 p))
      cases hb4 : b4.stop with
      | true =>
        rw [hb4] at z3
        have HZ := hid (And.intro hb4 (E4.out.2.2 hb4))
        (obtain ⟨z0, z1, z2, z3⟩ := HI.out.di.cells)
        (have q0 := HI.out.out.cell 0; have q1 := HI.out.out.cell 1; have q2 := HI.out.out.cell 2; have qf := HI.out.out.frozen; have q5 := HI.out.res.cell 0; have q6 := HI.out.res.cell 1; have q7 := HI.out.res.cell 2; have qg := HI.out.res.frozen; simp only [List.getElem?_cons_zero, List.getElem?_cons_succ, List.set_cons_zero, List.set_cons_succ, List.set_nil] at q0 q1 q2 q5 q6 q7)
        rw [hb4] at z3
        clear hb4 hp4 hq4
        go_wp2
        ((try simp only [Exit.inBlock, Exit.then]); refine bodyPost_ret (results_cell_row rfl _ _ _ _ _ _ _ rfl (((HI.out.setR 0 _).setR 1 _).setR 2 _).res Tryz.underlying133 rfl (by kernel_rfl)) rfl ?_)
        exact ⟨p, -1, true, b4, s4, rfl, (((HI.out.setR 0 _).setR 1 _).setR 2 _).di.run, (((HI.out.setR 0 _).setR 1 _).setR 2 _).kept, HI.out.di.ran, HI.out.di.good, fun h => absurd (HZ.out.1.symm.trans h) (by simp), fun _ => by rw [HZ.out.2]; exact ⟨E4.out.2.1, rfl⟩⟩
      | false =>
        rw [hb4] at z3
        have HZ := hid (And.intro hb4 (E4.out.1 hb4))
        (obtain ⟨z0, z1, z2, z3⟩ := HI.out.di.cells)
        (have q0 := HI.out.out.cell 0; have q1 := HI.out.out.cell 1; have q2 := HI.out.out.cell 2; have qf := HI.out.out.frozen; have q5 := HI.out.res.cell 0; have q6 := HI.out.res.cell 1; have q7 := HI.out.res.cell 2; have qg := HI.out.res.frozen; simp only [List.getElem?_cons_zero, List.getElem?_cons_succ, List.set_cons_zero, List.set_cons_succ, List.set_nil] at q0 q1 q2 q5 q6 q7)
        rw [hb4] at z3
        clear hb4 hp4 hq4
        by_cases hp1 : p = -1
        case neg =>
          have hp2 : ((p : Int) != -1) = true := by simpa using hp1
          have HG := hid (show s4 = .st p (.get .h) by rw [HZ.out.2, E4.out.2.1]; exact if_neg (by rw [← E4.out.2.1]; exact hp1))
          clear hp1
          go_wp2_with fail
          refine (rstart19_run P T G p true false B r v b4 got (.get .h) _ HI.out.di.run HI.out.di.good (fun _ => rfl) ⟨HP.out.1, HP.out.2.1⟩).mono ?_
          rintro e w6 ⟨hh, ht, b5, q5, rfl, h1, h2, h3, h4, h5, h6⟩
          obtain ⟨s5, hI, hp5⟩ := past_of (WrSt.fin1 p) (WrSt.st p) (wr_embS P T who p) HI.out.di h1 h2 h3 h4 (fun _ => by rw [HG.out]; exact (runs_on (M := stY P T p true false) (s := StSt.get .h) (fun h => by cases h)).symm) h5
          have HY := hid (show (b5.stop = false → (wrY P T who).want s5 = none) ∧ hh = wrH s5 ∧ false = wrC s5 from ⟨fun h => by rw [(hp5.on h).2]; rfl, by rw [hp5.mid HZ.out.1]; have := wsays_st P T p q5; exact ⟨by rw [this.1]; exact (h6 HZ.out.1).1, this.2.symm⟩⟩)
          (have HI := hid (HI.out.step hI); clear hI; (obtain ⟨z0, z1, z2, z3⟩ := HI.out.di.cells); (have q0 := HI.out.out.cell 0; have q1 := HI.out.out.cell 1; have q2 := HI.out.out.cell 2; have qf := HI.out.out.frozen; have q5 := HI.out.res.cell 0; have q6 := HI.out.res.cell 1; have q7 := HI.out.res.cell 2; have qg := HI.out.res.frozen; simp only [List.getElem?_cons_zero, List.getElem?_cons_succ, List.set_cons_zero, List.set_cons_succ, List.set_nil] at q0 q1 q2 q5 q6 q7))
          clear h1 h2 h3 h4 h5 h6 hp5
          go_wp2
          ((try simp only [Exit.inBlock, Exit.then]); refine bodyPost_ret (results_cell_row rfl _ _ _ _ _ _ _ rfl (((HI.out.setR 0 _).setR 1 _).setR 2 _).res Tryz.underlying133 rfl (by kernel_rfl)) rfl ?_)
          exact ⟨hh, ht, false, b5, s5, rfl, (((HI.out.setR 0 _).setR 1 _).setR 2 _).di.run, (((HI.out.setR 0 _).setR 1 _).setR 2 _).kept, HI.out.di.ran, HI.out.di.good, HY.out.1, fun _ => HY.out.2⟩
        subst hp1
        have HG := hid (show s4 = .cnt q4 by rw [HZ.out.2]; exact if_pos E4.out.2.1.symm)
        go_wp2_with fail
        refine (da_run HI.out.di 13 4294967295 (fun h => by rw [HG.out, ← w13]; rfl)).mono ?_
        rintro e w6 ⟨b5, s5, x5, rfl, hI, ho5⟩
        have E5 := hid (show (b5.stop = false → s5 = .nd q4) ∧ (b5.stop = true → s5 = .cnt q4) from ⟨fun h => by obtain ⟨h1, h2⟩ := ho5.1 h; rw [h2, HG.out]; rfl, fun h => by rw [(ho5.2.2.1 h).1]; exact HG.out⟩)
        (have HI := hid (HI.out.step hI); clear hI; (obtain ⟨z0, z1, z2, z3⟩ := HI.out.di.cells); (have q0 := HI.out.out.cell 0; have q1 := HI.out.out.cell 1; have q2 := HI.out.out.cell 2; have qf := HI.out.out.frozen; have q5 := HI.out.res.cell 0; have q6 := HI.out.res.cell 1; have q7 := HI.out.res.cell 2; have qg := HI.out.res.frozen; simp only [List.getElem?_cons_zero, List.getElem?_cons_succ, List.set_cons_zero, List.set_cons_succ, List.set_nil] at q0 q1 q2 q5 q6 q7))
        have HI := hid (HI.out.setO 2 (.bool b5.stop))
        (obtain ⟨z0, z1, z2, z3⟩ := HI.out.di.cells)
        (have q0 := HI.out.out.cell 0; have q1 := HI.out.out.cell 1; have q2 := HI.out.out.cell 2; have qf := HI.out.out.frozen; have q5 := HI.out.res.cell 0; have q6 := HI.out.res.cell 1; have q7 := HI.out.res.cell 2; have qg := HI.out.res.frozen; simp only [List.getElem?_cons_zero, List.getElem?_cons_succ, List.set_cons_zero, List.set_cons_succ, List.set_nil] at q0 q1 q2 q5 q6 q7)
        clear ho5
        go_wp2_with fail
        refine (ds_run HI.out.di 14 1 (fun h => by rw [E5.out.1 h, ← w14]; rfl)).mono ?_
        rintro e w7 ⟨rfl, b6, s6, x6, hI, ho6⟩
        have E6 := hid (show (b6.stop = false → s6 = .rel q4 .puts) ∧ (wrH s6 = -1 ∧ (b5.stop = wrC s6)) ∧ (b6.stop = false → b5.stop = false) from by
          have e1 : b6.stop = false → s6 = .rel q4 .puts := fun h => by obtain ⟨h1, h2⟩ := ho6.1 h; rw [h2, E5.out.1 h1]; rfl
          refine ⟨e1, ?_, fun h => (ho6.1 h).1⟩
          cases hb : b6.stop with
          | false => rw [e1 hb, (ho6.1 hb).1]; exact ⟨E4.out.2.1.symm, rfl⟩
          | true =>
            rw [(ho6.2.2.1 hb).1]
            cases hb5 : b5.stop with
            | false => rw [E5.out.1 hb5]; exact ⟨E4.out.2.1.symm, rfl⟩
            | true => rw [E5.out.2 hb5]; exact ⟨E4.out.2.1.symm, rfl⟩)
        (have HI := hid (HI.out.step hI); clear hI; (obtain ⟨z0, z1, z2, z3⟩ := HI.out.di.cells); (have q0 := HI.out.out.cell 0; have q1 := HI.out.out.cell 1; have q2 := HI.out.out.cell 2; have qf := HI.out.out.frozen; have q5 := HI.out.res.cell 0; have q6 := HI.out.res.cell 1; have q7 := HI.out.res.cell 2; have qg := HI.out.res.frozen; simp only [List.getElem?_cons_zero, List.getElem?_cons_succ, List.set_cons_zero, List.set_cons_succ, List.set_nil] at q0 q1 q2 q5 q6 q7))
        clear ho6
        go_wp2_with fail
        refine (drel_run HI.out.di 0 0 (fun _ => WrSt.fin2 q4) (WrSt.rel q4) (wr_embR P T who q4 0) E6.out.1 (by omega)).mono ?_
        rintro e w8 ⟨rfl, b7, s7, q7, hI, hp7, _⟩
        have HY := hid (show (b7.stop = false → (wrY P T who).want s7 = none) ∧ (-1 = wrH s7 ∧ b5.stop = wrC s7) from ⟨fun h => by rw [(hp7.on h).2]; rfl, by
          cases hb : b6.stop with
          | true => rw [(hp7.off hb).1]; exact ⟨E6.out.2.1.1.symm, E6.out.2.1.2⟩
          | false => rw [hp7.mid hb, E6.out.2.2 hb]; have := wsays_rel q4 0 q7; exact ⟨E4.out.2.1.trans this.1.symm, this.2.symm⟩⟩)
        (have HI := hid (HI.out.step hI); clear hI; (obtain ⟨z0, z1, z2, z3⟩ := HI.out.di.cells); (have q0 := HI.out.out.cell 0; have q1 := HI.out.out.cell 1; have q2 := HI.out.out.cell 2; have qf := HI.out.out.frozen; have q5 := HI.out.res.cell 0; have q6 := HI.out.res.cell 1; have q7 := HI.out.res.cell 2; have qg := HI.out.res.frozen; simp only [List.getElem?_cons_zero, List.getElem?_cons_succ, List.set_cons_zero, List.set_cons_succ, List.set_nil] at q0 q1 q2 q5 q6 q7))
        clear hp7
        go_wp2
        ((try simp only [Exit.inBlock, Exit.then]); refine bodyPost_ret (results_cell_row rfl _ _ _ _ _ _ _ rfl (((HI.out.setR 0 _).setR 1 _).setR 2 _).res Tryz.underlying133 rfl (by kernel_rfl)) rfl ?_)
        exact ⟨-1, -1, b5.stop, b7, s7, rfl, (((HI.out.setR 0 _).setR 1 _).setR 2 _).di.run, (((HI.out.setR 0 _).setR 1 _).setR 2 _).kept, HI.out.di.ran, HI.out.di.good, HY.out.1, fun _ => HY.out.2⟩
end Go.Proofs.YtlhnnggceebpjaaGreat.Wake
