/- The document's handing over of a processor. -/
import Derived.Test.YtlhnnggceebpjaaGreatHand
import Derived.Test.YtlhnnggceebpjaaGreatWakerD
set_option maxRecDepth 100000
set_option maxHeartbeats 4000000
set_option linter.unusedVariables false
set_option linter.unusedSimpArgs false
namespace Go.Proofs.YtlhnnggceebpjaaGreat.Hand
open Go.RowKit Go.Shelf Go.Proofs.YtlhnnggceebpjaaGreat.TK Go.Proofs.YtlhnnggceebpjaaGreat.Flag Go.Proofs.YtlhnnggceebpjaaGreat.Read Go.Proofs.YtlhnnggceebpjaaGreat.Grow Go.Proofs.YtlhnnggceebpjaaGreat.Words Go.Proofs.YtlhnnggceebpjaaGreat.Mem Go.Proofs.YtlhnnggceebpjaaGreat.Flow Go.Proofs.YtlhnnggceebpjaaGreat.Layout Go.Proofs.YtlhnnggceebpjaaGreat.Lock Go.Proofs.YtlhnnggceebpjaaGreat.Run Go.Proofs.YtlhnnggceebpjaaGreat.Sys Go.Proofs.YtlhnnggceebpjaaGreat.Mach Go.Proofs.YtlhnnggceebpjaaGreat.Doc Go.Proofs.YtlhnnggceebpjaaGreat.Ref05 Go.Proofs.YtlhnnggceebpjaaGreat.Subs Go.Proofs.YtlhnnggceebpjaaGreat.Wake
theorem w8 : wordN 8 = 8 := by decide
theorem w10 : wordN 10 = 10 := by decide
theorem ov_c_run {lo l x : Nat} {P T G who p : Int} {st : OvSt} {w : World} (hA : (ovM lo l P T G who p).at_ lo l x P T G who w st) :
    Calls Tryz.prog 178 #[.pointer (some ⟨x, 0, none⟩)] w fun e w' => e = .returned (.bool (ovC st)) ∧ w = w' := by
  obtain ⟨⟨e, hp, hi⟩, _⟩ := hA
  have y5 := hp.rest_ 5
  have e1 : w.cell? ⟨x, 14, none⟩ = some (.bool (ovC st)) := by
    simp only [Nat.reduceAdd] at y5
    rw [y5]
    cases st <;> rfl
  obtain ⟨q, hq⟩ : ∃ q, q = ovC st := ⟨_, rfl⟩
  rw [← hq] at e1 ⊢
  clear hp hi hq y5
  cases q with
  | true =>
    go_enter Tryz.func178, Tryz.ntmps178
    go_wp2
    go_ret
    exact ⟨rfl, rfl⟩
  | false =>
    go_enter Tryz.func178, Tryz.ntmps178
    go_wp2
    go_ret
    exact ⟨rfl, rfl⟩
theorem ov_h_run {lo l x : Nat} {P T G who p : Int} {st : OvSt} {w : World} (hA : (ovM lo l P T G who p).at_ lo l x P T G who w st) :
    Calls Tryz.prog 79 #[.pointer (some ⟨x, 0, none⟩)] w fun e w' => e = .returned (.int .i64 (ovH p st)) ∧ w = w' := by
  obtain ⟨⟨e, hp, hi⟩, _⟩ := hA
  have y1 := hp.rest_ 1
  have y3 := hp.rest_ 3
  have y4 := hp.rest_ 4
  cases st with
  | st b s =>
    have hq : (stS lo l P T G who p b true).at_ w e.1 s := hp.2.1
    (simp only [ovM, ovRest, ovR, Nat.reduceAdd, List.getElem?_cons_zero, List.getElem?_cons_succ] at y1 y3 y4)
    have HG := hid (st_h_run hq)
    generalize hq2 : stH p _ = z at HG
    have HQ := hid hq2.symm
    clear hp hi hq hq2
    go_enter Tryz.func79, Tryz.ntmps79
    go_wp2_with fail
    refine HG.out.mono ?_
    rintro e1 w1 ⟨rfl, rfl⟩
    go_wp2
    go_ret
    exact ⟨by rw [HQ.out]; rfl, rfl⟩
  | fin1 b s =>
    have hq : (stS lo l P T G who p b true).at_ w e.1 s := hi
    (simp only [ovM, ovRest, ovR, Nat.reduceAdd, List.getElem?_cons_zero, List.getElem?_cons_succ] at y1 y3 y4)
    have HG := hid (st_h_run hq)
    generalize hq2 : stH p _ = z at HG
    have HQ := hid hq2.symm
    clear hp hi hq hq2
    go_enter Tryz.func79, Tryz.ntmps79
    go_wp2_with fail
    refine HG.out.mono ?_
    rintro e1 w1 ⟨rfl, rfl⟩
    go_wp2
    go_ret
    exact ⟨by rw [HQ.out]; rfl, rfl⟩
  | put s =>
    have hq : (ppS lo l P T G who p).at_ w e.1 s := hp.2.1
    (simp only [ovM, ovRest, ovR, Nat.reduceAdd, List.getElem?_cons_zero, List.getElem?_cons_succ] at y1 y3 y4)
    have HG := hid (Idlep.pp_h_run hq)
    generalize hq2 : Idlep.PpSt.h p _ = z at HG
    have HQ := hid hq2.symm
    clear hp hi hq hq2
    go_enter Tryz.func79, Tryz.ntmps79
    go_wp2_with fail
    refine HG.out.mono ?_
    rintro e1 w1 ⟨rfl, rfl⟩
    go_wp2
    go_ret
    exact ⟨by rw [HQ.out]; rfl, rfl⟩
  | rel s =>
    have hq : (ppS lo l P T G who p).at_ w e.2.2 .done := hi
    (simp only [ovM, ovRest, ovR, Nat.reduceAdd, List.getElem?_cons_zero, List.getElem?_cons_succ] at y1 y3 y4)
    have HG := hid (Idlep.pp_h_run hq)
    generalize hq2 : Idlep.PpSt.h p _ = z at HG
    have HQ := hid hq2.symm
    clear hp hi hq hq2
    go_enter Tryz.func79, Tryz.ntmps79
    go_wp2_with fail
    refine HG.out.mono ?_
    rintro e1 w1 ⟨rfl, rfl⟩
    go_wp2
    go_ret
    exact ⟨by rw [HQ.out]; rfl, rfl⟩
  | fin2 =>
    have hq : (ppS lo l P T G who p).at_ w e.2.2 .done := hi
    (simp only [ovM, ovRest, ovR, Nat.reduceAdd, List.getElem?_cons_zero, List.getElem?_cons_succ] at y1 y3 y4)
    have HG := hid (Idlep.pp_h_run hq)
    generalize hq2 : Idlep.PpSt.h p _ = z at HG
    have HQ := hid hq2.symm
    clear hp hi hq hq2
    go_enter Tryz.func79, Tryz.ntmps79
    go_wp2_with fail
    refine HG.out.mono ?_
    rintro e1 w1 ⟨rfl, rfl⟩
    go_wp2
    go_ret
    exact ⟨by rw [HQ.out]; rfl, rfl⟩
  | look s => ((simp only [ovM, ovRest, ovR, Nat.reduceAdd, List.getElem?_cons_zero, List.getElem?_cons_succ] at y1 y3 y4); clear hp hi; go_enter Tryz.func79, Tryz.ntmps79; go_wp2; go_ret; exact ⟨rfl, rfl⟩)
  | sz => ((simp only [ovM, ovRest, ovR, Nat.reduceAdd, List.getElem?_cons_zero, List.getElem?_cons_succ] at y1 y3 y4); clear hp hi; go_enter Tryz.func79, Tryz.ntmps79; go_wp2; go_ret; exact ⟨rfl, rfl⟩)
  | sp => ((simp only [ovM, ovRest, ovR, Nat.reduceAdd, List.getElem?_cons_zero, List.getElem?_cons_succ] at y1 y3 y4); clear hp hi; go_enter Tryz.func79, Tryz.ntmps79; go_wp2; go_ret; exact ⟨rfl, rfl⟩)
  | il => ((simp only [ovM, ovRest, ovR, Nat.reduceAdd, List.getElem?_cons_zero, List.getElem?_cons_succ] at y1 y3 y4); clear hp hi; go_enter Tryz.func79, Tryz.ntmps79; go_wp2; go_ret; exact ⟨rfl, rfl⟩)
  | sw => ((simp only [ovM, ovRest, ovR, Nat.reduceAdd, List.getElem?_cons_zero, List.getElem?_cons_succ] at y1 y3 y4); clear hp hi; go_enter Tryz.func79, Tryz.ntmps79; go_wp2; go_ret; exact ⟨rfl, rfl⟩)
  | nd1 => ((simp only [ovM, ovRest, ovR, Nat.reduceAdd, List.getElem?_cons_zero, List.getElem?_cons_succ] at y1 y3 y4); clear hp hi; go_enter Tryz.func79, Tryz.ntmps79; go_wp2; go_ret; exact ⟨rfl, rfl⟩)
  | aqW s => ((simp only [ovM, ovRest, ovR, Nat.reduceAdd, List.getElem?_cons_zero, List.getElem?_cons_succ] at y1 y3 y4); clear hp hi; go_enter Tryz.func79, Tryz.ntmps79; go_wp2; go_ret; exact ⟨rfl, rfl⟩)
  | aqL s => ((simp only [ovM, ovRest, ovR, Nat.reduceAdd, List.getElem?_cons_zero, List.getElem?_cons_succ] at y1 y3 y4); clear hp hi; go_enter Tryz.func79, Tryz.ntmps79; go_wp2; go_ret; exact ⟨rfl, rfl⟩)
  | aqS s => ((simp only [ovM, ovRest, ovR, Nat.reduceAdd, List.getElem?_cons_zero, List.getElem?_cons_succ] at y1 y3 y4); clear hp hi; go_enter Tryz.func79, Tryz.ntmps79; go_wp2; go_ret; exact ⟨rfl, rfl⟩)
  | sz2 => ((simp only [ovM, ovRest, ovR, Nat.reduceAdd, List.getElem?_cons_zero, List.getElem?_cons_succ] at y1 y3 y4); clear hp hi; go_enter Tryz.func79, Tryz.ntmps79; go_wp2; go_ret; exact ⟨rfl, rfl⟩)
  | nd2 => ((simp only [ovM, ovRest, ovR, Nat.reduceAdd, List.getElem?_cons_zero, List.getElem?_cons_succ] at y1 y3 y4); clear hp hi; go_enter Tryz.func79, Tryz.ntmps79; go_wp2; go_ret; exact ⟨rfl, rfl⟩)
  | cnt => ((simp only [ovM, ovRest, ovR, Nat.reduceAdd, List.getElem?_cons_zero, List.getElem?_cons_succ] at y1 y3 y4); clear hp hi; go_enter Tryz.func79, Tryz.ntmps79; go_wp2; go_ret; exact ⟨rfl, rfl⟩)
  | nd3 => ((simp only [ovM, ovRest, ovR, Nat.reduceAdd, List.getElem?_cons_zero, List.getElem?_cons_succ] at y1 y3 y4); clear hp hi; go_enter Tryz.func79, Tryz.ntmps79; go_wp2; go_ret; exact ⟨rfl, rfl⟩)
theorem ov_h_nil (w : World) : Calls Tryz.prog 79 #[.pointer none] w fun e w' => e = .returned (.int .i64 (-1)) ∧ w = w' := by
  go_enter Tryz.func79, Tryz.ntmps79
  go_wp2
  go_ret
  exact ⟨rfl, rfl⟩
theorem ov_c_nil (w : World) : Calls Tryz.prog 178 #[.pointer none] w fun e w' => e = .returned (.bool false) ∧ w = w' := by
  go_enter Tryz.func178, Tryz.ntmps178
  go_wp2
  go_ret
  exact ⟨rfl, rfl⟩
/-- The result's box, filled. -/
theorem DR.set2 {σ : Type} {M : Rsys σ} {got : List Int} {s0 s : σ} {a b : RunSt} {w00 wA w : World} {B r bx rs : Nat} {v : Value} {P T G : Int} {TO : TypeId} {r0 r1 : Value} (h : DI M got s0 a wA w B r bx v P T G b s) (hA : Below w00.heap.size w00 wA) (hres : Blk wA rs [r0, r1] TO) (hr : r < w00.heap.size) (hs : rs = w00.heap.size + 1) (hT : TO ≠ 25) (v0 v1 : Value) :
    RunAt ((w.setCell ⟨rs, 0, none⟩ v0).setCell ⟨rs, 1, none⟩ v1) B r v b ∧ Kept [r] w00 ((w.setCell ⟨rs, 0, none⟩ v0).setCell ⟨rs, 1, none⟩ v1) ∧ Blk ((w.setCell ⟨rs, 0, none⟩ v0).setCell ⟨rs, 1, none⟩ v1) rs [v0, v1] TO := by
  have hrs : rs ≠ r := by omega
  have hresW := hres.kept h.kept (by simpa using hrs)
  have hk : Kept [rs] w ((w.setCell ⟨rs, 0, none⟩ v0).setCell ⟨rs, 1, none⟩ v1) := ((Kept.refl _ _).set (.inl (by simp)) _).set (.inl (by simp)) _
  refine ⟨h.run.kept hk (by simpa using Ne.symm hrs) (by intro i hi; simp at hi; subst hi; exact own_type h.run.grow hresW (fun e => hT e.symm)), ?_, (hresW.set 0 v0).set 1 v1⟩
  exact ((Kept.of_below hA [r]).trans h.kept (by intro i hi; exact .inl hi)).trans hk (by intro i hi; simp at hi; subst hi; exact .inr (by omega))
theorem field19 (a b c : Value) (w : World) : (Instr.field 133 (.agg #[a, b, c]) 0).run Tryz.prog w = .ok a w := by first | kernel_rfl | rfl
theorem rstart25_run (P T G p : Int) (sp : Bool) (B r : Nat) (v : Value) (a : RunSt) (got : List Int) (s0 : StSt) (w : World) (h : RunAt w B r v a) (hg : Fits got a) (hs : a.stop = false → s0 = .get .h) (hP : (0 ≤ P ∧ P ≤ 1000) ∧ 1 ≤ T ∧ T ≤ 1000) :
    Calls Tryz.prog 268 #[.pointer (some ⟨r, 0, none⟩), .agg #[.int .i64 P, .int .i64 T, .int .i64 G], .int .i64 p, .bool sp] w fun e w' => ∃ hh b s1, e = .returned (.agg #[.int .i64 hh, .bool false]) ∧ RunAt w' B r v b ∧ Kept [r] w w' ∧ Ran (stY P T p sp true) got s0 a s1 b ∧ Fits got b ∧ (b.stop = false → (stY P T p sp true).want s1 = none) ∧ (a.stop = false → hh = stH p s1) := by
  have hlt := h.blk.lt
  have hSt := DR.start (M := stY P T p sp true) (P := P) (T := T) (G := G) (TO := 280) h hg s0 [.int .i64 0, .bool false] (by decide)
  obtain ⟨wA, hwA⟩ : ∃ wA, wA = (w.alloc (.cells #[.int .i64 P, .int .i64 T, .int .i64 G] 23)).alloc (.cells #[.int .i64 0, .bool false] 280) := ⟨_, rfl⟩
  have hSt : DI (stY P T p sp true) got s0 a wA wA B r w.heap.size v P T G a s0 ∧ Blk wA (w.heap.size + 1) [.int .i64 0, .bool false] 280 ∧ Below w.heap.size w wA := by rw [hwA]; exact hSt
  have HI := hid hSt.1
  have HRES := hid (And.intro hSt.2.1 (And.intro hSt.2.2 hlt))
  have HP := hid hP
  have HS := hid hs
  obtain ⟨z0, z1, z2, z3⟩ := HI.out.cells
  have HWA := hid hwA
  clear h hg hs hP hSt hlt hwA
  go_enter Tryz.func268, Tryz.ntmps268
  go_wp2_with fail
  rw [← HWA.out]
  refine (rstart19_run P T G p sp true B r v a got s0 wA HI.out.run HI.out.good HS.out HP.out).mono ?_
  rintro e w2 ⟨hh, ht, b, s1, rfl, h1, h2, h3, h4, h5, h6⟩
  have HJ := hid (HI.out.subran h1 h2 h3 h4)
  have hres := HRES.out.1.kept HJ.out.kept (by have := HRES.out.2.2; simp; omega)
  have q5 := hres.cell 0
  have q6 := hres.cell 1
  have qg := hres.frozen
  simp only [List.getElem?_cons_zero, List.getElem?_cons_succ] at q5 q6
  have HY := hid (And.intro h5 h6)
  have HF := hid (DR.set2 HJ.out HRES.out.2.1 HRES.out.1 HRES.out.2.2 rfl (by decide) (.int .i64 hh) (.bool false))
  have hfd := fun w' => field19 (.int .i64 hh) (.int .i64 ht) (.bool false) w'
  clear h1 h2 h3 h4 h5 h6 hres
  go_wp2
  ((try simp only [Exit.inBlock, Exit.then]); refine bodyPost_ret (results_cell_row rfl _ _ _ _ _ _ _ rfl HF.out.2.2 Tryz.underlying280 rfl (by kernel_rfl)) rfl ?_)
  exact ⟨hh, b, s1, rfl, HF.out.1, HF.out.2.1, HJ.out.ran, HJ.out.good, HY.out.1, fun ha => (HY.out.2 ha).1⟩
theorem ov_embK (P T who p : Int) (l : Nat) : Emb (ovY P T who p) (Ring.lkM l P p).sys ovLooked OvSt.look := fun s W h => ⟨h, fun a => rfl⟩
theorem ov_embW (P T who p : Int) (l : Nat) : Emb (ovY P T who p) (aqM l 0 who).sys (fun _ => OvSt.st false (.get .h)) OvSt.aqW := fun s W h => ⟨h, fun a => rfl⟩
theorem ov_embL (P T who p : Int) (l : Nat) : Emb (ovY P T who p) (aqM l 0 who).sys (fun _ => OvSt.sz2) OvSt.aqL := fun s W h => ⟨h, fun a => rfl⟩
theorem ov_embS (P T who p : Int) (l : Nat) : Emb (ovY P T who p) (aqM l 0 who).sys (fun _ => OvSt.st true (.get .h)) OvSt.aqS := fun s W h => ⟨h, fun a => rfl⟩
theorem ov_embT (P T who p : Int) (b : Bool) : Emb (ovY P T who p) (stY P T p b true) (OvSt.fin1 b) (OvSt.st b) := fun s W h => ⟨h, fun a => rfl⟩
theorem ov_embP (P T who p : Int) (l : Nat) : Emb (ovY P T who p) (Idlep.ppM l P p).sys (fun _ => OvSt.rel .puts) OvSt.put := fun s W h => ⟨h, fun a => rfl⟩
theorem ov_embR (P T who p : Int) (l : Nat) : Emb (ovY P T who p) (rlM l 0).sys (fun _ => OvSt.fin2) OvSt.rel := fun s W h => ⟨h, fun a => rfl⟩
theorem osays_L (p who : Int) (l : Nat) (q : AcqSt) : ovH p (runs (aqM l 0 who).sys (fun _ => OvSt.sz2) OvSt.aqL q) = p ∧ ovC (runs (aqM l 0 who).sys (fun _ => OvSt.sz2) OvSt.aqL q) = false := by
  unfold runs
  split <;> exact ⟨rfl, rfl⟩
theorem osays_W (p who : Int) (l : Nat) (q : AcqSt) : ovH p (runs (aqM l 0 who).sys (fun _ => OvSt.st false (.get .h)) OvSt.aqW q) = p ∧ ovC (runs (aqM l 0 who).sys (fun _ => OvSt.st false (.get .h)) OvSt.aqW q) = false := by
  unfold runs
  split <;> exact ⟨rfl, rfl⟩
theorem osays_T (P T p : Int) (b : Bool) (q : StSt) : ovH p (runs (stY P T p b true) (OvSt.fin1 b) (OvSt.st b) q) = stH p q ∧ ovC (runs (stY P T p b true) (OvSt.fin1 b) (OvSt.st b) q) = false := by
  unfold runs
  split <;> exact ⟨rfl, rfl⟩
theorem osays_P (P p : Int) (l : Nat) (q : Idlep.PpSt) : ovH p (runs (Idlep.ppM l P p).sys (fun _ => OvSt.rel .puts) OvSt.put q) = q.h p ∧ ovC (runs (Idlep.ppM l P p).sys (fun _ => OvSt.rel .puts) OvSt.put q) = false := by
  unfold runs
  split
  · rename_i h
    have hd : q.h p = -1 := by cases q <;> first | rfl | (exact absurd h (by intro h; cases h))
    exact ⟨hd.symm, rfl⟩
  · exact ⟨rfl, rfl⟩
theorem osays_R (p : Int) (l : Nat) (q : RlSt) : ovH p (runs (rlM l 0).sys (fun _ => OvSt.fin2) OvSt.rel q) = -1 ∧ ovC (runs (rlM l 0).sys (fun _ => OvSt.fin2) OvSt.rel q) = false := by
  unfold runs
  split <;> exact ⟨rfl, rfl⟩
def OvSays (p : Int) (a : RunSt) (s : OvSt) (h : Int) (c : Bool) : Prop := a.stop = false → h = ovH p s ∧ c = ovC s
theorem rlocked25_run (P T G who p : Int) (B r : Nat) (v : Value) (a : RunSt) (got : List Int) (s0 : OvSt) (w : World) (h : RunAt w B r v a) (hg : Fits got a) (hs : a.stop = false → s0 = .aqL .ask) (ha : a.stop = false) (hP : (0 ≤ P ∧ P ≤ 1000) ∧ 1 ≤ T ∧ T ≤ 1000) (hw : 0 ≤ who ∧ who ≤ 1000) :
    Calls Tryz.prog 269 #[.pointer (some ⟨r, 0, none⟩), .agg #[.int .i64 P, .int .i64 T, .int .i64 G], .int .i64 who, .int .i64 p] w fun e w' => ∃ hh hc b s1, e = .returned (.agg #[.int .i64 hh, .bool hc]) ∧ RunAt w' B r v b ∧ Kept [r] w w' ∧ Ran (ovY P T who p) got s0 a s1 b ∧ Fits got b ∧ (b.stop = false → (ovY P T who p).want s1 = none) ∧ OvSays p a s1 hh hc := by
  have hlt := h.blk.lt
  have hSt := DR.start (M := ovY P T who p) (P := P) (T := T) (G := G) (TO := 280) h hg s0 [.int .i64 0, .bool false] (by decide)
  have hD := DO.start hSt.1 hSt.2.2 hSt.2.1 hlt rfl rfl (by decide) [.int .i64 p, .bool false]
  have hsz : ((w.alloc (.cells #[.int .i64 P, .int .i64 T, .int .i64 G] 23)).alloc (.cells [Value.int .i64 0, .bool false].toArray 280)).heap.size = w.heap.size + 1 + 1 := by simp
  rw [hsz] at hD
  have HI := hid hD
  clear hD hsz
  have HP := hid (And.intro hP.1 (And.intro hP.2 hP.2.2))
  have HS := hid (hs ha)
  have HWH := hid hw
  have HAS := hid ha
  (obtain ⟨z0, z1, z2, z3⟩ := HI.out.di.cells)
  (have q0 := HI.out.out.cell 0; have q1 := HI.out.out.cell 1; have qf := HI.out.out.frozen; have q5 := HI.out.res.cell 0; have q6 := HI.out.res.cell 1; have qg := HI.out.res.frozen; simp only [List.getElem?_cons_zero, List.getElem?_cons_succ, List.set_cons_zero, List.set_cons_succ, List.set_nil] at q0 q1 q5 q6)
  rw [ha] at z3
  clear h hg hs hP hw hSt hlt ha
  go_enter Tryz.func269, Tryz.ntmps269
  go_wp2_with fail
  refine (dacq_run HI.out.di 0 0 who (fun _ => OvSt.sz2) OvSt.aqL (ov_embL P T who p 0) (fun _ => HS.out) (by omega) HWH.out).mono ?_
  rintro e w2 ⟨z, b1, s1, q1, rfl, hI, hp1, _⟩
  have E1 := hid (show (b1.stop = false → s1 = .sz2) ∧ (ovH p s1 = p ∧ ovC s1 = false) from ⟨fun h => (hp1.on h).2, by rw [hp1.mid HAS.out]; exact osays_L p who 0 q1⟩)
  (have HI := hid (HI.out.step hI); clear hI; (obtain ⟨z0, z1, z2, z3⟩ := HI.out.di.cells); (have q0 := HI.out.out.cell 0; have q1 := HI.out.out.cell 1; have qf := HI.out.out.frozen; have q5 := HI.out.res.cell 0; have q6 := HI.out.res.cell 1; have qg := HI.out.res.frozen; simp only [List.getElem?_cons_zero, List.getElem?_cons_succ, List.set_cons_zero, List.set_cons_succ, List.set_nil] at q0 q1 q5 q6))
  clear hp1
  go_wp2_with fail
  refine (dl_run HI.out.di 8 (fun h => by rw [E1.out.1 h, ← w8]; rfl)).mono ?_
  rintro e w3 ⟨b2, s2, x2, rfl, hI, ho2⟩
  have E2 := hid (show (b2.stop = false → s2 = if x2 = 0 then .nd2 else .st false (.get .h)) ∧ (b2.stop = true → ovH p s2 = p ∧ ovC s2 = false) from ⟨fun h => by obtain ⟨h1, h2⟩ := ho2.1 h; rw [h2, E1.out.1 h1]; rfl, fun h => by rw [(ho2.2.2.1 h).1]; exact E1.out.2⟩)
  (have HI := hid (HI.out.step hI); clear hI; (obtain ⟨z0, z1, z2, z3⟩ := HI.out.di.cells); (have q0 := HI.out.out.cell 0; have q1 := HI.out.out.cell 1; have qf := HI.out.out.frozen; have q5 := HI.out.res.cell 0; have q6 := HI.out.res.cell 1; have qg := HI.out.res.frozen; simp only [List.getElem?_cons_zero, List.getElem?_cons_succ, List.set_cons_zero, List.set_cons_succ, List.set_nil] at q0 q1 q5 q6))
  clear ho2
  cases hb2 : b2.stop with
  | true =>
    rw [hb2] at z3
    have HZ := hid (And.intro hb2 (E2.out.2 hb2))
    clear hb2
    go_wp2
    ((try simp only [Exit.inBlock, Exit.then]); refine bodyPost_ret (results_cell_row rfl _ _ _ _ _ _ _ rfl ((HI.out.setR 0 _).setR 1 _).res Tryz.underlying280 rfl (by kernel_rfl)) rfl ?_)
    exact ⟨p, false, b2, s2, rfl, ((HI.out.setR 0 _).setR 1 _).di.run, ((HI.out.setR 0 _).setR 1 _).kept, HI.out.di.ran, HI.out.di.good, fun h => absurd (HZ.out.1.symm.trans h) (by simp), fun _ => ⟨HZ.out.2.1.symm, HZ.out.2.2.symm⟩⟩
  | false =>
    rw [hb2] at z3
    have HZ := hid hb2
    by_cases hx : x2 = 0
    case neg =>
      have hx1 : ((x2 : Int) != 0) = true := by simpa using hx
      have HG := hid (show s2 = .st false (.get .h) by rw [E2.out.1 hb2, if_neg hx])
      clear hx hb2
      -- a thread is started: HG tells the state, HZ that nothing stopped
      go_wp2_with fail
      refine (rstart25_run P T G p false B r v b2 got (.get .h) _ HI.out.di.run HI.out.di.good (fun _ => rfl) ⟨HP.out.1, HP.out.2.1⟩).mono ?_
      rintro e w9 ⟨hh, b9, q9, rfl, h1, h2, h3, h4, h5, h6⟩
      obtain ⟨s9, hI, hp9⟩ := past_of (OvSt.fin1 false) (OvSt.st false) (ov_embT P T who p false) HI.out.di h1 h2 h3 h4 (fun _ => by rw [HG.out]; exact (runs_on (M := stY P T p false true) (s := StSt.get .h) (fun h => by cases h)).symm) h5
      have HY := hid (show (b9.stop = false → (ovY P T who p).want s9 = none) ∧ hh = ovH p s9 ∧ false = ovC s9 from ⟨fun h => by rw [(hp9.on h).2]; rfl, by rw [hp9.mid HZ.out]; have := osays_T P T p false q9; exact ⟨by rw [this.1]; exact h6 HZ.out, this.2.symm⟩⟩)
      (have HI := hid (HI.out.step hI); clear hI; (obtain ⟨z0, z1, z2, z3⟩ := HI.out.di.cells); (have q0 := HI.out.out.cell 0; have q1 := HI.out.out.cell 1; have qf := HI.out.out.frozen; have q5 := HI.out.res.cell 0; have q6 := HI.out.res.cell 1; have qg := HI.out.res.frozen; simp only [List.getElem?_cons_zero, List.getElem?_cons_succ, List.set_cons_zero, List.set_cons_succ, List.set_nil] at q0 q1 q5 q6))
      clear h1 h2 h3 h4 h5 h6 hp9
      go_wp2
      ((try simp only [Exit.inBlock, Exit.then]); refine bodyPost_ret (results_cell_row rfl _ _ _ _ _ _ _ rfl ((HI.out.setR 0 _).setR 1 _).res Tryz.underlying280 rfl (by kernel_rfl)) rfl ?_)
      exact ⟨hh, false, b9, s9, rfl, ((HI.out.setR 0 _).setR 1 _).di.run, ((HI.out.setR 0 _).setR 1 _).kept, HI.out.di.ran, HI.out.di.good, HY.out.1, fun _ => HY.out.2⟩
    subst hx
    have HS2 := hid (show s2 = .nd2 from E2.out.1 hb2)
    clear hb2 E1 E2
    go_wp2_with fail
    refine (dl_run HI.out.di 14 (fun h => by rw [HS2.out, ← w14]; rfl)).mono ?_
    rintro e w4 ⟨b3, s3, x3, rfl, hI, ho3⟩
    have E3 := hid (show (b3.stop = false → s3 = if x3 = 0 then .put .a else .cnt) ∧ (b3.stop = true → s3 = .nd2) from ⟨fun h => by obtain ⟨h1, h2⟩ := ho3.1 h; rw [h2, HS2.out]; rfl, fun h => by rw [(ho3.2.2.1 h).1]; exact HS2.out⟩)
    (have HI := hid (HI.out.step hI); clear hI; (obtain ⟨z0, z1, z2, z3⟩ := HI.out.di.cells); (have q0 := HI.out.out.cell 0; have q1 := HI.out.out.cell 1; have qf := HI.out.out.frozen; have q5 := HI.out.res.cell 0; have q6 := HI.out.res.cell 1; have qg := HI.out.res.frozen; simp only [List.getElem?_cons_zero, List.getElem?_cons_succ, List.set_cons_zero, List.set_cons_succ, List.set_nil] at q0 q1 q5 q6))
    clear ho3 HZ
    cases hb3 : b3.stop with
    | true =>
      rw [hb3] at z3
      have HZ := hid (And.intro hb3 (E3.out.2 hb3))
      clear hb3
      go_wp2
      ((try simp only [Exit.inBlock, Exit.then]); refine bodyPost_ret (results_cell_row rfl _ _ _ _ _ _ _ rfl ((HI.out.setR 0 _).setR 1 _).res Tryz.underlying280 rfl (by kernel_rfl)) rfl ?_)
      exact ⟨p, false, b3, s3, rfl, ((HI.out.setR 0 _).setR 1 _).di.run, ((HI.out.setR 0 _).setR 1 _).kept, HI.out.di.ran, HI.out.di.good, fun h => absurd (HZ.out.1.symm.trans h) (by simp), fun _ => by rw [HZ.out.2]; exact ⟨rfl, rfl⟩⟩
    | false =>
      rw [hb3] at z3
      have HZ := hid hb3
      by_cases hx : x3 = 0
      case neg =>
        have hx1 : ((x3 : Int) != 0) = true := by simpa using hx
        have HS3 := hid (show s3 = .cnt by rw [E3.out.1 hb3, if_neg hx])
        clear hx hb3 E3
        go_wp2_with fail
        refine (da_run HI.out.di 13 1 (fun h => by rw [HS3.out, ← w13]; rfl)).mono ?_
        rintro e w5 ⟨b4, s4, x4, rfl, hI, ho4⟩
        have E4 := hid (show (b4.stop = false → s4 = .nd3) ∧ (b4.stop = true → s4 = .cnt) from ⟨fun h => by obtain ⟨h1, h2⟩ := ho4.1 h; rw [h2, HS3.out]; rfl, fun h => by rw [(ho4.2.2.1 h).1]; exact HS3.out⟩)
        (have HI := hid (HI.out.step hI); clear hI; (obtain ⟨z0, z1, z2, z3⟩ := HI.out.di.cells); (have q0 := HI.out.out.cell 0; have q1 := HI.out.out.cell 1; have qf := HI.out.out.frozen; have q5 := HI.out.res.cell 0; have q6 := HI.out.res.cell 1; have qg := HI.out.res.frozen; simp only [List.getElem?_cons_zero, List.getElem?_cons_succ, List.set_cons_zero, List.set_cons_succ, List.set_nil] at q0 q1 q5 q6))
        have HI := hid (HI.out.setO 1 (.bool (!b4.stop)))
        (obtain ⟨z0, z1, z2, z3⟩ := HI.out.di.cells)
        (have q0 := HI.out.out.cell 0; have q1 := HI.out.out.cell 1; have qf := HI.out.out.frozen; have q5 := HI.out.res.cell 0; have q6 := HI.out.res.cell 1; have qg := HI.out.res.frozen; simp only [List.getElem?_cons_zero, List.getElem?_cons_succ, List.set_cons_zero, List.set_cons_succ, List.set_nil] at q0 q1 q5 q6)
        clear ho4 HZ
        go_wp2_with fail
        refine (ds_run HI.out.di 14 0 (fun h => by rw [E4.out.1 h, ← w14]; rfl)).mono ?_
        rintro e w6 ⟨rfl, b5, s5, x5, hI, ho5⟩
        have E5 := hid (show (b5.stop = false → s5 = .st true (.get .h) ∧ b4.stop = false) ∧ (b5.stop = true → ovH p s5 = p ∧ (!b4.stop) = ovC s5) from by
          refine ⟨fun h => by obtain ⟨h1, h2⟩ := ho5.1 h; exact ⟨by rw [h2, E4.out.1 h1]; rfl, h1⟩, fun h => ?_⟩
          rw [(ho5.2.2.1 h).1]
          cases hb : b4.stop with
          | false => rw [E4.out.1 hb]; exact ⟨rfl, rfl⟩
          | true => rw [E4.out.2 hb]; exact ⟨rfl, rfl⟩)
        (have HI := hid (HI.out.step hI); clear hI; (obtain ⟨z0, z1, z2, z3⟩ := HI.out.di.cells); (have q0 := HI.out.out.cell 0; have q1 := HI.out.out.cell 1; have qf := HI.out.out.frozen; have q5 := HI.out.res.cell 0; have q6 := HI.out.res.cell 1; have qg := HI.out.res.frozen; simp only [List.getElem?_cons_zero, List.getElem?_cons_succ, List.set_cons_zero, List.set_cons_succ, List.set_nil] at q0 q1 q5 q6))
        clear ho5
        cases hb5 : b5.stop with
        | true =>
          rw [hb5] at z3
          have HZ := hid (And.intro hb5 (E5.out.2 hb5))
          clear hb5
          go_wp2
          ((try simp only [Exit.inBlock, Exit.then]); refine bodyPost_ret (results_cell_row rfl _ _ _ _ _ _ _ rfl ((HI.out.setR 0 _).setR 1 _).res Tryz.underlying280 rfl (by kernel_rfl)) rfl ?_)
          exact ⟨p, !b4.stop, b5, s5, rfl, ((HI.out.setR 0 _).setR 1 _).di.run, ((HI.out.setR 0 _).setR 1 _).kept, HI.out.di.ran, HI.out.di.good, fun h => absurd (HZ.out.1.symm.trans h) (by simp), fun _ => ⟨HZ.out.2.1.symm, HZ.out.2.2⟩⟩
        | false =>
          rw [hb5] at z3
          have HZ := hid hb5
          have HG := hid (E5.out.1 hb5).1
          clear hb5 E4 E5
          -- a thread is started: HG tells the state, HZ that nothing stopped
          go_wp2_with fail
          refine (rstart25_run P T G p true B r v b5 got (.get .h) _ HI.out.di.run HI.out.di.good (fun _ => rfl) ⟨HP.out.1, HP.out.2.1⟩).mono ?_
          rintro e w9 ⟨hh, b9, q9, rfl, h1, h2, h3, h4, h5, h6⟩
          obtain ⟨s9, hI, hp9⟩ := past_of (OvSt.fin1 true) (OvSt.st true) (ov_embT P T who p true) HI.out.di h1 h2 h3 h4 (fun _ => by rw [HG.out]; exact (runs_on (M := stY P T p true true) (s := StSt.get .h) (fun h => by cases h)).symm) h5
          have HY := hid (show (b9.stop = false → (ovY P T who p).want s9 = none) ∧ hh = ovH p s9 ∧ false = ovC s9 from ⟨fun h => by rw [(hp9.on h).2]; rfl, by rw [hp9.mid HZ.out]; have := osays_T P T p true q9; exact ⟨by rw [this.1]; exact h6 HZ.out, this.2.symm⟩⟩)
          (have HI := hid (HI.out.step hI); clear hI; (obtain ⟨z0, z1, z2, z3⟩ := HI.out.di.cells); (have q0 := HI.out.out.cell 0; have q1 := HI.out.out.cell 1; have qf := HI.out.out.frozen; have q5 := HI.out.res.cell 0; have q6 := HI.out.res.cell 1; have qg := HI.out.res.frozen; simp only [List.getElem?_cons_zero, List.getElem?_cons_succ, List.set_cons_zero, List.set_cons_succ, List.set_nil] at q0 q1 q5 q6))
          clear h1 h2 h3 h4 h5 h6 hp9
          go_wp2
          ((try simp only [Exit.inBlock, Exit.then]); refine bodyPost_ret (results_cell_row rfl _ _ _ _ _ _ _ rfl ((HI.out.setR 0 _).setR 1 _).res Tryz.underlying280 rfl (by kernel_rfl)) rfl ?_)
          exact ⟨hh, false, b9, s9, rfl, ((HI.out.setR 0 _).setR 1 _).di.run, ((HI.out.setR 0 _).setR 1 _).kept, HI.out.di.ran, HI.out.di.good, HY.out.1, fun _ => HY.out.2⟩
      subst hx
      have HS3 := hid (show s3 = .put .a from E3.out.1 hb3)
      clear hb3 E3
      go_wp2_with fail
      refine (dpput_run HI.out.di 0 p (fun _ => OvSt.rel .puts) OvSt.put (ov_embP P T who p 0) (fun _ => HS3.out) HP.out.1).mono ?_
      rintro e w5 ⟨h4, b4, s4, q4, rfl, hI, hp4, hh4⟩
      have E4 := hid (show (b4.stop = false → s4 = .rel .puts) ∧ (h4 = ovH p s4 ∧ false = ovC s4) from ⟨fun h => (hp4.on h).2, by rw [hp4.mid HZ.out]; have := osays_P P p 0 q4; exact ⟨by rw [this.1]; exact hh4 HZ.out, this.2.symm⟩⟩)
      (have HI := hid (HI.out.step hI); clear hI; (obtain ⟨z0, z1, z2, z3⟩ := HI.out.di.cells); (have q0 := HI.out.out.cell 0; have q1 := HI.out.out.cell 1; have qf := HI.out.out.frozen; have q5 := HI.out.res.cell 0; have q6 := HI.out.res.cell 1; have qg := HI.out.res.frozen; simp only [List.getElem?_cons_zero, List.getElem?_cons_succ, List.set_cons_zero, List.set_cons_succ, List.set_nil] at q0 q1 q5 q6))
      have HI := hid (HI.out.setO 0 (.int .i64 h4))
      (obtain ⟨z0, z1, z2, z3⟩ := HI.out.di.cells)
      (have q0 := HI.out.out.cell 0; have q1 := HI.out.out.cell 1; have qf := HI.out.out.frozen; have q5 := HI.out.res.cell 0; have q6 := HI.out.res.cell 1; have qg := HI.out.res.frozen; simp only [List.getElem?_cons_zero, List.getElem?_cons_succ, List.set_cons_zero, List.set_cons_succ, List.set_nil] at q0 q1 q5 q6)
      clear hp4 hh4
      go_wp2_with fail
      refine (drel_run HI.out.di 0 0 (fun _ => OvSt.fin2) OvSt.rel (ov_embR P T who p 0) E4.out.1 (by omega)).mono ?_
      rintro e w6 ⟨rfl, b5, s5, q5, hI, hp5, _⟩
      have HY := hid (show (b5.stop = false → (ovY P T who p).want s5 = none) ∧ (h4 = ovH p s5 ∧ false = ovC s5) from ⟨fun h => by rw [(hp5.on h).2]; rfl, by
        cases hb : b4.stop with
        | true => rw [(hp5.off hb).1]; exact E4.out.2
        | false => rw [hp5.mid hb]; have := osays_R p 0 q5; exact ⟨by rw [this.1, E4.out.2.1, E4.out.1 hb]; rfl, this.2.symm⟩⟩)
      (have HI := hid (HI.out.step hI); clear hI; (obtain ⟨z0, z1, z2, z3⟩ := HI.out.di.cells); (have q0 := HI.out.out.cell 0; have q1 := HI.out.out.cell 1; have qf := HI.out.out.frozen; have q5 := HI.out.res.cell 0; have q6 := HI.out.res.cell 1; have qg := HI.out.res.frozen; simp only [List.getElem?_cons_zero, List.getElem?_cons_succ, List.set_cons_zero, List.set_cons_succ, List.set_nil] at q0 q1 q5 q6))
      clear hp5
      go_wp2
      ((try simp only [Exit.inBlock, Exit.then]); refine bodyPost_ret (results_cell_row rfl _ _ _ _ _ _ _ rfl ((HI.out.setR 0 _).setR 1 _).res Tryz.underlying280 rfl (by kernel_rfl)) rfl ?_)
      exact ⟨h4, false, b5, s5, rfl, ((HI.out.setR 0 _).setR 1 _).di.run, ((HI.out.setR 0 _).setR 1 _).kept, HI.out.di.ran, HI.out.di.good, HY.out.1, fun _ => HY.out.2⟩
theorem osays_K (P p : Int) (l : Nat) (q : Ring.LkSt) : ovH p (runs (Ring.lkM l P p).sys ovLooked OvSt.look q) = p ∧ ovC (runs (Ring.lkM l P p).sys ovLooked OvSt.look q) = false := by
  unfold runs ovLooked
  split
  · split <;> exact ⟨rfl, rfl⟩
  · exact ⟨rfl, rfl⟩
theorem rover25_run (P T G who p : Int) (B r : Nat) (v : Value) (a : RunSt) (got : List Int) (s0 : OvSt) (w : World) (h : RunAt w B r v a) (hg : Fits got a) (hs : a.stop = false → s0 = .look .h) (ha : a.stop = false) (hP : (0 ≤ P ∧ P ≤ 1000) ∧ 1 ≤ T ∧ T ≤ 1000) (hw : 0 ≤ who ∧ who ≤ 1000) :
    Calls Tryz.prog 236 #[.pointer (some ⟨r, 0, none⟩), .agg #[.int .i64 P, .int .i64 T, .int .i64 G], .int .i64 who, .int .i64 p] w fun e w' => ∃ hh hc b s1, e = .returned (.agg #[.int .i64 hh, .bool hc]) ∧ RunAt w' B r v b ∧ Kept [r] w w' ∧ Ran (ovY P T who p) got s0 a s1 b ∧ Fits got b ∧ (b.stop = false → (ovY P T who p).want s1 = none) ∧ OvSays p a s1 hh hc := by
  have hlt := h.blk.lt
  have hSt := DR.start (M := ovY P T who p) (P := P) (T := T) (G := G) (TO := 280) h hg s0 [.int .i64 0, .bool false] (by decide)
  have hD := DO.start hSt.1 hSt.2.2 hSt.2.1 hlt rfl rfl (by decide) [.int .i64 p, .bool false]
  have hsz : ((w.alloc (.cells #[.int .i64 P, .int .i64 T, .int .i64 G] 23)).alloc (.cells [Value.int .i64 0, .bool false].toArray 280)).heap.size = w.heap.size + 1 + 1 := by simp
  rw [hsz] at hD
  have HI := hid hD
  clear hD hsz
  have HP := hid (And.intro hP.1 (And.intro hP.2 hP.2.2))
  have HS := hid (hs ha)
  have HWH := hid hw
  have HAS := hid ha
  (obtain ⟨z0, z1, z2, z3⟩ := HI.out.di.cells)
  (have q0 := HI.out.out.cell 0; have q1 := HI.out.out.cell 1; have qf := HI.out.out.frozen; have q5 := HI.out.res.cell 0; have q6 := HI.out.res.cell 1; have qg := HI.out.res.frozen; simp only [List.getElem?_cons_zero, List.getElem?_cons_succ, List.set_cons_zero, List.set_cons_succ, List.set_nil] at q0 q1 q5 q6)
  rw [ha] at z3
  clear h hg hs hP hw hSt hlt ha
  go_enter Tryz.func236, Tryz.ntmps236
  go_wp2_with fail
  refine (Ring.rlook_run 0 P T G p B r v a got .h _ HI.out.di.run HI.out.di.good (fun _ => rfl) HP.out.1).mono ?_
  rintro e w2 ⟨q, b1, q1, rfl, h1, h2, h3, h4, h5, h6⟩
  obtain ⟨s1, hI, hp1⟩ := past_of ovLooked OvSt.look (ov_embK P T who p 0) HI.out.di h1 h2 h3 h4 (fun _ => by rw [HS.out]; exact (runs_on (M := (Ring.lkM 0 P p).sys) (s := Ring.LkSt.h) (fun h => by cases h)).symm) (fun h => (h5 h).1)
  have E1 := hid (show (b1.stop = false → s1 = if q = true then .sz else .aqW .ask) ∧ (ovH p s1 = p ∧ ovC s1 = false) from ⟨fun h => by rw [(hp1.on h).2, (h5 h).2]; rfl, by rw [hp1.mid HAS.out]; exact osays_K P p 0 q1⟩)
  (have HI := hid (HI.out.step hI); clear hI; (obtain ⟨z0, z1, z2, z3⟩ := HI.out.di.cells); (have q0 := HI.out.out.cell 0; have q1 := HI.out.out.cell 1; have qf := HI.out.out.frozen; have q5 := HI.out.res.cell 0; have q6 := HI.out.res.cell 1; have qg := HI.out.res.frozen; simp only [List.getElem?_cons_zero, List.getElem?_cons_succ, List.set_cons_zero, List.set_cons_succ, List.set_nil] at q0 q1 q5 q6))
  clear hp1 h1 h2 h3 h4 h5 h6
  cases hb1 : b1.stop with
  | true =>
    rw [hb1] at z3
    have HZ := hid hb1
    clear hb1
    go_wp2
    ((try simp only [Exit.inBlock, Exit.then]); refine bodyPost_ret (results_cell_row rfl _ _ _ _ _ _ _ rfl ((HI.out.setR 0 _).setR 1 _).res Tryz.underlying280 rfl (by kernel_rfl)) rfl ?_)
    exact ⟨p, false, b1, s1, rfl, ((HI.out.setR 0 _).setR 1 _).di.run, ((HI.out.setR 0 _).setR 1 _).kept, HI.out.di.ran, HI.out.di.good, fun h => absurd (HZ.out.symm.trans h) (by simp), fun _ => ⟨E1.out.2.1.symm, E1.out.2.2.symm⟩⟩
  | false =>
    rw [hb1] at z3
    have HZ := hid hb1
    cases q with
    | false =>
      have HG := hid (show s1 = .aqW .ask from E1.out.1 hb1)
      clear hb1 E1
      go_wp2_with fail
      refine (dacq_run HI.out.di 0 0 who (fun _ => OvSt.st false (.get .h)) OvSt.aqW (ov_embW P T who p 0) (fun _ => HG.out) (by omega) HWH.out).mono ?_
      rintro e w8 ⟨z8, b8, s8, q8, rfl, hI, hp8, _⟩
      have E8 := hid (show (b8.stop = false → s8 = .st false (.get .h)) ∧ (ovH p s8 = p ∧ ovC s8 = false) from ⟨fun h => (hp8.on h).2, by rw [hp8.mid HZ.out]; exact osays_W p who 0 q8⟩)
      (have HI := hid (HI.out.step hI); clear hI; (obtain ⟨z0, z1, z2, z3⟩ := HI.out.di.cells); (have q0 := HI.out.out.cell 0; have q1 := HI.out.out.cell 1; have qf := HI.out.out.frozen; have q5 := HI.out.res.cell 0; have q6 := HI.out.res.cell 1; have qg := HI.out.res.frozen; simp only [List.getElem?_cons_zero, List.getElem?_cons_succ, List.set_cons_zero, List.set_cons_succ, List.set_nil] at q0 q1 q5 q6))
      clear hp8 HG HZ
      cases hb8 : b8.stop with
      | true =>
        rw [hb8] at z3
        have HZ := hid hb8
        clear hb8
        go_wp2
        ((try simp only [Exit.inBlock, Exit.then]); refine bodyPost_ret (results_cell_row rfl _ _ _ _ _ _ _ rfl ((HI.out.setR 0 _).setR 1 _).res Tryz.underlying280 rfl (by kernel_rfl)) rfl ?_)
        exact ⟨p, false, b8, s8, rfl, ((HI.out.setR 0 _).setR 1 _).di.run, ((HI.out.setR 0 _).setR 1 _).kept, HI.out.di.ran, HI.out.di.good, fun h => absurd (HZ.out.symm.trans h) (by simp), fun _ => ⟨E8.out.2.1.symm, E8.out.2.2.symm⟩⟩
      | false =>
        rw [hb8] at z3
        have HZ := hid hb8
        have HG := hid (E8.out.1 hb8)
        clear hb8 E8
        -- a thread is started: HG tells the state, HZ that nothing stopped
        go_wp2_with fail
        refine (rstart25_run P T G p false B r v b8 got (.get .h) _ HI.out.di.run HI.out.di.good (fun _ => rfl) ⟨HP.out.1, HP.out.2.1⟩).mono ?_
        rintro e w9 ⟨hh, b9, q9, rfl, h1, h2, h3, h4, h5, h6⟩
        obtain ⟨s9, hI, hp9⟩ := past_of (OvSt.fin1 false) (OvSt.st false) (ov_embT P T who p false) HI.out.di h1 h2 h3 h4 (fun _ => by rw [HG.out]; exact (runs_on (M := stY P T p false true) (s := StSt.get .h) (fun h => by cases h)).symm) h5
        have HY := hid (show (b9.stop = false → (ovY P T who p).want s9 = none) ∧ hh = ovH p s9 ∧ false = ovC s9 from ⟨fun h => by rw [(hp9.on h).2]; rfl, by rw [hp9.mid HZ.out]; have := osays_T P T p false q9; exact ⟨by rw [this.1]; exact h6 HZ.out, this.2.symm⟩⟩)
        (have HI := hid (HI.out.step hI); clear hI; (obtain ⟨z0, z1, z2, z3⟩ := HI.out.di.cells); (have q0 := HI.out.out.cell 0; have q1 := HI.out.out.cell 1; have qf := HI.out.out.frozen; have q5 := HI.out.res.cell 0; have q6 := HI.out.res.cell 1; have qg := HI.out.res.frozen; simp only [List.getElem?_cons_zero, List.getElem?_cons_succ, List.set_cons_zero, List.set_cons_succ, List.set_nil] at q0 q1 q5 q6))
        clear h1 h2 h3 h4 h5 h6 hp9
        go_wp2
        ((try simp only [Exit.inBlock, Exit.then]); refine bodyPost_ret (results_cell_row rfl _ _ _ _ _ _ _ rfl ((HI.out.setR 0 _).setR 1 _).res Tryz.underlying280 rfl (by kernel_rfl)) rfl ?_)
        exact ⟨hh, false, b9, s9, rfl, ((HI.out.setR 0 _).setR 1 _).di.run, ((HI.out.setR 0 _).setR 1 _).kept, HI.out.di.ran, HI.out.di.good, HY.out.1, fun _ => HY.out.2⟩
    | true =>
      have HS1 := hid (show s1 = .sz from E1.out.1 hb1)
      clear hb1 E1 HZ
      go_wp2_with fail
      refine (dl_run HI.out.di 8 (fun h => by rw [HS1.out, ← w8]; rfl)).mono ?_
      rintro e w3 ⟨b2, s2, x2, rfl, hI, ho2⟩
      have E2 := hid (show (b2.stop = false → s2 = if x2 = 0 then .sp else .aqW .ask) ∧ (b2.stop = true → s2 = .sz ∧ x2 = 0) from ⟨fun h => by obtain ⟨h1, h2⟩ := ho2.1 h; rw [h2, HS1.out]; rfl, fun h => ⟨by rw [(ho2.2.2.1 h).1]; exact HS1.out, (ho2.2.2.1 h).2⟩⟩)
      (have HI := hid (HI.out.step hI); clear hI; (obtain ⟨z0, z1, z2, z3⟩ := HI.out.di.cells); (have q0 := HI.out.out.cell 0; have q1 := HI.out.out.cell 1; have qf := HI.out.out.frozen; have q5 := HI.out.res.cell 0; have q6 := HI.out.res.cell 1; have qg := HI.out.res.frozen; simp only [List.getElem?_cons_zero, List.getElem?_cons_succ, List.set_cons_zero, List.set_cons_succ, List.set_nil] at q0 q1 q5 q6))
      clear ho2
      by_cases hx : x2 = 0
      case neg =>
        have hx1 : ((x2 : Int) != 0) = true := by simpa using hx
        have hb2 : b2.stop = false := by
          cases hb : b2.stop with
          | false => rfl
          | true => exact absurd (E2.out.2 hb).2 hx
        rw [hb2] at z3
        have HZ := hid hb2
        have HG := hid (show s2 = .aqW .ask by rw [E2.out.1 hb2, if_neg hx])
        clear hb2 E2 hx
        go_wp2_with fail
        refine (dacq_run HI.out.di 0 0 who (fun _ => OvSt.st false (.get .h)) OvSt.aqW (ov_embW P T who p 0) (fun _ => HG.out) (by omega) HWH.out).mono ?_
        rintro e w8 ⟨z8, b8, s8, q8, rfl, hI, hp8, _⟩
        have E8 := hid (show (b8.stop = false → s8 = .st false (.get .h)) ∧ (ovH p s8 = p ∧ ovC s8 = false) from ⟨fun h => (hp8.on h).2, by rw [hp8.mid HZ.out]; exact osays_W p who 0 q8⟩)
        (have HI := hid (HI.out.step hI); clear hI; (obtain ⟨z0, z1, z2, z3⟩ := HI.out.di.cells); (have q0 := HI.out.out.cell 0; have q1 := HI.out.out.cell 1; have qf := HI.out.out.frozen; have q5 := HI.out.res.cell 0; have q6 := HI.out.res.cell 1; have qg := HI.out.res.frozen; simp only [List.getElem?_cons_zero, List.getElem?_cons_succ, List.set_cons_zero, List.set_cons_succ, List.set_nil] at q0 q1 q5 q6))
        clear hp8 HG HZ
        cases hb8 : b8.stop with
        | true =>
          rw [hb8] at z3
          have HZ := hid hb8
          clear hb8
          go_wp2
          ((try simp only [Exit.inBlock, Exit.then]); refine bodyPost_ret (results_cell_row rfl _ _ _ _ _ _ _ rfl ((HI.out.setR 0 _).setR 1 _).res Tryz.underlying280 rfl (by kernel_rfl)) rfl ?_)
          exact ⟨p, false, b8, s8, rfl, ((HI.out.setR 0 _).setR 1 _).di.run, ((HI.out.setR 0 _).setR 1 _).kept, HI.out.di.ran, HI.out.di.good, fun h => absurd (HZ.out.symm.trans h) (by simp), fun _ => ⟨E8.out.2.1.symm, E8.out.2.2.symm⟩⟩
        | false =>
          rw [hb8] at z3
          have HZ := hid hb8
          have HG := hid (E8.out.1 hb8)
          clear hb8 E8
          -- a thread is started: HG tells the state, HZ that nothing stopped
          go_wp2_with fail
          refine (rstart25_run P T G p false B r v b8 got (.get .h) _ HI.out.di.run HI.out.di.good (fun _ => rfl) ⟨HP.out.1, HP.out.2.1⟩).mono ?_
          rintro e w9 ⟨hh, b9, q9, rfl, h1, h2, h3, h4, h5, h6⟩
          obtain ⟨s9, hI, hp9⟩ := past_of (OvSt.fin1 false) (OvSt.st false) (ov_embT P T who p false) HI.out.di h1 h2 h3 h4 (fun _ => by rw [HG.out]; exact (runs_on (M := stY P T p false true) (s := StSt.get .h) (fun h => by cases h)).symm) h5
          have HY := hid (show (b9.stop = false → (ovY P T who p).want s9 = none) ∧ hh = ovH p s9 ∧ false = ovC s9 from ⟨fun h => by rw [(hp9.on h).2]; rfl, by rw [hp9.mid HZ.out]; have := osays_T P T p false q9; exact ⟨by rw [this.1]; exact h6 HZ.out, this.2.symm⟩⟩)
          (have HI := hid (HI.out.step hI); clear hI; (obtain ⟨z0, z1, z2, z3⟩ := HI.out.di.cells); (have q0 := HI.out.out.cell 0; have q1 := HI.out.out.cell 1; have qf := HI.out.out.frozen; have q5 := HI.out.res.cell 0; have q6 := HI.out.res.cell 1; have qg := HI.out.res.frozen; simp only [List.getElem?_cons_zero, List.getElem?_cons_succ, List.set_cons_zero, List.set_cons_succ, List.set_nil] at q0 q1 q5 q6))
          clear h1 h2 h3 h4 h5 h6 hp9
          go_wp2
          ((try simp only [Exit.inBlock, Exit.then]); refine bodyPost_ret (results_cell_row rfl _ _ _ _ _ _ _ rfl ((HI.out.setR 0 _).setR 1 _).res Tryz.underlying280 rfl (by kernel_rfl)) rfl ?_)
          exact ⟨hh, false, b9, s9, rfl, ((HI.out.setR 0 _).setR 1 _).di.run, ((HI.out.setR 0 _).setR 1 _).kept, HI.out.di.ran, HI.out.di.good, HY.out.1, fun _ => HY.out.2⟩
      subst hx
      cases hb2 : b2.stop with
      | true =>
        rw [hb2] at z3
        have HZ := hid (And.intro hb2 (E2.out.2 hb2).1)
        clear hb2
        go_wp2
        ((try simp only [Exit.inBlock, Exit.then]); refine bodyPost_ret (results_cell_row rfl _ _ _ _ _ _ _ rfl ((HI.out.setR 0 _).setR 1 _).res Tryz.underlying280 rfl (by kernel_rfl)) rfl ?_)
        exact ⟨p, false, b2, s2, rfl, ((HI.out.setR 0 _).setR 1 _).di.run, ((HI.out.setR 0 _).setR 1 _).kept, HI.out.di.ran, HI.out.di.good, fun h => absurd (HZ.out.1.symm.trans h) (by simp), fun _ => by rw [HZ.out.2]; exact ⟨rfl, rfl⟩⟩
      | false =>
        rw [hb2] at z3
        have HS2 := hid (show s2 = .sp from E2.out.1 hb2)
        clear hb2 E2
        go_wp2_with fail
        refine (dl_run HI.out.di 13 (fun h => by rw [HS2.out, ← w13]; rfl)).mono ?_
        rintro e w4 ⟨b3, s3, x3, rfl, hI, ho3⟩
        have E3 := hid (show (b3.stop = false → s3 = if x3 = 0 then .il else .aqL .ask) ∧ (b3.stop = true → s3 = .sp ∧ x3 = 0) from ⟨fun h => by obtain ⟨h1, h2⟩ := ho3.1 h; rw [h2, HS2.out]; rfl, fun h => ⟨by rw [(ho3.2.2.1 h).1]; exact HS2.out, (ho3.2.2.1 h).2⟩⟩)
        (have HI := hid (HI.out.step hI); clear hI; (obtain ⟨z0, z1, z2, z3⟩ := HI.out.di.cells); (have q0 := HI.out.out.cell 0; have q1 := HI.out.out.cell 1; have qf := HI.out.out.frozen; have q5 := HI.out.res.cell 0; have q6 := HI.out.res.cell 1; have qg := HI.out.res.frozen; simp only [List.getElem?_cons_zero, List.getElem?_cons_succ, List.set_cons_zero, List.set_cons_succ, List.set_nil] at q0 q1 q5 q6))
        clear ho3
        by_cases hx : x3 = 0
        case neg =>
          have hx1 : ((x3 : Int) == 0) = false := by simpa using hx
          have hb3 : b3.stop = false := by
            cases hb : b3.stop with
            | false => rfl
            | true => exact absurd (E3.out.2 hb).2 hx
          rw [hb3] at z3
          have HZ := hid hb3
          have HG := hid (show s3 = .aqL .ask by rw [E3.out.1 hb3, if_neg hx])
          clear hb3 E3 hx
          go_wp2_with fail
          refine (rlocked25_run P T G who p B r v b3 got (.aqL .ask) _ HI.out.di.run HI.out.di.good (fun _ => rfl) HZ.out ⟨HP.out.1, HP.out.2.1⟩ HWH.out).mono ?_
          rintro e w9 ⟨hh, hc, b9, s9, rfl, h1, h2, h3, h4, h5, h6⟩
          have hI := HI.out.di.subran h1 h2 (by rw [HG.out]; exact h3) h4
          have HY := hid (show (b9.stop = false → (ovY P T who p).want s9 = none) ∧ hh = ovH p s9 ∧ hc = ovC s9 from ⟨h5, h6 HZ.out⟩)
          (have HI := hid (HI.out.step hI); clear hI; (obtain ⟨z0, z1, z2, z3⟩ := HI.out.di.cells); (have q0 := HI.out.out.cell 0; have q1 := HI.out.out.cell 1; have qf := HI.out.out.frozen; have q5 := HI.out.res.cell 0; have q6 := HI.out.res.cell 1; have qg := HI.out.res.frozen; simp only [List.getElem?_cons_zero, List.getElem?_cons_succ, List.set_cons_zero, List.set_cons_succ, List.set_nil] at q0 q1 q5 q6))
          clear h1 h2 h3 h4 h5 h6
          go_wp2
          ((try simp only [Exit.inBlock, Exit.then]); refine bodyPost_ret (results_cell_row rfl _ _ _ _ _ _ _ rfl ((HI.out.setR 0 _).setR 1 _).res Tryz.underlying280 rfl (by kernel_rfl)) rfl ?_)
          exact ⟨hh, hc, b9, s9, rfl, ((HI.out.setR 0 _).setR 1 _).di.run, ((HI.out.setR 0 _).setR 1 _).kept, HI.out.di.ran, HI.out.di.good, HY.out.1, fun _ => HY.out.2⟩
        subst hx
        have F3 := hid (show (b3.stop = false → s3 = .il) ∧ (ovH p s3 = p ∧ ovC s3 = false) from by
          refine ⟨fun h => E3.out.1 h, ?_⟩
          cases hb : b3.stop with
          | false => rw [E3.out.1 hb]; exact ⟨rfl, rfl⟩
          | true => rw [(E3.out.2 hb).1]; exact ⟨rfl, rfl⟩)
        go_wp2_with fail
        refine (dl_run HI.out.di 10 (fun h => by rw [F3.out.1 h, ← w10]; rfl)).mono ?_
        rintro e w5 ⟨b4, s4, x4, rfl, hI, ho4⟩
        have E4 := hid (show (b4.stop = false → s4 = if x4 = 0 then .sw else .aqL .ask) ∧ (b4.stop = true → (ovH p s4 = p ∧ ovC s4 = false) ∧ x4 = 0) from ⟨fun h => by obtain ⟨h1, h2⟩ := ho4.1 h; rw [h2, F3.out.1 h1]; rfl, fun h => ⟨by rw [(ho4.2.2.1 h).1]; exact F3.out.2, (ho4.2.2.1 h).2⟩⟩)
        (have HI := hid (HI.out.step hI); clear hI; (obtain ⟨z0, z1, z2, z3⟩ := HI.out.di.cells); (have q0 := HI.out.out.cell 0; have q1 := HI.out.out.cell 1; have qf := HI.out.out.frozen; have q5 := HI.out.res.cell 0; have q6 := HI.out.res.cell 1; have qg := HI.out.res.frozen; simp only [List.getElem?_cons_zero, List.getElem?_cons_succ, List.set_cons_zero, List.set_cons_succ, List.set_nil] at q0 q1 q5 q6))
        clear ho4
        by_cases hx : x4 = 0
        case neg =>
          have hx1 : ((x4 : Int) == 0) = false := by simpa using hx
          have hb4 : b4.stop = false := by
            cases hb : b4.stop with
            | false => rfl
            | true => exact absurd (E4.out.2 hb).2 hx
          rw [hb4] at z3
          have HZ := hid hb4
          have HG := hid (show s4 = .aqL .ask by rw [E4.out.1 hb4, if_neg hx])
          clear hb4 E4 hx
          go_wp2_with fail
          refine (rlocked25_run P T G who p B r v b4 got (.aqL .ask) _ HI.out.di.run HI.out.di.good (fun _ => rfl) HZ.out ⟨HP.out.1, HP.out.2.1⟩ HWH.out).mono ?_
          rintro e w9 ⟨hh, hc, b9, s9, rfl, h1, h2, h3, h4, h5, h6⟩
          have hI := HI.out.di.subran h1 h2 (by rw [HG.out]; exact h3) h4
          have HY := hid (show (b9.stop = false → (ovY P T who p).want s9 = none) ∧ hh = ovH p s9 ∧ hc = ovC s9 from ⟨h5, h6 HZ.out⟩)
          (have HI := hid (HI.out.step hI); clear hI; (obtain ⟨z0, z1, z2, z3⟩ := HI.out.di.cells); (have q0 := HI.out.out.cell 0; have q1 := HI.out.out.cell 1; have qf := HI.out.out.frozen; have q5 := HI.out.res.cell 0; have q6 := HI.out.res.cell 1; have qg := HI.out.res.frozen; simp only [List.getElem?_cons_zero, List.getElem?_cons_succ, List.set_cons_zero, List.set_cons_succ, List.set_nil] at q0 q1 q5 q6))
          clear h1 h2 h3 h4 h5 h6
          go_wp2
          ((try simp only [Exit.inBlock, Exit.then]); refine bodyPost_ret (results_cell_row rfl _ _ _ _ _ _ _ rfl ((HI.out.setR 0 _).setR 1 _).res Tryz.underlying280 rfl (by kernel_rfl)) rfl ?_)
          exact ⟨hh, hc, b9, s9, rfl, ((HI.out.setR 0 _).setR 1 _).di.run, ((HI.out.setR 0 _).setR 1 _).kept, HI.out.di.ran, HI.out.di.good, HY.out.1, fun _ => HY.out.2⟩
        subst hx
        have F4 := hid (show (b4.stop = false → s4 = .sw) ∧ (ovH p s4 = p ∧ ovC s4 = false) from by
          refine ⟨fun h => E4.out.1 h, ?_⟩
          cases hb : b4.stop with
          | false => rw [E4.out.1 hb]; exact ⟨rfl, rfl⟩
          | true => exact (E4.out.2 hb).1)
        go_wp2_with fail
        refine (dw_run HI.out.di 13 0 1 (fun h => by rw [F4.out.1 h, ← w13]; rfl)).mono ?_
        rintro e w6 ⟨b5, s5, x5, rfl, hI, ho5⟩
        have E5 := hid (show (b5.stop = false → s5 = if x5 = 1 then .nd1 else .aqL .ask) ∧ (b5.stop = true → (ovH p s5 = p ∧ ovC s5 = false) ∧ x5 = 0) from ⟨fun h => by obtain ⟨h1, h2⟩ := ho5.1 h; rw [h2, F4.out.1 h1]; rfl, fun h => ⟨by rw [(ho5.2.2.1 h).1]; exact F4.out.2, (ho5.2.2.1 h).2⟩⟩)
        (have HI := hid (HI.out.step hI); clear hI; (obtain ⟨z0, z1, z2, z3⟩ := HI.out.di.cells); (have q0 := HI.out.out.cell 0; have q1 := HI.out.out.cell 1; have qf := HI.out.out.frozen; have q5 := HI.out.res.cell 0; have q6 := HI.out.res.cell 1; have qg := HI.out.res.frozen; simp only [List.getElem?_cons_zero, List.getElem?_cons_succ, List.set_cons_zero, List.set_cons_succ, List.set_nil] at q0 q1 q5 q6))
        clear ho5
        by_cases hx : x5 = 1
        case neg =>
          have hx1 : ((x5 : Int) == 1) = false := by simpa using hx
          cases hb5 : b5.stop with
          | true =>
            rw [hb5] at z3
            have HZ := hid (And.intro hb5 (E5.out.2 hb5).1)
            clear hb5
            go_wp2
            ((try simp only [Exit.inBlock, Exit.then]); refine bodyPost_ret (results_cell_row rfl _ _ _ _ _ _ _ rfl ((HI.out.setR 0 _).setR 1 _).res Tryz.underlying280 rfl (by kernel_rfl)) rfl ?_)
            exact ⟨p, false, b5, s5, rfl, ((HI.out.setR 0 _).setR 1 _).di.run, ((HI.out.setR 0 _).setR 1 _).kept, HI.out.di.ran, HI.out.di.good, fun h => absurd (HZ.out.1.symm.trans h) (by simp), fun _ => ⟨HZ.out.2.1.symm, HZ.out.2.2.symm⟩⟩
          | false =>
            rw [hb5] at z3
            have HZ := hid hb5
            have HG := hid (show s5 = .aqL .ask by rw [E5.out.1 hb5, if_neg hx])
            clear hb5 E5 hx
            go_wp2_with fail
            refine (rlocked25_run P T G who p B r v b5 got (.aqL .ask) _ HI.out.di.run HI.out.di.good (fun _ => rfl) HZ.out ⟨HP.out.1, HP.out.2.1⟩ HWH.out).mono ?_
            rintro e w9 ⟨hh, hc, b9, s9, rfl, h1, h2, h3, h4, h5, h6⟩
            have hI := HI.out.di.subran h1 h2 (by rw [HG.out]; exact h3) h4
            have HY := hid (show (b9.stop = false → (ovY P T who p).want s9 = none) ∧ hh = ovH p s9 ∧ hc = ovC s9 from ⟨h5, h6 HZ.out⟩)
            (have HI := hid (HI.out.step hI); clear hI; (obtain ⟨z0, z1, z2, z3⟩ := HI.out.di.cells); (have q0 := HI.out.out.cell 0; have q1 := HI.out.out.cell 1; have qf := HI.out.out.frozen; have q5 := HI.out.res.cell 0; have q6 := HI.out.res.cell 1; have qg := HI.out.res.frozen; simp only [List.getElem?_cons_zero, List.getElem?_cons_succ, List.set_cons_zero, List.set_cons_succ, List.set_nil] at q0 q1 q5 q6))
            clear h1 h2 h3 h4 h5 h6
            go_wp2
            ((try simp only [Exit.inBlock, Exit.then]); refine bodyPost_ret (results_cell_row rfl _ _ _ _ _ _ _ rfl ((HI.out.setR 0 _).setR 1 _).res Tryz.underlying280 rfl (by kernel_rfl)) rfl ?_)
            exact ⟨hh, hc, b9, s9, rfl, ((HI.out.setR 0 _).setR 1 _).di.run, ((HI.out.setR 0 _).setR 1 _).kept, HI.out.di.ran, HI.out.di.good, HY.out.1, fun _ => HY.out.2⟩
        subst hx
        have hb5 : b5.stop = false := by
          cases hb : b5.stop with
          | false => rfl
          | true => exact absurd (E5.out.2 hb).2 (by decide)
        have HS5 := hid (show s5 = .nd1 from E5.out.1 hb5)
        have HI := hid (HI.out.setO 1 (.bool true))
        (obtain ⟨z0, z1, z2, z3⟩ := HI.out.di.cells)
        (have q0 := HI.out.out.cell 0; have q1 := HI.out.out.cell 1; have qf := HI.out.out.frozen; have q5 := HI.out.res.cell 0; have q6 := HI.out.res.cell 1; have qg := HI.out.res.frozen; simp only [List.getElem?_cons_zero, List.getElem?_cons_succ, List.set_cons_zero, List.set_cons_succ, List.set_nil] at q0 q1 q5 q6)
        clear hb5 E5
        go_wp2_with fail
        refine (ds_run HI.out.di 14 0 (fun h => by rw [HS5.out, ← w14]; rfl)).mono ?_
        rintro e w7 ⟨rfl, b6, s6, x6, hI, ho6⟩
        have E6 := hid (show (b6.stop = false → s6 = .aqS .ask) ∧ (b6.stop = true → s6 = .nd1) from ⟨fun h => by obtain ⟨h1, h2⟩ := ho6.1 h; rw [h2, HS5.out]; rfl, fun h => by rw [(ho6.2.2.1 h).1]; exact HS5.out⟩)
        (have HI := hid (HI.out.step hI); clear hI; (obtain ⟨z0, z1, z2, z3⟩ := HI.out.di.cells); (have q0 := HI.out.out.cell 0; have q1 := HI.out.out.cell 1; have qf := HI.out.out.frozen; have q5 := HI.out.res.cell 0; have q6 := HI.out.res.cell 1; have qg := HI.out.res.frozen; simp only [List.getElem?_cons_zero, List.getElem?_cons_succ, List.set_cons_zero, List.set_cons_succ, List.set_nil] at q0 q1 q5 q6))
        clear ho6
        go_wp2_with fail
        refine (dacq_run HI.out.di 0 0 who (fun _ => OvSt.st true (.get .h)) OvSt.aqS (ov_embS P T who p 0) E6.out.1 (by omega) HWH.out).mono ?_
        rintro e w8 ⟨z8, b7, s7, q7, rfl, hI, hp7, _⟩
        have E7 := hid (show (b7.stop = false → s7 = .st true (.get .h)) ∧ (b7.stop = true → ovH p s7 = p ∧ ovC s7 = true) from ⟨fun h => (hp7.on h).2, fun h => by
          cases hb : b6.stop with
          | true => rw [(hp7.off hb).1, E6.out.2 hb]; exact ⟨rfl, rfl⟩
          | false => rw [hp7.mid hb, runs_on (hp7.wait hb h)]; exact ⟨rfl, rfl⟩⟩)
        (have HI := hid (HI.out.step hI); clear hI; (obtain ⟨z0, z1, z2, z3⟩ := HI.out.di.cells); (have q0 := HI.out.out.cell 0; have q1 := HI.out.out.cell 1; have qf := HI.out.out.frozen; have q5 := HI.out.res.cell 0; have q6 := HI.out.res.cell 1; have qg := HI.out.res.frozen; simp only [List.getElem?_cons_zero, List.getElem?_cons_succ, List.set_cons_zero, List.set_cons_succ, List.set_nil] at q0 q1 q5 q6))
        clear hp7
        cases hb7 : b7.stop with
        | true =>
          rw [hb7] at z3
          have HZ := hid (And.intro hb7 (E7.out.2 hb7))
          clear hb7
          go_wp2
          ((try simp only [Exit.inBlock, Exit.then]); refine bodyPost_ret (results_cell_row rfl _ _ _ _ _ _ _ rfl ((HI.out.setR 0 _).setR 1 _).res Tryz.underlying280 rfl (by kernel_rfl)) rfl ?_)
          exact ⟨p, true, b7, s7, rfl, ((HI.out.setR 0 _).setR 1 _).di.run, ((HI.out.setR 0 _).setR 1 _).kept, HI.out.di.ran, HI.out.di.good, fun h => absurd (HZ.out.1.symm.trans h) (by simp), fun _ => ⟨HZ.out.2.1.symm, HZ.out.2.2.symm⟩⟩
        | false =>
          rw [hb7] at z3
          have HZ := hid hb7
          have HG := hid (E7.out.1 hb7)
          clear hb7 E7
          -- a thread is started: HG tells the state, HZ that nothing stopped
          go_wp2_with fail
          refine (rstart25_run P T G p true B r v b7 got (.get .h) _ HI.out.di.run HI.out.di.good (fun _ => rfl) ⟨HP.out.1, HP.out.2.1⟩).mono ?_
          rintro e w9 ⟨hh, b9, q9, rfl, h1, h2, h3, h4, h5, h6⟩
          obtain ⟨s9, hI, hp9⟩ := past_of (OvSt.fin1 true) (OvSt.st true) (ov_embT P T who p true) HI.out.di h1 h2 h3 h4 (fun _ => by rw [HG.out]; exact (runs_on (M := stY P T p true true) (s := StSt.get .h) (fun h => by cases h)).symm) h5
          have HY := hid (show (b9.stop = false → (ovY P T who p).want s9 = none) ∧ hh = ovH p s9 ∧ false = ovC s9 from ⟨fun h => by rw [(hp9.on h).2]; rfl, by rw [hp9.mid HZ.out]; have := osays_T P T p true q9; exact ⟨by rw [this.1]; exact h6 HZ.out, this.2.symm⟩⟩)
          (have HI := hid (HI.out.step hI); clear hI; (obtain ⟨z0, z1, z2, z3⟩ := HI.out.di.cells); (have q0 := HI.out.out.cell 0; have q1 := HI.out.out.cell 1; have qf := HI.out.out.frozen; have q5 := HI.out.res.cell 0; have q6 := HI.out.res.cell 1; have qg := HI.out.res.frozen; simp only [List.getElem?_cons_zero, List.getElem?_cons_succ, List.set_cons_zero, List.set_cons_succ, List.set_nil] at q0 q1 q5 q6))
          clear h1 h2 h3 h4 h5 h6 hp9
          go_wp2
          ((try simp only [Exit.inBlock, Exit.then]); refine bodyPost_ret (results_cell_row rfl _ _ _ _ _ _ _ rfl ((HI.out.setR 0 _).setR 1 _).res Tryz.underlying280 rfl (by kernel_rfl)) rfl ?_)
          exact ⟨hh, false, b9, s9, rfl, ((HI.out.setR 0 _).setR 1 _).di.run, ((HI.out.setR 0 _).setR 1 _).kept, HI.out.di.ran, HI.out.di.good, HY.out.1, fun _ => HY.out.2⟩
end Go.Proofs.YtlhnnggceebpjaaGreat.Hand
