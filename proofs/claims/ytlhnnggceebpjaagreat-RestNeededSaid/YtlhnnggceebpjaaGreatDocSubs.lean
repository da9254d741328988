/- The document's routines that run the lists'. -/
import Derived.Test.YtlhnnggceebpjaaGreatDocSub
import Derived.Test.YtlhnnggceebpjaaGreatSubs
import Derived.Test.YtlhnnggceebpjaaGreatIdlepC
set_option maxRecDepth 100000
set_option maxHeartbeats 4000000
set_option linter.unusedVariables false
set_option linter.unusedSimpArgs false
namespace Go.Proofs.YtlhnnggceebpjaaGreat.Doc
open Go.RowKit Go.Shelf Go.Proofs.YtlhnnggceebpjaaGreat.TK Go.Proofs.YtlhnnggceebpjaaGreat.Flag Go.Proofs.YtlhnnggceebpjaaGreat.Read Go.Proofs.YtlhnnggceebpjaaGreat.Grow Go.Proofs.YtlhnnggceebpjaaGreat.Words Go.Proofs.YtlhnnggceebpjaaGreat.Mem Go.Proofs.YtlhnnggceebpjaaGreat.Layout Go.Proofs.YtlhnnggceebpjaaGreat.Run Go.Proofs.YtlhnnggceebpjaaGreat.Sys Go.Proofs.YtlhnnggceebpjaaGreat.Mach Go.Proofs.YtlhnnggceebpjaaGreat.Lock Go.Proofs.YtlhnnggceebpjaaGreat.Ref05
section
variable {σ : Type} {M : Rsys σ} {got : List Int} {s0 s : σ} {a b : RunSt} {w0 w w' : World} {B r bx : Nat} {v : Value} {P T G : Int}
theorem dmget_run (h : DI M got s0 a w0 w B r bx v P T G b s) (l : Nat) (kk emb : Idlem.MgSt → σ) (E : Emb M (Idlem.mgM l P T).sys kk emb) (hs : b.stop = false → s = emb .h) (hP : (0 ≤ P ∧ P ≤ 1000) ∧ 1 ≤ T ∧ T ≤ 1000) :
    Calls Tryz.prog 271 #[.pointer (some ⟨r, 0, none⟩), .agg #[.int .i64 P, .int .i64 T, .int .i64 G]] w fun e w' => ∃ t b' s' q, e = .returned (.int .i64 t) ∧ DI M got s0 a w0 w' B r bx v P T G b' s' ∧ Past (Idlem.mgM l P T).sys kk emb got b s b' s' q ∧ (b.stop = false → t = q.t) := by
  refine (Idlem.rget18_run l P T G B r v b got .h w h.run h.good (fun _ => rfl) hP).mono ?_
  rintro e w1 ⟨t, b', q, rfl, h1, h2, h3, h4, h5, h6, _⟩
  obtain ⟨s', p1, p2⟩ := past_of kk emb E h h1 h2 h3 h4 (fun hb => by rw [hs hb]; exact (runs_on (M := (Idlem.mgM l P T).sys) (s := Idlem.MgSt.h) (fun h => by cases h)).symm) h5
  exact ⟨t, b', s', q, rfl, p1, p2, h6⟩
theorem dpput_run (h : DI M got s0 a w0 w B r bx v P T G b s) (l : Nat) (p : Int) (kk emb : Idlep.PpSt → σ) (E : Emb M (Idlep.ppM l P p).sys kk emb) (hs : b.stop = false → s = emb .a) (hP : 0 ≤ P ∧ P ≤ 1000) :
    Calls Tryz.prog 272 #[.pointer (some ⟨r, 0, none⟩), .agg #[.int .i64 P, .int .i64 T, .int .i64 G], .int .i64 p] w fun e w' => ∃ t b' s' q, e = .returned (.int .i64 t) ∧ DI M got s0 a w0 w' B r bx v P T G b' s' ∧ Past (Idlep.ppM l P p).sys kk emb got b s b' s' q ∧ (b.stop = false → t = q.h p) := by
  refine (Idlep.rput17_run l P T G p B r v b got .a w h.run h.good (fun _ => rfl) hP).mono ?_
  rintro e w1 ⟨t, b', q, rfl, h1, h2, h3, h4, h5, h6⟩
  obtain ⟨s', p1, p2⟩ := past_of kk emb E h h1 h2 h3 h4 (fun hb => by rw [hs hb]; exact (runs_on (M := (Idlep.ppM l P p).sys) (s := Idlep.PpSt.a) (fun h => by cases h)).symm) h5
  exact ⟨t, b', s', q, rfl, p1, p2, h6⟩
theorem dpget_run (h : DI M got s0 a w0 w B r bx v P T G b s) (l : Nat) (kk emb : Idlep.PgSt → σ) (E : Emb M (Idlep.pgM l P).sys kk emb) (hs : b.stop = false → s = emb .h) (hP : 0 ≤ P ∧ P ≤ 1000) :
    Calls Tryz.prog 145 #[.pointer (some ⟨r, 0, none⟩), .agg #[.int .i64 P, .int .i64 T, .int .i64 G]] w fun e w' => ∃ t b' s' q, e = .returned (.int .i64 t) ∧ DI M got s0 a w0 w' B r bx v P T G b' s' ∧ Past (Idlep.pgM l P).sys kk emb got b s b' s' q ∧ (b.stop = false → t = q.p) := by
  refine (Idlep.rget17_run l P T G B r v b got .h w h.run h.good (fun _ => rfl) hP).mono ?_
  rintro e w1 ⟨t, b', q, rfl, h1, h2, h3, h4, h5, h6⟩
  obtain ⟨s', p1, p2⟩ := past_of kk emb E h h1 h2 h3 h4 (fun hb => by rw [hs hb]; exact (runs_on (M := (Idlep.pgM l P).sys) (s := Idlep.PgSt.h) (fun h => by cases h)).symm) h5
  exact ⟨t, b', s', q, rfl, p1, p2, h6⟩
theorem dwake_run (h : DI M got s0 a w0 w B r bx v P T G b s) (t : Int) (hP : (0 ≤ P ∧ P ≤ 1000) ∧ T ≤ 1000) (hw : b.stop = false → M.want s = some ⟨2, th P T t 0, 0, 1, false⟩) :
    Calls Tryz.prog 274 #[.pointer (some ⟨r, 0, none⟩), .agg #[.int .i64 P, .int .i64 T, .int .i64 G], .int .i64 t] w fun e w' => e = .returned (.tuple #[]) ∧ ∃ b' s' x, DI M got s0 a w0 w' B r bx v P T G b' s' ∧ On M got b s b' s' x := by
  have HH := hid h
  have HW := hid hw
  have HP := hid hP
  clear h hw hP
  go_enter Tryz.func274, Tryz.ntmps274
  go_wp2_with fail
  refine (threadat_run P T G t 0 _ HP.out.1 HP.out.2 (by omega)).mono ?_
  rintro e w1 ⟨rfl, hb⟩
  have hb' : Below w.heap.size w w1 := by first | exact hb | exact Below.then_ (below_one _ _) hb
  clear hb
  go_wp2_with fail
  refine (ds_run (HH.out.quiet hb') (th P T t 0) 1 HW.out).mono ?_
  rintro e w2 ⟨rfl, b', s', x, h1, h2⟩
  have HX := hid (And.intro h1 h2)
  clear h1 h2
  go_wp2
  go_returns
  exact ⟨rfl, b', s', x, HX.out⟩
end
end Go.Proofs.YtlhnnggceebpjaaGreat.Doc
