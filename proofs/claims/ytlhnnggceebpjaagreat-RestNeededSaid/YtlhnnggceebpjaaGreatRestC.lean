/- A thread comes to rest: what its states say. -/
import Derived.Test.YtlhnnggceebpjaaGreatRestB
set_option maxRecDepth 100000
set_option maxHeartbeats 4000000
set_option linter.unusedVariables false
set_option linter.unusedSimpArgs false
namespace Go.Proofs.YtlhnnggceebpjaaGreat.Rest
open Go.RowKit Go.Shelf Go.Proofs.YtlhnnggceebpjaaGreat.TK Go.Proofs.YtlhnnggceebpjaaGreat.Flag Go.Proofs.YtlhnnggceebpjaaGreat.Read Go.Proofs.YtlhnnggceebpjaaGreat.Words Go.Proofs.YtlhnnggceebpjaaGreat.Mem Go.Proofs.YtlhnnggceebpjaaGreat.Flow Go.Proofs.YtlhnnggceebpjaaGreat.Layout Go.Proofs.YtlhnnggceebpjaaGreat.Lock Go.Proofs.YtlhnnggceebpjaaGreat.Run Go.Proofs.YtlhnnggceebpjaaGreat.Sys Go.Proofs.YtlhnnggceebpjaaGreat.Mach Go.Proofs.YtlhnnggceebpjaaGreat.Ref05 Go.Proofs.YtlhnnggceebpjaaGreat.Subs Go.Proofs.YtlhnnggceebpjaaGreat.Wake Go.Proofs.YtlhnnggceebpjaaGreat.Note
theorem rs_own (lo l : Nat) (P T G who : Int) : ∀ Ty ∈ rdT (rsM lo l P T G who).wr, Ty ∉ theirs := by
  show ∀ Ty ∈ rdT [160, 247, 250, 170, 331, 328, 196, 263], Ty ∉ theirs
  decide
theorem rs_inT1 : ∀ T ∈ rdT [250], T ∈ rdT [160, 247, 250, 170, 331, 328, 196, 263] ∧ T ≠ 160 := by decide
theorem rs_inT2 : ∀ T ∈ rdT [250, 170], T ∈ rdT [160, 247, 250, 170, 331, 328, 196, 263] ∧ T ≠ 160 := by decide
theorem rs_inT3 : ∀ T ∈ rdT [250, 196, 263], T ∈ rdT [160, 247, 250, 170, 331, 328, 196, 263] ∧ T ≠ 160 := by decide
theorem pg_in2 : ∀ T ∈ rdT [250], T ∈ rdT [250, 170] := by decide
theorem sn_in2 : ∀ T ∈ rdT [170], T ∈ rdT [250, 170] := by decide
theorem pg_in3 : ∀ T ∈ rdT [250], T ∈ rdT [250, 196, 263] := by decide
theorem np_in3 : ∀ T ∈ rdT [196, 263], T ∈ rdT [250, 196, 263] := by decide
section
variable {lo l : Nat} {P T G who : Int} {o : Option Idlep.PgSt} {u : Idlep.PgSt} {k j : Nat} {w w' : World} {Z : List Nat}
theorem oAt.keptZ (h : oAt lo l P T G who o k w) (hk : Kept Z w w') (hZ : ∀ i ∈ Z, Not (rdT [250]) w i) : oAt lo l P T G who o k w' := fun u hu => (pg_sub lo l P T G who).kept (h u hu) hk hZ
theorem not_mono {A B : List TypeId} (hs : ∀ T ∈ A, T ∈ B) (h : ∀ i ∈ Z, Not B w i) : ∀ i ∈ Z, Not A w i := fun i hi T hT => h i hi T (hs T hT)
theorem noneX {x : Nat} {rest : List Value} {n : Nx} (hp : Pend w x who rest 160 n) (A : List TypeId) (hA : 160 ∉ A) : ∀ i ∈ [x], Not A w i := by
  intro i hi
  simp at hi
  subst hi
  obtain ⟨cs, hb⟩ := hp.blk
  exact not_of hb hA
end
theorem sn_fin {q : SnSt} {a : Int} (hn : snY.want (snNext q a) = none) : snNext q a = .done := by
  cases q with
  | a => exact absurd hn (fun h => by cases h)
  | b => rfl
  | done => rfl
theorem rs_goes (lo l x : Nat) (P T G who : Int) (hw : 0 ≤ who ∧ who ≤ 1000) : GoesZ (rsM lo l P T G who) lo l x P T G who := by
  have hw2 : 0 ≤ who ∧ who ≤ 1000000 := by omega
  refine ⟨rs_own lo l P T G who, by simp [rsM], by show 1 ∉ [160, 247, 250, 170, 331, 328, 196, 263] ∧ 204 ∉ [160, 247, 250, 170, 331, 328, 196, 263] ∧ 214 ∉ [160, 247, 250, 170, 331, 328, 196, 263]; decide, ?_, ?_, ?_, ?_, ?_⟩
  · intro st T hT
    cases st with
    | sn u s => exact rs_inT1 T hT
    | rl u s => exact rs_inT2 T hT
    | ha u => exact rs_inT2 T hT
    | f1 u => exact rs_inT2 T hT
    | li o z => exact rs_inT1 T hT
    | rl2 o s => exact rs_inT1 T hT
    | np o s => exact rs_inT1 T hT
    | f2 o s => exact rs_inT3 T hT
    | _ => exact absurd (show T ∈ [] from hT) (by simp)
  · intro st a hok ha
    show rsOk (rsNext P T who st a)
    cases st with
    | aq s => unfold rsNext runs; simp only; (repeat' split) <;> trivial
    | nd => unfold rsNext; simp only; split; exact (fun u h => by cases h); trivial
    | gt s =>
      unfold rsNext runs rsGot
      simp only
      split
      · split
        · rename_i h
          intro u hu
          cases hu
          exact h
        · trivial
      · trivial
    | sn u s => unfold rsNext runs; simp only; (repeat' split) <;> trivial
    | rl u s => unfold rsNext runs; simp only; (repeat' split) <;> trivial
    | ha u => trivial
    | f1 u => trivial
    | li o z => unfold rsNext runs; simp only; split <;> exact hok
    | rl2 o s => unfold rsNext runs; simp only; split <;> exact hok
    | np o s => unfold rsNext runs; simp only; split <;> exact hok
    | f2 o s => exact hok
  · intro st e
    cases st <;> rfl
  · intro st e w w' Z hi hk hZ
    cases st with
    | sn u s => exact (pg_sub lo l P T G who).kept hi hk hZ
    | rl u s => exact ⟨(pg_sub lo l P T G who).kept hi.1 hk (not_mono pg_in2 hZ), (sn_sub lo l P T G who).kept hi.2 hk (not_mono sn_in2 hZ)⟩
    | ha u => exact ⟨(pg_sub lo l P T G who).kept hi.1 hk (not_mono pg_in2 hZ), (sn_sub lo l P T G who).kept hi.2 hk (not_mono sn_in2 hZ)⟩
    | f1 u => exact ⟨(pg_sub lo l P T G who).kept hi.1 hk (not_mono pg_in2 hZ), (sn_sub lo l P T G who).kept hi.2 hk (not_mono sn_in2 hZ)⟩
    | li o z => exact oAt.keptZ hi hk hZ
    | rl2 o s => exact oAt.keptZ hi hk hZ
    | np o s => exact oAt.keptZ hi hk hZ
    | f2 o s => exact ⟨oAt.keptZ hi.1 hk (not_mono pg_in3 hZ), (np_sub lo l P T G who).kept hi.2 hk (not_mono np_in3 hZ)⟩
    | _ => trivial
  · intro st e hok
    cases st with
    | aq s =>
      refine ⟨(SubOk.toZ (aq_sub lo l 0 P T G who hw)), ?_, enters_of Tryz.func126 (by kernel_rfl) rfl, ?_⟩
      · show ∀ T ∈ [247], T ∈ [160, 247, 250, 170, 331, 328, 196, 263] ∧ T ≠ 160 ∧ T ∉ []
        decide
      intro a ha
      refine ⟨?_, ?_⟩
      · intro hn
        have e1 : rsNext P T who (.aq s) a = RsSt.aq (aqNext s a) := runs_on (M := aq0 who) (k := (fun _ => RsSt.nd)) (emb := RsSt.aq) (s := (aqNext s a)) hn
        refine ⟨?_, ?_, fun _ h => ?_⟩
        · show (rsM lo l P T G who).nx (rsNext P T who (.aq s) a) e = _
          rw [e1]; rfl
        · show (rsM lo l P T G who).rest (rsNext P T who (.aq s) a) e = _
          rw [e1]; rfl
        · show (rsM lo l P T G who).inv (rsNext P T who (.aq s) a) e _
          rw [e1]; first | trivial | exact h
      · intro hn w hlo hp hA hi hL
        have e0 : rsNext P T who (.aq s) a = ((fun _ => RsSt.nd)) (aqNext s a) := runs_off (M := aq0 who) (k := (fun _ => RsSt.nd)) (emb := RsSt.aq) (s := (aqNext s a)) hn
        have e1 := e0
        refine (rs_locked_run x l P T G who (.pointer none) (.pointer none) (.pointer none) w hp hL).mono ?_
        rintro e3 w' ⟨he, h1, h2⟩
        refine ⟨he, ⟨e, ?_⟩, h2⟩
        show (rsM lo l P T G who).is_ x who w' (rsNext P T who (.aq s) a) e
        rw [e1]
        exact ⟨h1, trivial⟩
    | nd =>
      refine .inr ⟨by show (0 : Int) ≤ 0 ∧ (0 : Int) < 18446744073709551616; omega, enters_of Tryz.func204 (by kernel_rfl) rfl, ?_⟩
      intro a w ha hlo hp hi hL
      by_cases hz : a = 0
      · subst hz
        refine (rs_needed0_run x l lo P T G who (.pointer none) (.pointer none) (.pointer none) w hw2 hlo hp hL).mono ?_
        rintro e3 w' ⟨he, ⟨y, h1⟩, h2⟩
        exact ⟨he, ⟨(y, e.2), h1, (fun u h => by cases h)⟩, h2⟩
      · have e1 : rsNext P T who .nd a = .gt .h := if_neg hz
        refine (rs_needed1_run x l lo P T G who a (.pointer none) (.pointer none) w hz hlo hp hL).mono ?_
        rintro e3 w' ⟨he, ⟨y, h1⟩, h2⟩
        refine ⟨he, ⟨(y, e.2), ?_⟩, h2⟩
        show (rsM lo l P T G who).is_ x who w' (rsNext P T who .nd a) (y, e.2)
        rw [e1]
        exact ⟨h1, trivial⟩
    | gt s =>
      refine ⟨(SubOk.toZ (pg_sub lo l P T G who)), ?_, enters_of Tryz.func253 (by kernel_rfl) rfl, ?_⟩
      · show ∀ T ∈ [250], T ∈ [160, 247, 250, 170, 331, 328, 196, 263] ∧ T ≠ 160 ∧ T ∉ []
        decide
      intro a ha
      refine ⟨?_, ?_⟩
      · intro hn
        have e1 : rsNext P T who (.gt s) a = RsSt.gt (Idlep.pgNext s a) := runs_on (M := pgY P) (k := rsGot) (emb := RsSt.gt) (s := (Idlep.pgNext s a)) hn
        refine ⟨?_, ?_, fun _ h => ?_⟩
        · show (rsM lo l P T G who).nx (rsNext P T who (.gt s) a) e = _
          rw [e1]; rfl
        · show (rsM lo l P T G who).rest (rsNext P T who (.gt s) a) e = _
          rw [e1]; rfl
        · show (rsM lo l P T G who).inv (rsNext P T who (.gt s) a) e _
          rw [e1]; first | trivial | exact h
      · intro hn w hlo hp hA hi hL
        have e0 : rsNext P T who (.gt s) a = (rsGot) (Idlep.pgNext s a) := runs_off (M := pgY P) (k := rsGot) (emb := RsSt.gt) (s := (Idlep.pgNext s a)) hn
        have hA : (pgS lo l P T G who).at_ w e.1 (Idlep.pgNext s a) := hA
        by_cases h : (Idlep.pgNext s a).p = -1
        · have e1 : rsNext P T who (.gt s) a = .li (some (Idlep.pgNext s a)) .h := by rw [e0]; exact if_pos h
          refine (rs_got0_run x l lo P T G who e.1 (Idlep.pgNext s a) (.pointer none) (.pointer none) w hw2 hA h hlo hp hL).mono ?_
          rintro e3 w' ⟨he, ⟨y, h1⟩, h2⟩
          refine ⟨he, ⟨(y, e.1, 0), ?_⟩, h2⟩
          show (rsM lo l P T G who).is_ x who w' (rsNext P T who (.gt s) a) (y, e.1, 0)
          rw [e1]
          exact ⟨h1, (fun u hu => by cases hu; exact sub_kept1 (pg_sub lo l P T G who) hA hp (by show 160 ∉ rdT [250]; decide) h2)⟩
        · have e1 : rsNext P T who (.gt s) a = .sn (Idlep.pgNext s a) .a := by rw [e0]; exact if_neg h
          refine (rs_got1_run x l lo P T G who e.1 (Idlep.pgNext s a) (Idlep.pgNext s a).p (.pointer none) w hA rfl h hlo hp hL).mono ?_
          rintro e3 w' ⟨he, ⟨y, h1⟩, h2⟩
          refine ⟨he, ⟨(y, e.1, 0), ?_⟩, h2⟩
          show (rsM lo l P T G who).is_ x who w' (rsNext P T who (.gt s) a) (y, e.1, 0)
          rw [e1]
          exact ⟨h1, sub_kept1 (pg_sub lo l P T G who) hA hp (by show 160 ∉ rdT [250]; decide) h2⟩
    | sn u s =>
      refine ⟨(SubOk.toZ (sn_sub lo l P T G who)), ?_, enters_of Tryz.func290 (by kernel_rfl) rfl, ?_⟩
      · show ∀ T ∈ [170], T ∈ [160, 247, 250, 170, 331, 328, 196, 263] ∧ T ≠ 160 ∧ T ∉ (rdT [250])
        decide
      intro a ha
      refine ⟨?_, ?_⟩
      · intro hn
        have e1 : rsNext P T who (.sn u s) a = (RsSt.sn u) (snNext s a) := runs_on (M := snY) (k := (fun _ => RsSt.rl u .puts)) (emb := (RsSt.sn u)) (s := (snNext s a)) hn
        refine ⟨?_, ?_, fun _ h => ?_⟩
        · show (rsM lo l P T G who).nx (rsNext P T who (.sn u s) a) e = _
          rw [e1]; rfl
        · show (rsM lo l P T G who).rest (rsNext P T who (.sn u s) a) e = _
          rw [e1]; rfl
        · show (rsM lo l P T G who).inv (rsNext P T who (.sn u s) a) e _
          rw [e1]; first | trivial | exact h
      · intro hn w hlo hp hA hi hL
        have e0 : rsNext P T who (.sn u s) a = ((fun _ => RsSt.rl u .puts)) (snNext s a) := runs_off (M := snY) (k := (fun _ => RsSt.rl u .puts)) (emb := (RsSt.sn u)) (s := (snNext s a)) hn
        have hA : (snS lo l P T G who).at_ w e.1 .done := by rw [← sn_fin hn]; exact hA
        have e1 := e0
        refine (rs_spun_run x l lo P T G who (.pointer (some ⟨e.2.1, 0, none⟩)) (.pointer (some ⟨e.1, 0, none⟩)) (.pointer none) w hlo hp hL).mono ?_
        rintro e3 w' ⟨he, ⟨y, h1⟩, h2⟩
        refine ⟨he, ⟨(y, e.2.1, e.1), ?_⟩, h2⟩
        show (rsM lo l P T G who).is_ x who w' (rsNext P T who (.sn u s) a) (y, e.2.1, e.1)
        rw [e1]
        exact ⟨h1, ⟨(pg_sub lo l P T G who).kept hi h2 (noneX hp _ (by show 160 ∉ rdT [250]; decide)), (sn_sub lo l P T G who).kept hA h2 (noneX hp _ (by show 160 ∉ rdT [170]; decide))⟩⟩
    | rl u s =>
      refine ⟨(SubOk.toZ (rl_sub lo l 0 P T G who)), ?_, enters_of Tryz.func316 (by kernel_rfl) rfl, ?_⟩
      · show ∀ T ∈ [331], T ∈ [160, 247, 250, 170, 331, 328, 196, 263] ∧ T ≠ 160 ∧ T ∉ (rdT [250, 170])
        decide
      intro a ha
      refine ⟨?_, ?_⟩
      · intro hn
        have e1 : rsNext P T who (.rl u s) a = (RsSt.rl u) (rlNext s a) := runs_on (M := rl0) (k := (fun _ => RsSt.ha u)) (emb := (RsSt.rl u)) (s := (rlNext s a)) hn
        refine ⟨?_, ?_, fun _ h => ?_⟩
        · show (rsM lo l P T G who).nx (rsNext P T who (.rl u s) a) e = _
          rw [e1]; rfl
        · show (rsM lo l P T G who).rest (rsNext P T who (.rl u s) a) e = _
          rw [e1]; rfl
        · show (rsM lo l P T G who).inv (rsNext P T who (.rl u s) a) e _
          rw [e1]; first | trivial | exact h
      · intro hn w hlo hp hA hi hL
        have e0 : rsNext P T who (.rl u s) a = ((fun _ => RsSt.ha u)) (rlNext s a) := runs_off (M := rl0) (k := (fun _ => RsSt.ha u)) (emb := (RsSt.rl u)) (s := (rlNext s a)) hn
        have e1 := e0
        refine (rs_has_run x l P T G who e.2.1 lo u.p u (.pointer (some ⟨e.2.2, 0, none⟩)) (.pointer none) w hi.1 rfl hp hL).mono ?_
        rintro e3 w' ⟨he, h1, h2⟩
        refine ⟨he, ⟨e, ?_⟩, h2⟩
        show (rsM lo l P T G who).is_ x who w' (rsNext P T who (.rl u s) a) e
        rw [e1]
        exact ⟨h1, ⟨(pg_sub lo l P T G who).kept hi.1 h2 (noneX hp _ (by show 160 ∉ rdT [250]; decide)), (sn_sub lo l P T G who).kept hi.2 h2 (noneX hp _ (by show 160 ∉ rdT [170]; decide))⟩⟩
    | ha u =>
      refine .inr ⟨by show (0 : Int) ≤ 1 ∧ (1 : Int) < 18446744073709551616; omega, enters_of Tryz.func338 (by kernel_rfl) rfl, ?_⟩
      intro a w ha hlo hp hi hL
      refine (rs_ends_run x who _ _ w hp).mono ?_
      rintro e3 w' ⟨he, h1, h2⟩
      exact ⟨he, ⟨e, h1, ⟨(pg_sub lo l P T G who).kept hi.1 h2 (noneX hp _ (by show 160 ∉ rdT [250]; decide)), (sn_sub lo l P T G who).kept hi.2 h2 (noneX hp _ (by show 160 ∉ rdT [170]; decide))⟩⟩, h2⟩
    | f1 u => exact .inl rfl
    | li o z =>
      refine ⟨(SubOk.toZ (mp_sub lo l P T G who who hw2)), ?_, enters_of Tryz.func288 (by kernel_rfl) rfl, ?_⟩
      · show ∀ T ∈ [328], T ∈ [160, 247, 250, 170, 331, 328, 196, 263] ∧ T ≠ 160 ∧ T ∉ (rdT [250])
        decide
      intro a ha
      refine ⟨?_, ?_⟩
      · intro hn
        have e1 : rsNext P T who (.li o z) a = (RsSt.li o) (Idlem.mpNext z a) := runs_on (M := mpY P T who) (k := (fun _ => RsSt.rl2 o .puts)) (emb := (RsSt.li o)) (s := (Idlem.mpNext z a)) hn
        refine ⟨?_, ?_, fun _ h => ?_⟩
        · show (rsM lo l P T G who).nx (rsNext P T who (.li o z) a) e = _
          rw [e1]; rfl
        · show (rsM lo l P T G who).rest (rsNext P T who (.li o z) a) e = _
          rw [e1]; rfl
        · show (rsM lo l P T G who).inv (rsNext P T who (.li o z) a) e _
          rw [e1]; first | trivial | exact h
      · intro hn w hlo hp hA hi hL
        have e0 : rsNext P T who (.li o z) a = ((fun _ => RsSt.rl2 o .puts)) (Idlem.mpNext z a) := runs_off (M := mpY P T who) (k := (fun _ => RsSt.rl2 o .puts)) (emb := (RsSt.li o)) (s := (Idlem.mpNext z a)) hn
        have e1 := e0
        refine (rs_leaves_run x l lo P T G who (gpo o e.2.1) (.pointer none) (.pointer none) w hlo hp hL).mono ?_
        rintro e3 w' ⟨he, ⟨y, h1⟩, h2⟩
        refine ⟨he, ⟨(y, e.2), ?_⟩, h2⟩
        show (rsM lo l P T G who).is_ x who w' (rsNext P T who (.li o z) a) (y, e.2)
        rw [e1]
        exact ⟨h1, oAt.keptZ hi h2 (noneX hp _ (by decide))⟩
    | rl2 o s =>
      refine ⟨(SubOk.toZ (rl_sub lo l 0 P T G who)), ?_, enters_of Tryz.func314 (by kernel_rfl) rfl, ?_⟩
      · show ∀ T ∈ [331], T ∈ [160, 247, 250, 170, 331, 328, 196, 263] ∧ T ≠ 160 ∧ T ∉ (rdT [250])
        decide
      intro a ha
      refine ⟨?_, ?_⟩
      · intro hn
        have e1 : rsNext P T who (.rl2 o s) a = (RsSt.rl2 o) (rlNext s a) := runs_on (M := rl0) (k := (fun _ => RsSt.np o (.sl (.waits false)))) (emb := (RsSt.rl2 o)) (s := (rlNext s a)) hn
        refine ⟨?_, ?_, fun _ h => ?_⟩
        · show (rsM lo l P T G who).nx (rsNext P T who (.rl2 o s) a) e = _
          rw [e1]; rfl
        · show (rsM lo l P T G who).rest (rsNext P T who (.rl2 o s) a) e = _
          rw [e1]; rfl
        · show (rsM lo l P T G who).inv (rsNext P T who (.rl2 o s) a) e _
          rw [e1]; first | trivial | exact h
      · intro hn w hlo hp hA hi hL
        have e0 : rsNext P T who (.rl2 o s) a = ((fun _ => RsSt.np o (.sl (.waits false)))) (rlNext s a) := runs_off (M := rl0) (k := (fun _ => RsSt.np o (.sl (.waits false)))) (emb := (RsSt.rl2 o)) (s := (rlNext s a)) hn
        have e1 := e0
        refine (rs_naps_run x l lo P T G who (gpo o e.2.1) (.pointer none) w hlo hp hL).mono ?_
        rintro e3 w' ⟨he, ⟨y, h1⟩, h2⟩
        refine ⟨he, ⟨(y, e.2), ?_⟩, h2⟩
        show (rsM lo l P T G who).is_ x who w' (rsNext P T who (.rl2 o s) a) (y, e.2)
        rw [e1]
        exact ⟨h1, oAt.keptZ hi h2 (noneX hp _ (by decide))⟩
    | np o s =>
      refine ⟨(np_sub lo l P T G who), ?_, enters_of Tryz.func338 (by kernel_rfl) rfl, ?_⟩
      · show ∀ T ∈ [196, 263], T ∈ [160, 247, 250, 170, 331, 328, 196, 263] ∧ T ≠ 160 ∧ T ∉ (rdT [250])
        decide
      intro a ha
      refine ⟨?_, ?_⟩
      · intro hn
        have e1 : rsNext P T who (.np o s) a = (RsSt.np o) (npNext P T who s a) := runs_on (M := npY P T who) (k := (RsSt.f2 o)) (emb := (RsSt.np o)) (s := (npNext P T who s a)) hn
        refine ⟨?_, ?_, fun _ h => ?_⟩
        · show (rsM lo l P T G who).nx (rsNext P T who (.np o s) a) e = _
          rw [e1]; rfl
        · show (rsM lo l P T G who).rest (rsNext P T who (.np o s) a) e = _
          rw [e1]; rfl
        · show (rsM lo l P T G who).inv (rsNext P T who (.np o s) a) e _
          rw [e1]; first | trivial | exact h
      · intro hn w hlo hp hA hi hL
        have e0 : rsNext P T who (.np o s) a = ((RsSt.f2 o)) (npNext P T who s a) := runs_off (M := npY P T who) (k := (RsSt.f2 o)) (emb := (RsSt.np o)) (s := (npNext P T who s a)) hn
        have e1 := e0
        refine (rs_ends_run x who _ _ w hp).mono ?_
        rintro e3 w' ⟨he, h1, h2⟩
        refine ⟨he, ⟨(e.1, e.2.1, e.1), ?_⟩, h2⟩
        show (rsM lo l P T G who).is_ x who w' (rsNext P T who (.np o s) a) (e.1, e.2.1, e.1)
        rw [e1]
        exact ⟨h1, ⟨oAt.keptZ hi h2 (noneX hp _ (by decide)), (np_sub lo l P T G who).kept hA h2 (noneX hp _ (by show 160 ∉ rdT [196, 263]; decide))⟩⟩
    | f2 o s => exact .inl rfl
theorem rs_made (lo l : Nat) (P T G who : Int) (w : World) (hw : 0 ≤ who ∧ who ≤ 1000) (hL : Lay w l P T G) (hlo : lo ≤ w.heap.size) :
    Calls Tryz.prog 21 #[.pointer (some ⟨l, 0, none⟩), .int .i64 who] w fun e w' => e = .returned (.pointer (some ⟨w.heap.size, 0, none⟩)) ∧ (rsM lo l P T G who).at_ lo l w.heap.size P T G who w' (.aq .ask) ∧ Below w.heap.size w w' := by
  refine (rs_new_run l lo P T G who w hw hlo hL).mono ?_
  rintro e w' ⟨rfl, ⟨y, h1⟩, h2⟩
  exact ⟨rfl, ⟨⟨(y, 0, 0), h1, trivial⟩, hlo, hL.quiet h2, trivial⟩, h2⟩
section
variable {lo l x : Nat} {P T G who : Int} {st : RsSt} {w : World}
theorem rs_p_run (hA : (rsM lo l P T G who).at_ lo l x P T G who w st) :
    Calls Tryz.prog 27 #[.pointer (some ⟨x, 0, none⟩)] w fun e w' => e = .returned (.int .i64 (rsP st)) ∧ w = w' := by
  obtain ⟨⟨e, hp, hi⟩, _, _, hok⟩ := hA
  have y1 := hp.rest_ 1
  have y2 := hp.rest_ 2
  have y3 := hp.rest_ 3
  cases st with
  | aq s => show Calls _ _ _ w fun e w' => e = .returned (.int .i64 (-1)) ∧ w = w'; ((simp only [rsM, rsRest, rsR, gpo, Nat.reduceAdd, List.getElem?_cons_zero, List.getElem?_cons_succ] at y1 y2 y3); (have HG := hid (Idlep.pg_p_nil w)); clear hp hi; go_enter Tryz.func27, Tryz.ntmps27; go_wp2_with (go_at_call 131; refine HG.out.mono ?_; rintro e1 w1 ⟨rfl, rfl⟩); go_ret; exact ⟨rfl, rfl⟩)
  | nd => show Calls _ _ _ w fun e w' => e = .returned (.int .i64 (-1)) ∧ w = w'; ((simp only [rsM, rsRest, rsR, gpo, Nat.reduceAdd, List.getElem?_cons_zero, List.getElem?_cons_succ] at y1 y2 y3); (have HG := hid (Idlep.pg_p_nil w)); clear hp hi; go_enter Tryz.func27, Tryz.ntmps27; go_wp2_with (go_at_call 131; refine HG.out.mono ?_; rintro e1 w1 ⟨rfl, rfl⟩); go_ret; exact ⟨rfl, rfl⟩)
  | gt s =>
    have hq : (pgS lo l P T G who).at_ w e.1 s := hp.2.1
    show Calls _ _ _ w fun e w' => e = .returned (.int .i64 s.p) ∧ w = w'
    (simp only [rsM, rsRest, rsR, gpo, Nat.reduceAdd, List.getElem?_cons_zero, List.getElem?_cons_succ] at y1 y2 y3)
    have HG := hid (Idlep.pg_p_run hq)
    clear hp hi hq
    generalize Idlep.PgSt.p _ = z at HG
    go_enter Tryz.func27, Tryz.ntmps27
    go_wp2_with (go_at_call 131; refine HG.out.mono ?_; rintro e1 w1 ⟨rfl, rfl⟩)
    go_ret
    exact ⟨rfl, rfl⟩
  | sn u s =>
    have hq : (pgS lo l P T G who).at_ w e.2.1 u := hi
    show Calls _ _ _ w fun e w' => e = .returned (.int .i64 u.p) ∧ w = w'
    (simp only [rsM, rsRest, rsR, gpo, Nat.reduceAdd, List.getElem?_cons_zero, List.getElem?_cons_succ] at y1 y2 y3)
    have HG := hid (Idlep.pg_p_run hq)
    clear hp hi hq
    generalize Idlep.PgSt.p _ = z at HG
    go_enter Tryz.func27, Tryz.ntmps27
    go_wp2_with (go_at_call 131; refine HG.out.mono ?_; rintro e1 w1 ⟨rfl, rfl⟩)
    go_ret
    exact ⟨rfl, rfl⟩
  | rl u s =>
    have hq : (pgS lo l P T G who).at_ w e.2.1 u := hi.1
    show Calls _ _ _ w fun e w' => e = .returned (.int .i64 u.p) ∧ w = w'
    (simp only [rsM, rsRest, rsR, gpo, Nat.reduceAdd, List.getElem?_cons_zero, List.getElem?_cons_succ] at y1 y2 y3)
    have HG := hid (Idlep.pg_p_run hq)
    clear hp hi hq
    generalize Idlep.PgSt.p _ = z at HG
    go_enter Tryz.func27, Tryz.ntmps27
    go_wp2_with (go_at_call 131; refine HG.out.mono ?_; rintro e1 w1 ⟨rfl, rfl⟩)
    go_ret
    exact ⟨rfl, rfl⟩
  | ha u =>
    have hq : (pgS lo l P T G who).at_ w e.2.1 u := hi.1
    show Calls _ _ _ w fun e w' => e = .returned (.int .i64 u.p) ∧ w = w'
    (simp only [rsM, rsRest, rsR, gpo, Nat.reduceAdd, List.getElem?_cons_zero, List.getElem?_cons_succ] at y1 y2 y3)
    have HG := hid (Idlep.pg_p_run hq)
    clear hp hi hq
    generalize Idlep.PgSt.p _ = z at HG
    go_enter Tryz.func27, Tryz.ntmps27
    go_wp2_with (go_at_call 131; refine HG.out.mono ?_; rintro e1 w1 ⟨rfl, rfl⟩)
    go_ret
    exact ⟨rfl, rfl⟩
  | f1 u =>
    have hq : (pgS lo l P T G who).at_ w e.2.1 u := hi.1
    show Calls _ _ _ w fun e w' => e = .returned (.int .i64 u.p) ∧ w = w'
    (simp only [rsM, rsRest, rsR, gpo, Nat.reduceAdd, List.getElem?_cons_zero, List.getElem?_cons_succ] at y1 y2 y3)
    have HG := hid (Idlep.pg_p_run hq)
    clear hp hi hq
    generalize Idlep.PgSt.p _ = z at HG
    go_enter Tryz.func27, Tryz.ntmps27
    go_wp2_with (go_at_call 131; refine HG.out.mono ?_; rintro e1 w1 ⟨rfl, rfl⟩)
    go_ret
    exact ⟨rfl, rfl⟩
  | li o z =>
    show Calls _ _ _ w fun e w' => e = .returned (.int .i64 (-1)) ∧ w = w'
    cases o with
    | none =>
      (simp only [rsM, rsRest, rsR, gpo, Nat.reduceAdd, List.getElem?_cons_zero, List.getElem?_cons_succ] at y1 y2 y3)
      have HG := hid (Idlep.pg_p_nil w)
      clear hp hi
      go_enter Tryz.func27, Tryz.ntmps27
      go_wp2_with (go_at_call 131; refine HG.out.mono ?_; rintro e1 w1 ⟨rfl, rfl⟩)
      go_ret
      exact ⟨rfl, rfl⟩
    | some u =>
      have hq : (pgS lo l P T G who).at_ w e.2.1 u := hi u rfl
      rw [← hok u rfl]
      (simp only [rsM, rsRest, rsR, gpo, Nat.reduceAdd, List.getElem?_cons_zero, List.getElem?_cons_succ] at y1 y2 y3)
      have HG := hid (Idlep.pg_p_run hq)
      clear hp hi hq
      generalize Idlep.PgSt.p _ = z at HG
      go_enter Tryz.func27, Tryz.ntmps27
      go_wp2_with (go_at_call 131; refine HG.out.mono ?_; rintro e1 w1 ⟨rfl, rfl⟩)
      go_ret
      exact ⟨rfl, rfl⟩
  | rl2 o s =>
    show Calls _ _ _ w fun e w' => e = .returned (.int .i64 (-1)) ∧ w = w'
    cases o with
    | none =>
      (simp only [rsM, rsRest, rsR, gpo, Nat.reduceAdd, List.getElem?_cons_zero, List.getElem?_cons_succ] at y1 y2 y3)
      have HG := hid (Idlep.pg_p_nil w)
      clear hp hi
      go_enter Tryz.func27, Tryz.ntmps27
      go_wp2_with (go_at_call 131; refine HG.out.mono ?_; rintro e1 w1 ⟨rfl, rfl⟩)
      go_ret
      exact ⟨rfl, rfl⟩
    | some u =>
      have hq : (pgS lo l P T G who).at_ w e.2.1 u := hi u rfl
      rw [← hok u rfl]
      (simp only [rsM, rsRest, rsR, gpo, Nat.reduceAdd, List.getElem?_cons_zero, List.getElem?_cons_succ] at y1 y2 y3)
      have HG := hid (Idlep.pg_p_run hq)
      clear hp hi hq
      generalize Idlep.PgSt.p _ = z at HG
      go_enter Tryz.func27, Tryz.ntmps27
      go_wp2_with (go_at_call 131; refine HG.out.mono ?_; rintro e1 w1 ⟨rfl, rfl⟩)
      go_ret
      exact ⟨rfl, rfl⟩
  | np o s =>
    have hq : (npS_ lo l P T G who).at_ w e.1 s := hp.2.1
    show Calls _ _ _ w fun e w' => e = .returned (.int .i64 (npP s)) ∧ w = w'
    (simp only [rsM, rsRest, rsR, gpo, Nat.reduceAdd, List.getElem?_cons_zero, List.getElem?_cons_succ] at y1 y2 y3)
    have HG := hid (np_p_run hq)
    clear hp hi hq
    generalize npP _ = z at HG
    go_enter Tryz.func27, Tryz.ntmps27
    go_wp2_with (go_at_call 53; refine HG.out.mono ?_; rintro e1 w1 ⟨rfl, rfl⟩)
    go_ret
    exact ⟨rfl, rfl⟩
  | f2 o s =>
    have hq : (npS_ lo l P T G who).at_ w e.2.2 s := hi.2
    show Calls _ _ _ w fun e w' => e = .returned (.int .i64 (npP s)) ∧ w = w'
    (simp only [rsM, rsRest, rsR, gpo, Nat.reduceAdd, List.getElem?_cons_zero, List.getElem?_cons_succ] at y1 y2 y3)
    have HG := hid (np_p_run hq)
    clear hp hi hq
    generalize npP _ = z at HG
    go_enter Tryz.func27, Tryz.ntmps27
    go_wp2_with (go_at_call 53; refine HG.out.mono ?_; rintro e1 w1 ⟨rfl, rfl⟩)
    go_ret
    exact ⟨rfl, rfl⟩
theorem rs_s_run (hA : (rsM lo l P T G who).at_ lo l x P T G who w st) :
    Calls Tryz.prog 28 #[.pointer (some ⟨x, 0, none⟩)] w fun e w' => e = .returned (.bool (rsS st)) ∧ w = w' := by
  obtain ⟨⟨e, hp, hi⟩, _, _, hok⟩ := hA
  have y1 := hp.rest_ 1
  have y2 := hp.rest_ 2
  have y3 := hp.rest_ 3
  have HS0 := hid (sn_c_nil w)
  cases st with
  | sn u s =>
    have hq : (snS lo l P T G who).at_ w e.1 s := hp.2.1
    have HS := hid (sn_c_run hq)
    show Calls _ _ _ w fun e w' => e = .returned (.bool (snC s)) ∧ w = w'
    clear HS0 hq
    obtain ⟨z, hz⟩ : ∃ z, z = snC s := ⟨_, rfl⟩
    rw [← hz] at HS ⊢
    clear hz
    cases z with
    | true =>
      (simp only [rsM, rsRest, rsR, gpo, Nat.reduceAdd, List.getElem?_cons_zero, List.getElem?_cons_succ] at y1 y2 y3)
      have HN := hid (np_s_nil w)
      clear hp hi
      go_enter Tryz.func28, Tryz.ntmps28
      go_wp2_with (first | (go_at_call 33; refine HS.out.mono ?_; rintro e1 w1 ⟨rfl, rfl⟩) | (go_at_call 54; refine HN.out.mono ?_; rintro e1 w1 ⟨rfl, rfl⟩))
      go_ret
      exact ⟨rfl, rfl⟩
    | false =>
      (simp only [rsM, rsRest, rsR, gpo, Nat.reduceAdd, List.getElem?_cons_zero, List.getElem?_cons_succ] at y1 y2 y3)
      have HN := hid (np_s_nil w)
      clear hp hi
      go_enter Tryz.func28, Tryz.ntmps28
      go_wp2_with (first | (go_at_call 33; refine HS.out.mono ?_; rintro e1 w1 ⟨rfl, rfl⟩) | (go_at_call 54; refine HN.out.mono ?_; rintro e1 w1 ⟨rfl, rfl⟩))
      go_ret
      exact ⟨rfl, rfl⟩
  | rl u s =>
    have HS := hid (sn_c_run hi.2)
    show Calls _ _ _ w fun e w' => e = .returned (.bool true) ∧ w = w'
    clear HS0
    (simp only [rsM, rsRest, rsR, gpo, Nat.reduceAdd, List.getElem?_cons_zero, List.getElem?_cons_succ] at y1 y2 y3)
    have HN := hid (np_s_nil w)
    clear hp hi
    go_enter Tryz.func28, Tryz.ntmps28
    go_wp2_with (first | (go_at_call 33; refine HS.out.mono ?_; rintro e1 w1 ⟨rfl, rfl⟩) | (go_at_call 54; refine HN.out.mono ?_; rintro e1 w1 ⟨rfl, rfl⟩))
    go_ret
    exact ⟨rfl, rfl⟩
  | ha u =>
    have HS := hid (sn_c_run hi.2)
    show Calls _ _ _ w fun e w' => e = .returned (.bool true) ∧ w = w'
    clear HS0
    (simp only [rsM, rsRest, rsR, gpo, Nat.reduceAdd, List.getElem?_cons_zero, List.getElem?_cons_succ] at y1 y2 y3)
    have HN := hid (np_s_nil w)
    clear hp hi
    go_enter Tryz.func28, Tryz.ntmps28
    go_wp2_with (first | (go_at_call 33; refine HS.out.mono ?_; rintro e1 w1 ⟨rfl, rfl⟩) | (go_at_call 54; refine HN.out.mono ?_; rintro e1 w1 ⟨rfl, rfl⟩))
    go_ret
    exact ⟨rfl, rfl⟩
  | f1 u =>
    have HS := hid (sn_c_run hi.2)
    show Calls _ _ _ w fun e w' => e = .returned (.bool true) ∧ w = w'
    clear HS0
    (simp only [rsM, rsRest, rsR, gpo, Nat.reduceAdd, List.getElem?_cons_zero, List.getElem?_cons_succ] at y1 y2 y3)
    have HN := hid (np_s_nil w)
    clear hp hi
    go_enter Tryz.func28, Tryz.ntmps28
    go_wp2_with (first | (go_at_call 33; refine HS.out.mono ?_; rintro e1 w1 ⟨rfl, rfl⟩) | (go_at_call 54; refine HN.out.mono ?_; rintro e1 w1 ⟨rfl, rfl⟩))
    go_ret
    exact ⟨rfl, rfl⟩
  | np o s =>
    have hq : (npS_ lo l P T G who).at_ w e.1 s := hp.2.1
    have HN := hid (np_s_run hq)
    show Calls _ _ _ w fun e w' => e = .returned (.bool (npS s)) ∧ w = w'
    clear hq
    (simp only [rsM, rsRest, rsR, gpo, Nat.reduceAdd, List.getElem?_cons_zero, List.getElem?_cons_succ] at y1 y2 y3)
    have HS := hid (sn_c_nil w)
    clear hp hi
    obtain ⟨z, hz⟩ : ∃ z, z = npS s := ⟨_, rfl⟩
    rw [← hz] at HN ⊢
    clear hz
    go_enter Tryz.func28, Tryz.ntmps28
    go_wp2_with (first | (go_at_call 33; refine HS.out.mono ?_; rintro e1 w1 ⟨rfl, rfl⟩) | (go_at_call 54; refine HN.out.mono ?_; rintro e1 w1 ⟨rfl, rfl⟩))
    go_ret
    exact ⟨rfl, rfl⟩
  | f2 o s =>
    have HN := hid (np_s_run hi.2)
    show Calls _ _ _ w fun e w' => e = .returned (.bool (npS s)) ∧ w = w'
    (simp only [rsM, rsRest, rsR, gpo, Nat.reduceAdd, List.getElem?_cons_zero, List.getElem?_cons_succ] at y1 y2 y3)
    have HS := hid (sn_c_nil w)
    clear hp hi
    obtain ⟨z, hz⟩ : ∃ z, z = npS s := ⟨_, rfl⟩
    rw [← hz] at HN ⊢
    clear hz
    go_enter Tryz.func28, Tryz.ntmps28
    go_wp2_with (first | (go_at_call 33; refine HS.out.mono ?_; rintro e1 w1 ⟨rfl, rfl⟩) | (go_at_call 54; refine HN.out.mono ?_; rintro e1 w1 ⟨rfl, rfl⟩))
    go_ret
    exact ⟨rfl, rfl⟩
  | aq s =>
    have HS := HS0
    show Calls _ _ _ w fun e w' => e = .returned (.bool false) ∧ w = w'
    (simp only [rsM, rsRest, rsR, gpo, Nat.reduceAdd, List.getElem?_cons_zero, List.getElem?_cons_succ] at y1 y2 y3)
    have HN := hid (np_s_nil w)
    clear hp hi
    go_enter Tryz.func28, Tryz.ntmps28
    go_wp2_with (first | (go_at_call 33; refine HS.out.mono ?_; rintro e1 w1 ⟨rfl, rfl⟩) | (go_at_call 54; refine HN.out.mono ?_; rintro e1 w1 ⟨rfl, rfl⟩))
    go_ret
    exact ⟨rfl, rfl⟩
  | nd =>
    have HS := HS0
    show Calls _ _ _ w fun e w' => e = .returned (.bool false) ∧ w = w'
    (simp only [rsM, rsRest, rsR, gpo, Nat.reduceAdd, List.getElem?_cons_zero, List.getElem?_cons_succ] at y1 y2 y3)
    have HN := hid (np_s_nil w)
    clear hp hi
    go_enter Tryz.func28, Tryz.ntmps28
    go_wp2_with (first | (go_at_call 33; refine HS.out.mono ?_; rintro e1 w1 ⟨rfl, rfl⟩) | (go_at_call 54; refine HN.out.mono ?_; rintro e1 w1 ⟨rfl, rfl⟩))
    go_ret
    exact ⟨rfl, rfl⟩
  | gt s =>
    have HS := HS0
    show Calls _ _ _ w fun e w' => e = .returned (.bool false) ∧ w = w'
    (simp only [rsM, rsRest, rsR, gpo, Nat.reduceAdd, List.getElem?_cons_zero, List.getElem?_cons_succ] at y1 y2 y3)
    have HN := hid (np_s_nil w)
    clear hp hi
    go_enter Tryz.func28, Tryz.ntmps28
    go_wp2_with (first | (go_at_call 33; refine HS.out.mono ?_; rintro e1 w1 ⟨rfl, rfl⟩) | (go_at_call 54; refine HN.out.mono ?_; rintro e1 w1 ⟨rfl, rfl⟩))
    go_ret
    exact ⟨rfl, rfl⟩
  | li o z =>
    have HS := HS0
    show Calls _ _ _ w fun e w' => e = .returned (.bool false) ∧ w = w'
    (simp only [rsM, rsRest, rsR, gpo, Nat.reduceAdd, List.getElem?_cons_zero, List.getElem?_cons_succ] at y1 y2 y3)
    have HN := hid (np_s_nil w)
    clear hp hi
    go_enter Tryz.func28, Tryz.ntmps28
    go_wp2_with (first | (go_at_call 33; refine HS.out.mono ?_; rintro e1 w1 ⟨rfl, rfl⟩) | (go_at_call 54; refine HN.out.mono ?_; rintro e1 w1 ⟨rfl, rfl⟩))
    go_ret
    exact ⟨rfl, rfl⟩
  | rl2 o s =>
    have HS := HS0
    show Calls _ _ _ w fun e w' => e = .returned (.bool false) ∧ w = w'
    (simp only [rsM, rsRest, rsR, gpo, Nat.reduceAdd, List.getElem?_cons_zero, List.getElem?_cons_succ] at y1 y2 y3)
    have HN := hid (np_s_nil w)
    clear hp hi
    go_enter Tryz.func28, Tryz.ntmps28
    go_wp2_with (first | (go_at_call 33; refine HS.out.mono ?_; rintro e1 w1 ⟨rfl, rfl⟩) | (go_at_call 54; refine HN.out.mono ?_; rintro e1 w1 ⟨rfl, rfl⟩))
    go_ret
    exact ⟨rfl, rfl⟩
/-- Whether it is asleep: its nap is. -/
def rsA (P T who : Int) (st : RsSt) (s : St) : Bool := match st with
  | .np _ z => asleepOf (npY P T who) z s
  | _ => false
theorem np_over_awake {P T who : Int} {z : NpSt} {s : St} (h : (npY P T who).want z = none) : asleepOf (npY P T who) z s = false := by
  unfold asleepOf
  rw [h]
theorem rs_asl_run {m mg : Nat} {s : St} (hA : (rsM lo l P T G who).at_ lo l x P T G who w st) (hM : MemAt w m mg s) (hfin : ∀ o z, st = .f2 o z → (npY P T who).want z = none) :
    Calls Tryz.prog 23 #[.pointer (some ⟨x, 0, none⟩), .pointer (some ⟨m, 0, none⟩)] w fun e w' => e = .returned (.bool (rsA P T who st s)) ∧ w = w' := by
  obtain ⟨⟨e, hp, hi⟩, _, _, hok⟩ := hA
  have y1 := hp.rest_ 1
  have y2 := hp.rest_ 2
  have y3 := hp.rest_ 3
  cases st with
  | np o z =>
    have hq : (npS_ lo l P T G who).at_ w e.1 z := hp.2.1
    have HN := hid (np_thruA e.1 m _ w (mz_asleep (np_goes lo l e.1 P T G who) hq hM))
    show Calls _ _ _ w fun e w' => e = .returned (.bool (asleepOf (npY P T who) z s)) ∧ w = w'
    rw [show asleepOf (npM lo l P T G who).sys z s = asleepOf (npY P T who) z s from rfl] at HN
    clear hq hM
    obtain ⟨q, hq⟩ : ∃ q, q = asleepOf (npY P T who) z s := ⟨_, rfl⟩
    rw [← hq] at HN ⊢
    clear hq
    (simp only [rsM, rsRest, rsR, gpo, Nat.reduceAdd, List.getElem?_cons_zero, List.getElem?_cons_succ] at y1 y2 y3)
    clear hp hi
    go_enter Tryz.func23, Tryz.ntmps23
    go_wp2_with (go_at_call 55; refine HN.out.mono ?_; rintro e1 w1 ⟨rfl, rfl⟩)
    go_ret
    exact ⟨rfl, rfl⟩
  | f2 o z =>
    have HN := hid (np_thruA e.2.2 m _ w (mz_asleep (np_goes lo l e.2.2 P T G who) hi.2 hM))
    rw [show asleepOf (npM lo l P T G who).sys z s = false from np_over_awake (hfin o z rfl)] at HN
    show Calls _ _ _ w fun e w' => e = .returned (.bool false) ∧ w = w'
    clear hM hfin
    (simp only [rsM, rsRest, rsR, gpo, Nat.reduceAdd, List.getElem?_cons_zero, List.getElem?_cons_succ] at y1 y2 y3)
    clear hp hi
    go_enter Tryz.func23, Tryz.ntmps23
    go_wp2_with (go_at_call 55; refine HN.out.mono ?_; rintro e1 w1 ⟨rfl, rfl⟩)
    go_ret
    exact ⟨rfl, rfl⟩
  | aq s => show Calls _ _ _ w fun e w' => e = .returned (.bool false) ∧ w = w'; clear hM hfin; ((simp only [rsM, rsRest, rsR, gpo, Nat.reduceAdd, List.getElem?_cons_zero, List.getElem?_cons_succ] at y1 y2 y3); (have HN := hid (np_asl_nil (some ⟨m, 0, none⟩) w)); clear hp hi; go_enter Tryz.func23, Tryz.ntmps23; go_wp2_with (go_at_call 55; refine HN.out.mono ?_; rintro e1 w1 ⟨rfl, rfl⟩); go_ret; exact ⟨rfl, rfl⟩)
  | nd => show Calls _ _ _ w fun e w' => e = .returned (.bool false) ∧ w = w'; clear hM hfin; ((simp only [rsM, rsRest, rsR, gpo, Nat.reduceAdd, List.getElem?_cons_zero, List.getElem?_cons_succ] at y1 y2 y3); (have HN := hid (np_asl_nil (some ⟨m, 0, none⟩) w)); clear hp hi; go_enter Tryz.func23, Tryz.ntmps23; go_wp2_with (go_at_call 55; refine HN.out.mono ?_; rintro e1 w1 ⟨rfl, rfl⟩); go_ret; exact ⟨rfl, rfl⟩)
  | gt s => show Calls _ _ _ w fun e w' => e = .returned (.bool false) ∧ w = w'; clear hM hfin; ((simp only [rsM, rsRest, rsR, gpo, Nat.reduceAdd, List.getElem?_cons_zero, List.getElem?_cons_succ] at y1 y2 y3); (have HN := hid (np_asl_nil (some ⟨m, 0, none⟩) w)); clear hp hi; go_enter Tryz.func23, Tryz.ntmps23; go_wp2_with (go_at_call 55; refine HN.out.mono ?_; rintro e1 w1 ⟨rfl, rfl⟩); go_ret; exact ⟨rfl, rfl⟩)
  | sn u s => show Calls _ _ _ w fun e w' => e = .returned (.bool false) ∧ w = w'; clear hM hfin; ((simp only [rsM, rsRest, rsR, gpo, Nat.reduceAdd, List.getElem?_cons_zero, List.getElem?_cons_succ] at y1 y2 y3); (have HN := hid (np_asl_nil (some ⟨m, 0, none⟩) w)); clear hp hi; go_enter Tryz.func23, Tryz.ntmps23; go_wp2_with (go_at_call 55; refine HN.out.mono ?_; rintro e1 w1 ⟨rfl, rfl⟩); go_ret; exact ⟨rfl, rfl⟩)
  | rl u s => show Calls _ _ _ w fun e w' => e = .returned (.bool false) ∧ w = w'; clear hM hfin; ((simp only [rsM, rsRest, rsR, gpo, Nat.reduceAdd, List.getElem?_cons_zero, List.getElem?_cons_succ] at y1 y2 y3); (have HN := hid (np_asl_nil (some ⟨m, 0, none⟩) w)); clear hp hi; go_enter Tryz.func23, Tryz.ntmps23; go_wp2_with (go_at_call 55; refine HN.out.mono ?_; rintro e1 w1 ⟨rfl, rfl⟩); go_ret; exact ⟨rfl, rfl⟩)
  | ha u => show Calls _ _ _ w fun e w' => e = .returned (.bool false) ∧ w = w'; clear hM hfin; ((simp only [rsM, rsRest, rsR, gpo, Nat.reduceAdd, List.getElem?_cons_zero, List.getElem?_cons_succ] at y1 y2 y3); (have HN := hid (np_asl_nil (some ⟨m, 0, none⟩) w)); clear hp hi; go_enter Tryz.func23, Tryz.ntmps23; go_wp2_with (go_at_call 55; refine HN.out.mono ?_; rintro e1 w1 ⟨rfl, rfl⟩); go_ret; exact ⟨rfl, rfl⟩)
  | f1 u => show Calls _ _ _ w fun e w' => e = .returned (.bool false) ∧ w = w'; clear hM hfin; ((simp only [rsM, rsRest, rsR, gpo, Nat.reduceAdd, List.getElem?_cons_zero, List.getElem?_cons_succ] at y1 y2 y3); (have HN := hid (np_asl_nil (some ⟨m, 0, none⟩) w)); clear hp hi; go_enter Tryz.func23, Tryz.ntmps23; go_wp2_with (go_at_call 55; refine HN.out.mono ?_; rintro e1 w1 ⟨rfl, rfl⟩); go_ret; exact ⟨rfl, rfl⟩)
  | li o z => show Calls _ _ _ w fun e w' => e = .returned (.bool false) ∧ w = w'; clear hM hfin; ((simp only [rsM, rsRest, rsR, gpo, Nat.reduceAdd, List.getElem?_cons_zero, List.getElem?_cons_succ] at y1 y2 y3); (have HN := hid (np_asl_nil (some ⟨m, 0, none⟩) w)); clear hp hi; go_enter Tryz.func23, Tryz.ntmps23; go_wp2_with (go_at_call 55; refine HN.out.mono ?_; rintro e1 w1 ⟨rfl, rfl⟩); go_ret; exact ⟨rfl, rfl⟩)
  | rl2 o s => show Calls _ _ _ w fun e w' => e = .returned (.bool false) ∧ w = w'; clear hM hfin; ((simp only [rsM, rsRest, rsR, gpo, Nat.reduceAdd, List.getElem?_cons_zero, List.getElem?_cons_succ] at y1 y2 y3); (have HN := hid (np_asl_nil (some ⟨m, 0, none⟩) w)); clear hp hi; go_enter Tryz.func23, Tryz.ntmps23; go_wp2_with (go_at_call 55; refine HN.out.mono ?_; rintro e1 w1 ⟨rfl, rfl⟩); go_ret; exact ⟨rfl, rfl⟩)
end
theorem rs_p_nil (w : World) : Calls Tryz.prog 27 #[.pointer none] w fun e w' => e = .returned (.int .i64 (-1)) ∧ w = w' := by
  go_enter Tryz.func27, Tryz.ntmps27
  go_wp2
  go_ret
  exact ⟨rfl, rfl⟩
theorem rs_s_nil (w : World) : Calls Tryz.prog 28 #[.pointer none] w fun e w' => e = .returned (.bool false) ∧ w = w' := by
  go_enter Tryz.func28, Tryz.ntmps28
  go_wp2
  go_ret
  exact ⟨rfl, rfl⟩
theorem rs_asl_nil (m : Option Addr) (w : World) : Calls Tryz.prog 23 #[.pointer none, .pointer m] w fun e w' => e = .returned (.bool false) ∧ w = w' := by
  go_enter Tryz.func23, Tryz.ntmps23
  go_wp2
  go_ret
  exact ⟨rfl, rfl⟩
end Go.Proofs.YtlhnnggceebpjaaGreat.Rest
