/- Some are taken from the global queue for a processor: the machine. -/
import Derived.Test.YtnmkfmaohflejaaTake
set_option maxRecDepth 100000
set_option maxHeartbeats 4000000
set_option linter.unusedVariables false
set_option linter.unusedSimpArgs false
namespace Go.Proofs.Ytnmkfmaohflejaa.Globq
open Go.RowKit Go.Shelf Go.Proofs.Ytnmkfmaohflejaa.TK Go.Proofs.Ytnmkfmaohflejaa.Flag Go.Proofs.Ytnmkfmaohflejaa.Read Go.Proofs.Ytnmkfmaohflejaa.Words Go.Proofs.Ytnmkfmaohflejaa.Mem Go.Proofs.Ytnmkfmaohflejaa.Flow Go.Proofs.Ytnmkfmaohflejaa.Layout Go.Proofs.Ytnmkfmaohflejaa.Lock Go.Proofs.Ytnmkfmaohflejaa.Run Go.Proofs.Ytnmkfmaohflejaa.Sys Go.Proofs.Ytnmkfmaohflejaa.Mach Go.Proofs.Ytnmkfmaohflejaa.Doc Go.Proofs.Ytnmkfmaohflejaa.Ref05 Go.Proofs.Ytnmkfmaohflejaa.Subs Go.Proofs.Ytnmkfmaohflejaa.IWords Go.Proofs.Ytnmkfmaohflejaa.Idlep
theorem tk_sized1_run (x l lo : Nat) (P T G who : Int) (p q v : Int) (w : World) (hv : 0 < v ∧ v < 18446744073709551616) (hP : 1 ≤ P) (hlo : lo ≤ w.heap.size) (hp : Pend w x who (tkR l p q 0 (.pointer none) (-1) (-1) 0) 153 .done) (hL : Lay w l P T G) :
    Calls Try.prog 124 #[.pointer (some ⟨x, 0, none⟩), .int .u64 v] w fun e w' => (∃ r, e = .returned r) ∧ (∃ y, Pend2 w' x who (tkR l p q (decQ (tkLeft P q v)) (.pointer (some ⟨y, 0, none⟩)) (-1) (-1) 0) 153 (.sub (qlS lo l P T G who) y .h 147)) ∧ Kept [x] w w' := by
  by_cases c1 : IntKind.u64.wrap (v / P + 1) < v
  · by_cases c2 : 128 < IntKind.u64.wrap (v / P + 1)
    · exact tk_sized1a_run x l lo P T G who p q v w hv hP c1 c2 hlo hp hL
    · exact tk_sized1b_run x l lo P T G who p q v w hv hP c1 c2 hlo hp hL
  · by_cases c2 : 128 < v
    · exact tk_sized1c_run x l lo P T G who p q v w hv hP c1 c2 hlo hp hL
    · exact tk_sized1d_run x l lo P T G who p q v w hv hP c1 c2 hlo hp hL
theorem tk_thruD : ThruD 93 := by
  intro x o w H
  have H := hid H
  go_enter Try.func93, Try.ntmps93
  go_wp2_with fail
  refine H.out.mono ?_
  rintro e w1 ⟨rfl, rfl⟩
  go_wp2
  go_ret
  exact ⟨rfl, rfl⟩
theorem tkstep_nil (m : Option Addr) (w : World) : Calls Try.prog 91 #[.pointer none, .pointer m] w fun e w' => e = .returned (.bool true) ∧ w = w' := by
  go_enter Try.func91, Try.ntmps91
  go_wp2
  go_ret
  exact ⟨rfl, rfl⟩
theorem tkdone_nil (w : World) : Calls Try.prog 93 #[.pointer none] w fun e w' => e = .returned (.bool true) ∧ w = w' := by
  go_enter Try.func93, Try.ntmps93
  go_wp2
  go_ret
  exact ⟨rfl, rfl⟩
theorem tk_step : StepOf 128 91 := ⟨fun y w => rfl, enters_of Try.func91 (by kernel_rfl) rfl⟩
theorem tk_quiet : NoSleeper 128 := fun y w => run_typeAssert_lacksB Try.underlying160 (by kernel_rfl) (by kernel_rfl) _ _ w
theorem tk_thru : Thru 91 := by
  intro x m o w R H
  have H := hid H
  go_enter Try.func91, Try.ntmps91
  go_wp2_with fail
  refine H.out.mono ?_
  rintro e w1 ⟨rfl, h1⟩
  have HX := hid h1
  clear h1
  go_wp2
  go_ret
  exact ⟨rfl, HX.out⟩
theorem tk_own (lo l : Nat) (P T G who p q : Int) : ∀ Ty ∈ rdT (tkM lo l P T G who p q).wr, Ty ∉ theirs := by
  show ∀ Ty ∈ rdT [153, 135], Ty ∉ theirs
  decide
theorem u1_rng (y : Int) : Rng (u1 y) := by unfold u1 Rng; rw [IntKind.wrap_u64]; omega
theorem tkGo_ok (n g t : Int) : tkOk (tkGo n g t) := by unfold tkGo; split <;> trivial
theorem tk_goes (lo l x : Nat) (P T G who p q : Int) (hP : 1 ≤ P) : Goes2 (tkM lo l P T G who p q) lo l x P T G who := by
  refine ⟨tk_own lo l P T G who p q, by simp [tkM], by show 1 ∉ [153, 135] ∧ 166 ∉ [153, 135] ∧ 143 ∉ [153, 135]; decide, ?_, ?_, ?_, ?_, ?_⟩
  · intro st T hT
    exact absurd (show T ∈ [] from hT) (by simp)
  · intro st a hok ha
    show tkOk (tkNext P T G q st a)
    cases st with
    | sz => unfold tkNext; simp only; split <;> trivial
    | pl1 n s => unfold tkNext runs; simp only; split; exact tkGo_ok _ _ _; trivial
    | plN n g t s => unfold tkNext runs tkMore; simp only; (repeat' split) <;> trivial
    | tl n g y t => exact ha
    | rg n g y t => exact hok
    | ts n g y t => exact tkGo_ok _ _ _
    | fin n g t => trivial
  · intro st e
    cases st <;> rfl
  · intro st e w w' Z hi hk hZ
    trivial
  · intro st e hok
    cases st with
    | sz =>
      refine .inr ⟨by show (0 : Int) ≤ 0 ∧ (0 : Int) < 18446744073709551616; omega, enters_of Try.func124 (by kernel_rfl) rfl, ?_⟩
      intro a w ha hlo hp hi hL
      by_cases hz : a = 0
      · subst hz
        refine (tk_sized0_run x l P T G who p q w hp hL).mono ?_
        rintro e3 w' ⟨he, h1, h2⟩
        exact ⟨he, ⟨e, h1, trivial⟩, h2⟩
      · have e1 : tkNext P T G q .sz a = .pl1 (decQ (tkLeft P q a)) .h := if_neg hz
        refine (tk_sized1_run x l lo P T G who p q a w (by have := ha; unfold Rng at this; omega) hP hlo hp hL).mono ?_
        rintro e3 w' ⟨he, ⟨y, h1⟩, h2⟩
        refine ⟨he, ⟨y, ?_⟩, h2⟩
        show (tkM lo l P T G who p q).is_ x who w' (tkNext P T G q .sz a) y
        rw [e1]
        exact ⟨h1, trivial⟩
    | pl1 n s =>
      refine ⟨ql_sub lo l P T G who, ?_, enters_of Try.func147 (by kernel_rfl) rfl, ?_⟩
      · show ∀ T ∈ [135], T ∈ [153, 135] ∧ T ≠ 153 ∧ T ∉ []
        decide
      intro a ha
      refine ⟨?_, ?_⟩
      · intro hn
        have e1 : tkNext P T G q (.pl1 n s) a = (TkSt.pl1 n) (qlNext s a) := runs_on (M := qlY P T G) (k := (fun s => tkGo n s.g 0)) (emb := (TkSt.pl1 n)) (s := (qlNext s a)) hn
        refine ⟨?_, ?_, fun _ h => ?_⟩
        · show (tkM lo l P T G who p q).nx (tkNext P T G q (.pl1 n s) a) e = _
          rw [e1]; rfl
        · show (tkM lo l P T G who p q).rest (tkNext P T G q (.pl1 n s) a) e = _
          rw [e1]; rfl
        · show (tkM lo l P T G who p q).inv (tkNext P T G q (.pl1 n s) a) e _
          rw [e1]; first | trivial | exact h
      · intro hn w hlo hp hA hi hL
        have e0 : tkNext P T G q (.pl1 n s) a = ((fun s => tkGo n s.g 0)) (qlNext s a) := runs_off (M := qlY P T G) (k := (fun s => tkGo n s.g 0)) (emb := (TkSt.pl1 n)) (s := (qlNext s a)) hn
        have hA : (qlS lo l P T G who).at_ w e (qlNext s a) := hA
        by_cases hg : 0 < n ∧ (qlNext s a).g ≠ -1
        · have e1 : tkNext P T G q (.pl1 n s) a = .plN (decQ n) (qlNext s a).g 0 .h := by rw [e0]; exact if_pos hg
          refine (tk_first1_run x l lo P T G who p q n (-1) (-1) 0 _ e _ w hA rfl hg.1 hg.2 hlo hp hL).mono ?_
          rintro e3 w' ⟨he, ⟨y, h1⟩, h2⟩
          refine ⟨he, ⟨y, ?_⟩, h2⟩
          show (tkM lo l P T G who p q).is_ x who w' (tkNext P T G q (.pl1 n s) a) y
          rw [e1]
          exact ⟨h1, trivial⟩
        · have e1 : tkNext P T G q (.pl1 n s) a = .fin n (qlNext s a).g 0 := by rw [e0]; exact if_neg hg
          have key : Calls Try.prog 147 #[.pointer (some ⟨x, 0, none⟩)] w fun e' w' => (∃ r, e' = .returned r) ∧ Pend w' x who (tkR l p q n (.pointer none) (qlNext s a).g (-1) 0) 153 .done ∧ Kept [x] w w' := by
            by_cases hn : n ≤ 0
            · exact tk_first0_run x l lo P T G who p q n (-1) (-1) 0 _ e _ w hA rfl hn hlo hp hL
            · have hv : (qlNext s a).g = -1 := by
                by_cases hv : (qlNext s a).g = -1
                · exact hv
                · exact absurd ⟨by omega, hv⟩ hg
              rw [hv]
              exact tk_firstN_run x l lo P T G who p q n (-1) (-1) 0 e _ w hA hv (by omega) hlo hp hL
          refine key.mono ?_
          rintro e3 w' ⟨he, h1, h2⟩
          refine ⟨he, ⟨e, ?_⟩, h2⟩
          show (tkM lo l P T G who p q).is_ x who w' (tkNext P T G q (.pl1 n s) a) e
          rw [e1]
          exact ⟨h1, trivial⟩
    | plN n g t s =>
      refine ⟨ql_sub lo l P T G who, ?_, enters_of Try.func184 (by kernel_rfl) rfl, ?_⟩
      · show ∀ T ∈ [135], T ∈ [153, 135] ∧ T ≠ 153 ∧ T ∉ []
        decide
      intro a ha
      refine ⟨?_, ?_⟩
      · intro hn
        have e1 : tkNext P T G q (.plN n g t s) a = (TkSt.plN n g t) (qlNext s a) := runs_on (M := qlY P T G) (k := (tkMore n g t)) (emb := (TkSt.plN n g t)) (s := (qlNext s a)) hn
        refine ⟨?_, ?_, fun _ h => ?_⟩
        · show (tkM lo l P T G who p q).nx (tkNext P T G q (.plN n g t s) a) e = _
          rw [e1]; rfl
        · show (tkM lo l P T G who p q).rest (tkNext P T G q (.plN n g t s) a) e = _
          rw [e1]; rfl
        · show (tkM lo l P T G who p q).inv (tkNext P T G q (.plN n g t s) a) e _
          rw [e1]; first | trivial | exact h
      · intro hn w hlo hp hA hi hL
        have e0 : tkNext P T G q (.plN n g t s) a = ((tkMore n g t)) (qlNext s a) := runs_off (M := qlY P T G) (k := (tkMore n g t)) (emb := (TkSt.plN n g t)) (s := (qlNext s a)) hn
        have hA : (qlS lo l P T G who).at_ w e (qlNext s a) := hA
        by_cases h : (qlNext s a).g = -1
        · have e1 : tkNext P T G q (.plN n g t s) a = .fin n g t := by rw [e0]; exact if_pos h
          refine (tk_more0_run x l P T G who p q n g (-1) t e lo (qlNext s a) w hA h hp hL).mono ?_
          rintro e3 w' ⟨he, h1, h2⟩
          refine ⟨he, ⟨e, ?_⟩, h2⟩
          show (tkM lo l P T G who p q).is_ x who w' (tkNext P T G q (.plN n g t s) a) e
          rw [e1]
          exact ⟨h1, trivial⟩
        · have e1 : tkNext P T G q (.plN n g t s) a = .tl n g (qlNext s a).g t := by rw [e0]; exact if_neg h
          refine (tk_more1_run x l P T G who p q n g (-1) t (qlNext s a).g e lo (qlNext s a) w hA rfl h hp hL).mono ?_
          rintro e3 w' ⟨he, h1, h2⟩
          refine ⟨he, ⟨e, ?_⟩, h2⟩
          show (tkM lo l P T G who p q).is_ x who w' (tkNext P T G q (.plN n g t s) a) e
          rw [e1]
          exact ⟨h1, trivial⟩
    | tl n g y t =>
      refine .inr ⟨by show (0 : Int) ≤ 0 ∧ (0 : Int) < 18446744073709551616; omega, enters_of Try.func192 (by kernel_rfl) rfl, ?_⟩
      intro a w ha hlo hp hi hL
      refine (tk_tailed_run x l P T G who p q n g y t a (.pointer none) w ha hp hL).mono ?_
      rintro e3 w' ⟨he, h1, h2⟩
      exact ⟨he, ⟨e, h1, trivial⟩, h2⟩
    | rg n g y t =>
      refine .inr ⟨u1_rng y, enters_of Try.func194 (by kernel_rfl) rfl, ?_⟩
      intro a w ha hlo hp hi hL
      refine (tk_stored_run x l P T G who p q n g y t (.pointer none) w hp hL).mono ?_
      rintro e3 w' ⟨he, h1, h2⟩
      exact ⟨he, ⟨e, h1, trivial⟩, h2⟩
    | ts n g y t =>
      refine .inr ⟨by show 0 ≤ nextQ t ∧ nextQ t < _; unfold nextQ; rw [IntKind.wrap_u64]; omega, enters_of Try.func197 (by kernel_rfl) rfl, ?_⟩
      intro a w ha hlo hp hi hL
      by_cases hg : 0 < n ∧ g ≠ -1
      · have e1 : tkNext P T G q (.ts n g y t) a = .plN (decQ n) g t .h := if_pos hg
        refine (tk_laid1_run x l lo P T G who p q n g y t (.pointer none) w hg.1 hg.2 hlo hp hL).mono ?_
        rintro e3 w' ⟨he, ⟨z, h1⟩, h2⟩
        refine ⟨he, ⟨z, ?_⟩, h2⟩
        show (tkM lo l P T G who p q).is_ x who w' (tkNext P T G q (.ts n g y t) a) z
        rw [e1]
        exact ⟨h1, trivial⟩
      · have e1 : tkNext P T G q (.ts n g y t) a = .fin n g t := if_neg hg
        have key : Calls Try.prog 197 #[.pointer (some ⟨x, 0, none⟩)] w fun e' w' => (∃ r, e' = .returned r) ∧ Pend w' x who (tkR l p q n (.pointer none) g (-1) t) 153 .done ∧ Kept [x] w w' := by
          by_cases hn : n ≤ 0
          · exact tk_laid0_run x l lo P T G who p q n g y t (.pointer none) w hn hlo hp hL
          · have hv : g = -1 := by
              by_cases hv : g = -1
              · exact hv
              · exact absurd ⟨by omega, hv⟩ hg
            rw [hv]
            rw [hv] at hp
            exact tk_laidN_run x l lo P T G who p q n y t (.pointer none) w (by omega) hlo hp hL
        refine key.mono ?_
        rintro e3 w' ⟨he, h1, h2⟩
        refine ⟨he, ⟨e, ?_⟩, h2⟩
        show (tkM lo l P T G who p q).is_ x who w' (tkNext P T G q (.ts n g y t) a) e
        rw [e1]
        exact ⟨h1, trivial⟩
    | fin n g t => exact .inl rfl
def tkS (lo l : Nat) (P T G who p q : Int) : Subm TkSt := (tkM lo l P T G who p q).sub 128 91 lo l P T G who
theorem tk_sub (lo l : Nat) (P T G who p q : Int) (hP : 1 ≤ P) : SubOk (tkS lo l P T G who p q) lo who := m2_sub tk_step tk_quiet tk_thru (fun y _ => tk_goes lo l y P T G who p q hP) (tk_own lo l P T G who p q)
theorem tk_made (lo l : Nat) (P T G who p q : Int) (w : World) (hL : Lay w l P T G) (hlo : lo ≤ w.heap.size) :
    Calls Try.prog 90 #[.pointer (some ⟨l, 0, none⟩), .int .i64 who, .int .i64 p, .int .i64 q] w fun e w' => e = .returned (.pointer (some ⟨w.heap.size, 0, none⟩)) ∧ (tkS lo l P T G who p q).at_ w' w.heap.size .sz ∧ Below w.heap.size w w' := by
  refine (tk_new_run l P T G who p q w hL).mono ?_
  rintro e w' ⟨rfl, h1, h2⟩
  exact ⟨rfl, ⟨⟨0, h1, trivial⟩, hlo, hL.quiet h2, trivial⟩, h2⟩
def tkG : TkSt → Int
  | .pl1 _ s => s.g
  | .plN _ g _ s => if g = -1 then s.g else g
  | .tl _ g _ _ => g
  | .rg _ g _ _ => g
  | .ts _ g _ _ => g
  | .fin _ g _ => g
  | .sz => -1
/-- Which one was taken, of one that is done. -/
theorem tk_g_fin {lo l x : Nat} {P T G who p q n g t : Int} {w : World} (hA : (tkM lo l P T G who p q).at_ lo l x P T G who w (.fin n g t)) :
    Calls Try.prog 94 #[.pointer (some ⟨x, 0, none⟩)] w fun e w' => e = .returned (.int .i64 g) ∧ w = w' := by
  obtain ⟨⟨e, hp, hi⟩, _⟩ := hA
  have y3 := hp.rest_ 4
  have y4 := hp.rest_ 5
  have y5 := hp.rest_ 6
  simp only [tkM, tkRest, tkR, Nat.reduceAdd, List.getElem?_cons_zero, List.getElem?_cons_succ] at y3 y4 y5
  have HN := hid (ql_g_nil w)
  clear hp hi
  by_cases hg : g = -1
  · subst hg
    go_enter Try.func94, Try.ntmps94
    go_wp2_with (go_at_call 51; refine HN.out.mono ?_; rintro e1 w1 ⟨rfl, rfl⟩)
    go_ret
    exact ⟨rfl, rfl⟩
  · have d1 : ((g : Int) == -1) = false := by simpa using hg
    go_enter Try.func94, Try.ntmps94
    go_wp2
    go_ret
    exact ⟨rfl, rfl⟩
theorem tk_g_nil (w : World) : Calls Try.prog 94 #[.pointer none] w fun e w' => e = .returned (.int .i64 (-1)) ∧ w = w' := by
  go_enter Try.func94, Try.ntmps94
  go_wp2
  go_ret
  exact ⟨rfl, rfl⟩
end Go.Proofs.Ytnmkfmaohflejaa.Globq
