/- A thread that rests while somebody is needed: the plain law. -/
import Derived.Test.YtlhnnggceebpjaaGreatRestE
import Derived.Test.YtlhnnggceebpjaaGreatRoad
set_option maxRecDepth 100000
set_option maxHeartbeats 4000000
set_option linter.unusedVariables false
set_option linter.unusedSimpArgs false
set_option linter.constructorNameAsVariable false
namespace Go.Proofs.YtlhnnggceebpjaaGreat.Rest
open Go.RowKit Go.Shelf Go.Proofs.YtlhnnggceebpjaaGreat.TK Go.Proofs.YtlhnnggceebpjaaGreat.Flag Go.Proofs.YtlhnnggceebpjaaGreat.Read Go.Proofs.YtlhnnggceebpjaaGreat.Words Go.Proofs.YtlhnnggceebpjaaGreat.Mem Go.Proofs.YtlhnnggceebpjaaGreat.Flow Go.Proofs.YtlhnnggceebpjaaGreat.Layout Go.Proofs.YtlhnnggceebpjaaGreat.Lock Go.Proofs.YtlhnnggceebpjaaGreat.Run Go.Proofs.YtlhnnggceebpjaaGreat.Sys Go.Proofs.YtlhnnggceebpjaaGreat.Mach Go.Proofs.YtlhnnggceebpjaaGreat.Ref05 Go.Proofs.YtlhnnggceebpjaaGreat.Subs Go.Proofs.YtlhnnggceebpjaaGreat.Note Go.Proofs.YtlhnnggceebpjaaGreat.Wake Go.Proofs.YtlhnnggceebpjaaGreat.Road Go.Proofs.YtlhnnggceebpjaaGreat.Idlep Go.Proofs.YtlhnnggceebpjaaGreat.MapL Go.Proofs.YtlhnnggceebpjaaGreat.Bits
open Go.Proofs.YtlhnnggceebpjaaGreat.Ring (after after_clock)
section
variable {σ : Type} {M : Rsys σ} {n k : Nat} {st st1 st' : σ} {f f' : Int → Int}
theorem rd_load (a x : Int) (hw : M.want st = some ⟨1, a, 0, 0, false⟩) (h0 : 0 ≤ a) (h1 : a < (n : Int)) (hx : f a = x) (hn : M.next st x = st1) (h : Road.Road M n st1 f k st' f') : Road.Road M n st f (k + 1) st' f' := .load a hw h0 h1 (by rw [hx, hn]; exact h)
theorem rd_store (a v : Int) (hw : M.want st = some ⟨2, a, 0, v, false⟩) (h0 : 0 ≤ a) (h1 : a < (n : Int)) (hn : M.next st 0 = st1) (h : Road.Road M n st1 (upd f a v) k st' f') : Road.Road M n st f (k + 1) st' f' := .store a v hw h0 h1 (by rw [hn]; exact h)
theorem rd_add (a v x y : Int) (hw : M.want st = some ⟨4, a, 0, v, false⟩) (h0 : 0 ≤ a) (h1 : a < (n : Int)) (hx : f a = x) (hy : (x + v) % 4294967296 = y) (hn : M.next st y = st1) (h : Road.Road M n st1 (upd f a y) k st' f') : Road.Road M n st f (k + 1) st' f' := .add a v hw h0 h1 (by rw [hx, hy, hn]; exact h)
end
theorem pr_eq {P p f : Int} (hp : 0 ≤ p ∧ p < P) (hf : 0 ≤ f ∧ f < 8) : pr P p f = 20 + 264 * p + f := by
  unfold pr placeN
  rw [if_pos ⟨rfl, hp.1, hp.2, hf.1, hf.2⟩]
  omega
theorem nOf_one {p : Int} (h : 0 ≤ p ∧ p ≤ 1000) : nOf (p + 1) = p := by
  unfold nOf
  simp only [IntKind.wrap_i64, IntKind.wrap_u64]
  omega
def putsN (p b : Int) : List PutT := [(9, p + 1), (10, 1), (14, 1), (19, b)]
theorem needed_road (P T t p b : Int) (n : Nat) (hP : 1 ≤ P ∧ P ≤ 4) (hp : 0 ≤ p ∧ p < P) (hn : 20 + 264 * P ≤ (n : Int)) :
    ∃ f', Road.Road (rsY P T t) n (.aq .ask) (laid (putsN p b)) 15 (.f1 (.got (p + 1) 0)) f' ∧ f' 13 = 1 ∧ f' 14 = 0 ∧ f' (pr P p 0) = 1 := by
  have q0 := pr_eq (f := 0) hp (by omega)
  have q7 := pr_eq (f := 7) hp (by omega)
  have hnp := nOf_one (p := p) (by omega)
  obtain ⟨f, hf⟩ : ∃ f, f = laid (putsN p b) := ⟨_, rfl⟩
  have f0 : f 0 = 0 := by rw [hf]; rfl
  have f1 : f 1 = 0 := by rw [hf]; rfl
  have f9 : f 9 = p + 1 := by rw [hf]; rfl
  have f10 : f 10 = 1 := by rw [hf]; rfl
  have f13 : f 13 = 0 := by rw [hf]; rfl
  have f14 : f 14 = 1 := by rw [hf]; rfl
  have f19 : f 19 = b := by rw [hf]; rfl
  have f7 : f (pr P p 7) = 0 := by
    rw [hf, q7]
    unfold Road.laid putsN
    simp only [List.foldl_cons, List.foldl_nil]
    rw [if_neg (by omega), if_neg (by omega), if_neg (by omega), if_neg (by omega)]
  rw [← hf]
  clear hf
  have hsn : rsGot (.got (p + 1) 0) = .sn (.got (p + 1) 0) .a := by
    unfold rsGot
    rw [if_neg (by show nOf (p + 1) ≠ -1; omega)]
  refine ⟨upd (upd (upd (upd (upd (upd (upd (upd (upd (upd f 0 1) 2 (t + 1)) 19 (delB b (nOf (p + 1)))) 9 0) 10 0) 13 1) 14 0) 2 0) 1 1) (pr P p 0) 1, ?_, ?_, ?_, ?_⟩
  · refine rd_add 0 1 0 1 rfl (by omega) (by omega) f0 (by decide) (st1 := .aq (.wait 0)) rfl ?_
    refine rd_load 1 0 rfl (by omega) (by omega) (by (simp only [upd]; (repeat (first | rw [if_pos (by omega)] | rw [if_neg (by omega)])); first | rfl | assumption | omega)) (st1 := .aq (.own 0)) rfl ?_
    refine rd_store 2 (t + 1) rfl (by omega) (by omega) (st1 := .nd) rfl ?_
    refine rd_load 14 1 rfl (by omega) (by omega) (by (simp only [upd]; (repeat (first | rw [if_pos (by omega)] | rw [if_neg (by omega)])); first | rfl | assumption | omega)) (st1 := .gt .h) rfl ?_
    refine rd_load 9 (p + 1) rfl (by omega) (by omega) (by (simp only [upd]; (repeat (first | rw [if_pos (by omega)] | rw [if_neg (by omega)])); first | rfl | assumption | omega)) (st1 := .gt (.b (p + 1))) (by show runs (pgY P) rsGot .gt (if p + 1 = 0 then .none else .b (p + 1)) = _; rw [if_neg (by omega)]; rfl) ?_
    refine rd_load (pr P p 7) 0 (by rw [show (pr P p 7) = pr P (nOf (p + 1)) 7 by rw [hnp]]; rfl) (by omega) (by omega) (by (simp only [upd]; (repeat (first | rw [if_pos (by omega)] | rw [if_neg (by omega)])); first | rfl | assumption | omega)) (st1 := .gt (.c (p + 1) 0)) rfl ?_
    refine rd_load 19 b rfl (by omega) (by omega) (by (simp only [upd]; (repeat (first | rw [if_pos (by omega)] | rw [if_neg (by omega)])); first | rfl | assumption | omega)) (st1 := .gt (.d (p + 1) 0 b)) rfl ?_
    refine rd_store 19 (delB b (nOf (p + 1))) rfl (by omega) (by omega) (st1 := .gt (.e (p + 1) 0)) rfl ?_
    refine rd_store 9 0 rfl (by omega) (by omega) (st1 := .gt (.f (p + 1) 0)) rfl ?_
    refine rd_add 10 4294967295 1 0 rfl (by omega) (by omega) (by (simp only [upd]; (repeat (first | rw [if_pos (by omega)] | rw [if_neg (by omega)])); first | rfl | assumption | omega)) (by decide) (st1 := .sn (.got (p + 1) 0) .a) (by show rsGot (.got (p + 1) 0) = _; exact hsn) ?_
    refine rd_add 13 1 0 1 rfl (by omega) (by omega) (by (simp only [upd]; (repeat (first | rw [if_pos (by omega)] | rw [if_neg (by omega)])); first | rfl | assumption | omega)) (by decide) (st1 := .sn (.got (p + 1) 0) .b) rfl ?_
    refine rd_store 14 0 rfl (by omega) (by omega) (st1 := .rl (.got (p + 1) 0) .puts) rfl ?_
    refine rd_store 2 0 rfl (by omega) (by omega) (st1 := .rl (.got (p + 1) 0) .adds) rfl ?_
    refine rd_add 1 1 0 1 rfl (by omega) (by omega) (by (simp only [upd]; (repeat (first | rw [if_pos (by omega)] | rw [if_neg (by omega)])); first | rfl | assumption | omega)) (by decide) (st1 := .ha (.got (p + 1) 0)) rfl ?_
    refine rd_store (pr P p 0) 1 (by rw [show (pr P p 0) = pr P (nOf (p + 1)) 0 by rw [hnp]]; rfl) (by omega) (by omega) (st1 := .f1 (.got (p + 1) 0)) rfl ?_
    exact .nil _ _
  · (simp only [upd]; (repeat (first | rw [if_pos (by omega)] | rw [if_neg (by omega)])); first | rfl | assumption | omega)
  · (simp only [upd]; (repeat (first | rw [if_pos (by omega)] | rw [if_neg (by omega)])); first | rfl | assumption | omega)
  · (simp only [upd]; (repeat (first | rw [if_pos (by omega)] | rw [if_neg (by omega)])); first | rfl | assumption | omega)
/-- On its way to sleep. -/
def rsLate : RsSt → Prop
  | .li _ _ => True
  | .rl2 _ _ => True
  | .np _ _ => True
  | .f2 _ _ => True
  | _ => False
theorem late_next {P T who : Int} {st : RsSt} (a : Int) (h : rsLate st) : rsLate (rsNext P T who st a) := by
  cases st <;> first | exact h.elim | trivial | (unfold rsNext runs; simp only; split <;> trivial)
theorem late_step {P T who : Int} {st : RsSt} {s : St} (h : rsLate st) : rsLate (stepOf (rsY P T who) who st s).1 := by
  unfold stepOf
  split
  · exact h
  · split
    · exact h
    · exact late_next _ h
theorem late_after {P T who : Int} {st : RsSt} {s : St} (h : rsLate st) (k : Nat) : rsLate (after (rsY P T who) who st s k).1 := by
  induction k with
  | zero => exact h
  | succ k ih => exact late_step ih
theorem awake_of {P T who : Int} {st : RsSt} (s : St) (h : ¬ rsLate st) : rsA P T who st s = false := by
  cases st <;> first | rfl | exact absurd trivial h
theorem fin_of {P T who : Int} {st : RsSt} (h : ¬ rsLate st) : ∀ o z, st = .f2 o z → (npY P T who).want z = none := by
  rintro o z rfl
  exact absurd trivial h
/-- Within twenty steps it has the processor, and it is never on its way to sleep. -/
theorem needed_run (P T t p b : Int) (hP : FewP P T 1) (hp : 0 ≤ p ∧ p < P) (s : St) (hs : s = fresh (layW (lenOf P T 1) (putsN p b))) :
    (after (rsY P T t) t (.aq .ask) s 20).1 = .f1 (.got (p + 1) 0) ∧ ((after (rsY P T t) t (.aq .ask) s 20).2.peek 13).1 = 1 ∧ ((after (rsY P T t) t (.aq .ask) s 20).2.peek 14).1 = 0 ∧ ((after (rsY P T t) t (.aq .ask) s 20).2.peek (pr P p 0)).1 = 1 ∧ (∀ j : Nat, j ≤ 20 → ¬ rsLate (after (rsY P T t) t (.aq .ask) s j).1) := by
  have hP' := hP
  unfold FewP Right at hP'
  have hn : 20 + 264 * P ≤ ((lenOf P T 1 : Nat) : Int) := by unfold lenOf; omega
  have q0 := pr_eq (f := 0) hp (by omega)
  obtain ⟨f', hr, e1, e2, e3⟩ := needed_road P T t p b (lenOf P T 1) (by omega) hp hn
  have hI : Is s (lenOf P T 1) (laid (putsN p b)) := by rw [hs]; exact is_fresh _ _
  obtain ⟨h1, h2⟩ := hr.ends rfl t hI 20 (by omega)
  refine ⟨h1, ?_, ?_, ?_, ?_⟩
  · rw [h2.peek (by omega) (by omega)]; exact e1
  · rw [h2.peek (by omega) (by omega)]; exact e2
  · rw [h2.peek (by omega) (by omega)]; exact e3
  · intro j hj hl
    have := late_after (P := P) (T := T) (who := t) (s := (after (rsY P T t) t (.aq .ask) s j).2) hl (20 - j)
    rw [← after_add, show j + (20 - j) = 20 by omega, h1] at this
    exact this
end Go.Proofs.YtlhnnggceebpjaaGreat.Rest
