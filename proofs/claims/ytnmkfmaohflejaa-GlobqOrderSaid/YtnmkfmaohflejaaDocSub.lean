/- The document's routines that run others. -/
import Derived.Test.YtnmkfmaohflejaaLockN
set_option maxRecDepth 100000
set_option maxHeartbeats 4000000
set_option linter.unusedVariables false
set_option linter.unusedSimpArgs false
namespace Go.Proofs.Ytnmkfmaohflejaa.Doc
open Go.RowKit Go.Shelf Go.Proofs.Ytnmkfmaohflejaa.TK Go.Proofs.Ytnmkfmaohflejaa.Flag Go.Proofs.Ytnmkfmaohflejaa.Read Go.Proofs.Ytnmkfmaohflejaa.Grow Go.Proofs.Ytnmkfmaohflejaa.Words Go.Proofs.Ytnmkfmaohflejaa.Mem Go.Proofs.Ytnmkfmaohflejaa.Layout Go.Proofs.Ytnmkfmaohflejaa.Run Go.Proofs.Ytnmkfmaohflejaa.Sys Go.Proofs.Ytnmkfmaohflejaa.Mach Go.Proofs.Ytnmkfmaohflejaa.Lock Go.Proofs.Ytnmkfmaohflejaa.Ref05
/-- A routine's states are a part of those of the one that runs it. -/
def Emb {σ τ : Type} (M : Rsys σ) (M' : Rsys τ) (k emb : τ → σ) : Prop := ∀ s W, M'.want s = some W → M.want (emb s) = some W ∧ ∀ a, M.next (emb s) a = runs M' k emb (M'.next s a)
theorem ran_sub {σ τ : Type} {M : Rsys σ} {M' : Rsys τ} {got : List Int} (k emb : τ → σ) (E : Emb M M' k emb) {s : σ} {q q1 : τ} {b b' : RunSt} (h : Ran M' got q b q1 b') (hs : b.stop = false → s = runs M' k emb q) : ∃ s', Ran M got s b s' b' ∧ (b.stop = false → s' = runs M' k emb q1) ∧ (b.stop = true → s' = s ∧ b' = b) := by
  cases hb : b.stop with
  | true => exact ⟨s, by rw [(h.of_stop hb).2]; exact .same _ _, by simp, fun _ => ⟨rfl, (h.of_stop hb).2⟩⟩
  | false => exact ⟨_, by rw [hs hb]; exact Mach.Ran.runs k emb E h, fun _ => rfl, by simp⟩
section
variable {σ : Type} {M : Rsys σ} {got : List Int} {s0 s : σ} {a b : RunSt} {w0 w w' : World} {B r bx : Nat} {v : Value} {P T G : Int}
theorem DI.subran {b' : RunSt} {s' : σ} (h : DI M got s0 a w0 w B r bx v P T G b s) (hr : RunAt w' B r v b') (hk : Kept [r] w w') (hran : Ran M got s b s' b') (hg : Fits got b') : DI M got s0 a w0 w' B r bx v P T G b' s' :=
  ⟨hr, h.kept.trans hk (by intro i hi; exact .inl hi), h.ran.trans hran, hg, h.box.kept hk (by have := h.ne; simpa using this)⟩
/-- What stopped waits for something. -/
theorem ran_waits {τ : Type} {M : Rsys τ} {got : List Int} {s s1 : τ} {a b : RunSt} (h : Ran M got s a s1 b) (ha : a.stop = false) (hb : b.stop = true) : M.want s1 ≠ none := by
  induction h with
  | same s a => exact absurd (ha.symm.trans hb) (by simp)
  | goes u hu hw h ih => exact ih rfl hb
  | stops W hw => rw [hw]; simp
/-- What is known behind a routine that was run. -/
structure Past {σ τ : Type} (M' : Rsys τ) (k emb : τ → σ) (got : List Int) (b : RunSt) (s : σ) (b' : RunSt) (s' : σ) (q : τ) : Prop where
  on : b'.stop = false → b.stop = false ∧ s' = k q
  mid : b.stop = false → s' = runs M' k emb q
  off : b.stop = true → s' = s ∧ b'.stop = true
  le : left got b' ≤ left got b
  wait : b.stop = false → b'.stop = true → M'.want q ≠ none
theorem past_of {τ : Type} {M' : Rsys τ} (k emb : τ → σ) (E : Emb M M' k emb) {q q1 : τ} {b' : RunSt} (h : DI M got s0 a w0 w B r bx v P T G b s) (hr : RunAt w' B r v b') (hk : Kept [r] w w') (hran : Ran M' got q b q1 b') (hg : Fits got b') (hs : b.stop = false → s = runs M' k emb q) (hfin : b'.stop = false → M'.want q1 = none) :
    ∃ s', DI M got s0 a w0 w' B r bx v P T G b' s' ∧ Past M' k emb got b s b' s' q1 := by
  obtain ⟨s', h1, h2, h3⟩ := ran_sub k emb E hran hs
  refine ⟨s', h.subran hr hk h1 hg, ?_, h2, ?_, hran.left_le, ran_waits hran⟩
  · intro hb'
    have hb : b.stop = false := by
      cases hb : b.stop with
      | false => rfl
      | true => rw [(h3 hb).2, hb] at hb'; cases hb'
    exact ⟨hb, by rw [h2 hb, runs_off (hfin hb')]⟩
  · intro hb
    exact ⟨(h3 hb).1, by rw [(h3 hb).2]; exact hb⟩
end
end Go.Proofs.Ytnmkfmaohflejaa.Doc
