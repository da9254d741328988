/- The document's routines that tell of more than one thing: the box of what they tell, and of the result. -/
import Derived.Test.YtlhnnggceebpjaaGreatBase5
set_option maxRecDepth 100000
set_option maxHeartbeats 4000000
set_option linter.unusedVariables false
set_option linter.unusedSimpArgs false
namespace Go.Proofs.YtlhnnggceebpjaaGreat.Doc
open Go.RowKit Go.Shelf Go.Proofs.YtlhnnggceebpjaaGreat.TK Go.Proofs.YtlhnnggceebpjaaGreat.Flag Go.Proofs.YtlhnnggceebpjaaGreat.Read Go.Proofs.YtlhnnggceebpjaaGreat.Grow Go.Proofs.YtlhnnggceebpjaaGreat.Words Go.Proofs.YtlhnnggceebpjaaGreat.Mem Go.Proofs.YtlhnnggceebpjaaGreat.Layout Go.Proofs.YtlhnnggceebpjaaGreat.Run Go.Proofs.YtlhnnggceebpjaaGreat.Sys Go.Proofs.YtlhnnggceebpjaaGreat.Ref05
section
variable {σ : Type} {M : Rsys σ} {got : List Int} {s0 s s' : σ} {a b b' : RunSt} {w0 w00 wA w w' : World} {B r bx o rs : Nat} {v : Value} {P T G : Int} {TO : TypeId} {os rv : List Value}
theorem DI.base (h : DI M got s0 a w0 w B r bx v P T G b s) : DI M got s0 a w w B r bx v P T G b s := ⟨h.run, Kept.refl _ _, h.ran, h.good, h.box⟩
/-- Another block is written. -/
theorem DI.other {cs : List Value} (h : DI M got s0 a w0 w B r bx v P T G b s) (hO : Blk w o cs TO) (hT : TO ≠ 25) (h1 : o ≠ r) (h2 : o ≠ bx) (hk : Kept [o] w w') : DI M got s0 a w' w' B r bx v P T G b s :=
  ⟨h.run.kept hk (by simpa using Ne.symm h1) (by intro i hi; simp at hi; subst hi; exact own_type h.run.grow hO (fun e => hT e.symm)), Kept.refl _ _, h.ran, h.good, h.box.kept hk (by simpa using Ne.symm h2)⟩
structure DO {σ : Type} (M : Rsys σ) (got : List Int) (s0 : σ) (a : RunSt) (w00 w : World) (B r bx o rs : Nat) (v : Value) (P T G : Int) (b : RunSt) (s : σ) (TO : TypeId) (os rv : List Value) : Prop where
  di : DI M got s0 a w w B r bx v P T G b s
  kept : Kept [r] w00 w
  out : Blk w o os TO
  res : Blk w rs rv TO
  ne : o ≠ r ∧ rs ≠ r ∧ o ≠ rs ∧ o ≠ bx ∧ rs ≠ bx ∧ w00.heap.size ≤ o ∧ w00.heap.size ≤ rs
  ty : TO ≠ 25
theorem DO.step (h : DO M got s0 a w00 w B r bx o rs v P T G b s TO os rv) (h' : DI M got s0 a w w' B r bx v P T G b' s') : DO M got s0 a w00 w' B r bx o rs v P T G b' s' TO os rv :=
  ⟨h'.base, h.kept.trans h'.kept (by intro i hi; exact .inl hi), h.out.kept h'.kept (by simpa using h.ne.1), h.res.kept h'.kept (by simpa using h.ne.2.1), h.ne, h.ty⟩
theorem DO.quiet (h : DO M got s0 a w00 w B r bx o rs v P T G b s TO os rv) (hb : Below w.heap.size w w') : DO M got s0 a w00 w' B r bx o rs v P T G b s TO os rv := h.step (h.di.quiet hb)
theorem DO.setO (h : DO M got s0 a w00 w B r bx o rs v P T G b s TO os rv) (i : Nat) (x : Value) : DO M got s0 a w00 (w.setCell ⟨o, i, none⟩ x) B r bx o rs v P T G b s TO (os.set i x) rv := by
  have hk : Kept [o] w (w.setCell ⟨o, i, none⟩ x) := (Kept.refl _ _).set (.inl (by simp)) _
  obtain ⟨n1, n2, n3, n4, n5, n6, n7⟩ := h.ne
  exact ⟨h.di.other h.out h.ty n1 n4 hk, h.kept.trans hk (by intro i hi; simp at hi; subst hi; exact .inr n6), h.out.set i x, h.res.kept hk (by simpa using Ne.symm n3), h.ne, h.ty⟩
theorem DO.setR (h : DO M got s0 a w00 w B r bx o rs v P T G b s TO os rv) (i : Nat) (x : Value) : DO M got s0 a w00 (w.setCell ⟨rs, i, none⟩ x) B r bx o rs v P T G b s TO os (rv.set i x) := by
  have hk : Kept [rs] w (w.setCell ⟨rs, i, none⟩ x) := (Kept.refl _ _).set (.inl (by simp)) _
  obtain ⟨n1, n2, n3, n4, n5, n6, n7⟩ := h.ne
  exact ⟨h.di.other h.res h.ty n2 n5 hk, h.kept.trans hk (by intro i hi; simp at hi; subst hi; exact .inr n7), h.out.kept hk (by simpa using n3), h.res.set i x, h.ne, h.ty⟩
/-- At the beginning: the config's box, the result's. -/
theorem DR.start (h : RunAt w B r v a) (hg : Fits got a) (s0 : σ) (rv : List Value) (hT : TO ≠ 23) :
    DI M got s0 a ((w.alloc (.cells #[.int .i64 P, .int .i64 T, .int .i64 G] 23)).alloc (.cells rv.toArray TO)) ((w.alloc (.cells #[.int .i64 P, .int .i64 T, .int .i64 G] 23)).alloc (.cells rv.toArray TO)) B r w.heap.size v P T G a s0 ∧ Blk ((w.alloc (.cells #[.int .i64 P, .int .i64 T, .int .i64 G] 23)).alloc (.cells rv.toArray TO)) (w.heap.size + 1) rv TO ∧ Below w.heap.size w ((w.alloc (.cells #[.int .i64 P, .int .i64 T, .int .i64 G] 23)).alloc (.cells rv.toArray TO)) := by
  have hb : Below w.heap.size w ((w.alloc (.cells #[.int .i64 P, .int .i64 T, .int .i64 G] 23)).alloc (.cells rv.toArray TO)) := (below_one w _).alloc (by simp) _
  exact ⟨⟨h.quiet hb, Kept.refl _ _, .same _ _, hg, (Blk.new w [.int .i64 P, .int .i64 T, .int .i64 G] 23).alloc _⟩, Blk.new_at _ _ (by simp), hb⟩
/-- The box of what is told is made. -/
theorem DO.start (h : DI M got s0 a wA w B r bx v P T G b s) (hA : Below w00.heap.size w00 wA) (hres : Blk wA rs rv TO) (hr : r < w00.heap.size) (hx : bx = w00.heap.size) (hs : rs = w00.heap.size + 1) (hT : TO ≠ 25) (os : List Value) :
    DO M got s0 a w00 (w.alloc (.cells os.toArray TO)) B r bx w.heap.size rs v P T G b s TO os rv := by
  have hl := h.box.lt
  have hrs : rs ≠ r := by omega
  have hresW := hres.kept h.kept (by simpa using hrs)
  have hrl := hresW.lt
  have hk : Kept [r] w00 w := (Kept.of_below hA [r]).trans h.kept (by intro i hi; exact .inl hi)
  have hsz := hk.size
  have hb := below_one w (.cells os.toArray TO)
  exact ⟨(h.quiet hb).base, hk.quiet hb, Blk.new w os TO, hresW.quiet hb, ⟨by omega, hrs, by omega, by omega, by omega, hsz, by omega⟩, hT⟩
end
end Go.Proofs.YtlhnnggceebpjaaGreat.Doc
