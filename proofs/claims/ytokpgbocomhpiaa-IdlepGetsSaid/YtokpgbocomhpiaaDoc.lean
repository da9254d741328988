/- The document's routines: what is known in their midst. -/
import Derived.Test.YtokpgbocomhpiaaRefAt
set_option maxRecDepth 100000
set_option maxHeartbeats 4000000
set_option linter.unusedVariables false
set_option linter.unusedSimpArgs false
namespace Go.Proofs.Ytokpgbocomhpiaa.Doc
open Go.RowKit Go.Shelf Go.Proofs.Ytokpgbocomhpiaa.TK Go.Proofs.Ytokpgbocomhpiaa.Flag Go.Proofs.Ytokpgbocomhpiaa.Read Go.Proofs.Ytokpgbocomhpiaa.Grow Go.Proofs.Ytokpgbocomhpiaa.Words Go.Proofs.Ytokpgbocomhpiaa.Mem Go.Proofs.Ytokpgbocomhpiaa.Layout Go.Proofs.Ytokpgbocomhpiaa.Run Go.Proofs.Ytokpgbocomhpiaa.Sys Go.Proofs.Ytokpgbocomhpiaa.Ref05
/-- Since the routine began, at w0: it went on from s0, a to s, b; its config lies in the box bx. -/
structure DI {σ : Type} (M : Rsys σ) (got : List Int) (s0 : σ) (a : RunSt) (w0 w : World) (B r bx : Nat) (v : Value) (P T G : Int) (b : RunSt) (s : σ) : Prop where
  run : RunAt w B r v b
  kept : Kept [r] w0 w
  ran : Ran M got s0 a s b
  good : Fits got b
  box : Blk w bx [.int .i64 P, .int .i64 T, .int .i64 G] 36
section
variable {σ : Type} {M : Rsys σ} {got : List Int} {s0 s : σ} {a b : RunSt} {w0 w w' : World} {B r bx : Nat} {v : Value} {P T G : Int}
theorem DI.quiet (h : DI M got s0 a w0 w B r bx v P T G b s) (hb : Below w.heap.size w w') : DI M got s0 a w0 w' B r bx v P T G b s := ⟨h.run.quiet hb, h.kept.quiet hb, h.ran, h.good, h.box.quiet hb⟩
theorem DI.ne (h : DI M got s0 a w0 w B r bx v P T G b s) : bx ≠ r := Blk.ne h.box h.run.blk (by decide)
theorem DI.start (h : RunAt w B r v a) (hg : Fits got a) (s0 : σ) : DI M got s0 a w (w.alloc (.cells #[.int .i64 P, .int .i64 T, .int .i64 G] 36)) B r w.heap.size v P T G a s0 :=
  ⟨h.quiet (below_one _ _), (Kept.refl _ _).alloc _, .same _ _, hg, Blk.new w _ _⟩
theorem DI.cells (h : DI M got s0 a w0 w B r bx v P T G b s) : w.cell? ⟨bx, 0, none⟩ = some (.int .i64 P) ∧ w.cell? ⟨bx, 1, none⟩ = some (.int .i64 T) ∧ w.cell? ⟨bx, 2, none⟩ = some (.int .i64 G) ∧ w.cell? ⟨r, 2, none⟩ = some (.bool b.stop) :=
  ⟨h.box.cell 0, h.box.cell 1, h.box.cell 2, h.run.blk.cell 2⟩
theorem DI.did {x : Int} {b' : RunSt} {s' : σ} (h : DI M got s0 a w0 w B r bx v P T G b s) (d : Did M got s b w w' B r v b' s' x) : DI M got s0 a w0 w' B r bx v P T G b' s' :=
  ⟨d.run, h.kept.trans d.kept (by intro i hi; exact .inl hi), h.ran.trans d.ran, d.good, h.box.kept d.kept (by have := h.ne; simpa using this)⟩
/-- Behind an access that answered x. -/
def On {σ : Type} (M : Rsys σ) (got : List Int) (b : RunSt) (s : σ) (b' : RunSt) (s' : σ) (x : Int) : Prop := (b'.stop = false → b.stop = false ∧ s' = M.next s x) ∧ (0 ≤ x ∧ x < 18446744073709551616) ∧ (b'.stop = true → s' = s ∧ x = 0) ∧ (b.stop = false → left got b' < left got b) ∧ left got b' ≤ left got b
theorem dl_run (h : DI M got s0 a w0 w B r bx v P T G b s) (at_ : Int) (hw : b.stop = false → M.want s = some ⟨1, at_, 0, 0, false⟩) :
    Calls Try.prog 157 #[.pointer (some ⟨r, 0, none⟩), .int .i64 at_] w fun e w' => ∃ b' s' x, e = .returned (.int .u64 x) ∧ DI M got s0 a w0 w' B r bx v P T G b' s' ∧ On M got b s b' s' x := by
  refine (dload_run M s B r v b at_ w h.run h.good hw).mono ?_
  rintro e w1 ⟨b', s', x, rfl, d⟩
  exact ⟨b', s', x, rfl, h.did d, d.on, d.rng, d.off, d.dec⟩
theorem da_run (h : DI M got s0 a w0 w B r bx v P T G b s) (at_ y : Int) (hw : b.stop = false → M.want s = some ⟨4, at_, 0, y, false⟩) :
    Calls Try.prog 156 #[.pointer (some ⟨r, 0, none⟩), .int .i64 at_, .int .u64 y] w fun e w' => ∃ b' s' x, e = .returned (.int .u64 x) ∧ DI M got s0 a w0 w' B r bx v P T G b' s' ∧ On M got b s b' s' x := by
  refine (dadd_run M s B r v b at_ y w h.run h.good hw).mono ?_
  rintro e w1 ⟨b', s', x, rfl, d⟩
  exact ⟨b', s', x, rfl, h.did d, d.on, d.rng, d.off, d.dec⟩
theorem ds_run (h : DI M got s0 a w0 w B r bx v P T G b s) (at_ y : Int) (hw : b.stop = false → M.want s = some ⟨2, at_, 0, y, false⟩) :
    Calls Try.prog 158 #[.pointer (some ⟨r, 0, none⟩), .int .i64 at_, .int .u64 y] w fun e w' => e = .returned (.tuple #[]) ∧ ∃ b' s' x, DI M got s0 a w0 w' B r bx v P T G b' s' ∧ On M got b s b' s' x := by
  refine (dstore_run M s B r v b at_ y w h.run h.good hw).mono ?_
  rintro e w1 ⟨rfl, b', s', x, d⟩
  exact ⟨rfl, b', s', x, h.did d, d.on, d.rng, d.off, d.dec⟩
theorem dw_run (h : DI M got s0 a w0 w B r bx v P T G b s) (at_ o y : Int) (hw : b.stop = false → M.want s = some ⟨3, at_, o, y, false⟩) :
    Calls Try.prog 179 #[.pointer (some ⟨r, 0, none⟩), .int .i64 at_, .int .u64 o, .int .u64 y] w fun e w' => ∃ b' s' x, e = .returned (.bool (x == 1)) ∧ DI M got s0 a w0 w' B r bx v P T G b' s' ∧ On M got b s b' s' x := by
  refine (dswap_run M s B r v b at_ o y w h.run h.good hw).mono ?_
  rintro e w1 ⟨b', s', x, rfl, d⟩
  exact ⟨b', s', x, rfl, h.did d, d.on, d.rng, d.off, d.dec⟩
end
end Go.Proofs.Ytokpgbocomhpiaa.Doc
