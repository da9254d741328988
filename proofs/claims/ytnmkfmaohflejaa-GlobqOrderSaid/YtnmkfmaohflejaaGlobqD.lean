/- The document's putting behind the global queue. -/
import Derived.Test.YtnmkfmaohflejaaGlobq
import Derived.Test.YtnmkfmaohflejaaBase5
set_option maxRecDepth 100000
set_option maxHeartbeats 4000000
set_option linter.unusedVariables false
set_option linter.unusedSimpArgs false
namespace Go.Proofs.Ytnmkfmaohflejaa.Globq
open Go.RowKit Go.Shelf Go.Proofs.Ytnmkfmaohflejaa.TK Go.Proofs.Ytnmkfmaohflejaa.Flag Go.Proofs.Ytnmkfmaohflejaa.Read Go.Proofs.Ytnmkfmaohflejaa.Grow Go.Proofs.Ytnmkfmaohflejaa.Words Go.Proofs.Ytnmkfmaohflejaa.Mem Go.Proofs.Ytnmkfmaohflejaa.Flow Go.Proofs.Ytnmkfmaohflejaa.Layout Go.Proofs.Ytnmkfmaohflejaa.Lock Go.Proofs.Ytnmkfmaohflejaa.Run Go.Proofs.Ytnmkfmaohflejaa.Sys Go.Proofs.Ytnmkfmaohflejaa.Mach Go.Proofs.Ytnmkfmaohflejaa.Doc Go.Proofs.Ytnmkfmaohflejaa.Ref05 Go.Proofs.Ytnmkfmaohflejaa.Subs Go.Proofs.Ytnmkfmaohflejaa.IWords Go.Proofs.Ytnmkfmaohflejaa.Idlep
theorem w6 : wordN 6 = 6 := by decide
theorem w7 : wordN 7 = 7 := by decide
theorem w8 : wordN 8 = 8 := by decide
def qpH (gs : List Int) (s : QpSt) : List Int := if qpL s then [] else gs
theorem gat_cell {w w0 : World} {r : Nat} {ad : Addr} {gs : List Int} (hr : RowOf (encI .i64) 1 w0 (some ad) gs) (hk : Kept [r] w0 w) (hne : ad.block ≠ r) (i : Nat) (hi : i < gs.length) : w.cell? (ad.add i) = some (.int .i64 (gAt gs i)) := by
  obtain ⟨x, hx, hc⟩ := (row_keptB hr hk (by intro x hx; cases hx; simpa using hne)).int_at hi
  cases hx
  rw [hc]
  simp [gAt, List.getD, hi]
theorem qp_on {P T G : Int} {gs got : List Int} {b0 b1 : RunSt} {s s1 : QpSt} {k : Nat} {x1 : Int} (hk : k < gs.length) (hE : (b0.stop = false → s = if k < gs.length then .ln k else .t) ∧ qpL s = false) (ho1 : On (qpY P T G gs) got b0 s b1 s1 x1) : (b1.stop = false → s1 = if k + 1 < gs.length then .ln (k + 1) else .t) ∧ qpL s1 = false := by
  have e1 : b1.stop = false → s1 = if k + 1 < gs.length then .ln (k + 1) else .t := fun h => by obtain ⟨h1, h2⟩ := ho1.1 h; rw [h2, hE.1 h1, if_pos hk]; rfl
  refine ⟨e1, ?_⟩
  cases hb : b1.stop with
  | false => rw [e1 hb]; split <;> rfl
  | true => rw [(ho1.2.2.1 hb).1]; exact hE.2
end Go.Proofs.Ytnmkfmaohflejaa.Globq
