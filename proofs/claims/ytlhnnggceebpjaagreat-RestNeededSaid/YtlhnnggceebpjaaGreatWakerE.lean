/- Some thread is woken: the example. -/
import Derived.Test.YtlhnnggceebpjaaGreatWakerD
set_option maxRecDepth 100000
set_option maxHeartbeats 4000000
set_option linter.unusedVariables false
set_option linter.unusedSimpArgs false
namespace Go.Proofs.YtlhnnggceebpjaaGreat.Wake
open Go.RowKit Go.Shelf Go.Proofs.YtlhnnggceebpjaaGreat.TK Go.Proofs.YtlhnnggceebpjaaGreat.Flag Go.Proofs.YtlhnnggceebpjaaGreat.Read Go.Proofs.YtlhnnggceebpjaaGreat.Grow Go.Proofs.YtlhnnggceebpjaaGreat.Words Go.Proofs.YtlhnnggceebpjaaGreat.Mem Go.Proofs.YtlhnnggceebpjaaGreat.Flow Go.Proofs.YtlhnnggceebpjaaGreat.Layout Go.Proofs.YtlhnnggceebpjaaGreat.Lock Go.Proofs.YtlhnnggceebpjaaGreat.Run Go.Proofs.YtlhnnggceebpjaaGreat.Sys Go.Proofs.YtlhnnggceebpjaaGreat.Mach Go.Proofs.YtlhnnggceebpjaaGreat.Doc Go.Proofs.YtlhnnggceebpjaaGreat.Ref05 Go.Proofs.YtlhnnggceebpjaaGreat.Subs Go.Proofs.YtlhnnggceebpjaaGreat.Ring Go.Proofs.YtlhnnggceebpjaaGreat.Idlem
def puts4 : List PutT := [(9, 1), (10, 1), (15, 1), (19, 1)]
theorem row4 {w' : World} {b : Nat} {T : TypeId} (h : Blk w' b [.int .i64 9, .int .u64 1, .int .i64 10, .int .u64 1, .int .i64 15, .int .u64 1, .int .i64 19, .int .u64 1] T) : RowOf encP 2 w' (some ⟨b, 0, none⟩) puts4 := by
  intro i hi
  refine ⟨_, rfl, ?_⟩
  intro j v hv
  have hj : j < 2 := by have := (List.getElem?_eq_some_iff.1 hv).1; simpa [encP] using this
  rw [show (⟨b, 0, none⟩ : Addr).add (i * 2 + j) = ⟨b, i * 2 + j, none⟩ by unfold Addr.add; split <;> simp_all]
  rw [h.cell]
  have hi4 : i < 4 := hi
  have h4 : i = 0 ∨ i = 1 ∨ i = 2 ∨ i = 3 := by omega
  have hj2 : j = 0 ∨ j = 1 := by omega
  rcases h4 with rfl | rfl | rfl | rfl <;> rcases hj2 with rfl | rfl <;> exact hv
def s0W : St := fresh (layW (lenOf 1 2 1) puts4)
def wend : WrSt × St := after (wrY 1 2 0) 0 .ask s0W 30
theorem wex_run : (((wrY 1 2 0).want wend.1).isNone = true ∧ (wend.2.peek (th 1 2 1 1)).1 = 4294967297 ∧ (wend.2.peek (th 1 2 1 0)).1 = 1 ∧ (wend.2.peek 13).1 = 1) ∧ wkw 2 true = 4294967299 ∧ s0W.clock = 0 ∧ s0W.bad = 0 := by
  refine ⟨⟨?_, ?_, ?_, ?_⟩, ?_, ?_, ?_⟩ <;> decide +kernel
theorem few121 : FewP 1 2 1 := by unfold FewP Right; omega
end Go.Proofs.YtlhnnggceebpjaaGreat.Wake
