/- The list of idle processors, as the program goes through it. -/
import Derived.Test.YtncmajflakkibaaGreatIdlep
set_option maxRecDepth 100000
set_option maxHeartbeats 4000000
set_option linter.unusedVariables false
set_option linter.unusedSimpArgs false
namespace Go.Proofs.YtncmajflakkibaaGreat.Idlep
open Go.RowKit Go.Shelf Go.Proofs.YtncmajflakkibaaGreat.TK Go.Proofs.YtncmajflakkibaaGreat.Flag Go.Proofs.YtncmajflakkibaaGreat.Read Go.Proofs.YtncmajflakkibaaGreat.Grow Go.Proofs.YtncmajflakkibaaGreat.Words Go.Proofs.YtncmajflakkibaaGreat.Mem Go.Proofs.YtncmajflakkibaaGreat.Flow Go.Proofs.YtncmajflakkibaaGreat.Layout Go.Proofs.YtncmajflakkibaaGreat.Lock Go.Proofs.YtncmajflakkibaaGreat.Run Go.Proofs.YtncmajflakkibaaGreat.Sys Go.Proofs.YtncmajflakkibaaGreat.Mach Go.Proofs.YtncmajflakkibaaGreat.Doc Go.Proofs.YtncmajflakkibaaGreat.Ref05 Go.Proofs.YtncmajflakkibaaGreat.MapL
/-- What a processor's link says. -/
def prd (s : St) (P : Int) (t : Int) : Int × Bool := s.peek (pr P t 7)
theorem prd_in {s : St} {P t : Int} (h : (prd s P t).2 = true) : 0 ≤ t ∧ t < P := by
  unfold prd pr placeN at h
  split at h
  · omega
  · simp [St.peek, St.inr] at h
def plst (s : St) (P T : Int) : List Int × Bool := wlk (prd s P) (P.toNat + 1) (s.peek (wordN 9)).1 []
end Go.Proofs.YtncmajflakkibaaGreat.Idlep
