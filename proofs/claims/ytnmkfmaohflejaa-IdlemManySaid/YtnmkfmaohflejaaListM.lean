/- The list of idle threads, as the program goes through it. -/
import Derived.Test.YtnmkfmaohflejaaBase6
set_option maxRecDepth 100000
set_option maxHeartbeats 4000000
set_option linter.unusedVariables false
set_option linter.unusedSimpArgs false
namespace Go.Proofs.Ytnmkfmaohflejaa.Idlem
open Go.RowKit Go.Shelf Go.Proofs.Ytnmkfmaohflejaa.TK Go.Proofs.Ytnmkfmaohflejaa.Flag Go.Proofs.Ytnmkfmaohflejaa.Read Go.Proofs.Ytnmkfmaohflejaa.Grow Go.Proofs.Ytnmkfmaohflejaa.Words Go.Proofs.Ytnmkfmaohflejaa.Mem Go.Proofs.Ytnmkfmaohflejaa.Flow Go.Proofs.Ytnmkfmaohflejaa.Layout Go.Proofs.Ytnmkfmaohflejaa.Lock Go.Proofs.Ytnmkfmaohflejaa.Run Go.Proofs.Ytnmkfmaohflejaa.Sys Go.Proofs.Ytnmkfmaohflejaa.Mach Go.Proofs.Ytnmkfmaohflejaa.Doc Go.Proofs.Ytnmkfmaohflejaa.Ref05 Go.Proofs.Ytnmkfmaohflejaa.MapL
/-- What a thread's link says. -/
def mrd (s : St) (P T : Int) (t : Int) : Int × Bool := s.peek (th P T t 2)
theorem mrd_in {s : St} {P T t : Int} (h : (mrd s P T t).2 = true) : 0 ≤ t ∧ t < T := by
  unfold mrd th placeN at h
  split at h
  · omega
  · simp [St.peek, St.inr] at h
def mlst (s : St) (P T : Int) : List Int × Bool := wlk (mrd s P T) (T.toNat + 1) (s.peek (wordN 11)).1 []
end Go.Proofs.Ytnmkfmaohflejaa.Idlem
