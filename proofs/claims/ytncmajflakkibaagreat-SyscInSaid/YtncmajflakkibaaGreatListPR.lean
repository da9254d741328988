/- The list of idle processors, as the document goes through it. -/
import Derived.Test.YtncmajflakkibaaGreatListP
set_option maxRecDepth 100000
set_option maxHeartbeats 4000000
set_option linter.unusedVariables false
set_option linter.unusedSimpArgs false
namespace Go.Proofs.YtncmajflakkibaaGreat.Idlep
open Go.RowKit Go.Shelf Go.Proofs.YtncmajflakkibaaGreat.TK Go.Proofs.YtncmajflakkibaaGreat.Flag Go.Proofs.YtncmajflakkibaaGreat.Read Go.Proofs.YtncmajflakkibaaGreat.Grow Go.Proofs.YtncmajflakkibaaGreat.Words Go.Proofs.YtncmajflakkibaaGreat.Mem Go.Proofs.YtncmajflakkibaaGreat.Flow Go.Proofs.YtncmajflakkibaaGreat.Layout Go.Proofs.YtncmajflakkibaaGreat.Lock Go.Proofs.YtncmajflakkibaaGreat.Run Go.Proofs.YtncmajflakkibaaGreat.Sys Go.Proofs.YtncmajflakkibaaGreat.Mach Go.Proofs.YtncmajflakkibaaGreat.Doc Go.Proofs.YtncmajflakkibaaGreat.Ref05 Go.Proofs.YtncmajflakkibaaGreat.MapL
theorem w9 : wordN 9 = 9 := by decide
end Go.Proofs.YtncmajflakkibaaGreat.Idlep
