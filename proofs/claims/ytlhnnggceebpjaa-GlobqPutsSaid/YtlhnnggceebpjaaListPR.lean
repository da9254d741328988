/- The list of idle processors, as the document goes through it. -/
import Derived.Test.YtlhnnggceebpjaaListP
set_option maxRecDepth 100000
set_option maxHeartbeats 4000000
set_option linter.unusedVariables false
set_option linter.unusedSimpArgs false
namespace Go.Proofs.Ytlhnnggceebpjaa.Idlep
open Go.RowKit Go.Shelf Go.Proofs.Ytlhnnggceebpjaa.TK Go.Proofs.Ytlhnnggceebpjaa.Flag Go.Proofs.Ytlhnnggceebpjaa.Read Go.Proofs.Ytlhnnggceebpjaa.Grow Go.Proofs.Ytlhnnggceebpjaa.Words Go.Proofs.Ytlhnnggceebpjaa.Mem Go.Proofs.Ytlhnnggceebpjaa.Flow Go.Proofs.Ytlhnnggceebpjaa.Layout Go.Proofs.Ytlhnnggceebpjaa.Lock Go.Proofs.Ytlhnnggceebpjaa.Run Go.Proofs.Ytlhnnggceebpjaa.Sys Go.Proofs.Ytlhnnggceebpjaa.Mach Go.Proofs.Ytlhnnggceebpjaa.Doc Go.Proofs.Ytlhnnggceebpjaa.Ref05 Go.Proofs.Ytlhnnggceebpjaa.MapL
theorem w9 : wordN 9 = 9 := by decide
end Go.Proofs.Ytlhnnggceebpjaa.Idlep
