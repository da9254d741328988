/- The document's getting of a processor. -/
import Derived.Test.YtlhnnggceebpjaaIdlepB
set_option maxRecDepth 100000
set_option maxHeartbeats 4000000
set_option linter.unusedVariables false
set_option linter.unusedSimpArgs false
namespace Go.Proofs.Ytlhnnggceebpjaa.Idlep
open Go.RowKit Go.Shelf Go.Proofs.Ytlhnnggceebpjaa.TK Go.Proofs.Ytlhnnggceebpjaa.Flag Go.Proofs.Ytlhnnggceebpjaa.Read Go.Proofs.Ytlhnnggceebpjaa.Grow Go.Proofs.Ytlhnnggceebpjaa.Words Go.Proofs.Ytlhnnggceebpjaa.Mem Go.Proofs.Ytlhnnggceebpjaa.Flow Go.Proofs.Ytlhnnggceebpjaa.Layout Go.Proofs.Ytlhnnggceebpjaa.Lock Go.Proofs.Ytlhnnggceebpjaa.Run Go.Proofs.Ytlhnnggceebpjaa.Sys Go.Proofs.Ytlhnnggceebpjaa.Mach Go.Proofs.Ytlhnnggceebpjaa.Doc Go.Proofs.Ytlhnnggceebpjaa.Ref05 Go.Proofs.Ytlhnnggceebpjaa.Bits Go.Proofs.Ytlhnnggceebpjaa.MapL
end Go.Proofs.Ytlhnnggceebpjaa.Idlep
