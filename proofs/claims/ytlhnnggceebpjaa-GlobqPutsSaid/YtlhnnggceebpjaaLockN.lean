/- The document's acquire and release, as replays of the machines. -/
import Derived.Test.YtlhnnggceebpjaaLockM
set_option maxRecDepth 100000
set_option maxHeartbeats 4000000
set_option linter.unusedVariables false
set_option linter.unusedSimpArgs false
namespace Go.Proofs.Ytlhnnggceebpjaa.Lock
open Go.RowKit Go.Shelf Go.Proofs.Ytlhnnggceebpjaa.TK Go.Proofs.Ytlhnnggceebpjaa.Flag Go.Proofs.Ytlhnnggceebpjaa.Read Go.Proofs.Ytlhnnggceebpjaa.Grow Go.Proofs.Ytlhnnggceebpjaa.Words Go.Proofs.Ytlhnnggceebpjaa.Mem Go.Proofs.Ytlhnnggceebpjaa.Flow Go.Proofs.Ytlhnnggceebpjaa.Layout Go.Proofs.Ytlhnnggceebpjaa.Run Go.Proofs.Ytlhnnggceebpjaa.Sys Go.Proofs.Ytlhnnggceebpjaa.Mach Go.Proofs.Ytlhnnggceebpjaa.Doc
theorem Did.on_ {σ : Type} {M : Rsys σ} {got : List Int} {s : σ} {a : RunSt} {w w' : World} {B r : Nat} {v : Value} {b : RunSt} {s1 : σ} {x : Int} (d : Did M got s a w w' B r v b s1 x) : On M got a s b s1 x := ⟨d.on, d.rng, d.off, d.dec⟩
end Go.Proofs.Ytlhnnggceebpjaa.Lock
