/- The document's acquire and release, as replays of the machines. -/
import Derived.Test.YtnmkfmaohflejaaLockM
set_option maxRecDepth 100000
set_option maxHeartbeats 4000000
set_option linter.unusedVariables false
set_option linter.unusedSimpArgs false
namespace Go.Proofs.Ytnmkfmaohflejaa.Lock
open Go.RowKit Go.Shelf Go.Proofs.Ytnmkfmaohflejaa.TK Go.Proofs.Ytnmkfmaohflejaa.Flag Go.Proofs.Ytnmkfmaohflejaa.Read Go.Proofs.Ytnmkfmaohflejaa.Grow Go.Proofs.Ytnmkfmaohflejaa.Words Go.Proofs.Ytnmkfmaohflejaa.Mem Go.Proofs.Ytnmkfmaohflejaa.Flow Go.Proofs.Ytnmkfmaohflejaa.Layout Go.Proofs.Ytnmkfmaohflejaa.Run Go.Proofs.Ytnmkfmaohflejaa.Sys Go.Proofs.Ytnmkfmaohflejaa.Mach Go.Proofs.Ytnmkfmaohflejaa.Doc
theorem Did.on_ {σ : Type} {M : Rsys σ} {got : List Int} {s : σ} {a : RunSt} {w w' : World} {B r : Nat} {v : Value} {b : RunSt} {s1 : σ} {x : Int} (d : Did M got s a w w' B r v b s1 x) : On M got a s b s1 x := ⟨d.on, d.rng, d.off, d.dec⟩
end Go.Proofs.Ytnmkfmaohflejaa.Lock
