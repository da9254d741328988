/-
  No cell of these rows narrows 'for every input' (looked for: loops, veiled, ifaces, maps, wideKeys, modest, calm, conditions, laid).
  DERIVED. THE GIVEN ROWS OF THIS SEAT. 10 by the template 'for every input the law returns true; each argument reads behind the call as it read before'; 0 by the template 'total and deterministic' (their statements: YtlhnnggceebpjaaTotals.lean).
  GIVEN WITH THE SEED: the statements are not yours to turn. If you find one false, say at which input.
  Laid BY PROGRAM, IN A SANDBOX (cutbox-rows.mjs): the forced cells as the released guide's own fill.sh prints them over the translation 065313ee6a376c3e… (all of the seat's roots in one cut). By AI agents, Wed Nov 11 2026. No macro, syntax, notation, axiom, sorry.
-/
import Derived.Test.YtlhnnggceebpjaaChecked
import GoSem.Claim
import GoSem.ClaimJoined
import GoSem.ClaimMapViews
import Derived.JoinedTies
import Derived.KernelRfl
namespace Go.Proofs.Ytlhnnggceebpjaa
/- THE CELL 'sum', in the pinned program and in every row, IS THE sha256 OF THE DUMP (.gsa) THAT YtlhnnggceebpjaaProg.lean LOADS. Nothing in Lean hashes anything: it is a label: what it is worth is what the hold of that sum in a sandbox is worth. -/
noncomputable def Try.pinned : Pinned := { name := "ytlhnnggceebpjaa", sum := "065313ee6a376c3e122250c99dbada8e967297333f312b5cb54eceb08a93b86d", checked := Try.checked }
namespace Rows
def none {H : Type} : Left H := { results := [], args := [] }

/-- 'turnspitlaw08.LockAlone': WHATEVER THE INPUT: true; the input reads as it did. -/
def lockAloneSpec : ChangeSpec := { name := "lockAlone", fn := fun _ => fun
  | [d1, d2, d3] => { results := [.lit (.bool true)], args := [d1, d2, d3] }
  | _ => none }
def lockAloneRow : OpenClaim := { program := "ytlhnnggceebpjaa", sum := "065313ee6a376c3e122250c99dbada8e967297333f312b5cb54eceb08a93b86d", func := "turnspit/turnspitlaw08.LockAlone", spec := "lockAlone", unfollowed := true, recurses := true, apart := false }
def LockAloneSaid : Prop := lockAloneRow.holds Try.pinned (OpenSpec.ofChange lockAloneSpec)

/-- ITS FALSE NEIGHBOUR: 'it returns false'. Refute it at one input. -/
def lockAloneWrong : ChangeSpec := { name := "lockAlone", fn := fun _ => fun
  | [d1, d2, d3] => { results := [.lit (.bool false)], args := [d1, d2, d3] }
  | _ => none }
def LockAloneWrongFalsely : Prop := lockAloneRow.holds Try.pinned (OpenSpec.ofChange lockAloneWrong)

/-- 'turnspitlaw18.IdlemMany': WHATEVER THE INPUT: true; the input reads as it did. -/
def idlemManySpec : ChangeSpec := { name := "idlemMany", fn := fun _ => fun
  | [d1, d2] => { results := [.lit (.bool true)], args := [d1, d2] }
  | _ => none }
def idlemManyRow : OpenClaim := { program := "ytlhnnggceebpjaa", sum := "065313ee6a376c3e122250c99dbada8e967297333f312b5cb54eceb08a93b86d", func := "turnspit/turnspitlaw18.IdlemMany", spec := "idlemMany", unfollowed := true, recurses := true, apart := false }
def IdlemManySaid : Prop := idlemManyRow.holds Try.pinned (OpenSpec.ofChange idlemManySpec)

/-- ITS FALSE NEIGHBOUR: 'it returns false'. Refute it at one input. -/
def idlemManyWrong : ChangeSpec := { name := "idlemMany", fn := fun _ => fun
  | [d1, d2] => { results := [.lit (.bool false)], args := [d1, d2] }
  | _ => none }
def IdlemManyWrongFalsely : Prop := idlemManyRow.holds Try.pinned (OpenSpec.ofChange idlemManyWrong)

/-- 'turnspitlaw17.IdlepPile': WHATEVER THE INPUT: true; the input reads as it did. -/
def idlepPileSpec : ChangeSpec := { name := "idlepPile", fn := fun _ => fun
  | [d1, d2] => { results := [.lit (.bool true)], args := [d1, d2] }
  | _ => none }
def idlepPileRow : OpenClaim := { program := "ytlhnnggceebpjaa", sum := "065313ee6a376c3e122250c99dbada8e967297333f312b5cb54eceb08a93b86d", func := "turnspit/turnspitlaw17.IdlepPile", spec := "idlepPile", unfollowed := true, recurses := true, apart := false }
def IdlepPileSaid : Prop := idlepPileRow.holds Try.pinned (OpenSpec.ofChange idlepPileSpec)

/-- ITS FALSE NEIGHBOUR: 'it returns false'. Refute it at one input. -/
def idlepPileWrong : ChangeSpec := { name := "idlepPile", fn := fun _ => fun
  | [d1, d2] => { results := [.lit (.bool false)], args := [d1, d2] }
  | _ => none }
def IdlepPileWrongFalsely : Prop := idlepPileRow.holds Try.pinned (OpenSpec.ofChange idlepPileWrong)

/-- 'turnspitlaw11.GfreeMany': WHATEVER THE INPUT: true; the input reads as it did. -/
def gfreeManySpec : ChangeSpec := { name := "gfreeMany", fn := fun _ => fun
  | [d1, d2] => { results := [.lit (.bool true)], args := [d1, d2] }
  | _ => none }
def gfreeManyRow : OpenClaim := { program := "ytlhnnggceebpjaa", sum := "065313ee6a376c3e122250c99dbada8e967297333f312b5cb54eceb08a93b86d", func := "turnspit/turnspitlaw11.GfreeMany", spec := "gfreeMany", unfollowed := true, recurses := true, apart := false }
def GfreeManySaid : Prop := gfreeManyRow.holds Try.pinned (OpenSpec.ofChange gfreeManySpec)

/-- ITS FALSE NEIGHBOUR: 'it returns false'. Refute it at one input. -/
def gfreeManyWrong : ChangeSpec := { name := "gfreeMany", fn := fun _ => fun
  | [d1, d2] => { results := [.lit (.bool false)], args := [d1, d2] }
  | _ => none }
def GfreeManyWrongFalsely : Prop := gfreeManyRow.holds Try.pinned (OpenSpec.ofChange gfreeManyWrong)

/-- 'turnspitlaw16.StealHalf': WHATEVER THE INPUT: true; the input reads as it did. -/
def stealHalfSpec : ChangeSpec := { name := "stealHalf", fn := fun _ => fun
  | [d1, d2] => { results := [.lit (.bool true)], args := [d1, d2] }
  | _ => none }
def stealHalfRow : OpenClaim := { program := "ytlhnnggceebpjaa", sum := "065313ee6a376c3e122250c99dbada8e967297333f312b5cb54eceb08a93b86d", func := "turnspit/turnspitlaw16.StealHalf", spec := "stealHalf", unfollowed := true, recurses := true, apart := false }
def StealHalfSaid : Prop := stealHalfRow.holds Try.pinned (OpenSpec.ofChange stealHalfSpec)

/-- ITS FALSE NEIGHBOUR: 'it returns false'. Refute it at one input. -/
def stealHalfWrong : ChangeSpec := { name := "stealHalf", fn := fun _ => fun
  | [d1, d2] => { results := [.lit (.bool false)], args := [d1, d2] }
  | _ => none }
def StealHalfWrongFalsely : Prop := stealHalfRow.holds Try.pinned (OpenSpec.ofChange stealHalfWrong)

/-- 'turnspitlaw13.GlobqOrder': WHATEVER THE INPUT: true; the input reads as it did. -/
def globqOrderSpec : ChangeSpec := { name := "globqOrder", fn := fun _ => fun
  | [d1, d2] => { results := [.lit (.bool true)], args := [d1, d2] }
  | _ => none }
def globqOrderRow : OpenClaim := { program := "ytlhnnggceebpjaa", sum := "065313ee6a376c3e122250c99dbada8e967297333f312b5cb54eceb08a93b86d", func := "turnspit/turnspitlaw13.GlobqOrder", spec := "globqOrder", unfollowed := true, recurses := true, apart := false }
def GlobqOrderSaid : Prop := globqOrderRow.holds Try.pinned (OpenSpec.ofChange globqOrderSpec)

/-- ITS FALSE NEIGHBOUR: 'it returns false'. Refute it at one input. -/
def globqOrderWrong : ChangeSpec := { name := "globqOrder", fn := fun _ => fun
  | [d1, d2] => { results := [.lit (.bool false)], args := [d1, d2] }
  | _ => none }
def GlobqOrderWrongFalsely : Prop := globqOrderRow.holds Try.pinned (OpenSpec.ofChange globqOrderWrong)

/-- 'turnspitlaw13.GlobqPuts': WHATEVER THE INPUT: true; the input reads as it did. -/
def globqPutsSpec : ChangeSpec := { name := "globqPuts", fn := fun _ => fun
  | [d1, d2, d3] => { results := [.lit (.bool true)], args := [d1, d2, d3] }
  | _ => none }
def globqPutsRow : OpenClaim := { program := "ytlhnnggceebpjaa", sum := "065313ee6a376c3e122250c99dbada8e967297333f312b5cb54eceb08a93b86d", func := "turnspit/turnspitlaw13.GlobqPuts", spec := "globqPuts", unfollowed := true, recurses := true, apart := false }
def GlobqPutsSaid : Prop := globqPutsRow.holds Try.pinned (OpenSpec.ofChange globqPutsSpec)

/-- ITS FALSE NEIGHBOUR: 'it returns false'. Refute it at one input. -/
def globqPutsWrong : ChangeSpec := { name := "globqPuts", fn := fun _ => fun
  | [d1, d2, d3] => { results := [.lit (.bool false)], args := [d1, d2, d3] }
  | _ => none }
def GlobqPutsWrongFalsely : Prop := globqPutsRow.holds Try.pinned (OpenSpec.ofChange globqPutsWrong)

/-- 'turnspitlaw13.GlobqPulls': WHATEVER THE INPUT: true; the input reads as it did. -/
def globqPullsSpec : ChangeSpec := { name := "globqPulls", fn := fun _ => fun
  | [d1, d2, d3] => { results := [.lit (.bool true)], args := [d1, d2, d3] }
  | _ => none }
def globqPullsRow : OpenClaim := { program := "ytlhnnggceebpjaa", sum := "065313ee6a376c3e122250c99dbada8e967297333f312b5cb54eceb08a93b86d", func := "turnspit/turnspitlaw13.GlobqPulls", spec := "globqPulls", unfollowed := true, recurses := true, apart := false }
def GlobqPullsSaid : Prop := globqPullsRow.holds Try.pinned (OpenSpec.ofChange globqPullsSpec)

/-- ITS FALSE NEIGHBOUR: 'it returns false'. Refute it at one input. -/
def globqPullsWrong : ChangeSpec := { name := "globqPulls", fn := fun _ => fun
  | [d1, d2, d3] => { results := [.lit (.bool false)], args := [d1, d2, d3] }
  | _ => none }
def GlobqPullsWrongFalsely : Prop := globqPullsRow.holds Try.pinned (OpenSpec.ofChange globqPullsWrong)

/-- 'turnspitlaw14.RputFull': WHATEVER THE INPUT: true; the input reads as it did. -/
def rputFullSpec : ChangeSpec := { name := "rputFull", fn := fun _ => fun
  | [d1, d2, d3] => { results := [.lit (.bool true)], args := [d1, d2, d3] }
  | _ => none }
def rputFullRow : OpenClaim := { program := "ytlhnnggceebpjaa", sum := "065313ee6a376c3e122250c99dbada8e967297333f312b5cb54eceb08a93b86d", func := "turnspit/turnspitlaw14.RputFull", spec := "rputFull", unfollowed := true, recurses := true, apart := false }
def RputFullSaid : Prop := rputFullRow.holds Try.pinned (OpenSpec.ofChange rputFullSpec)

/-- ITS FALSE NEIGHBOUR: 'it returns false'. Refute it at one input. -/
def rputFullWrong : ChangeSpec := { name := "rputFull", fn := fun _ => fun
  | [d1, d2, d3] => { results := [.lit (.bool false)], args := [d1, d2, d3] }
  | _ => none }
def RputFullWrongFalsely : Prop := rputFullRow.holds Try.pinned (OpenSpec.ofChange rputFullWrong)

/-- 'turnspitlaw15.RgetOrder': WHATEVER THE INPUT: true; the input reads as it did. -/
def rgetOrderSpec : ChangeSpec := { name := "rgetOrder", fn := fun _ => fun
  | [d1, d2] => { results := [.lit (.bool true)], args := [d1, d2] }
  | _ => none }
def rgetOrderRow : OpenClaim := { program := "ytlhnnggceebpjaa", sum := "065313ee6a376c3e122250c99dbada8e967297333f312b5cb54eceb08a93b86d", func := "turnspit/turnspitlaw15.RgetOrder", spec := "rgetOrder", unfollowed := true, recurses := true, apart := false }
def RgetOrderSaid : Prop := rgetOrderRow.holds Try.pinned (OpenSpec.ofChange rgetOrderSpec)

/-- ITS FALSE NEIGHBOUR: 'it returns false'. Refute it at one input. -/
def rgetOrderWrong : ChangeSpec := { name := "rgetOrder", fn := fun _ => fun
  | [d1, d2] => { results := [.lit (.bool false)], args := [d1, d2] }
  | _ => none }
def RgetOrderWrongFalsely : Prop := rgetOrderRow.holds Try.pinned (OpenSpec.ofChange rgetOrderWrong)

/- THE SECOND FORM. 'bulk': how many values and letters a reading holds, each counted each time it is reached (what is shared counts as often as it is met; a slice's spare places count too). A statement '..UptoSaid' is the law's where the arguments, and the package variables that the reading takes, are together of bulk at most 1048576: NARROWER than '..Said'. Prove '..Said' where nothing that the law and all that it calls make is longer than what came in: it says more and counts as full. Else prove '..UptoSaid'. A law counts once. -/
mutual
def uptoBulk {H : Type} : DataW H → Nat
  | .lit (.string bytes) => bytes.length + 1
  | .lit _ => 1
  | .nil => 1
  | .ptr d => uptoBulk d + 1
  | .slice elems spare => uptoBulkAll elems + uptoBulkAll spare + 1
  | .agg parts => uptoBulkAll parts + 1
  | .iface _ d => uptoBulk d + 1
  | .map entries => uptoBulkEntries entries + 1
  | .held _ => 1
def uptoBulkAll {H : Type} : List (DataW H) → Nat
  | [] => 0
  | d :: r => uptoBulk d + uptoBulkAll r
def uptoBulkEntries {H : Type} : List (Lit × DataW H) → Nat
  | [] => 0
  | x :: r => uptoBulkEntry x + uptoBulkEntries r
def uptoBulkEntry {H : Type} : Lit × DataW H → Nat
  | (.string bytes, d) => bytes.length + uptoBulk d + 1
  | (_, d) => uptoBulk d + 1
 end
def uptoSmall : (H : Type) → List (DataW H) → Bool := fun _ ds => decide (uptoBulkAll ds ≤ 1048576)
def OpenSpec.upto (s : _root_.Go.ChangeSpec) : _root_.Go.OpenSpec := { _root_.Go.OpenSpec.ofChange s with cond := some uptoSmall }

/-- 'turnspitlaw08.LockAlone', WHERE WHAT IT READS IS OF BULK AT MOST 1048576: true; the input reads as it did. -/
def lockAloneUptoRow : OpenClaim := { program := "ytlhnnggceebpjaa", sum := "065313ee6a376c3e122250c99dbada8e967297333f312b5cb54eceb08a93b86d", func := "turnspit/turnspitlaw08.LockAlone", spec := "lockAlone", unfollowed := true, recurses := true, apart := false, narrowed := true }
def LockAloneUptoSaid : Prop := lockAloneUptoRow.holds Try.pinned (OpenSpec.upto lockAloneSpec)

/-- 'turnspitlaw18.IdlemMany', WHERE WHAT IT READS IS OF BULK AT MOST 1048576: true; the input reads as it did. -/
def idlemManyUptoRow : OpenClaim := { program := "ytlhnnggceebpjaa", sum := "065313ee6a376c3e122250c99dbada8e967297333f312b5cb54eceb08a93b86d", func := "turnspit/turnspitlaw18.IdlemMany", spec := "idlemMany", unfollowed := true, recurses := true, apart := false, narrowed := true }
def IdlemManyUptoSaid : Prop := idlemManyUptoRow.holds Try.pinned (OpenSpec.upto idlemManySpec)

/-- 'turnspitlaw17.IdlepPile', WHERE WHAT IT READS IS OF BULK AT MOST 1048576: true; the input reads as it did. -/
def idlepPileUptoRow : OpenClaim := { program := "ytlhnnggceebpjaa", sum := "065313ee6a376c3e122250c99dbada8e967297333f312b5cb54eceb08a93b86d", func := "turnspit/turnspitlaw17.IdlepPile", spec := "idlepPile", unfollowed := true, recurses := true, apart := false, narrowed := true }
def IdlepPileUptoSaid : Prop := idlepPileUptoRow.holds Try.pinned (OpenSpec.upto idlepPileSpec)

/-- 'turnspitlaw11.GfreeMany', WHERE WHAT IT READS IS OF BULK AT MOST 1048576: true; the input reads as it did. -/
def gfreeManyUptoRow : OpenClaim := { program := "ytlhnnggceebpjaa", sum := "065313ee6a376c3e122250c99dbada8e967297333f312b5cb54eceb08a93b86d", func := "turnspit/turnspitlaw11.GfreeMany", spec := "gfreeMany", unfollowed := true, recurses := true, apart := false, narrowed := true }
def GfreeManyUptoSaid : Prop := gfreeManyUptoRow.holds Try.pinned (OpenSpec.upto gfreeManySpec)

/-- 'turnspitlaw16.StealHalf', WHERE WHAT IT READS IS OF BULK AT MOST 1048576: true; the input reads as it did. -/
def stealHalfUptoRow : OpenClaim := { program := "ytlhnnggceebpjaa", sum := "065313ee6a376c3e122250c99dbada8e967297333f312b5cb54eceb08a93b86d", func := "turnspit/turnspitlaw16.StealHalf", spec := "stealHalf", unfollowed := true, recurses := true, apart := false, narrowed := true }
def StealHalfUptoSaid : Prop := stealHalfUptoRow.holds Try.pinned (OpenSpec.upto stealHalfSpec)

/-- 'turnspitlaw13.GlobqOrder', WHERE WHAT IT READS IS OF BULK AT MOST 1048576: true; the input reads as it did. -/
def globqOrderUptoRow : OpenClaim := { program := "ytlhnnggceebpjaa", sum := "065313ee6a376c3e122250c99dbada8e967297333f312b5cb54eceb08a93b86d", func := "turnspit/turnspitlaw13.GlobqOrder", spec := "globqOrder", unfollowed := true, recurses := true, apart := false, narrowed := true }
def GlobqOrderUptoSaid : Prop := globqOrderUptoRow.holds Try.pinned (OpenSpec.upto globqOrderSpec)

/-- 'turnspitlaw13.GlobqPuts', WHERE WHAT IT READS IS OF BULK AT MOST 1048576: true; the input reads as it did. -/
def globqPutsUptoRow : OpenClaim := { program := "ytlhnnggceebpjaa", sum := "065313ee6a376c3e122250c99dbada8e967297333f312b5cb54eceb08a93b86d", func := "turnspit/turnspitlaw13.GlobqPuts", spec := "globqPuts", unfollowed := true, recurses := true, apart := false, narrowed := true }
def GlobqPutsUptoSaid : Prop := globqPutsUptoRow.holds Try.pinned (OpenSpec.upto globqPutsSpec)

/-- 'turnspitlaw13.GlobqPulls', WHERE WHAT IT READS IS OF BULK AT MOST 1048576: true; the input reads as it did. -/
def globqPullsUptoRow : OpenClaim := { program := "ytlhnnggceebpjaa", sum := "065313ee6a376c3e122250c99dbada8e967297333f312b5cb54eceb08a93b86d", func := "turnspit/turnspitlaw13.GlobqPulls", spec := "globqPulls", unfollowed := true, recurses := true, apart := false, narrowed := true }
def GlobqPullsUptoSaid : Prop := globqPullsUptoRow.holds Try.pinned (OpenSpec.upto globqPullsSpec)

/-- 'turnspitlaw14.RputFull', WHERE WHAT IT READS IS OF BULK AT MOST 1048576: true; the input reads as it did. -/
def rputFullUptoRow : OpenClaim := { program := "ytlhnnggceebpjaa", sum := "065313ee6a376c3e122250c99dbada8e967297333f312b5cb54eceb08a93b86d", func := "turnspit/turnspitlaw14.RputFull", spec := "rputFull", unfollowed := true, recurses := true, apart := false, narrowed := true }
def RputFullUptoSaid : Prop := rputFullUptoRow.holds Try.pinned (OpenSpec.upto rputFullSpec)

/-- 'turnspitlaw15.RgetOrder', WHERE WHAT IT READS IS OF BULK AT MOST 1048576: true; the input reads as it did. -/
def rgetOrderUptoRow : OpenClaim := { program := "ytlhnnggceebpjaa", sum := "065313ee6a376c3e122250c99dbada8e967297333f312b5cb54eceb08a93b86d", func := "turnspit/turnspitlaw15.RgetOrder", spec := "rgetOrder", unfollowed := true, recurses := true, apart := false, narrowed := true }
def RgetOrderUptoSaid : Prop := rgetOrderUptoRow.holds Try.pinned (OpenSpec.upto rgetOrderSpec)

end Rows
end Go.Proofs.Ytlhnnggceebpjaa
