/-
  No cell of these rows narrows 'for every input' (looked for: loops, veiled, ifaces, maps, wideKeys, modest, calm, conditions, laid).
  DERIVED. THE GIVEN ROWS OF THIS SEAT. 16 by the template 'for every input the law returns true; each argument reads behind the call as it read before'; 0 by the template 'total and deterministic' (their statements: YtlhnnggceebpjaaGreatTotals.lean).
  GIVEN WITH THE SEED: the statements are not yours to turn. If you find one false, say at which input.
  Laid BY PROGRAM, IN A SANDBOX (cutbox-rows.mjs): the forced cells as the released guide's own fill.sh prints them over the translation 667b7b9272321bab… (all of the seat's roots in one cut). By AI agents, Wed Nov 11 2026. No macro, syntax, notation, axiom, sorry.
-/
import Derived.Test.YtlhnnggceebpjaaGreatChecked
import GoSem.Claim
import GoSem.ClaimJoined
import GoSem.ClaimMapViews
import Derived.JoinedTies
import Derived.KernelRfl
namespace Go.Proofs.YtlhnnggceebpjaaGreat
/- THE CELL 'sum', in the pinned program and in every row, IS THE sha256 OF THE DUMP (.gsa) THAT YtlhnnggceebpjaaGreatProg.lean LOADS. Nothing in Lean hashes anything: it is a label: what it is worth is what the hold of that sum in a sandbox is worth. -/
noncomputable def Tryz.pinned : Pinned := { name := "ytlhnnggceebpjaagreat", sum := "667b7b9272321babe012758fac6a684cea404ab19b3db5c30b12dffb0a132069", checked := Tryz.checked }
namespace Rows
def none {H : Type} : Left H := { results := [], args := [] }

/-- 'turnspitlaw20.RestNeeded': WHATEVER THE INPUT: true; the input reads as it did. -/
def restNeededSpec : ChangeSpec := { name := "restNeeded", fn := fun _ => fun
  | [d1, d2, d3] => { results := [.lit (.bool true)], args := [d1, d2, d3] }
  | _ => none }
def restNeededRow : OpenClaim := { program := "ytlhnnggceebpjaagreat", sum := "667b7b9272321babe012758fac6a684cea404ab19b3db5c30b12dffb0a132069", func := "turnspit/turnspitlaw20.RestNeeded", spec := "restNeeded", unfollowed := true, recurses := true, apart := false }
def RestNeededSaid : Prop := restNeededRow.holds Tryz.pinned (OpenSpec.ofChange restNeededSpec)

/-- ITS FALSE NEIGHBOUR: 'it returns false'. Refute it at one input. -/
def restNeededWrong : ChangeSpec := { name := "restNeeded", fn := fun _ => fun
  | [d1, d2, d3] => { results := [.lit (.bool false)], args := [d1, d2, d3] }
  | _ => none }
def RestNeededWrongFalsely : Prop := restNeededRow.holds Tryz.pinned (OpenSpec.ofChange restNeededWrong)

/-- 'turnspitlaw20.RestSpins': WHATEVER THE INPUT: true; the input reads as it did. -/
def restSpinsSpec : ChangeSpec := { name := "restSpins", fn := fun _ => fun
  | [d1, d2, d3] => { results := [.lit (.bool true)], args := [d1, d2, d3] }
  | _ => none }
def restSpinsRow : OpenClaim := { program := "ytlhnnggceebpjaagreat", sum := "667b7b9272321babe012758fac6a684cea404ab19b3db5c30b12dffb0a132069", func := "turnspit/turnspitlaw20.RestSpins", spec := "restSpins", unfollowed := true, recurses := true, apart := false }
def RestSpinsSaid : Prop := restSpinsRow.holds Tryz.pinned (OpenSpec.ofChange restSpinsSpec)

/-- ITS FALSE NEIGHBOUR: 'it returns false'. Refute it at one input. -/
def restSpinsWrong : ChangeSpec := { name := "restSpins", fn := fun _ => fun
  | [d1, d2, d3] => { results := [.lit (.bool false)], args := [d1, d2, d3] }
  | _ => none }
def RestSpinsWrongFalsely : Prop := restSpinsRow.holds Tryz.pinned (OpenSpec.ofChange restSpinsWrong)

/-- 'turnspitlaw20.RestRests': WHATEVER THE INPUT: true; the input reads as it did. -/
def restRestsSpec : ChangeSpec := { name := "restRests", fn := fun _ => fun
  | [d1, d2, d3] => { results := [.lit (.bool true)], args := [d1, d2, d3] }
  | _ => none }
def restRestsRow : OpenClaim := { program := "ytlhnnggceebpjaagreat", sum := "667b7b9272321babe012758fac6a684cea404ab19b3db5c30b12dffb0a132069", func := "turnspit/turnspitlaw20.RestRests", spec := "restRests", unfollowed := true, recurses := true, apart := false }
def RestRestsSaid : Prop := restRestsRow.holds Tryz.pinned (OpenSpec.ofChange restRestsSpec)

/-- ITS FALSE NEIGHBOUR: 'it returns false'. Refute it at one input. -/
def restRestsWrong : ChangeSpec := { name := "restRests", fn := fun _ => fun
  | [d1, d2, d3] => { results := [.lit (.bool false)], args := [d1, d2, d3] }
  | _ => none }
def RestRestsWrongFalsely : Prop := restRestsRow.holds Tryz.pinned (OpenSpec.ofChange restRestsWrong)

/-- 'turnspitlaw14.RputSteps': WHATEVER THE INPUT: true; the input reads as it did. -/
def rputStepsSpec : ChangeSpec := { name := "rputSteps", fn := fun _ => fun
  | [d1, d2, d3] => { results := [.lit (.bool true)], args := [d1, d2, d3] }
  | _ => none }
def rputStepsRow : OpenClaim := { program := "ytlhnnggceebpjaagreat", sum := "667b7b9272321babe012758fac6a684cea404ab19b3db5c30b12dffb0a132069", func := "turnspit/turnspitlaw14.RputSteps", spec := "rputSteps", unfollowed := true, recurses := true, apart := false }
def RputStepsSaid : Prop := rputStepsRow.holds Tryz.pinned (OpenSpec.ofChange rputStepsSpec)

/-- ITS FALSE NEIGHBOUR: 'it returns false'. Refute it at one input. -/
def rputStepsWrong : ChangeSpec := { name := "rputSteps", fn := fun _ => fun
  | [d1, d2, d3] => { results := [.lit (.bool false)], args := [d1, d2, d3] }
  | _ => none }
def RputStepsWrongFalsely : Prop := rputStepsRow.holds Tryz.pinned (OpenSpec.ofChange rputStepsWrong)

/-- 'turnspitlaw20.RestNaps': WHATEVER THE INPUT: true; the input reads as it did. -/
def restNapsSpec : ChangeSpec := { name := "restNaps", fn := fun _ => fun
  | [d1, d2, d3] => { results := [.lit (.bool true)], args := [d1, d2, d3] }
  | _ => none }
def restNapsRow : OpenClaim := { program := "ytlhnnggceebpjaagreat", sum := "667b7b9272321babe012758fac6a684cea404ab19b3db5c30b12dffb0a132069", func := "turnspit/turnspitlaw20.RestNaps", spec := "restNaps", unfollowed := true, recurses := true, apart := false }
def RestNapsSaid : Prop := restNapsRow.holds Tryz.pinned (OpenSpec.ofChange restNapsSpec)

/-- ITS FALSE NEIGHBOUR: 'it returns false'. Refute it at one input. -/
def restNapsWrong : ChangeSpec := { name := "restNaps", fn := fun _ => fun
  | [d1, d2, d3] => { results := [.lit (.bool false)], args := [d1, d2, d3] }
  | _ => none }
def RestNapsWrongFalsely : Prop := restNapsRow.holds Tryz.pinned (OpenSpec.ofChange restNapsWrong)

/-- 'turnspitlaw24.SyscTwo': WHATEVER THE INPUT: true; the input reads as it did. -/
def syscTwoSpec : ChangeSpec := { name := "syscTwo", fn := fun _ => fun
  | [d1, d2, d3] => { results := [.lit (.bool true)], args := [d1, d2, d3] }
  | _ => none }
def syscTwoRow : OpenClaim := { program := "ytlhnnggceebpjaagreat", sum := "667b7b9272321babe012758fac6a684cea404ab19b3db5c30b12dffb0a132069", func := "turnspit/turnspitlaw24.SyscTwo", spec := "syscTwo", unfollowed := true, recurses := true, apart := false }
def SyscTwoSaid : Prop := syscTwoRow.holds Tryz.pinned (OpenSpec.ofChange syscTwoSpec)

/-- ITS FALSE NEIGHBOUR: 'it returns false'. Refute it at one input. -/
def syscTwoWrong : ChangeSpec := { name := "syscTwo", fn := fun _ => fun
  | [d1, d2, d3] => { results := [.lit (.bool false)], args := [d1, d2, d3] }
  | _ => none }
def SyscTwoWrongFalsely : Prop := syscTwoRow.holds Tryz.pinned (OpenSpec.ofChange syscTwoWrong)

/-- 'turnspitlaw24.SyscHas': WHATEVER THE INPUT: true; the input reads as it did. -/
def syscHasSpec : ChangeSpec := { name := "syscHas", fn := fun _ => fun
  | [d1, d2, d3] => { results := [.lit (.bool true)], args := [d1, d2, d3] }
  | _ => none }
def syscHasRow : OpenClaim := { program := "ytlhnnggceebpjaagreat", sum := "667b7b9272321babe012758fac6a684cea404ab19b3db5c30b12dffb0a132069", func := "turnspit/turnspitlaw24.SyscHas", spec := "syscHas", unfollowed := true, recurses := true, apart := false }
def SyscHasSaid : Prop := syscHasRow.holds Tryz.pinned (OpenSpec.ofChange syscHasSpec)

/-- ITS FALSE NEIGHBOUR: 'it returns false'. Refute it at one input. -/
def syscHasWrong : ChangeSpec := { name := "syscHas", fn := fun _ => fun
  | [d1, d2, d3] => { results := [.lit (.bool false)], args := [d1, d2, d3] }
  | _ => none }
def SyscHasWrongFalsely : Prop := syscHasRow.holds Tryz.pinned (OpenSpec.ofChange syscHasWrong)

/-- 'turnspitlaw24.SyscOut': WHATEVER THE INPUT: true; the input reads as it did. -/
def syscOutSpec : ChangeSpec := { name := "syscOut", fn := fun _ => fun
  | [d1, d2, d3] => { results := [.lit (.bool true)], args := [d1, d2, d3] }
  | _ => none }
def syscOutRow : OpenClaim := { program := "ytlhnnggceebpjaagreat", sum := "667b7b9272321babe012758fac6a684cea404ab19b3db5c30b12dffb0a132069", func := "turnspit/turnspitlaw24.SyscOut", spec := "syscOut", unfollowed := true, recurses := true, apart := false }
def SyscOutSaid : Prop := syscOutRow.holds Tryz.pinned (OpenSpec.ofChange syscOutSpec)

/-- ITS FALSE NEIGHBOUR: 'it returns false'. Refute it at one input. -/
def syscOutWrong : ChangeSpec := { name := "syscOut", fn := fun _ => fun
  | [d1, d2, d3] => { results := [.lit (.bool false)], args := [d1, d2, d3] }
  | _ => none }
def SyscOutWrongFalsely : Prop := syscOutRow.holds Tryz.pinned (OpenSpec.ofChange syscOutWrong)

/-- 'turnspitlaw25.HandGives': WHATEVER THE INPUT: true; the input reads as it did. -/
def handGivesSpec : ChangeSpec := { name := "handGives", fn := fun _ => fun
  | [d1, d2, d3] => { results := [.lit (.bool true)], args := [d1, d2, d3] }
  | _ => none }
def handGivesRow : OpenClaim := { program := "ytlhnnggceebpjaagreat", sum := "667b7b9272321babe012758fac6a684cea404ab19b3db5c30b12dffb0a132069", func := "turnspit/turnspitlaw25.HandGives", spec := "handGives", unfollowed := true, recurses := true, apart := false }
def HandGivesSaid : Prop := handGivesRow.holds Tryz.pinned (OpenSpec.ofChange handGivesSpec)

/-- ITS FALSE NEIGHBOUR: 'it returns false'. Refute it at one input. -/
def handGivesWrong : ChangeSpec := { name := "handGives", fn := fun _ => fun
  | [d1, d2, d3] => { results := [.lit (.bool false)], args := [d1, d2, d3] }
  | _ => none }
def HandGivesWrongFalsely : Prop := handGivesRow.holds Tryz.pinned (OpenSpec.ofChange handGivesWrong)

/-- 'turnspitlaw26.MonLate': WHATEVER THE INPUT: true; the input reads as it did. -/
def monLateSpec : ChangeSpec := { name := "monLate", fn := fun _ => fun
  | [d1, d2, d3] => { results := [.lit (.bool true)], args := [d1, d2, d3] }
  | _ => none }
def monLateRow : OpenClaim := { program := "ytlhnnggceebpjaagreat", sum := "667b7b9272321babe012758fac6a684cea404ab19b3db5c30b12dffb0a132069", func := "turnspit/turnspitlaw26.MonLate", spec := "monLate", unfollowed := true, recurses := true, apart := false }
def MonLateSaid : Prop := monLateRow.holds Tryz.pinned (OpenSpec.ofChange monLateSpec)

/-- ITS FALSE NEIGHBOUR: 'it returns false'. Refute it at one input. -/
def monLateWrong : ChangeSpec := { name := "monLate", fn := fun _ => fun
  | [d1, d2, d3] => { results := [.lit (.bool false)], args := [d1, d2, d3] }
  | _ => none }
def MonLateWrongFalsely : Prop := monLateRow.holds Tryz.pinned (OpenSpec.ofChange monLateWrong)

/-- 'turnspitlaw26.MonTakes': WHATEVER THE INPUT: true; the input reads as it did. -/
def monTakesSpec : ChangeSpec := { name := "monTakes", fn := fun _ => fun
  | [d1, d2, d3] => { results := [.lit (.bool true)], args := [d1, d2, d3] }
  | _ => none }
def monTakesRow : OpenClaim := { program := "ytlhnnggceebpjaagreat", sum := "667b7b9272321babe012758fac6a684cea404ab19b3db5c30b12dffb0a132069", func := "turnspit/turnspitlaw26.MonTakes", spec := "monTakes", unfollowed := true, recurses := true, apart := false }
def MonTakesSaid : Prop := monTakesRow.holds Tryz.pinned (OpenSpec.ofChange monTakesSpec)

/-- ITS FALSE NEIGHBOUR: 'it returns false'. Refute it at one input. -/
def monTakesWrong : ChangeSpec := { name := "monTakes", fn := fun _ => fun
  | [d1, d2, d3] => { results := [.lit (.bool false)], args := [d1, d2, d3] }
  | _ => none }
def MonTakesWrongFalsely : Prop := monTakesRow.holds Tryz.pinned (OpenSpec.ofChange monTakesWrong)

/-- 'turnspitlaw26.MonIdle': WHATEVER THE INPUT: true; the input reads as it did. -/
def monIdleSpec : ChangeSpec := { name := "monIdle", fn := fun _ => fun
  | [d1, d2, d3] => { results := [.lit (.bool true)], args := [d1, d2, d3] }
  | _ => none }
def monIdleRow : OpenClaim := { program := "ytlhnnggceebpjaagreat", sum := "667b7b9272321babe012758fac6a684cea404ab19b3db5c30b12dffb0a132069", func := "turnspit/turnspitlaw26.MonIdle", spec := "monIdle", unfollowed := true, recurses := true, apart := false }
def MonIdleSaid : Prop := monIdleRow.holds Tryz.pinned (OpenSpec.ofChange monIdleSpec)

/-- ITS FALSE NEIGHBOUR: 'it returns false'. Refute it at one input. -/
def monIdleWrong : ChangeSpec := { name := "monIdle", fn := fun _ => fun
  | [d1, d2, d3] => { results := [.lit (.bool false)], args := [d1, d2, d3] }
  | _ => none }
def MonIdleWrongFalsely : Prop := monIdleRow.holds Tryz.pinned (OpenSpec.ofChange monIdleWrong)

/-- 'turnspitlaw26.MonSteps': WHATEVER THE INPUT: true; the input reads as it did. -/
def monStepsSpec : ChangeSpec := { name := "monSteps", fn := fun _ => fun
  | [d1, d2] => { results := [.lit (.bool true)], args := [d1, d2] }
  | _ => none }
def monStepsRow : OpenClaim := { program := "ytlhnnggceebpjaagreat", sum := "667b7b9272321babe012758fac6a684cea404ab19b3db5c30b12dffb0a132069", func := "turnspit/turnspitlaw26.MonSteps", spec := "monSteps", unfollowed := true, recurses := true, apart := false }
def MonStepsSaid : Prop := monStepsRow.holds Tryz.pinned (OpenSpec.ofChange monStepsSpec)

/-- ITS FALSE NEIGHBOUR: 'it returns false'. Refute it at one input. -/
def monStepsWrong : ChangeSpec := { name := "monSteps", fn := fun _ => fun
  | [d1, d2] => { results := [.lit (.bool false)], args := [d1, d2] }
  | _ => none }
def MonStepsWrongFalsely : Prop := monStepsRow.holds Tryz.pinned (OpenSpec.ofChange monStepsWrong)

/-- 'turnspitlaw23.ReadyReadies': WHATEVER THE INPUT: true; the input reads as it did. -/
def readyReadiesSpec : ChangeSpec := { name := "readyReadies", fn := fun _ => fun
  | [d1, d2, d3] => { results := [.lit (.bool true)], args := [d1, d2, d3] }
  | _ => none }
def readyReadiesRow : OpenClaim := { program := "ytlhnnggceebpjaagreat", sum := "667b7b9272321babe012758fac6a684cea404ab19b3db5c30b12dffb0a132069", func := "turnspit/turnspitlaw23.ReadyReadies", spec := "readyReadies", unfollowed := true, recurses := true, apart := false }
def ReadyReadiesSaid : Prop := readyReadiesRow.holds Tryz.pinned (OpenSpec.ofChange readyReadiesSpec)

/-- ITS FALSE NEIGHBOUR: 'it returns false'. Refute it at one input. -/
def readyReadiesWrong : ChangeSpec := { name := "readyReadies", fn := fun _ => fun
  | [d1, d2, d3] => { results := [.lit (.bool false)], args := [d1, d2, d3] }
  | _ => none }
def ReadyReadiesWrongFalsely : Prop := readyReadiesRow.holds Tryz.pinned (OpenSpec.ofChange readyReadiesWrong)

/-- 'turnspitlaw23.ReadyGives': WHATEVER THE INPUT: true; the input reads as it did. -/
def readyGivesSpec : ChangeSpec := { name := "readyGives", fn := fun _ => fun
  | [d1, d2, d3] => { results := [.lit (.bool true)], args := [d1, d2, d3] }
  | _ => none }
def readyGivesRow : OpenClaim := { program := "ytlhnnggceebpjaagreat", sum := "667b7b9272321babe012758fac6a684cea404ab19b3db5c30b12dffb0a132069", func := "turnspit/turnspitlaw23.ReadyGives", spec := "readyGives", unfollowed := true, recurses := true, apart := false }
def ReadyGivesSaid : Prop := readyGivesRow.holds Tryz.pinned (OpenSpec.ofChange readyGivesSpec)

/-- ITS FALSE NEIGHBOUR: 'it returns false'. Refute it at one input. -/
def readyGivesWrong : ChangeSpec := { name := "readyGives", fn := fun _ => fun
  | [d1, d2, d3] => { results := [.lit (.bool false)], args := [d1, d2, d3] }
  | _ => none }
def ReadyGivesWrongFalsely : Prop := readyGivesRow.holds Tryz.pinned (OpenSpec.ofChange readyGivesWrong)

/-- 'turnspitlaw22.SpawnEnds': WHATEVER THE INPUT: true; the input reads as it did. -/
def spawnEndsSpec : ChangeSpec := { name := "spawnEnds", fn := fun _ => fun
  | [d1, d2, d3] => { results := [.lit (.bool true)], args := [d1, d2, d3] }
  | _ => none }
def spawnEndsRow : OpenClaim := { program := "ytlhnnggceebpjaagreat", sum := "667b7b9272321babe012758fac6a684cea404ab19b3db5c30b12dffb0a132069", func := "turnspit/turnspitlaw22.SpawnEnds", spec := "spawnEnds", unfollowed := true, recurses := true, apart := false }
def SpawnEndsSaid : Prop := spawnEndsRow.holds Tryz.pinned (OpenSpec.ofChange spawnEndsSpec)

/-- ITS FALSE NEIGHBOUR: 'it returns false'. Refute it at one input. -/
def spawnEndsWrong : ChangeSpec := { name := "spawnEnds", fn := fun _ => fun
  | [d1, d2, d3] => { results := [.lit (.bool false)], args := [d1, d2, d3] }
  | _ => none }
def SpawnEndsWrongFalsely : Prop := spawnEndsRow.holds Tryz.pinned (OpenSpec.ofChange spawnEndsWrong)

/- THE SECOND FORM. 'bulk': how many values and letters a reading holds, each counted each time it is reached (what is shared counts as often as it is met; a slice's spare places count too). A statement '..UptoSaid' is the law's where the arguments, and the package variables that the reading takes, are together of bulk at most 1048576: NARROWER than '..Said'. Prove '..Said' where nothing that the law and all that it calls make is longer than what came in: it says more and counts as full. Else prove '..UptoSaid'. A law counts once. -/
mutual
def uptoBulk {H : Type} : DataW H → Nat
  | .lit (.string bytes) => bytes.length + 1
  | .lit _ => 1
  | .nil => 1
  | .ptr d => uptoBulk d + 1
  | .slice elems spare => uptoBulkAll elems + uptoBulkAll spare + 1
  | .agg parts => uptoBulkAll parts + 1
  | .iface _ d => uptoBulk d + 1
  | .map entries => uptoBulkEntries entries + 1
  | .held _ => 1
def uptoBulkAll {H : Type} : List (DataW H) → Nat
  | [] => 0
  | d :: r => uptoBulk d + uptoBulkAll r
def uptoBulkEntries {H : Type} : List (Lit × DataW H) → Nat
  | [] => 0
  | x :: r => uptoBulkEntry x + uptoBulkEntries r
def uptoBulkEntry {H : Type} : Lit × DataW H → Nat
  | (.string bytes, d) => bytes.length + uptoBulk d + 1
  | (_, d) => uptoBulk d + 1
 end
def uptoSmall : (H : Type) → List (DataW H) → Bool := fun _ ds => decide (uptoBulkAll ds ≤ 1048576)
def OpenSpec.upto (s : _root_.Go.ChangeSpec) : _root_.Go.OpenSpec := { _root_.Go.OpenSpec.ofChange s with cond := some uptoSmall }

/-- 'turnspitlaw20.RestNeeded', WHERE WHAT IT READS IS OF BULK AT MOST 1048576: true; the input reads as it did. -/
def restNeededUptoRow : OpenClaim := { program := "ytlhnnggceebpjaagreat", sum := "667b7b9272321babe012758fac6a684cea404ab19b3db5c30b12dffb0a132069", func := "turnspit/turnspitlaw20.RestNeeded", spec := "restNeeded", unfollowed := true, recurses := true, apart := false, narrowed := true }
def RestNeededUptoSaid : Prop := restNeededUptoRow.holds Tryz.pinned (OpenSpec.upto restNeededSpec)

/-- 'turnspitlaw20.RestSpins', WHERE WHAT IT READS IS OF BULK AT MOST 1048576: true; the input reads as it did. -/
def restSpinsUptoRow : OpenClaim := { program := "ytlhnnggceebpjaagreat", sum := "667b7b9272321babe012758fac6a684cea404ab19b3db5c30b12dffb0a132069", func := "turnspit/turnspitlaw20.RestSpins", spec := "restSpins", unfollowed := true, recurses := true, apart := false, narrowed := true }
def RestSpinsUptoSaid : Prop := restSpinsUptoRow.holds Tryz.pinned (OpenSpec.upto restSpinsSpec)

/-- 'turnspitlaw20.RestRests', WHERE WHAT IT READS IS OF BULK AT MOST 1048576: true; the input reads as it did. -/
def restRestsUptoRow : OpenClaim := { program := "ytlhnnggceebpjaagreat", sum := "667b7b9272321babe012758fac6a684cea404ab19b3db5c30b12dffb0a132069", func := "turnspit/turnspitlaw20.RestRests", spec := "restRests", unfollowed := true, recurses := true, apart := false, narrowed := true }
def RestRestsUptoSaid : Prop := restRestsUptoRow.holds Tryz.pinned (OpenSpec.upto restRestsSpec)

/-- 'turnspitlaw14.RputSteps', WHERE WHAT IT READS IS OF BULK AT MOST 1048576: true; the input reads as it did. -/
def rputStepsUptoRow : OpenClaim := { program := "ytlhnnggceebpjaagreat", sum := "667b7b9272321babe012758fac6a684cea404ab19b3db5c30b12dffb0a132069", func := "turnspit/turnspitlaw14.RputSteps", spec := "rputSteps", unfollowed := true, recurses := true, apart := false, narrowed := true }
def RputStepsUptoSaid : Prop := rputStepsUptoRow.holds Tryz.pinned (OpenSpec.upto rputStepsSpec)

/-- 'turnspitlaw20.RestNaps', WHERE WHAT IT READS IS OF BULK AT MOST 1048576: true; the input reads as it did. -/
def restNapsUptoRow : OpenClaim := { program := "ytlhnnggceebpjaagreat", sum := "667b7b9272321babe012758fac6a684cea404ab19b3db5c30b12dffb0a132069", func := "turnspit/turnspitlaw20.RestNaps", spec := "restNaps", unfollowed := true, recurses := true, apart := false, narrowed := true }
def RestNapsUptoSaid : Prop := restNapsUptoRow.holds Tryz.pinned (OpenSpec.upto restNapsSpec)

/-- 'turnspitlaw24.SyscTwo', WHERE WHAT IT READS IS OF BULK AT MOST 1048576: true; the input reads as it did. -/
def syscTwoUptoRow : OpenClaim := { program := "ytlhnnggceebpjaagreat", sum := "667b7b9272321babe012758fac6a684cea404ab19b3db5c30b12dffb0a132069", func := "turnspit/turnspitlaw24.SyscTwo", spec := "syscTwo", unfollowed := true, recurses := true, apart := false, narrowed := true }
def SyscTwoUptoSaid : Prop := syscTwoUptoRow.holds Tryz.pinned (OpenSpec.upto syscTwoSpec)

/-- 'turnspitlaw24.SyscHas', WHERE WHAT IT READS IS OF BULK AT MOST 1048576: true; the input reads as it did. -/
def syscHasUptoRow : OpenClaim := { program := "ytlhnnggceebpjaagreat", sum := "667b7b9272321babe012758fac6a684cea404ab19b3db5c30b12dffb0a132069", func := "turnspit/turnspitlaw24.SyscHas", spec := "syscHas", unfollowed := true, recurses := true, apart := false, narrowed := true }
def SyscHasUptoSaid : Prop := syscHasUptoRow.holds Tryz.pinned (OpenSpec.upto syscHasSpec)

/-- 'turnspitlaw24.SyscOut', WHERE WHAT IT READS IS OF BULK AT MOST 1048576: true; the input reads as it did. -/
def syscOutUptoRow : OpenClaim := { program := "ytlhnnggceebpjaagreat", sum := "667b7b9272321babe012758fac6a684cea404ab19b3db5c30b12dffb0a132069", func := "turnspit/turnspitlaw24.SyscOut", spec := "syscOut", unfollowed := true, recurses := true, apart := false, narrowed := true }
def SyscOutUptoSaid : Prop := syscOutUptoRow.holds Tryz.pinned (OpenSpec.upto syscOutSpec)

/-- 'turnspitlaw25.HandGives', WHERE WHAT IT READS IS OF BULK AT MOST 1048576: true; the input reads as it did. -/
def handGivesUptoRow : OpenClaim := { program := "ytlhnnggceebpjaagreat", sum := "667b7b9272321babe012758fac6a684cea404ab19b3db5c30b12dffb0a132069", func := "turnspit/turnspitlaw25.HandGives", spec := "handGives", unfollowed := true, recurses := true, apart := false, narrowed := true }
def HandGivesUptoSaid : Prop := handGivesUptoRow.holds Tryz.pinned (OpenSpec.upto handGivesSpec)

/-- 'turnspitlaw26.MonLate', WHERE WHAT IT READS IS OF BULK AT MOST 1048576: true; the input reads as it did. -/
def monLateUptoRow : OpenClaim := { program := "ytlhnnggceebpjaagreat", sum := "667b7b9272321babe012758fac6a684cea404ab19b3db5c30b12dffb0a132069", func := "turnspit/turnspitlaw26.MonLate", spec := "monLate", unfollowed := true, recurses := true, apart := false, narrowed := true }
def MonLateUptoSaid : Prop := monLateUptoRow.holds Tryz.pinned (OpenSpec.upto monLateSpec)

/-- 'turnspitlaw26.MonTakes', WHERE WHAT IT READS IS OF BULK AT MOST 1048576: true; the input reads as it did. -/
def monTakesUptoRow : OpenClaim := { program := "ytlhnnggceebpjaagreat", sum := "667b7b9272321babe012758fac6a684cea404ab19b3db5c30b12dffb0a132069", func := "turnspit/turnspitlaw26.MonTakes", spec := "monTakes", unfollowed := true, recurses := true, apart := false, narrowed := true }
def MonTakesUptoSaid : Prop := monTakesUptoRow.holds Tryz.pinned (OpenSpec.upto monTakesSpec)

/-- 'turnspitlaw26.MonIdle', WHERE WHAT IT READS IS OF BULK AT MOST 1048576: true; the input reads as it did. -/
def monIdleUptoRow : OpenClaim := { program := "ytlhnnggceebpjaagreat", sum := "667b7b9272321babe012758fac6a684cea404ab19b3db5c30b12dffb0a132069", func := "turnspit/turnspitlaw26.MonIdle", spec := "monIdle", unfollowed := true, recurses := true, apart := false, narrowed := true }
def MonIdleUptoSaid : Prop := monIdleUptoRow.holds Tryz.pinned (OpenSpec.upto monIdleSpec)

/-- 'turnspitlaw26.MonSteps', WHERE WHAT IT READS IS OF BULK AT MOST 1048576: true; the input reads as it did. -/
def monStepsUptoRow : OpenClaim := { program := "ytlhnnggceebpjaagreat", sum := "667b7b9272321babe012758fac6a684cea404ab19b3db5c30b12dffb0a132069", func := "turnspit/turnspitlaw26.MonSteps", spec := "monSteps", unfollowed := true, recurses := true, apart := false, narrowed := true }
def MonStepsUptoSaid : Prop := monStepsUptoRow.holds Tryz.pinned (OpenSpec.upto monStepsSpec)

/-- 'turnspitlaw23.ReadyReadies', WHERE WHAT IT READS IS OF BULK AT MOST 1048576: true; the input reads as it did. -/
def readyReadiesUptoRow : OpenClaim := { program := "ytlhnnggceebpjaagreat", sum := "667b7b9272321babe012758fac6a684cea404ab19b3db5c30b12dffb0a132069", func := "turnspit/turnspitlaw23.ReadyReadies", spec := "readyReadies", unfollowed := true, recurses := true, apart := false, narrowed := true }
def ReadyReadiesUptoSaid : Prop := readyReadiesUptoRow.holds Tryz.pinned (OpenSpec.upto readyReadiesSpec)

/-- 'turnspitlaw23.ReadyGives', WHERE WHAT IT READS IS OF BULK AT MOST 1048576: true; the input reads as it did. -/
def readyGivesUptoRow : OpenClaim := { program := "ytlhnnggceebpjaagreat", sum := "667b7b9272321babe012758fac6a684cea404ab19b3db5c30b12dffb0a132069", func := "turnspit/turnspitlaw23.ReadyGives", spec := "readyGives", unfollowed := true, recurses := true, apart := false, narrowed := true }
def ReadyGivesUptoSaid : Prop := readyGivesUptoRow.holds Tryz.pinned (OpenSpec.upto readyGivesSpec)

/-- 'turnspitlaw22.SpawnEnds', WHERE WHAT IT READS IS OF BULK AT MOST 1048576: true; the input reads as it did. -/
def spawnEndsUptoRow : OpenClaim := { program := "ytlhnnggceebpjaagreat", sum := "667b7b9272321babe012758fac6a684cea404ab19b3db5c30b12dffb0a132069", func := "turnspit/turnspitlaw22.SpawnEnds", spec := "spawnEnds", unfollowed := true, recurses := true, apart := false, narrowed := true }
def SpawnEndsUptoSaid : Prop := spawnEndsUptoRow.holds Tryz.pinned (OpenSpec.upto spawnEndsSpec)

end Rows
end Go.Proofs.YtlhnnggceebpjaaGreat
