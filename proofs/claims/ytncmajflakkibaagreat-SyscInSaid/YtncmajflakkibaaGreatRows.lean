/-
  No cell of these rows narrows 'for every input' (looked for: loops, veiled, ifaces, maps, wideKeys, modest, calm, conditions, laid).
  DERIVED. THE GIVEN ROWS OF THIS SEAT. 8 by the template 'for every input the law returns true; each argument reads behind the call as it read before'; 0 by the template 'total and deterministic' (their statements: YtncmajflakkibaaGreatTotals.lean).
  GIVEN WITH THE SEED: the statements are not yours to turn. If you find one false, say at which input.
  Laid BY PROGRAM, IN A SANDBOX (cutbox-rows.mjs): the forced cells as the released guide's own fill.sh prints them over the translation 3fd9ff59a61d0c7b… (all of the seat's roots in one cut). By AI agents, Wed Nov 11 2026. No macro, syntax, notation, axiom, sorry.
-/
import Derived.Test.YtncmajflakkibaaGreatChecked
import GoSem.Claim
import GoSem.ClaimJoined
import GoSem.ClaimMapViews
import Derived.JoinedTies
import Derived.KernelRfl
namespace Go.Proofs.YtncmajflakkibaaGreat
/- THE CELL 'sum', in the pinned program and in every row, IS THE sha256 OF THE DUMP (.gsa) THAT YtncmajflakkibaaGreatProg.lean LOADS. Nothing in Lean hashes anything: it is a label: what it is worth is what the hold of that sum in a sandbox is worth. -/
noncomputable def Tryz.pinned : Pinned := { name := "ytncmajflakkibaagreat", sum := "3fd9ff59a61d0c7b5908eae4cc462233d5a4374a7b0500ff48fa82aab70c9f34", checked := Tryz.checked }
namespace Rows
def none {H : Type} : Left H := { results := [], args := [] }

/-- 'turnspitlaw20.RestSpins': WHATEVER THE INPUT: true; the input reads as it did. -/
def restSpinsSpec : ChangeSpec := { name := "restSpins", fn := fun _ => fun
  | [d1, d2, d3] => { results := [.lit (.bool true)], args := [d1, d2, d3] }
  | _ => none }
def restSpinsRow : OpenClaim := { program := "ytncmajflakkibaagreat", sum := "3fd9ff59a61d0c7b5908eae4cc462233d5a4374a7b0500ff48fa82aab70c9f34", func := "turnspit/turnspitlaw20.RestSpins", spec := "restSpins", unfollowed := true, recurses := true, apart := false }
def RestSpinsSaid : Prop := restSpinsRow.holds Tryz.pinned (OpenSpec.ofChange restSpinsSpec)

/-- ITS FALSE NEIGHBOUR: 'it returns false'. Refute it at one input. -/
def restSpinsWrong : ChangeSpec := { name := "restSpins", fn := fun _ => fun
  | [d1, d2, d3] => { results := [.lit (.bool false)], args := [d1, d2, d3] }
  | _ => none }
def RestSpinsWrongFalsely : Prop := restSpinsRow.holds Tryz.pinned (OpenSpec.ofChange restSpinsWrong)

/-- 'turnspitlaw19.WakeWords': WHATEVER THE INPUT: true; the input reads as it did. -/
def wakeWordsSpec : ChangeSpec := { name := "wakeWords", fn := fun _ => fun
  | [d1, d2, d3] => { results := [.lit (.bool true)], args := [d1, d2, d3] }
  | _ => none }
def wakeWordsRow : OpenClaim := { program := "ytncmajflakkibaagreat", sum := "3fd9ff59a61d0c7b5908eae4cc462233d5a4374a7b0500ff48fa82aab70c9f34", func := "turnspit/turnspitlaw19.WakeWords", spec := "wakeWords", unfollowed := true, recurses := true, apart := false }
def WakeWordsSaid : Prop := wakeWordsRow.holds Tryz.pinned (OpenSpec.ofChange wakeWordsSpec)

/-- ITS FALSE NEIGHBOUR: 'it returns false'. Refute it at one input. -/
def wakeWordsWrong : ChangeSpec := { name := "wakeWords", fn := fun _ => fun
  | [d1, d2, d3] => { results := [.lit (.bool false)], args := [d1, d2, d3] }
  | _ => none }
def WakeWordsWrongFalsely : Prop := wakeWordsRow.holds Tryz.pinned (OpenSpec.ofChange wakeWordsWrong)

/-- 'turnspitlaw14.RputSteps': WHATEVER THE INPUT: true; the input reads as it did. -/
def rputStepsSpec : ChangeSpec := { name := "rputSteps", fn := fun _ => fun
  | [d1, d2, d3] => { results := [.lit (.bool true)], args := [d1, d2, d3] }
  | _ => none }
def rputStepsRow : OpenClaim := { program := "ytncmajflakkibaagreat", sum := "3fd9ff59a61d0c7b5908eae4cc462233d5a4374a7b0500ff48fa82aab70c9f34", func := "turnspit/turnspitlaw14.RputSteps", spec := "rputSteps", unfollowed := true, recurses := true, apart := false }
def RputStepsSaid : Prop := rputStepsRow.holds Tryz.pinned (OpenSpec.ofChange rputStepsSpec)

/-- ITS FALSE NEIGHBOUR: 'it returns false'. Refute it at one input. -/
def rputStepsWrong : ChangeSpec := { name := "rputSteps", fn := fun _ => fun
  | [d1, d2, d3] => { results := [.lit (.bool false)], args := [d1, d2, d3] }
  | _ => none }
def RputStepsWrongFalsely : Prop := rputStepsRow.holds Tryz.pinned (OpenSpec.ofChange rputStepsWrong)

/-- 'turnspitlaw24.SyscOut': WHATEVER THE INPUT: true; the input reads as it did. -/
def syscOutSpec : ChangeSpec := { name := "syscOut", fn := fun _ => fun
  | [d1, d2, d3] => { results := [.lit (.bool true)], args := [d1, d2, d3] }
  | _ => none }
def syscOutRow : OpenClaim := { program := "ytncmajflakkibaagreat", sum := "3fd9ff59a61d0c7b5908eae4cc462233d5a4374a7b0500ff48fa82aab70c9f34", func := "turnspit/turnspitlaw24.SyscOut", spec := "syscOut", unfollowed := true, recurses := true, apart := false }
def SyscOutSaid : Prop := syscOutRow.holds Tryz.pinned (OpenSpec.ofChange syscOutSpec)

/-- ITS FALSE NEIGHBOUR: 'it returns false'. Refute it at one input. -/
def syscOutWrong : ChangeSpec := { name := "syscOut", fn := fun _ => fun
  | [d1, d2, d3] => { results := [.lit (.bool false)], args := [d1, d2, d3] }
  | _ => none }
def SyscOutWrongFalsely : Prop := syscOutRow.holds Tryz.pinned (OpenSpec.ofChange syscOutWrong)

/-- 'turnspitlaw24.SyscIn': WHATEVER THE INPUT: true; the input reads as it did. -/
def syscInSpec : ChangeSpec := { name := "syscIn", fn := fun _ => fun
  | [d1, d2, d3] => { results := [.lit (.bool true)], args := [d1, d2, d3] }
  | _ => none }
def syscInRow : OpenClaim := { program := "ytncmajflakkibaagreat", sum := "3fd9ff59a61d0c7b5908eae4cc462233d5a4374a7b0500ff48fa82aab70c9f34", func := "turnspit/turnspitlaw24.SyscIn", spec := "syscIn", unfollowed := true, recurses := true, apart := false }
def SyscInSaid : Prop := syscInRow.holds Tryz.pinned (OpenSpec.ofChange syscInSpec)

/-- ITS FALSE NEIGHBOUR: 'it returns false'. Refute it at one input. -/
def syscInWrong : ChangeSpec := { name := "syscIn", fn := fun _ => fun
  | [d1, d2, d3] => { results := [.lit (.bool false)], args := [d1, d2, d3] }
  | _ => none }
def SyscInWrongFalsely : Prop := syscInRow.holds Tryz.pinned (OpenSpec.ofChange syscInWrong)

/-- 'turnspitlaw19.WakeStarts': WHATEVER THE INPUT: true; the input reads as it did. -/
def wakeStartsSpec : ChangeSpec := { name := "wakeStarts", fn := fun _ => fun
  | [d1, d2, d3] => { results := [.lit (.bool true)], args := [d1, d2, d3] }
  | _ => none }
def wakeStartsRow : OpenClaim := { program := "ytncmajflakkibaagreat", sum := "3fd9ff59a61d0c7b5908eae4cc462233d5a4374a7b0500ff48fa82aab70c9f34", func := "turnspit/turnspitlaw19.WakeStarts", spec := "wakeStarts", unfollowed := true, recurses := true, apart := false }
def WakeStartsSaid : Prop := wakeStartsRow.holds Tryz.pinned (OpenSpec.ofChange wakeStartsSpec)

/-- ITS FALSE NEIGHBOUR: 'it returns false'. Refute it at one input. -/
def wakeStartsWrong : ChangeSpec := { name := "wakeStarts", fn := fun _ => fun
  | [d1, d2, d3] => { results := [.lit (.bool false)], args := [d1, d2, d3] }
  | _ => none }
def WakeStartsWrongFalsely : Prop := wakeStartsRow.holds Tryz.pinned (OpenSpec.ofChange wakeStartsWrong)

/-- 'turnspitlaw19.WakeWakes': WHATEVER THE INPUT: true; the input reads as it did. -/
def wakeWakesSpec : ChangeSpec := { name := "wakeWakes", fn := fun _ => fun
  | [d1, d2, d3] => { results := [.lit (.bool true)], args := [d1, d2, d3] }
  | _ => none }
def wakeWakesRow : OpenClaim := { program := "ytncmajflakkibaagreat", sum := "3fd9ff59a61d0c7b5908eae4cc462233d5a4374a7b0500ff48fa82aab70c9f34", func := "turnspit/turnspitlaw19.WakeWakes", spec := "wakeWakes", unfollowed := true, recurses := true, apart := false }
def WakeWakesSaid : Prop := wakeWakesRow.holds Tryz.pinned (OpenSpec.ofChange wakeWakesSpec)

/-- ITS FALSE NEIGHBOUR: 'it returns false'. Refute it at one input. -/
def wakeWakesWrong : ChangeSpec := { name := "wakeWakes", fn := fun _ => fun
  | [d1, d2, d3] => { results := [.lit (.bool false)], args := [d1, d2, d3] }
  | _ => none }
def WakeWakesWrongFalsely : Prop := wakeWakesRow.holds Tryz.pinned (OpenSpec.ofChange wakeWakesWrong)

/-- 'turnspitlaw25.HandSteps': WHATEVER THE INPUT: true; the input reads as it did. -/
def handStepsSpec : ChangeSpec := { name := "handSteps", fn := fun _ => fun
  | [d1, d2, d3] => { results := [.lit (.bool true)], args := [d1, d2, d3] }
  | _ => none }
def handStepsRow : OpenClaim := { program := "ytncmajflakkibaagreat", sum := "3fd9ff59a61d0c7b5908eae4cc462233d5a4374a7b0500ff48fa82aab70c9f34", func := "turnspit/turnspitlaw25.HandSteps", spec := "handSteps", unfollowed := true, recurses := true, apart := false }
def HandStepsSaid : Prop := handStepsRow.holds Tryz.pinned (OpenSpec.ofChange handStepsSpec)

/-- ITS FALSE NEIGHBOUR: 'it returns false'. Refute it at one input. -/
def handStepsWrong : ChangeSpec := { name := "handSteps", fn := fun _ => fun
  | [d1, d2, d3] => { results := [.lit (.bool false)], args := [d1, d2, d3] }
  | _ => none }
def HandStepsWrongFalsely : Prop := handStepsRow.holds Tryz.pinned (OpenSpec.ofChange handStepsWrong)

/- THE SECOND FORM. 'bulk': how many values and letters a reading holds, each counted each time it is reached (what is shared counts as often as it is met; a slice's spare places count too). A statement '..UptoSaid' is the law's where the arguments, and the package variables that the reading takes, are together of bulk at most 1048576: NARROWER than '..Said'. Prove '..Said' where nothing that the law and all that it calls make is longer than what came in: it says more and counts as full. Else prove '..UptoSaid'. A law counts once. -/
mutual
def uptoBulk {H : Type} : DataW H → Nat
  | .lit (.string bytes) => bytes.length + 1
  | .lit _ => 1
  | .nil => 1
  | .ptr d => uptoBulk d + 1
  | .slice elems spare => uptoBulkAll elems + uptoBulkAll spare + 1
  | .agg parts => uptoBulkAll parts + 1
  | .iface _ d => uptoBulk d + 1
  | .map entries => uptoBulkEntries entries + 1
  | .held _ => 1
def uptoBulkAll {H : Type} : List (DataW H) → Nat
  | [] => 0
  | d :: r => uptoBulk d + uptoBulkAll r
def uptoBulkEntries {H : Type} : List (Lit × DataW H) → Nat
  | [] => 0
  | x :: r => uptoBulkEntry x + uptoBulkEntries r
def uptoBulkEntry {H : Type} : Lit × DataW H → Nat
  | (.string bytes, d) => bytes.length + uptoBulk d + 1
  | (_, d) => uptoBulk d + 1
 end
def uptoSmall : (H : Type) → List (DataW H) → Bool := fun _ ds => decide (uptoBulkAll ds ≤ 1048576)
def OpenSpec.upto (s : _root_.Go.ChangeSpec) : _root_.Go.OpenSpec := { _root_.Go.OpenSpec.ofChange s with cond := some uptoSmall }

/-- 'turnspitlaw20.RestSpins', WHERE WHAT IT READS IS OF BULK AT MOST 1048576: true; the input reads as it did. -/
def restSpinsUptoRow : OpenClaim := { program := "ytncmajflakkibaagreat", sum := "3fd9ff59a61d0c7b5908eae4cc462233d5a4374a7b0500ff48fa82aab70c9f34", func := "turnspit/turnspitlaw20.RestSpins", spec := "restSpins", unfollowed := true, recurses := true, apart := false, narrowed := true }
def RestSpinsUptoSaid : Prop := restSpinsUptoRow.holds Tryz.pinned (OpenSpec.upto restSpinsSpec)

/-- 'turnspitlaw19.WakeWords', WHERE WHAT IT READS IS OF BULK AT MOST 1048576: true; the input reads as it did. -/
def wakeWordsUptoRow : OpenClaim := { program := "ytncmajflakkibaagreat", sum := "3fd9ff59a61d0c7b5908eae4cc462233d5a4374a7b0500ff48fa82aab70c9f34", func := "turnspit/turnspitlaw19.WakeWords", spec := "wakeWords", unfollowed := true, recurses := true, apart := false, narrowed := true }
def WakeWordsUptoSaid : Prop := wakeWordsUptoRow.holds Tryz.pinned (OpenSpec.upto wakeWordsSpec)

/-- 'turnspitlaw14.RputSteps', WHERE WHAT IT READS IS OF BULK AT MOST 1048576: true; the input reads as it did. -/
def rputStepsUptoRow : OpenClaim := { program := "ytncmajflakkibaagreat", sum := "3fd9ff59a61d0c7b5908eae4cc462233d5a4374a7b0500ff48fa82aab70c9f34", func := "turnspit/turnspitlaw14.RputSteps", spec := "rputSteps", unfollowed := true, recurses := true, apart := false, narrowed := true }
def RputStepsUptoSaid : Prop := rputStepsUptoRow.holds Tryz.pinned (OpenSpec.upto rputStepsSpec)

/-- 'turnspitlaw24.SyscOut', WHERE WHAT IT READS IS OF BULK AT MOST 1048576: true; the input reads as it did. -/
def syscOutUptoRow : OpenClaim := { program := "ytncmajflakkibaagreat", sum := "3fd9ff59a61d0c7b5908eae4cc462233d5a4374a7b0500ff48fa82aab70c9f34", func := "turnspit/turnspitlaw24.SyscOut", spec := "syscOut", unfollowed := true, recurses := true, apart := false, narrowed := true }
def SyscOutUptoSaid : Prop := syscOutUptoRow.holds Tryz.pinned (OpenSpec.upto syscOutSpec)

/-- 'turnspitlaw24.SyscIn', WHERE WHAT IT READS IS OF BULK AT MOST 1048576: true; the input reads as it did. -/
def syscInUptoRow : OpenClaim := { program := "ytncmajflakkibaagreat", sum := "3fd9ff59a61d0c7b5908eae4cc462233d5a4374a7b0500ff48fa82aab70c9f34", func := "turnspit/turnspitlaw24.SyscIn", spec := "syscIn", unfollowed := true, recurses := true, apart := false, narrowed := true }
def SyscInUptoSaid : Prop := syscInUptoRow.holds Tryz.pinned (OpenSpec.upto syscInSpec)

/-- 'turnspitlaw19.WakeStarts', WHERE WHAT IT READS IS OF BULK AT MOST 1048576: true; the input reads as it did. -/
def wakeStartsUptoRow : OpenClaim := { program := "ytncmajflakkibaagreat", sum := "3fd9ff59a61d0c7b5908eae4cc462233d5a4374a7b0500ff48fa82aab70c9f34", func := "turnspit/turnspitlaw19.WakeStarts", spec := "wakeStarts", unfollowed := true, recurses := true, apart := false, narrowed := true }
def WakeStartsUptoSaid : Prop := wakeStartsUptoRow.holds Tryz.pinned (OpenSpec.upto wakeStartsSpec)

/-- 'turnspitlaw19.WakeWakes', WHERE WHAT IT READS IS OF BULK AT MOST 1048576: true; the input reads as it did. -/
def wakeWakesUptoRow : OpenClaim := { program := "ytncmajflakkibaagreat", sum := "3fd9ff59a61d0c7b5908eae4cc462233d5a4374a7b0500ff48fa82aab70c9f34", func := "turnspit/turnspitlaw19.WakeWakes", spec := "wakeWakes", unfollowed := true, recurses := true, apart := false, narrowed := true }
def WakeWakesUptoSaid : Prop := wakeWakesUptoRow.holds Tryz.pinned (OpenSpec.upto wakeWakesSpec)

/-- 'turnspitlaw25.HandSteps', WHERE WHAT IT READS IS OF BULK AT MOST 1048576: true; the input reads as it did. -/
def handStepsUptoRow : OpenClaim := { program := "ytncmajflakkibaagreat", sum := "3fd9ff59a61d0c7b5908eae4cc462233d5a4374a7b0500ff48fa82aab70c9f34", func := "turnspit/turnspitlaw25.HandSteps", spec := "handSteps", unfollowed := true, recurses := true, apart := false, narrowed := true }
def HandStepsUptoSaid : Prop := handStepsUptoRow.holds Tryz.pinned (OpenSpec.upto handStepsSpec)

end Rows
end Go.Proofs.YtncmajflakkibaaGreat
