/-
  No cell of these rows narrows 'for every input' (looked for: loops, veiled, ifaces, maps, wideKeys, modest, calm, conditions, laid).
  DERIVED. THE GIVEN ROWS OF THIS SEAT. 12 by the template 'for every input the law returns true; each argument reads behind the call as it read before'; 0 by the template 'total and deterministic' (their statements: YtlchnmkmepippaaTotals.lean).
  GIVEN WITH THE SEED: the statements are not yours to turn. If you find one false, say at which input.
  Laid BY PROGRAM, IN A SANDBOX (cutbox-rows.mjs): the forced cells as the released guide's own fill.sh prints them over the translation ea8249d360462fab… (all of the seat's roots in one cut). By AI agents, Wed Nov 11 2026. No macro, syntax, notation, axiom, sorry.
-/
import Derived.Test.YtlchnmkmepippaaChecked
import GoSem.Claim
import GoSem.ClaimJoined
import GoSem.ClaimMapViews
import Derived.JoinedTies
import Derived.KernelRfl
namespace Go.Proofs.Ytlchnmkmepippaa
/- THE CELL 'sum', in the pinned program and in every row, IS THE sha256 OF THE DUMP (.gsa) THAT YtlchnmkmepippaaProg.lean LOADS. Nothing in Lean hashes anything: it is a label: what it is worth is what the hold of that sum in a sandbox is worth. -/
noncomputable def Try.pinned : Pinned := { name := "ytlchnmkmepippaa", sum := "ea8249d360462fab37a828af61a68405040b4f6c6c527258d499a6df3f6958fa", checked := Try.checked }
namespace Rows
def none {H : Type} : Left H := { results := [], args := [] }

/-- 'turnspitlaw38.DiceNumbers': WHATEVER THE INPUT: true; the input reads as it did. -/
def diceNumbersSpec : ChangeSpec := { name := "diceNumbers", fn := fun _ => fun
  | [d1, d2] => { results := [.lit (.bool true)], args := [d1, d2] }
  | _ => none }
def diceNumbersRow : OpenClaim := { program := "ytlchnmkmepippaa", sum := "ea8249d360462fab37a828af61a68405040b4f6c6c527258d499a6df3f6958fa", func := "turnspit/turnspitlaw38.DiceNumbers", spec := "diceNumbers", apart := false }
def DiceNumbersSaid : Prop := diceNumbersRow.holds Try.pinned (OpenSpec.ofChange diceNumbersSpec)

/-- ITS FALSE NEIGHBOUR: 'it returns false'. Refute it at one input. -/
def diceNumbersWrong : ChangeSpec := { name := "diceNumbers", fn := fun _ => fun
  | [d1, d2] => { results := [.lit (.bool false)], args := [d1, d2] }
  | _ => none }
def DiceNumbersWrongFalsely : Prop := diceNumbersRow.holds Try.pinned (OpenSpec.ofChange diceNumbersWrong)

/-- 'turnspitlaw05.LayoutMay': WHATEVER THE INPUT: true; the input reads as it did. -/
def layoutMaySpec : ChangeSpec := { name := "layoutMay", fn := fun _ => fun
  | [d] => { results := [.lit (.bool true)], args := [d] }
  | _ => none }
def layoutMayRow : OpenClaim := { program := "ytlchnmkmepippaa", sum := "ea8249d360462fab37a828af61a68405040b4f6c6c527258d499a6df3f6958fa", func := "turnspit/turnspitlaw05.LayoutMay", spec := "layoutMay", apart := false }
def LayoutMaySaid : Prop := layoutMayRow.holds Try.pinned (OpenSpec.ofChange layoutMaySpec)

/-- ITS FALSE NEIGHBOUR: 'it returns false'. Refute it at one input. -/
def layoutMayWrong : ChangeSpec := { name := "layoutMay", fn := fun _ => fun
  | [d] => { results := [.lit (.bool false)], args := [d] }
  | _ => none }
def LayoutMayWrongFalsely : Prop := layoutMayRow.holds Try.pinned (OpenSpec.ofChange layoutMayWrong)

/-- 'turnspitlaw04.OrderTells': WHATEVER THE INPUT: true; the input reads as it did. -/
def orderTellsSpec : ChangeSpec := { name := "orderTells", fn := fun _ => fun
  | [d1, d2] => { results := [.lit (.bool true)], args := [d1, d2] }
  | _ => none }
def orderTellsRow : OpenClaim := { program := "ytlchnmkmepippaa", sum := "ea8249d360462fab37a828af61a68405040b4f6c6c527258d499a6df3f6958fa", func := "turnspit/turnspitlaw04.OrderTells", spec := "orderTells", unfollowed := true, recurses := true, apart := false }
def OrderTellsSaid : Prop := orderTellsRow.holds Try.pinned (OpenSpec.ofChange orderTellsSpec)

/-- ITS FALSE NEIGHBOUR: 'it returns false'. Refute it at one input. -/
def orderTellsWrong : ChangeSpec := { name := "orderTells", fn := fun _ => fun
  | [d1, d2] => { results := [.lit (.bool false)], args := [d1, d2] }
  | _ => none }
def OrderTellsWrongFalsely : Prop := orderTellsRow.holds Try.pinned (OpenSpec.ofChange orderTellsWrong)

/-- 'turnspitlaw04.OrderOnce': WHATEVER THE INPUT: true; the input reads as it did. -/
def orderOnceSpec : ChangeSpec := { name := "orderOnce", fn := fun _ => fun
  | [d1, d2] => { results := [.lit (.bool true)], args := [d1, d2] }
  | _ => none }
def orderOnceRow : OpenClaim := { program := "ytlchnmkmepippaa", sum := "ea8249d360462fab37a828af61a68405040b4f6c6c527258d499a6df3f6958fa", func := "turnspit/turnspitlaw04.OrderOnce", spec := "orderOnce", unfollowed := true, recurses := true, apart := false }
def OrderOnceSaid : Prop := orderOnceRow.holds Try.pinned (OpenSpec.ofChange orderOnceSpec)

/-- ITS FALSE NEIGHBOUR: 'it returns false'. Refute it at one input. -/
def orderOnceWrong : ChangeSpec := { name := "orderOnce", fn := fun _ => fun
  | [d1, d2] => { results := [.lit (.bool false)], args := [d1, d2] }
  | _ => none }
def OrderOnceWrongFalsely : Prop := orderOnceRow.holds Try.pinned (OpenSpec.ofChange orderOnceWrong)

/-- 'turnspitlaw04.OrderMany': WHATEVER THE INPUT: true; the input reads as it did. -/
def orderManySpec : ChangeSpec := { name := "orderMany", fn := fun _ => fun
  | [d1, d2, d3] => { results := [.lit (.bool true)], args := [d1, d2, d3] }
  | _ => none }
def orderManyRow : OpenClaim := { program := "ytlchnmkmepippaa", sum := "ea8249d360462fab37a828af61a68405040b4f6c6c527258d499a6df3f6958fa", func := "turnspit/turnspitlaw04.OrderMany", spec := "orderMany", unfollowed := true, recurses := true, apart := false }
def OrderManySaid : Prop := orderManyRow.holds Try.pinned (OpenSpec.ofChange orderManySpec)

/-- ITS FALSE NEIGHBOUR: 'it returns false'. Refute it at one input. -/
def orderManyWrong : ChangeSpec := { name := "orderMany", fn := fun _ => fun
  | [d1, d2, d3] => { results := [.lit (.bool false)], args := [d1, d2, d3] }
  | _ => none }
def OrderManyWrongFalsely : Prop := orderManyRow.holds Try.pinned (OpenSpec.ofChange orderManyWrong)

/-- 'turnspitlaw02.DrawSkips': WHATEVER THE INPUT: true; the input reads as it did. -/
def drawSkipsSpec : ChangeSpec := { name := "drawSkips", fn := fun _ => fun
  | [d1, d2] => { results := [.lit (.bool true)], args := [d1, d2] }
  | _ => none }
def drawSkipsRow : OpenClaim := { program := "ytlchnmkmepippaa", sum := "ea8249d360462fab37a828af61a68405040b4f6c6c527258d499a6df3f6958fa", func := "turnspit/turnspitlaw02.DrawSkips", spec := "drawSkips", apart := false }
def DrawSkipsSaid : Prop := drawSkipsRow.holds Try.pinned (OpenSpec.ofChange drawSkipsSpec)

/-- ITS FALSE NEIGHBOUR: 'it returns false'. Refute it at one input. -/
def drawSkipsWrong : ChangeSpec := { name := "drawSkips", fn := fun _ => fun
  | [d1, d2] => { results := [.lit (.bool false)], args := [d1, d2] }
  | _ => none }
def DrawSkipsWrongFalsely : Prop := drawSkipsRow.holds Try.pinned (OpenSpec.ofChange drawSkipsWrong)

/-- 'turnspitlaw02.DrawTells': WHATEVER THE INPUT: true; the input reads as it did. -/
def drawTellsSpec : ChangeSpec := { name := "drawTells", fn := fun _ => fun
  | [d1, d2] => { results := [.lit (.bool true)], args := [d1, d2] }
  | _ => none }
def drawTellsRow : OpenClaim := { program := "ytlchnmkmepippaa", sum := "ea8249d360462fab37a828af61a68405040b4f6c6c527258d499a6df3f6958fa", func := "turnspit/turnspitlaw02.DrawTells", spec := "drawTells", apart := false }
def DrawTellsSaid : Prop := drawTellsRow.holds Try.pinned (OpenSpec.ofChange drawTellsSpec)

/-- ITS FALSE NEIGHBOUR: 'it returns false'. Refute it at one input. -/
def drawTellsWrong : ChangeSpec := { name := "drawTells", fn := fun _ => fun
  | [d1, d2] => { results := [.lit (.bool false)], args := [d1, d2] }
  | _ => none }
def DrawTellsWrongFalsely : Prop := drawTellsRow.holds Try.pinned (OpenSpec.ofChange drawTellsWrong)

/-- 'turnspitlaw02.DrawKeeps': WHATEVER THE INPUT: true; the input reads as it did. -/
def drawKeepsSpec : ChangeSpec := { name := "drawKeeps", fn := fun _ => fun
  | [d1, d2] => { results := [.lit (.bool true)], args := [d1, d2] }
  | _ => none }
def drawKeepsRow : OpenClaim := { program := "ytlchnmkmepippaa", sum := "ea8249d360462fab37a828af61a68405040b4f6c6c527258d499a6df3f6958fa", func := "turnspit/turnspitlaw02.DrawKeeps", spec := "drawKeeps", apart := false }
def DrawKeepsSaid : Prop := drawKeepsRow.holds Try.pinned (OpenSpec.ofChange drawKeepsSpec)

/-- ITS FALSE NEIGHBOUR: 'it returns false'. Refute it at one input. -/
def drawKeepsWrong : ChangeSpec := { name := "drawKeeps", fn := fun _ => fun
  | [d1, d2] => { results := [.lit (.bool false)], args := [d1, d2] }
  | _ => none }
def DrawKeepsWrongFalsely : Prop := drawKeepsRow.holds Try.pinned (OpenSpec.ofChange drawKeepsWrong)

/-- 'turnspitlaw05.LayoutOne': WHATEVER THE INPUT: true; the input reads as it did. -/
def layoutOneSpec : ChangeSpec := { name := "layoutOne", fn := fun _ => fun
  | [d1, d2, d3] => { results := [.lit (.bool true)], args := [d1, d2, d3] }
  | _ => none }
def layoutOneRow : OpenClaim := { program := "ytlchnmkmepippaa", sum := "ea8249d360462fab37a828af61a68405040b4f6c6c527258d499a6df3f6958fa", func := "turnspit/turnspitlaw05.LayoutOne", spec := "layoutOne", apart := false }
def LayoutOneSaid : Prop := layoutOneRow.holds Try.pinned (OpenSpec.ofChange layoutOneSpec)

/-- ITS FALSE NEIGHBOUR: 'it returns false'. Refute it at one input. -/
def layoutOneWrong : ChangeSpec := { name := "layoutOne", fn := fun _ => fun
  | [d1, d2, d3] => { results := [.lit (.bool false)], args := [d1, d2, d3] }
  | _ => none }
def LayoutOneWrongFalsely : Prop := layoutOneRow.holds Try.pinned (OpenSpec.ofChange layoutOneWrong)

/-- 'turnspitlaw05.LayoutAll': WHATEVER THE INPUT: true; the input reads as it did. -/
def layoutAllSpec : ChangeSpec := { name := "layoutAll", fn := fun _ => fun
  | [d] => { results := [.lit (.bool true)], args := [d] }
  | _ => none }
def layoutAllRow : OpenClaim := { program := "ytlchnmkmepippaa", sum := "ea8249d360462fab37a828af61a68405040b4f6c6c527258d499a6df3f6958fa", func := "turnspit/turnspitlaw05.LayoutAll", spec := "layoutAll", apart := false }
def LayoutAllSaid : Prop := layoutAllRow.holds Try.pinned (OpenSpec.ofChange layoutAllSpec)

/-- ITS FALSE NEIGHBOUR: 'it returns false'. Refute it at one input. -/
def layoutAllWrong : ChangeSpec := { name := "layoutAll", fn := fun _ => fun
  | [d] => { results := [.lit (.bool false)], args := [d] }
  | _ => none }
def LayoutAllWrongFalsely : Prop := layoutAllRow.holds Try.pinned (OpenSpec.ofChange layoutAllWrong)

/-- 'turnspitlaw38.DiceMakes': WHATEVER THE INPUT: true; the input reads as it did. -/
def diceMakesSpec : ChangeSpec := { name := "diceMakes", fn := fun _ => fun
  | [d1, d2, d3] => { results := [.lit (.bool true)], args := [d1, d2, d3] }
  | _ => none }
def diceMakesRow : OpenClaim := { program := "ytlchnmkmepippaa", sum := "ea8249d360462fab37a828af61a68405040b4f6c6c527258d499a6df3f6958fa", func := "turnspit/turnspitlaw38.DiceMakes", spec := "diceMakes", apart := false }
def DiceMakesSaid : Prop := diceMakesRow.holds Try.pinned (OpenSpec.ofChange diceMakesSpec)

/-- ITS FALSE NEIGHBOUR: 'it returns false'. Refute it at one input. -/
def diceMakesWrong : ChangeSpec := { name := "diceMakes", fn := fun _ => fun
  | [d1, d2, d3] => { results := [.lit (.bool false)], args := [d1, d2, d3] }
  | _ => none }
def DiceMakesWrongFalsely : Prop := diceMakesRow.holds Try.pinned (OpenSpec.ofChange diceMakesWrong)

/-- 'turnspitlaw38.DiceSame': WHATEVER THE INPUT: true; the input reads as it did. -/
def diceSameSpec : ChangeSpec := { name := "diceSame", fn := fun _ => fun
  | [d1, d2, d3] => { results := [.lit (.bool true)], args := [d1, d2, d3] }
  | _ => none }
def diceSameRow : OpenClaim := { program := "ytlchnmkmepippaa", sum := "ea8249d360462fab37a828af61a68405040b4f6c6c527258d499a6df3f6958fa", func := "turnspit/turnspitlaw38.DiceSame", spec := "diceSame", apart := false }
def DiceSameSaid : Prop := diceSameRow.holds Try.pinned (OpenSpec.ofChange diceSameSpec)

/-- ITS FALSE NEIGHBOUR: 'it returns false'. Refute it at one input. -/
def diceSameWrong : ChangeSpec := { name := "diceSame", fn := fun _ => fun
  | [d1, d2, d3] => { results := [.lit (.bool false)], args := [d1, d2, d3] }
  | _ => none }
def DiceSameWrongFalsely : Prop := diceSameRow.holds Try.pinned (OpenSpec.ofChange diceSameWrong)

/- THE SECOND FORM. 'bulk': how many values and letters a reading holds, each counted each time it is reached (what is shared counts as often as it is met; a slice's spare places count too). A statement '..UptoSaid' is the law's where the arguments, and the package variables that the reading takes, are together of bulk at most 1048576: NARROWER than '..Said'. Prove '..Said' where nothing that the law and all that it calls make is longer than what came in: it says more and counts as full. Else prove '..UptoSaid'. A law counts once. -/
mutual
def uptoBulk {H : Type} : DataW H → Nat
  | .lit (.string bytes) => bytes.length + 1
  | .lit _ => 1
  | .nil => 1
  | .ptr d => uptoBulk d + 1
  | .slice elems spare => uptoBulkAll elems + uptoBulkAll spare + 1
  | .agg parts => uptoBulkAll parts + 1
  | .iface _ d => uptoBulk d + 1
  | .map entries => uptoBulkEntries entries + 1
  | .held _ => 1
def uptoBulkAll {H : Type} : List (DataW H) → Nat
  | [] => 0
  | d :: r => uptoBulk d + uptoBulkAll r
def uptoBulkEntries {H : Type} : List (Lit × DataW H) → Nat
  | [] => 0
  | x :: r => uptoBulkEntry x + uptoBulkEntries r
def uptoBulkEntry {H : Type} : Lit × DataW H → Nat
  | (.string bytes, d) => bytes.length + uptoBulk d + 1
  | (_, d) => uptoBulk d + 1
 end
def uptoSmall : (H : Type) → List (DataW H) → Bool := fun _ ds => decide (uptoBulkAll ds ≤ 1048576)
def OpenSpec.upto (s : _root_.Go.ChangeSpec) : _root_.Go.OpenSpec := { _root_.Go.OpenSpec.ofChange s with cond := some uptoSmall }

/-- 'turnspitlaw38.DiceNumbers', WHERE WHAT IT READS IS OF BULK AT MOST 1048576: true; the input reads as it did. -/
def diceNumbersUptoRow : OpenClaim := { program := "ytlchnmkmepippaa", sum := "ea8249d360462fab37a828af61a68405040b4f6c6c527258d499a6df3f6958fa", func := "turnspit/turnspitlaw38.DiceNumbers", spec := "diceNumbers", apart := false, narrowed := true }
def DiceNumbersUptoSaid : Prop := diceNumbersUptoRow.holds Try.pinned (OpenSpec.upto diceNumbersSpec)

/-- 'turnspitlaw05.LayoutMay', WHERE WHAT IT READS IS OF BULK AT MOST 1048576: true; the input reads as it did. -/
def layoutMayUptoRow : OpenClaim := { program := "ytlchnmkmepippaa", sum := "ea8249d360462fab37a828af61a68405040b4f6c6c527258d499a6df3f6958fa", func := "turnspit/turnspitlaw05.LayoutMay", spec := "layoutMay", apart := false, narrowed := true }
def LayoutMayUptoSaid : Prop := layoutMayUptoRow.holds Try.pinned (OpenSpec.upto layoutMaySpec)

/-- 'turnspitlaw04.OrderTells', WHERE WHAT IT READS IS OF BULK AT MOST 1048576: true; the input reads as it did. -/
def orderTellsUptoRow : OpenClaim := { program := "ytlchnmkmepippaa", sum := "ea8249d360462fab37a828af61a68405040b4f6c6c527258d499a6df3f6958fa", func := "turnspit/turnspitlaw04.OrderTells", spec := "orderTells", unfollowed := true, recurses := true, apart := false, narrowed := true }
def OrderTellsUptoSaid : Prop := orderTellsUptoRow.holds Try.pinned (OpenSpec.upto orderTellsSpec)

/-- 'turnspitlaw04.OrderOnce', WHERE WHAT IT READS IS OF BULK AT MOST 1048576: true; the input reads as it did. -/
def orderOnceUptoRow : OpenClaim := { program := "ytlchnmkmepippaa", sum := "ea8249d360462fab37a828af61a68405040b4f6c6c527258d499a6df3f6958fa", func := "turnspit/turnspitlaw04.OrderOnce", spec := "orderOnce", unfollowed := true, recurses := true, apart := false, narrowed := true }
def OrderOnceUptoSaid : Prop := orderOnceUptoRow.holds Try.pinned (OpenSpec.upto orderOnceSpec)

/-- 'turnspitlaw04.OrderMany', WHERE WHAT IT READS IS OF BULK AT MOST 1048576: true; the input reads as it did. -/
def orderManyUptoRow : OpenClaim := { program := "ytlchnmkmepippaa", sum := "ea8249d360462fab37a828af61a68405040b4f6c6c527258d499a6df3f6958fa", func := "turnspit/turnspitlaw04.OrderMany", spec := "orderMany", unfollowed := true, recurses := true, apart := false, narrowed := true }
def OrderManyUptoSaid : Prop := orderManyUptoRow.holds Try.pinned (OpenSpec.upto orderManySpec)

/-- 'turnspitlaw02.DrawSkips', WHERE WHAT IT READS IS OF BULK AT MOST 1048576: true; the input reads as it did. -/
def drawSkipsUptoRow : OpenClaim := { program := "ytlchnmkmepippaa", sum := "ea8249d360462fab37a828af61a68405040b4f6c6c527258d499a6df3f6958fa", func := "turnspit/turnspitlaw02.DrawSkips", spec := "drawSkips", apart := false, narrowed := true }
def DrawSkipsUptoSaid : Prop := drawSkipsUptoRow.holds Try.pinned (OpenSpec.upto drawSkipsSpec)

/-- 'turnspitlaw02.DrawTells', WHERE WHAT IT READS IS OF BULK AT MOST 1048576: true; the input reads as it did. -/
def drawTellsUptoRow : OpenClaim := { program := "ytlchnmkmepippaa", sum := "ea8249d360462fab37a828af61a68405040b4f6c6c527258d499a6df3f6958fa", func := "turnspit/turnspitlaw02.DrawTells", spec := "drawTells", apart := false, narrowed := true }
def DrawTellsUptoSaid : Prop := drawTellsUptoRow.holds Try.pinned (OpenSpec.upto drawTellsSpec)

/-- 'turnspitlaw02.DrawKeeps', WHERE WHAT IT READS IS OF BULK AT MOST 1048576: true; the input reads as it did. -/
def drawKeepsUptoRow : OpenClaim := { program := "ytlchnmkmepippaa", sum := "ea8249d360462fab37a828af61a68405040b4f6c6c527258d499a6df3f6958fa", func := "turnspit/turnspitlaw02.DrawKeeps", spec := "drawKeeps", apart := false, narrowed := true }
def DrawKeepsUptoSaid : Prop := drawKeepsUptoRow.holds Try.pinned (OpenSpec.upto drawKeepsSpec)

/-- 'turnspitlaw05.LayoutOne', WHERE WHAT IT READS IS OF BULK AT MOST 1048576: true; the input reads as it did. -/
def layoutOneUptoRow : OpenClaim := { program := "ytlchnmkmepippaa", sum := "ea8249d360462fab37a828af61a68405040b4f6c6c527258d499a6df3f6958fa", func := "turnspit/turnspitlaw05.LayoutOne", spec := "layoutOne", apart := false, narrowed := true }
def LayoutOneUptoSaid : Prop := layoutOneUptoRow.holds Try.pinned (OpenSpec.upto layoutOneSpec)

/-- 'turnspitlaw05.LayoutAll', WHERE WHAT IT READS IS OF BULK AT MOST 1048576: true; the input reads as it did. -/
def layoutAllUptoRow : OpenClaim := { program := "ytlchnmkmepippaa", sum := "ea8249d360462fab37a828af61a68405040b4f6c6c527258d499a6df3f6958fa", func := "turnspit/turnspitlaw05.LayoutAll", spec := "layoutAll", apart := false, narrowed := true }
def LayoutAllUptoSaid : Prop := layoutAllUptoRow.holds Try.pinned (OpenSpec.upto layoutAllSpec)

/-- 'turnspitlaw38.DiceMakes', WHERE WHAT IT READS IS OF BULK AT MOST 1048576: true; the input reads as it did. -/
def diceMakesUptoRow : OpenClaim := { program := "ytlchnmkmepippaa", sum := "ea8249d360462fab37a828af61a68405040b4f6c6c527258d499a6df3f6958fa", func := "turnspit/turnspitlaw38.DiceMakes", spec := "diceMakes", apart := false, narrowed := true }
def DiceMakesUptoSaid : Prop := diceMakesUptoRow.holds Try.pinned (OpenSpec.upto diceMakesSpec)

/-- 'turnspitlaw38.DiceSame', WHERE WHAT IT READS IS OF BULK AT MOST 1048576: true; the input reads as it did. -/
def diceSameUptoRow : OpenClaim := { program := "ytlchnmkmepippaa", sum := "ea8249d360462fab37a828af61a68405040b4f6c6c527258d499a6df3f6958fa", func := "turnspit/turnspitlaw38.DiceSame", spec := "diceSame", apart := false, narrowed := true }
def DiceSameUptoSaid : Prop := diceSameUptoRow.holds Try.pinned (OpenSpec.upto diceSameSpec)

end Rows
end Go.Proofs.Ytlchnmkmepippaa
