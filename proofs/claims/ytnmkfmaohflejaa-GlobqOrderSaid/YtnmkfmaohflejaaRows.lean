/-
  No cell of these rows narrows 'for every input' (looked for: loops, veiled, ifaces, maps, wideKeys, modest, calm, conditions, laid).
  DERIVED. THE GIVEN ROWS OF THIS SEAT. 6 by the template 'for every input the law returns true; each argument reads behind the call as it read before'; 0 by the template 'total and deterministic' (their statements: YtnmkfmaohflejaaTotals.lean).
  GIVEN WITH THE SEED: the statements are not yours to turn. If you find one false, say at which input.
  Laid BY PROGRAM, IN A SANDBOX (cutbox-rows.mjs): the forced cells as the released guide's own fill.sh prints them over the translation 759a3c1a38f924bf… (all of the seat's roots in one cut). By AI agents, Wed Nov 11 2026. No macro, syntax, notation, axiom, sorry.
-/
import Derived.Test.YtnmkfmaohflejaaChecked
import GoSem.Claim
import GoSem.ClaimJoined
import GoSem.ClaimMapViews
import Derived.JoinedTies
import Derived.KernelRfl
namespace Go.Proofs.Ytnmkfmaohflejaa
/- THE CELL 'sum', in the pinned program and in every row, IS THE sha256 OF THE DUMP (.gsa) THAT YtnmkfmaohflejaaProg.lean LOADS. Nothing in Lean hashes anything: it is a label: what it is worth is what the hold of that sum in a sandbox is worth. -/
noncomputable def Try.pinned : Pinned := { name := "ytnmkfmaohflejaa", sum := "759a3c1a38f924bf1be8f3c2c2ce1a551bebaa788c97c9f248d3fd235ed8e498", checked := Try.checked }
namespace Rows
def none {H : Type} : Left H := { results := [], args := [] }

/-- 'turnspitlaw08.LockAlone': WHATEVER THE INPUT: true; the input reads as it did. -/
def lockAloneSpec : ChangeSpec := { name := "lockAlone", fn := fun _ => fun
  | [d1, d2, d3] => { results := [.lit (.bool true)], args := [d1, d2, d3] }
  | _ => none }
def lockAloneRow : OpenClaim := { program := "ytnmkfmaohflejaa", sum := "759a3c1a38f924bf1be8f3c2c2ce1a551bebaa788c97c9f248d3fd235ed8e498", func := "turnspit/turnspitlaw08.LockAlone", spec := "lockAlone", unfollowed := true, recurses := true, apart := false }
def LockAloneSaid : Prop := lockAloneRow.holds Try.pinned (OpenSpec.ofChange lockAloneSpec)

/-- ITS FALSE NEIGHBOUR: 'it returns false'. Refute it at one input. -/
def lockAloneWrong : ChangeSpec := { name := "lockAlone", fn := fun _ => fun
  | [d1, d2, d3] => { results := [.lit (.bool false)], args := [d1, d2, d3] }
  | _ => none }
def LockAloneWrongFalsely : Prop := lockAloneRow.holds Try.pinned (OpenSpec.ofChange lockAloneWrong)

/-- 'turnspitlaw18.IdlemMany': WHATEVER THE INPUT: true; the input reads as it did. -/
def idlemManySpec : ChangeSpec := { name := "idlemMany", fn := fun _ => fun
  | [d1, d2] => { results := [.lit (.bool true)], args := [d1, d2] }
  | _ => none }
def idlemManyRow : OpenClaim := { program := "ytnmkfmaohflejaa", sum := "759a3c1a38f924bf1be8f3c2c2ce1a551bebaa788c97c9f248d3fd235ed8e498", func := "turnspit/turnspitlaw18.IdlemMany", spec := "idlemMany", unfollowed := true, recurses := true, apart := false }
def IdlemManySaid : Prop := idlemManyRow.holds Try.pinned (OpenSpec.ofChange idlemManySpec)

/-- ITS FALSE NEIGHBOUR: 'it returns false'. Refute it at one input. -/
def idlemManyWrong : ChangeSpec := { name := "idlemMany", fn := fun _ => fun
  | [d1, d2] => { results := [.lit (.bool false)], args := [d1, d2] }
  | _ => none }
def IdlemManyWrongFalsely : Prop := idlemManyRow.holds Try.pinned (OpenSpec.ofChange idlemManyWrong)

/-- 'turnspitlaw17.IdlepPile': WHATEVER THE INPUT: true; the input reads as it did. -/
def idlepPileSpec : ChangeSpec := { name := "idlepPile", fn := fun _ => fun
  | [d1, d2] => { results := [.lit (.bool true)], args := [d1, d2] }
  | _ => none }
def idlepPileRow : OpenClaim := { program := "ytnmkfmaohflejaa", sum := "759a3c1a38f924bf1be8f3c2c2ce1a551bebaa788c97c9f248d3fd235ed8e498", func := "turnspit/turnspitlaw17.IdlepPile", spec := "idlepPile", unfollowed := true, recurses := true, apart := false }
def IdlepPileSaid : Prop := idlepPileRow.holds Try.pinned (OpenSpec.ofChange idlepPileSpec)

/-- ITS FALSE NEIGHBOUR: 'it returns false'. Refute it at one input. -/
def idlepPileWrong : ChangeSpec := { name := "idlepPile", fn := fun _ => fun
  | [d1, d2] => { results := [.lit (.bool false)], args := [d1, d2] }
  | _ => none }
def IdlepPileWrongFalsely : Prop := idlepPileRow.holds Try.pinned (OpenSpec.ofChange idlepPileWrong)

/-- 'turnspitlaw11.GfreeMany': WHATEVER THE INPUT: true; the input reads as it did. -/
def gfreeManySpec : ChangeSpec := { name := "gfreeMany", fn := fun _ => fun
  | [d1, d2] => { results := [.lit (.bool true)], args := [d1, d2] }
  | _ => none }
def gfreeManyRow : OpenClaim := { program := "ytnmkfmaohflejaa", sum := "759a3c1a38f924bf1be8f3c2c2ce1a551bebaa788c97c9f248d3fd235ed8e498", func := "turnspit/turnspitlaw11.GfreeMany", spec := "gfreeMany", unfollowed := true, recurses := true, apart := false }
def GfreeManySaid : Prop := gfreeManyRow.holds Try.pinned (OpenSpec.ofChange gfreeManySpec)

/-- ITS FALSE NEIGHBOUR: 'it returns false'. Refute it at one input. -/
def gfreeManyWrong : ChangeSpec := { name := "gfreeMany", fn := fun _ => fun
  | [d1, d2] => { results := [.lit (.bool false)], args := [d1, d2] }
  | _ => none }
def GfreeManyWrongFalsely : Prop := gfreeManyRow.holds Try.pinned (OpenSpec.ofChange gfreeManyWrong)

/-- 'turnspitlaw13.GlobqOrder': WHATEVER THE INPUT: true; the input reads as it did. -/
def globqOrderSpec : ChangeSpec := { name := "globqOrder", fn := fun _ => fun
  | [d1, d2] => { results := [.lit (.bool true)], args := [d1, d2] }
  | _ => none }
def globqOrderRow : OpenClaim := { program := "ytnmkfmaohflejaa", sum := "759a3c1a38f924bf1be8f3c2c2ce1a551bebaa788c97c9f248d3fd235ed8e498", func := "turnspit/turnspitlaw13.GlobqOrder", spec := "globqOrder", unfollowed := true, recurses := true, apart := false }
def GlobqOrderSaid : Prop := globqOrderRow.holds Try.pinned (OpenSpec.ofChange globqOrderSpec)

/-- ITS FALSE NEIGHBOUR: 'it returns false'. Refute it at one input. -/
def globqOrderWrong : ChangeSpec := { name := "globqOrder", fn := fun _ => fun
  | [d1, d2] => { results := [.lit (.bool false)], args := [d1, d2] }
  | _ => none }
def GlobqOrderWrongFalsely : Prop := globqOrderRow.holds Try.pinned (OpenSpec.ofChange globqOrderWrong)

/-- 'turnspitlaw15.RgetOrder': WHATEVER THE INPUT: true; the input reads as it did. -/
def rgetOrderSpec : ChangeSpec := { name := "rgetOrder", fn := fun _ => fun
  | [d1, d2] => { results := [.lit (.bool true)], args := [d1, d2] }
  | _ => none }
def rgetOrderRow : OpenClaim := { program := "ytnmkfmaohflejaa", sum := "759a3c1a38f924bf1be8f3c2c2ce1a551bebaa788c97c9f248d3fd235ed8e498", func := "turnspit/turnspitlaw15.RgetOrder", spec := "rgetOrder", unfollowed := true, recurses := true, apart := false }
def RgetOrderSaid : Prop := rgetOrderRow.holds Try.pinned (OpenSpec.ofChange rgetOrderSpec)

/-- ITS FALSE NEIGHBOUR: 'it returns false'. Refute it at one input. -/
def rgetOrderWrong : ChangeSpec := { name := "rgetOrder", fn := fun _ => fun
  | [d1, d2] => { results := [.lit (.bool false)], args := [d1, d2] }
  | _ => none }
def RgetOrderWrongFalsely : Prop := rgetOrderRow.holds Try.pinned (OpenSpec.ofChange rgetOrderWrong)

/- THE SECOND FORM. 'bulk': how many values and letters a reading holds, each counted each time it is reached (what is shared counts as often as it is met; a slice's spare places count too). A statement '..UptoSaid' is the law's where the arguments, and the package variables that the reading takes, are together of bulk at most 1048576: NARROWER than '..Said'. Prove '..Said' where nothing that the law and all that it calls make is longer than what came in: it says more and counts as full. Else prove '..UptoSaid'. A law counts once. -/
mutual
def uptoBulk {H : Type} : DataW H → Nat
  | .lit (.string bytes) => bytes.length + 1
  | .lit _ => 1
  | .nil => 1
  | .ptr d => uptoBulk d + 1
  | .slice elems spare => uptoBulkAll elems + uptoBulkAll spare + 1
  | .agg parts => uptoBulkAll parts + 1
  | .iface _ d => uptoBulk d + 1
  | .map entries => uptoBulkEntries entries + 1
  | .held _ => 1
def uptoBulkAll {H : Type} : List (DataW H) → Nat
  | [] => 0
  | d :: r => uptoBulk d + uptoBulkAll r
def uptoBulkEntries {H : Type} : List (Lit × DataW H) → Nat
  | [] => 0
  | x :: r => uptoBulkEntry x + uptoBulkEntries r
def uptoBulkEntry {H : Type} : Lit × DataW H → Nat
  | (.string bytes, d) => bytes.length + uptoBulk d + 1
  | (_, d) => uptoBulk d + 1
 end
def uptoSmall : (H : Type) → List (DataW H) → Bool := fun _ ds => decide (uptoBulkAll ds ≤ 1048576)
def OpenSpec.upto (s : _root_.Go.ChangeSpec) : _root_.Go.OpenSpec := { _root_.Go.OpenSpec.ofChange s with cond := some uptoSmall }

/-- 'turnspitlaw08.LockAlone', WHERE WHAT IT READS IS OF BULK AT MOST 1048576: true; the input reads as it did. -/
def lockAloneUptoRow : OpenClaim := { program := "ytnmkfmaohflejaa", sum := "759a3c1a38f924bf1be8f3c2c2ce1a551bebaa788c97c9f248d3fd235ed8e498", func := "turnspit/turnspitlaw08.LockAlone", spec := "lockAlone", unfollowed := true, recurses := true, apart := false, narrowed := true }
def LockAloneUptoSaid : Prop := lockAloneUptoRow.holds Try.pinned (OpenSpec.upto lockAloneSpec)

/-- 'turnspitlaw18.IdlemMany', WHERE WHAT IT READS IS OF BULK AT MOST 1048576: true; the input reads as it did. -/
def idlemManyUptoRow : OpenClaim := { program := "ytnmkfmaohflejaa", sum := "759a3c1a38f924bf1be8f3c2c2ce1a551bebaa788c97c9f248d3fd235ed8e498", func := "turnspit/turnspitlaw18.IdlemMany", spec := "idlemMany", unfollowed := true, recurses := true, apart := false, narrowed := true }
def IdlemManyUptoSaid : Prop := idlemManyUptoRow.holds Try.pinned (OpenSpec.upto idlemManySpec)

/-- 'turnspitlaw17.IdlepPile', WHERE WHAT IT READS IS OF BULK AT MOST 1048576: true; the input reads as it did. -/
def idlepPileUptoRow : OpenClaim := { program := "ytnmkfmaohflejaa", sum := "759a3c1a38f924bf1be8f3c2c2ce1a551bebaa788c97c9f248d3fd235ed8e498", func := "turnspit/turnspitlaw17.IdlepPile", spec := "idlepPile", unfollowed := true, recurses := true, apart := false, narrowed := true }
def IdlepPileUptoSaid : Prop := idlepPileUptoRow.holds Try.pinned (OpenSpec.upto idlepPileSpec)

/-- 'turnspitlaw11.GfreeMany', WHERE WHAT IT READS IS OF BULK AT MOST 1048576: true; the input reads as it did. -/
def gfreeManyUptoRow : OpenClaim := { program := "ytnmkfmaohflejaa", sum := "759a3c1a38f924bf1be8f3c2c2ce1a551bebaa788c97c9f248d3fd235ed8e498", func := "turnspit/turnspitlaw11.GfreeMany", spec := "gfreeMany", unfollowed := true, recurses := true, apart := false, narrowed := true }
def GfreeManyUptoSaid : Prop := gfreeManyUptoRow.holds Try.pinned (OpenSpec.upto gfreeManySpec)

/-- 'turnspitlaw13.GlobqOrder', WHERE WHAT IT READS IS OF BULK AT MOST 1048576: true; the input reads as it did. -/
def globqOrderUptoRow : OpenClaim := { program := "ytnmkfmaohflejaa", sum := "759a3c1a38f924bf1be8f3c2c2ce1a551bebaa788c97c9f248d3fd235ed8e498", func := "turnspit/turnspitlaw13.GlobqOrder", spec := "globqOrder", unfollowed := true, recurses := true, apart := false, narrowed := true }
def GlobqOrderUptoSaid : Prop := globqOrderUptoRow.holds Try.pinned (OpenSpec.upto globqOrderSpec)

/-- 'turnspitlaw15.RgetOrder', WHERE WHAT IT READS IS OF BULK AT MOST 1048576: true; the input reads as it did. -/
def rgetOrderUptoRow : OpenClaim := { program := "ytnmkfmaohflejaa", sum := "759a3c1a38f924bf1be8f3c2c2ce1a551bebaa788c97c9f248d3fd235ed8e498", func := "turnspit/turnspitlaw15.RgetOrder", spec := "rgetOrder", unfollowed := true, recurses := true, apart := false, narrowed := true }
def RgetOrderUptoSaid : Prop := rgetOrderUptoRow.holds Try.pinned (OpenSpec.upto rgetOrderSpec)

end Rows
end Go.Proofs.Ytnmkfmaohflejaa
