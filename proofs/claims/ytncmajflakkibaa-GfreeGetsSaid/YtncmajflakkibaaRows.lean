/-
  No cell of these rows narrows 'for every input' (looked for: loops, veiled, ifaces, maps, wideKeys, modest, calm, conditions, laid).
  DERIVED. THE GIVEN ROWS OF THIS SEAT. 9 by the template 'for every input the law returns true; each argument reads behind the call as it read before'; 0 by the template 'total and deterministic' (their statements: YtncmajflakkibaaTotals.lean).
  GIVEN WITH THE SEED: the statements are not yours to turn. If you find one false, say at which input.
  Laid BY PROGRAM, IN A SANDBOX (cutbox-rows.mjs): the forced cells as the released guide's own fill.sh prints them over the translation 46e724dec48f42a1… (all of the seat's roots in one cut). By AI agents, Wed Nov 11 2026. No macro, syntax, notation, axiom, sorry.
-/
import Derived.Test.YtncmajflakkibaaChecked
import GoSem.Claim
import GoSem.ClaimJoined
import GoSem.ClaimMapViews
import Derived.JoinedTies
import Derived.KernelRfl
namespace Go.Proofs.Ytncmajflakkibaa
/- THE CELL 'sum', in the pinned program and in every row, IS THE sha256 OF THE DUMP (.gsa) THAT YtncmajflakkibaaProg.lean LOADS. Nothing in Lean hashes anything: it is a label: what it is worth is what the hold of that sum in a sandbox is worth. -/
noncomputable def Try.pinned : Pinned := { name := "ytncmajflakkibaa", sum := "46e724dec48f42a1e1b9859112c0180f292d68f71612ca515632e4ede41fd2e5", checked := Try.checked }
namespace Rows
def none {H : Type} : Left H := { results := [], args := [] }

/-- 'turnspitlaw08.LockAlone': WHATEVER THE INPUT: true; the input reads as it did. -/
def lockAloneSpec : ChangeSpec := { name := "lockAlone", fn := fun _ => fun
  | [d1, d2, d3] => { results := [.lit (.bool true)], args := [d1, d2, d3] }
  | _ => none }
def lockAloneRow : OpenClaim := { program := "ytncmajflakkibaa", sum := "46e724dec48f42a1e1b9859112c0180f292d68f71612ca515632e4ede41fd2e5", func := "turnspit/turnspitlaw08.LockAlone", spec := "lockAlone", unfollowed := true, recurses := true, apart := false }
def LockAloneSaid : Prop := lockAloneRow.holds Try.pinned (OpenSpec.ofChange lockAloneSpec)

/-- ITS FALSE NEIGHBOUR: 'it returns false'. Refute it at one input. -/
def lockAloneWrong : ChangeSpec := { name := "lockAlone", fn := fun _ => fun
  | [d1, d2, d3] => { results := [.lit (.bool false)], args := [d1, d2, d3] }
  | _ => none }
def LockAloneWrongFalsely : Prop := lockAloneRow.holds Try.pinned (OpenSpec.ofChange lockAloneWrong)

/-- 'turnspitlaw18.IdlemMany': WHATEVER THE INPUT: true; the input reads as it did. -/
def idlemManySpec : ChangeSpec := { name := "idlemMany", fn := fun _ => fun
  | [d1, d2] => { results := [.lit (.bool true)], args := [d1, d2] }
  | _ => none }
def idlemManyRow : OpenClaim := { program := "ytncmajflakkibaa", sum := "46e724dec48f42a1e1b9859112c0180f292d68f71612ca515632e4ede41fd2e5", func := "turnspit/turnspitlaw18.IdlemMany", spec := "idlemMany", unfollowed := true, recurses := true, apart := false }
def IdlemManySaid : Prop := idlemManyRow.holds Try.pinned (OpenSpec.ofChange idlemManySpec)

/-- ITS FALSE NEIGHBOUR: 'it returns false'. Refute it at one input. -/
def idlemManyWrong : ChangeSpec := { name := "idlemMany", fn := fun _ => fun
  | [d1, d2] => { results := [.lit (.bool false)], args := [d1, d2] }
  | _ => none }
def IdlemManyWrongFalsely : Prop := idlemManyRow.holds Try.pinned (OpenSpec.ofChange idlemManyWrong)

/-- 'turnspitlaw17.IdlepPile': WHATEVER THE INPUT: true; the input reads as it did. -/
def idlepPileSpec : ChangeSpec := { name := "idlepPile", fn := fun _ => fun
  | [d1, d2] => { results := [.lit (.bool true)], args := [d1, d2] }
  | _ => none }
def idlepPileRow : OpenClaim := { program := "ytncmajflakkibaa", sum := "46e724dec48f42a1e1b9859112c0180f292d68f71612ca515632e4ede41fd2e5", func := "turnspit/turnspitlaw17.IdlepPile", spec := "idlepPile", unfollowed := true, recurses := true, apart := false }
def IdlepPileSaid : Prop := idlepPileRow.holds Try.pinned (OpenSpec.ofChange idlepPileSpec)

/-- ITS FALSE NEIGHBOUR: 'it returns false'. Refute it at one input. -/
def idlepPileWrong : ChangeSpec := { name := "idlepPile", fn := fun _ => fun
  | [d1, d2] => { results := [.lit (.bool false)], args := [d1, d2] }
  | _ => none }
def IdlepPileWrongFalsely : Prop := idlepPileRow.holds Try.pinned (OpenSpec.ofChange idlepPileWrong)

/-- 'turnspitlaw11.GfreeMany': WHATEVER THE INPUT: true; the input reads as it did. -/
def gfreeManySpec : ChangeSpec := { name := "gfreeMany", fn := fun _ => fun
  | [d1, d2] => { results := [.lit (.bool true)], args := [d1, d2] }
  | _ => none }
def gfreeManyRow : OpenClaim := { program := "ytncmajflakkibaa", sum := "46e724dec48f42a1e1b9859112c0180f292d68f71612ca515632e4ede41fd2e5", func := "turnspit/turnspitlaw11.GfreeMany", spec := "gfreeMany", unfollowed := true, recurses := true, apart := false }
def GfreeManySaid : Prop := gfreeManyRow.holds Try.pinned (OpenSpec.ofChange gfreeManySpec)

/-- ITS FALSE NEIGHBOUR: 'it returns false'. Refute it at one input. -/
def gfreeManyWrong : ChangeSpec := { name := "gfreeMany", fn := fun _ => fun
  | [d1, d2] => { results := [.lit (.bool false)], args := [d1, d2] }
  | _ => none }
def GfreeManyWrongFalsely : Prop := gfreeManyRow.holds Try.pinned (OpenSpec.ofChange gfreeManyWrong)

/-- 'turnspitlaw11.GfreeGets': WHATEVER THE INPUT: true; the input reads as it did. -/
def gfreeGetsSpec : ChangeSpec := { name := "gfreeGets", fn := fun _ => fun
  | [d1, d2, d3] => { results := [.lit (.bool true)], args := [d1, d2, d3] }
  | _ => none }
def gfreeGetsRow : OpenClaim := { program := "ytncmajflakkibaa", sum := "46e724dec48f42a1e1b9859112c0180f292d68f71612ca515632e4ede41fd2e5", func := "turnspit/turnspitlaw11.GfreeGets", spec := "gfreeGets", unfollowed := true, recurses := true, apart := false }
def GfreeGetsSaid : Prop := gfreeGetsRow.holds Try.pinned (OpenSpec.ofChange gfreeGetsSpec)

/-- ITS FALSE NEIGHBOUR: 'it returns false'. Refute it at one input. -/
def gfreeGetsWrong : ChangeSpec := { name := "gfreeGets", fn := fun _ => fun
  | [d1, d2, d3] => { results := [.lit (.bool false)], args := [d1, d2, d3] }
  | _ => none }
def GfreeGetsWrongFalsely : Prop := gfreeGetsRow.holds Try.pinned (OpenSpec.ofChange gfreeGetsWrong)

/-- 'turnspitlaw11.GfreePuts': WHATEVER THE INPUT: true; the input reads as it did. -/
def gfreePutsSpec : ChangeSpec := { name := "gfreePuts", fn := fun _ => fun
  | [d1, d2, d3] => { results := [.lit (.bool true)], args := [d1, d2, d3] }
  | _ => none }
def gfreePutsRow : OpenClaim := { program := "ytncmajflakkibaa", sum := "46e724dec48f42a1e1b9859112c0180f292d68f71612ca515632e4ede41fd2e5", func := "turnspit/turnspitlaw11.GfreePuts", spec := "gfreePuts", unfollowed := true, recurses := true, apart := false }
def GfreePutsSaid : Prop := gfreePutsRow.holds Try.pinned (OpenSpec.ofChange gfreePutsSpec)

/-- ITS FALSE NEIGHBOUR: 'it returns false'. Refute it at one input. -/
def gfreePutsWrong : ChangeSpec := { name := "gfreePuts", fn := fun _ => fun
  | [d1, d2, d3] => { results := [.lit (.bool false)], args := [d1, d2, d3] }
  | _ => none }
def GfreePutsWrongFalsely : Prop := gfreePutsRow.holds Try.pinned (OpenSpec.ofChange gfreePutsWrong)

/-- 'turnspitlaw13.GlobqOrder': WHATEVER THE INPUT: true; the input reads as it did. -/
def globqOrderSpec : ChangeSpec := { name := "globqOrder", fn := fun _ => fun
  | [d1, d2] => { results := [.lit (.bool true)], args := [d1, d2] }
  | _ => none }
def globqOrderRow : OpenClaim := { program := "ytncmajflakkibaa", sum := "46e724dec48f42a1e1b9859112c0180f292d68f71612ca515632e4ede41fd2e5", func := "turnspit/turnspitlaw13.GlobqOrder", spec := "globqOrder", unfollowed := true, recurses := true, apart := false }
def GlobqOrderSaid : Prop := globqOrderRow.holds Try.pinned (OpenSpec.ofChange globqOrderSpec)

/-- ITS FALSE NEIGHBOUR: 'it returns false'. Refute it at one input. -/
def globqOrderWrong : ChangeSpec := { name := "globqOrder", fn := fun _ => fun
  | [d1, d2] => { results := [.lit (.bool false)], args := [d1, d2] }
  | _ => none }
def GlobqOrderWrongFalsely : Prop := globqOrderRow.holds Try.pinned (OpenSpec.ofChange globqOrderWrong)

/-- 'turnspitlaw13.GlobqPuts': WHATEVER THE INPUT: true; the input reads as it did. -/
def globqPutsSpec : ChangeSpec := { name := "globqPuts", fn := fun _ => fun
  | [d1, d2, d3] => { results := [.lit (.bool true)], args := [d1, d2, d3] }
  | _ => none }
def globqPutsRow : OpenClaim := { program := "ytncmajflakkibaa", sum := "46e724dec48f42a1e1b9859112c0180f292d68f71612ca515632e4ede41fd2e5", func := "turnspit/turnspitlaw13.GlobqPuts", spec := "globqPuts", unfollowed := true, recurses := true, apart := false }
def GlobqPutsSaid : Prop := globqPutsRow.holds Try.pinned (OpenSpec.ofChange globqPutsSpec)

/-- ITS FALSE NEIGHBOUR: 'it returns false'. Refute it at one input. -/
def globqPutsWrong : ChangeSpec := { name := "globqPuts", fn := fun _ => fun
  | [d1, d2, d3] => { results := [.lit (.bool false)], args := [d1, d2, d3] }
  | _ => none }
def GlobqPutsWrongFalsely : Prop := globqPutsRow.holds Try.pinned (OpenSpec.ofChange globqPutsWrong)

/-- 'turnspitlaw13.GlobqPulls': WHATEVER THE INPUT: true; the input reads as it did. -/
def globqPullsSpec : ChangeSpec := { name := "globqPulls", fn := fun _ => fun
  | [d1, d2, d3] => { results := [.lit (.bool true)], args := [d1, d2, d3] }
  | _ => none }
def globqPullsRow : OpenClaim := { program := "ytncmajflakkibaa", sum := "46e724dec48f42a1e1b9859112c0180f292d68f71612ca515632e4ede41fd2e5", func := "turnspit/turnspitlaw13.GlobqPulls", spec := "globqPulls", unfollowed := true, recurses := true, apart := false }
def GlobqPullsSaid : Prop := globqPullsRow.holds Try.pinned (OpenSpec.ofChange globqPullsSpec)

/-- ITS FALSE NEIGHBOUR: 'it returns false'. Refute it at one input. -/
def globqPullsWrong : ChangeSpec := { name := "globqPulls", fn := fun _ => fun
  | [d1, d2, d3] => { results := [.lit (.bool false)], args := [d1, d2, d3] }
  | _ => none }
def GlobqPullsWrongFalsely : Prop := globqPullsRow.holds Try.pinned (OpenSpec.ofChange globqPullsWrong)

/- THE SECOND FORM. 'bulk': how many values and letters a reading holds, each counted each time it is reached (what is shared counts as often as it is met; a slice's spare places count too). A statement '..UptoSaid' is the law's where the arguments, and the package variables that the reading takes, are together of bulk at most 1048576: NARROWER than '..Said'. Prove '..Said' where nothing that the law and all that it calls make is longer than what came in: it says more and counts as full. Else prove '..UptoSaid'. A law counts once. -/
mutual
def uptoBulk {H : Type} : DataW H → Nat
  | .lit (.string bytes) => bytes.length + 1
  | .lit _ => 1
  | .nil => 1
  | .ptr d => uptoBulk d + 1
  | .slice elems spare => uptoBulkAll elems + uptoBulkAll spare + 1
  | .agg parts => uptoBulkAll parts + 1
  | .iface _ d => uptoBulk d + 1
  | .map entries => uptoBulkEntries entries + 1
  | .held _ => 1
def uptoBulkAll {H : Type} : List (DataW H) → Nat
  | [] => 0
  | d :: r => uptoBulk d + uptoBulkAll r
def uptoBulkEntries {H : Type} : List (Lit × DataW H) → Nat
  | [] => 0
  | x :: r => uptoBulkEntry x + uptoBulkEntries r
def uptoBulkEntry {H : Type} : Lit × DataW H → Nat
  | (.string bytes, d) => bytes.length + uptoBulk d + 1
  | (_, d) => uptoBulk d + 1
 end
def uptoSmall : (H : Type) → List (DataW H) → Bool := fun _ ds => decide (uptoBulkAll ds ≤ 1048576)
def OpenSpec.upto (s : _root_.Go.ChangeSpec) : _root_.Go.OpenSpec := { _root_.Go.OpenSpec.ofChange s with cond := some uptoSmall }

/-- 'turnspitlaw08.LockAlone', WHERE WHAT IT READS IS OF BULK AT MOST 1048576: true; the input reads as it did. -/
def lockAloneUptoRow : OpenClaim := { program := "ytncmajflakkibaa", sum := "46e724dec48f42a1e1b9859112c0180f292d68f71612ca515632e4ede41fd2e5", func := "turnspit/turnspitlaw08.LockAlone", spec := "lockAlone", unfollowed := true, recurses := true, apart := false, narrowed := true }
def LockAloneUptoSaid : Prop := lockAloneUptoRow.holds Try.pinned (OpenSpec.upto lockAloneSpec)

/-- 'turnspitlaw18.IdlemMany', WHERE WHAT IT READS IS OF BULK AT MOST 1048576: true; the input reads as it did. -/
def idlemManyUptoRow : OpenClaim := { program := "ytncmajflakkibaa", sum := "46e724dec48f42a1e1b9859112c0180f292d68f71612ca515632e4ede41fd2e5", func := "turnspit/turnspitlaw18.IdlemMany", spec := "idlemMany", unfollowed := true, recurses := true, apart := false, narrowed := true }
def IdlemManyUptoSaid : Prop := idlemManyUptoRow.holds Try.pinned (OpenSpec.upto idlemManySpec)

/-- 'turnspitlaw17.IdlepPile', WHERE WHAT IT READS IS OF BULK AT MOST 1048576: true; the input reads as it did. -/
def idlepPileUptoRow : OpenClaim := { program := "ytncmajflakkibaa", sum := "46e724dec48f42a1e1b9859112c0180f292d68f71612ca515632e4ede41fd2e5", func := "turnspit/turnspitlaw17.IdlepPile", spec := "idlepPile", unfollowed := true, recurses := true, apart := false, narrowed := true }
def IdlepPileUptoSaid : Prop := idlepPileUptoRow.holds Try.pinned (OpenSpec.upto idlepPileSpec)

/-- 'turnspitlaw11.GfreeMany', WHERE WHAT IT READS IS OF BULK AT MOST 1048576: true; the input reads as it did. -/
def gfreeManyUptoRow : OpenClaim := { program := "ytncmajflakkibaa", sum := "46e724dec48f42a1e1b9859112c0180f292d68f71612ca515632e4ede41fd2e5", func := "turnspit/turnspitlaw11.GfreeMany", spec := "gfreeMany", unfollowed := true, recurses := true, apart := false, narrowed := true }
def GfreeManyUptoSaid : Prop := gfreeManyUptoRow.holds Try.pinned (OpenSpec.upto gfreeManySpec)

/-- 'turnspitlaw11.GfreeGets', WHERE WHAT IT READS IS OF BULK AT MOST 1048576: true; the input reads as it did. -/
def gfreeGetsUptoRow : OpenClaim := { program := "ytncmajflakkibaa", sum := "46e724dec48f42a1e1b9859112c0180f292d68f71612ca515632e4ede41fd2e5", func := "turnspit/turnspitlaw11.GfreeGets", spec := "gfreeGets", unfollowed := true, recurses := true, apart := false, narrowed := true }
def GfreeGetsUptoSaid : Prop := gfreeGetsUptoRow.holds Try.pinned (OpenSpec.upto gfreeGetsSpec)

/-- 'turnspitlaw11.GfreePuts', WHERE WHAT IT READS IS OF BULK AT MOST 1048576: true; the input reads as it did. -/
def gfreePutsUptoRow : OpenClaim := { program := "ytncmajflakkibaa", sum := "46e724dec48f42a1e1b9859112c0180f292d68f71612ca515632e4ede41fd2e5", func := "turnspit/turnspitlaw11.GfreePuts", spec := "gfreePuts", unfollowed := true, recurses := true, apart := false, narrowed := true }
def GfreePutsUptoSaid : Prop := gfreePutsUptoRow.holds Try.pinned (OpenSpec.upto gfreePutsSpec)

/-- 'turnspitlaw13.GlobqOrder', WHERE WHAT IT READS IS OF BULK AT MOST 1048576: true; the input reads as it did. -/
def globqOrderUptoRow : OpenClaim := { program := "ytncmajflakkibaa", sum := "46e724dec48f42a1e1b9859112c0180f292d68f71612ca515632e4ede41fd2e5", func := "turnspit/turnspitlaw13.GlobqOrder", spec := "globqOrder", unfollowed := true, recurses := true, apart := false, narrowed := true }
def GlobqOrderUptoSaid : Prop := globqOrderUptoRow.holds Try.pinned (OpenSpec.upto globqOrderSpec)

/-- 'turnspitlaw13.GlobqPuts', WHERE WHAT IT READS IS OF BULK AT MOST 1048576: true; the input reads as it did. -/
def globqPutsUptoRow : OpenClaim := { program := "ytncmajflakkibaa", sum := "46e724dec48f42a1e1b9859112c0180f292d68f71612ca515632e4ede41fd2e5", func := "turnspit/turnspitlaw13.GlobqPuts", spec := "globqPuts", unfollowed := true, recurses := true, apart := false, narrowed := true }
def GlobqPutsUptoSaid : Prop := globqPutsUptoRow.holds Try.pinned (OpenSpec.upto globqPutsSpec)

/-- 'turnspitlaw13.GlobqPulls', WHERE WHAT IT READS IS OF BULK AT MOST 1048576: true; the input reads as it did. -/
def globqPullsUptoRow : OpenClaim := { program := "ytncmajflakkibaa", sum := "46e724dec48f42a1e1b9859112c0180f292d68f71612ca515632e4ede41fd2e5", func := "turnspit/turnspitlaw13.GlobqPulls", spec := "globqPulls", unfollowed := true, recurses := true, apart := false, narrowed := true }
def GlobqPullsUptoSaid : Prop := globqPullsUptoRow.holds Try.pinned (OpenSpec.upto globqPullsSpec)

end Rows
end Go.Proofs.Ytncmajflakkibaa
