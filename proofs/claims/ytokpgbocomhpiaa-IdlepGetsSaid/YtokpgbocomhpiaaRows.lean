/-
  No cell of these rows narrows 'for every input' (looked for: loops, veiled, ifaces, maps, wideKeys, modest, calm, conditions, laid).
  DERIVED. THE GIVEN ROWS OF THIS SEAT. 22 by the template 'for every input the law returns true; each argument reads behind the call as it read before'; 0 by the template 'total and deterministic' (their statements: YtokpgbocomhpiaaTotals.lean).
  GIVEN WITH THE SEED: the statements are not yours to turn. If you find one false, say at which input.
  Laid BY PROGRAM, IN A SANDBOX (cutbox-rows.mjs): the forced cells as the released guide's own fill.sh prints them over the translation 303932bf678cd38f… (all of the seat's roots in one cut). By AI agents, Wed Nov 11 2026. No macro, syntax, notation, axiom, sorry.
-/
import Derived.Test.YtokpgbocomhpiaaChecked
import GoSem.Claim
import GoSem.ClaimJoined
import GoSem.ClaimMapViews
import Derived.JoinedTies
import Derived.KernelRfl
namespace Go.Proofs.Ytokpgbocomhpiaa
/- THE CELL 'sum', in the pinned program and in every row, IS THE sha256 OF THE DUMP (.gsa) THAT YtokpgbocomhpiaaProg.lean LOADS. Nothing in Lean hashes anything: it is a label: what it is worth is what the hold of that sum in a sandbox is worth. -/
noncomputable def Try.pinned : Pinned := { name := "ytokpgbocomhpiaa", sum := "303932bf678cd38fcfacce840ad41fd40777c110b921477991ec0ca241d79dc2", checked := Try.checked }
namespace Rows
def none {H : Type} : Left H := { results := [], args := [] }

/-- 'turnspitlaw08.LockNone': WHATEVER THE INPUT: true; the input reads as it did. -/
def lockNoneSpec : ChangeSpec := { name := "lockNone", fn := fun _ => fun
  | [d] => { results := [.lit (.bool true)], args := [d] }
  | _ => none }
def lockNoneRow : OpenClaim := { program := "ytokpgbocomhpiaa", sum := "303932bf678cd38fcfacce840ad41fd40777c110b921477991ec0ca241d79dc2", func := "turnspit/turnspitlaw08.LockNone", spec := "lockNone", unfollowed := true, recurses := true, apart := false }
def LockNoneSaid : Prop := lockNoneRow.holds Try.pinned (OpenSpec.ofChange lockNoneSpec)

/-- ITS FALSE NEIGHBOUR: 'it returns false'. Refute it at one input. -/
def lockNoneWrong : ChangeSpec := { name := "lockNone", fn := fun _ => fun
  | [d] => { results := [.lit (.bool false)], args := [d] }
  | _ => none }
def LockNoneWrongFalsely : Prop := lockNoneRow.holds Try.pinned (OpenSpec.ofChange lockNoneWrong)

/-- 'turnspitlaw09.NoteKeeps': WHATEVER THE INPUT: true; the input reads as it did. -/
def noteKeepsSpec : ChangeSpec := { name := "noteKeeps", fn := fun _ => fun
  | [d1, d2, d3] => { results := [.lit (.bool true)], args := [d1, d2, d3] }
  | _ => none }
def noteKeepsRow : OpenClaim := { program := "ytokpgbocomhpiaa", sum := "303932bf678cd38fcfacce840ad41fd40777c110b921477991ec0ca241d79dc2", func := "turnspit/turnspitlaw09.NoteKeeps", spec := "noteKeeps", unfollowed := true, recurses := true, apart := false }
def NoteKeepsSaid : Prop := noteKeepsRow.holds Try.pinned (OpenSpec.ofChange noteKeepsSpec)

/-- ITS FALSE NEIGHBOUR: 'it returns false'. Refute it at one input. -/
def noteKeepsWrong : ChangeSpec := { name := "noteKeeps", fn := fun _ => fun
  | [d1, d2, d3] => { results := [.lit (.bool false)], args := [d1, d2, d3] }
  | _ => none }
def NoteKeepsWrongFalsely : Prop := noteKeepsRow.holds Try.pinned (OpenSpec.ofChange noteKeepsWrong)

/-- 'turnspitlaw08.LockAlone': WHATEVER THE INPUT: true; the input reads as it did. -/
def lockAloneSpec : ChangeSpec := { name := "lockAlone", fn := fun _ => fun
  | [d1, d2, d3] => { results := [.lit (.bool true)], args := [d1, d2, d3] }
  | _ => none }
def lockAloneRow : OpenClaim := { program := "ytokpgbocomhpiaa", sum := "303932bf678cd38fcfacce840ad41fd40777c110b921477991ec0ca241d79dc2", func := "turnspit/turnspitlaw08.LockAlone", spec := "lockAlone", unfollowed := true, recurses := true, apart := false }
def LockAloneSaid : Prop := lockAloneRow.holds Try.pinned (OpenSpec.ofChange lockAloneSpec)

/-- ITS FALSE NEIGHBOUR: 'it returns false'. Refute it at one input. -/
def lockAloneWrong : ChangeSpec := { name := "lockAlone", fn := fun _ => fun
  | [d1, d2, d3] => { results := [.lit (.bool false)], args := [d1, d2, d3] }
  | _ => none }
def LockAloneWrongFalsely : Prop := lockAloneRow.holds Try.pinned (OpenSpec.ofChange lockAloneWrong)

/-- 'turnspitlaw08.LockSteps': WHATEVER THE INPUT: true; the input reads as it did. -/
def lockStepsSpec : ChangeSpec := { name := "lockSteps", fn := fun _ => fun
  | [d1, d2, d3] => { results := [.lit (.bool true)], args := [d1, d2, d3] }
  | _ => none }
def lockStepsRow : OpenClaim := { program := "ytokpgbocomhpiaa", sum := "303932bf678cd38fcfacce840ad41fd40777c110b921477991ec0ca241d79dc2", func := "turnspit/turnspitlaw08.LockSteps", spec := "lockSteps", unfollowed := true, recurses := true, apart := false }
def LockStepsSaid : Prop := lockStepsRow.holds Try.pinned (OpenSpec.ofChange lockStepsSpec)

/-- ITS FALSE NEIGHBOUR: 'it returns false'. Refute it at one input. -/
def lockStepsWrong : ChangeSpec := { name := "lockSteps", fn := fun _ => fun
  | [d1, d2, d3] => { results := [.lit (.bool false)], args := [d1, d2, d3] }
  | _ => none }
def LockStepsWrongFalsely : Prop := lockStepsRow.holds Try.pinned (OpenSpec.ofChange lockStepsWrong)

/-- 'turnspitlaw09.NoteSteps': WHATEVER THE INPUT: true; the input reads as it did. -/
def noteStepsSpec : ChangeSpec := { name := "noteSteps", fn := fun _ => fun
  | [d1, d2, d3] => { results := [.lit (.bool true)], args := [d1, d2, d3] }
  | _ => none }
def noteStepsRow : OpenClaim := { program := "ytokpgbocomhpiaa", sum := "303932bf678cd38fcfacce840ad41fd40777c110b921477991ec0ca241d79dc2", func := "turnspit/turnspitlaw09.NoteSteps", spec := "noteSteps", unfollowed := true, recurses := true, apart := false }
def NoteStepsSaid : Prop := noteStepsRow.holds Try.pinned (OpenSpec.ofChange noteStepsSpec)

/-- ITS FALSE NEIGHBOUR: 'it returns false'. Refute it at one input. -/
def noteStepsWrong : ChangeSpec := { name := "noteSteps", fn := fun _ => fun
  | [d1, d2, d3] => { results := [.lit (.bool false)], args := [d1, d2, d3] }
  | _ => none }
def NoteStepsWrongFalsely : Prop := noteStepsRow.holds Try.pinned (OpenSpec.ofChange noteStepsWrong)

/-- 'turnspitlaw09.NoteWakes': WHATEVER THE INPUT: true; the input reads as it did. -/
def noteWakesSpec : ChangeSpec := { name := "noteWakes", fn := fun _ => fun
  | [d1, d2, d3] => { results := [.lit (.bool true)], args := [d1, d2, d3] }
  | _ => none }
def noteWakesRow : OpenClaim := { program := "ytokpgbocomhpiaa", sum := "303932bf678cd38fcfacce840ad41fd40777c110b921477991ec0ca241d79dc2", func := "turnspit/turnspitlaw09.NoteWakes", spec := "noteWakes", unfollowed := true, recurses := true, apart := false }
def NoteWakesSaid : Prop := noteWakesRow.holds Try.pinned (OpenSpec.ofChange noteWakesSpec)

/-- ITS FALSE NEIGHBOUR: 'it returns false'. Refute it at one input. -/
def noteWakesWrong : ChangeSpec := { name := "noteWakes", fn := fun _ => fun
  | [d1, d2, d3] => { results := [.lit (.bool false)], args := [d1, d2, d3] }
  | _ => none }
def NoteWakesWrongFalsely : Prop := noteWakesRow.holds Try.pinned (OpenSpec.ofChange noteWakesWrong)

/-- 'turnspitlaw08.LockReleases': WHATEVER THE INPUT: true; the input reads as it did. -/
def lockReleasesSpec : ChangeSpec := { name := "lockReleases", fn := fun _ => fun
  | [d1, d2, d3] => { results := [.lit (.bool true)], args := [d1, d2, d3] }
  | _ => none }
def lockReleasesRow : OpenClaim := { program := "ytokpgbocomhpiaa", sum := "303932bf678cd38fcfacce840ad41fd40777c110b921477991ec0ca241d79dc2", func := "turnspit/turnspitlaw08.LockReleases", spec := "lockReleases", unfollowed := true, recurses := true, apart := false }
def LockReleasesSaid : Prop := lockReleasesRow.holds Try.pinned (OpenSpec.ofChange lockReleasesSpec)

/-- ITS FALSE NEIGHBOUR: 'it returns false'. Refute it at one input. -/
def lockReleasesWrong : ChangeSpec := { name := "lockReleases", fn := fun _ => fun
  | [d1, d2, d3] => { results := [.lit (.bool false)], args := [d1, d2, d3] }
  | _ => none }
def LockReleasesWrongFalsely : Prop := lockReleasesRow.holds Try.pinned (OpenSpec.ofChange lockReleasesWrong)

/-- 'turnspitlaw12.RingMany': WHATEVER THE INPUT: true; the input reads as it did. -/
def ringManySpec : ChangeSpec := { name := "ringMany", fn := fun _ => fun
  | [d1, d2] => { results := [.lit (.bool true)], args := [d1, d2] }
  | _ => none }
def ringManyRow : OpenClaim := { program := "ytokpgbocomhpiaa", sum := "303932bf678cd38fcfacce840ad41fd40777c110b921477991ec0ca241d79dc2", func := "turnspit/turnspitlaw12.RingMany", spec := "ringMany", unfollowed := true, recurses := true, apart := false }
def RingManySaid : Prop := ringManyRow.holds Try.pinned (OpenSpec.ofChange ringManySpec)

/-- ITS FALSE NEIGHBOUR: 'it returns false'. Refute it at one input. -/
def ringManyWrong : ChangeSpec := { name := "ringMany", fn := fun _ => fun
  | [d1, d2] => { results := [.lit (.bool false)], args := [d1, d2] }
  | _ => none }
def RingManyWrongFalsely : Prop := ringManyRow.holds Try.pinned (OpenSpec.ofChange ringManyWrong)

/-- 'turnspitlaw12.RingLooks': WHATEVER THE INPUT: true; the input reads as it did. -/
def ringLooksSpec : ChangeSpec := { name := "ringLooks", fn := fun _ => fun
  | [d1, d2, d3] => { results := [.lit (.bool true)], args := [d1, d2, d3] }
  | _ => none }
def ringLooksRow : OpenClaim := { program := "ytokpgbocomhpiaa", sum := "303932bf678cd38fcfacce840ad41fd40777c110b921477991ec0ca241d79dc2", func := "turnspit/turnspitlaw12.RingLooks", spec := "ringLooks", unfollowed := true, recurses := true, apart := false }
def RingLooksSaid : Prop := ringLooksRow.holds Try.pinned (OpenSpec.ofChange ringLooksSpec)

/-- ITS FALSE NEIGHBOUR: 'it returns false'. Refute it at one input. -/
def ringLooksWrong : ChangeSpec := { name := "ringLooks", fn := fun _ => fun
  | [d1, d2, d3] => { results := [.lit (.bool false)], args := [d1, d2, d3] }
  | _ => none }
def RingLooksWrongFalsely : Prop := ringLooksRow.holds Try.pinned (OpenSpec.ofChange ringLooksWrong)

/-- 'turnspitlaw18.IdlemMany': WHATEVER THE INPUT: true; the input reads as it did. -/
def idlemManySpec : ChangeSpec := { name := "idlemMany", fn := fun _ => fun
  | [d1, d2] => { results := [.lit (.bool true)], args := [d1, d2] }
  | _ => none }
def idlemManyRow : OpenClaim := { program := "ytokpgbocomhpiaa", sum := "303932bf678cd38fcfacce840ad41fd40777c110b921477991ec0ca241d79dc2", func := "turnspit/turnspitlaw18.IdlemMany", spec := "idlemMany", unfollowed := true, recurses := true, apart := false }
def IdlemManySaid : Prop := idlemManyRow.holds Try.pinned (OpenSpec.ofChange idlemManySpec)

/-- ITS FALSE NEIGHBOUR: 'it returns false'. Refute it at one input. -/
def idlemManyWrong : ChangeSpec := { name := "idlemMany", fn := fun _ => fun
  | [d1, d2] => { results := [.lit (.bool false)], args := [d1, d2] }
  | _ => none }
def IdlemManyWrongFalsely : Prop := idlemManyRow.holds Try.pinned (OpenSpec.ofChange idlemManyWrong)

/-- 'turnspitlaw17.IdlepBits': WHATEVER THE INPUT: true; the input reads as it did. -/
def idlepBitsSpec : ChangeSpec := { name := "idlepBits", fn := fun _ => fun
  | [d1, d2] => { results := [.lit (.bool true)], args := [d1, d2] }
  | _ => none }
def idlepBitsRow : OpenClaim := { program := "ytokpgbocomhpiaa", sum := "303932bf678cd38fcfacce840ad41fd40777c110b921477991ec0ca241d79dc2", func := "turnspit/turnspitlaw17.IdlepBits", spec := "idlepBits", unfollowed := true, recurses := true, apart := false }
def IdlepBitsSaid : Prop := idlepBitsRow.holds Try.pinned (OpenSpec.ofChange idlepBitsSpec)

/-- ITS FALSE NEIGHBOUR: 'it returns false'. Refute it at one input. -/
def idlepBitsWrong : ChangeSpec := { name := "idlepBits", fn := fun _ => fun
  | [d1, d2] => { results := [.lit (.bool false)], args := [d1, d2] }
  | _ => none }
def IdlepBitsWrongFalsely : Prop := idlepBitsRow.holds Try.pinned (OpenSpec.ofChange idlepBitsWrong)

/-- 'turnspitlaw17.IdlepPile': WHATEVER THE INPUT: true; the input reads as it did. -/
def idlepPileSpec : ChangeSpec := { name := "idlepPile", fn := fun _ => fun
  | [d1, d2] => { results := [.lit (.bool true)], args := [d1, d2] }
  | _ => none }
def idlepPileRow : OpenClaim := { program := "ytokpgbocomhpiaa", sum := "303932bf678cd38fcfacce840ad41fd40777c110b921477991ec0ca241d79dc2", func := "turnspit/turnspitlaw17.IdlepPile", spec := "idlepPile", unfollowed := true, recurses := true, apart := false }
def IdlepPileSaid : Prop := idlepPileRow.holds Try.pinned (OpenSpec.ofChange idlepPileSpec)

/-- ITS FALSE NEIGHBOUR: 'it returns false'. Refute it at one input. -/
def idlepPileWrong : ChangeSpec := { name := "idlepPile", fn := fun _ => fun
  | [d1, d2] => { results := [.lit (.bool false)], args := [d1, d2] }
  | _ => none }
def IdlepPileWrongFalsely : Prop := idlepPileRow.holds Try.pinned (OpenSpec.ofChange idlepPileWrong)

/-- 'turnspitlaw15.RgetSteps': WHATEVER THE INPUT: true; the input reads as it did. -/
def rgetStepsSpec : ChangeSpec := { name := "rgetSteps", fn := fun _ => fun
  | [d1, d2, d3] => { results := [.lit (.bool true)], args := [d1, d2, d3] }
  | _ => none }
def rgetStepsRow : OpenClaim := { program := "ytokpgbocomhpiaa", sum := "303932bf678cd38fcfacce840ad41fd40777c110b921477991ec0ca241d79dc2", func := "turnspit/turnspitlaw15.RgetSteps", spec := "rgetSteps", unfollowed := true, recurses := true, apart := false }
def RgetStepsSaid : Prop := rgetStepsRow.holds Try.pinned (OpenSpec.ofChange rgetStepsSpec)

/-- ITS FALSE NEIGHBOUR: 'it returns false'. Refute it at one input. -/
def rgetStepsWrong : ChangeSpec := { name := "rgetSteps", fn := fun _ => fun
  | [d1, d2, d3] => { results := [.lit (.bool false)], args := [d1, d2, d3] }
  | _ => none }
def RgetStepsWrongFalsely : Prop := rgetStepsRow.holds Try.pinned (OpenSpec.ofChange rgetStepsWrong)

/-- 'turnspitlaw18.IdlemPuts': WHATEVER THE INPUT: true; the input reads as it did. -/
def idlemPutsSpec : ChangeSpec := { name := "idlemPuts", fn := fun _ => fun
  | [d1, d2, d3] => { results := [.lit (.bool true)], args := [d1, d2, d3] }
  | _ => none }
def idlemPutsRow : OpenClaim := { program := "ytokpgbocomhpiaa", sum := "303932bf678cd38fcfacce840ad41fd40777c110b921477991ec0ca241d79dc2", func := "turnspit/turnspitlaw18.IdlemPuts", spec := "idlemPuts", unfollowed := true, recurses := true, apart := false }
def IdlemPutsSaid : Prop := idlemPutsRow.holds Try.pinned (OpenSpec.ofChange idlemPutsSpec)

/-- ITS FALSE NEIGHBOUR: 'it returns false'. Refute it at one input. -/
def idlemPutsWrong : ChangeSpec := { name := "idlemPuts", fn := fun _ => fun
  | [d1, d2, d3] => { results := [.lit (.bool false)], args := [d1, d2, d3] }
  | _ => none }
def IdlemPutsWrongFalsely : Prop := idlemPutsRow.holds Try.pinned (OpenSpec.ofChange idlemPutsWrong)

/-- 'turnspitlaw17.IdlepGets': WHATEVER THE INPUT: true; the input reads as it did. -/
def idlepGetsSpec : ChangeSpec := { name := "idlepGets", fn := fun _ => fun
  | [d1, d2, d3] => { results := [.lit (.bool true)], args := [d1, d2, d3] }
  | _ => none }
def idlepGetsRow : OpenClaim := { program := "ytokpgbocomhpiaa", sum := "303932bf678cd38fcfacce840ad41fd40777c110b921477991ec0ca241d79dc2", func := "turnspit/turnspitlaw17.IdlepGets", spec := "idlepGets", unfollowed := true, recurses := true, apart := false }
def IdlepGetsSaid : Prop := idlepGetsRow.holds Try.pinned (OpenSpec.ofChange idlepGetsSpec)

/-- ITS FALSE NEIGHBOUR: 'it returns false'. Refute it at one input. -/
def idlepGetsWrong : ChangeSpec := { name := "idlepGets", fn := fun _ => fun
  | [d1, d2, d3] => { results := [.lit (.bool false)], args := [d1, d2, d3] }
  | _ => none }
def IdlepGetsWrongFalsely : Prop := idlepGetsRow.holds Try.pinned (OpenSpec.ofChange idlepGetsWrong)

/-- 'turnspitlaw18.IdlemGets': WHATEVER THE INPUT: true; the input reads as it did. -/
def idlemGetsSpec : ChangeSpec := { name := "idlemGets", fn := fun _ => fun
  | [d1, d2, d3] => { results := [.lit (.bool true)], args := [d1, d2, d3] }
  | _ => none }
def idlemGetsRow : OpenClaim := { program := "ytokpgbocomhpiaa", sum := "303932bf678cd38fcfacce840ad41fd40777c110b921477991ec0ca241d79dc2", func := "turnspit/turnspitlaw18.IdlemGets", spec := "idlemGets", unfollowed := true, recurses := true, apart := false }
def IdlemGetsSaid : Prop := idlemGetsRow.holds Try.pinned (OpenSpec.ofChange idlemGetsSpec)

/-- ITS FALSE NEIGHBOUR: 'it returns false'. Refute it at one input. -/
def idlemGetsWrong : ChangeSpec := { name := "idlemGets", fn := fun _ => fun
  | [d1, d2, d3] => { results := [.lit (.bool false)], args := [d1, d2, d3] }
  | _ => none }
def IdlemGetsWrongFalsely : Prop := idlemGetsRow.holds Try.pinned (OpenSpec.ofChange idlemGetsWrong)

/-- 'turnspitlaw17.IdlepPuts': WHATEVER THE INPUT: true; the input reads as it did. -/
def idlepPutsSpec : ChangeSpec := { name := "idlepPuts", fn := fun _ => fun
  | [d1, d2, d3] => { results := [.lit (.bool true)], args := [d1, d2, d3] }
  | _ => none }
def idlepPutsRow : OpenClaim := { program := "ytokpgbocomhpiaa", sum := "303932bf678cd38fcfacce840ad41fd40777c110b921477991ec0ca241d79dc2", func := "turnspit/turnspitlaw17.IdlepPuts", spec := "idlepPuts", unfollowed := true, recurses := true, apart := false }
def IdlepPutsSaid : Prop := idlepPutsRow.holds Try.pinned (OpenSpec.ofChange idlepPutsSpec)

/-- ITS FALSE NEIGHBOUR: 'it returns false'. Refute it at one input. -/
def idlepPutsWrong : ChangeSpec := { name := "idlepPuts", fn := fun _ => fun
  | [d1, d2, d3] => { results := [.lit (.bool false)], args := [d1, d2, d3] }
  | _ => none }
def IdlepPutsWrongFalsely : Prop := idlepPutsRow.holds Try.pinned (OpenSpec.ofChange idlepPutsWrong)

/-- 'turnspitlaw11.GfreeMany': WHATEVER THE INPUT: true; the input reads as it did. -/
def gfreeManySpec : ChangeSpec := { name := "gfreeMany", fn := fun _ => fun
  | [d1, d2] => { results := [.lit (.bool true)], args := [d1, d2] }
  | _ => none }
def gfreeManyRow : OpenClaim := { program := "ytokpgbocomhpiaa", sum := "303932bf678cd38fcfacce840ad41fd40777c110b921477991ec0ca241d79dc2", func := "turnspit/turnspitlaw11.GfreeMany", spec := "gfreeMany", unfollowed := true, recurses := true, apart := false }
def GfreeManySaid : Prop := gfreeManyRow.holds Try.pinned (OpenSpec.ofChange gfreeManySpec)

/-- ITS FALSE NEIGHBOUR: 'it returns false'. Refute it at one input. -/
def gfreeManyWrong : ChangeSpec := { name := "gfreeMany", fn := fun _ => fun
  | [d1, d2] => { results := [.lit (.bool false)], args := [d1, d2] }
  | _ => none }
def GfreeManyWrongFalsely : Prop := gfreeManyRow.holds Try.pinned (OpenSpec.ofChange gfreeManyWrong)

/-- 'turnspitlaw16.StealHalf': WHATEVER THE INPUT: true; the input reads as it did. -/
def stealHalfSpec : ChangeSpec := { name := "stealHalf", fn := fun _ => fun
  | [d1, d2] => { results := [.lit (.bool true)], args := [d1, d2] }
  | _ => none }
def stealHalfRow : OpenClaim := { program := "ytokpgbocomhpiaa", sum := "303932bf678cd38fcfacce840ad41fd40777c110b921477991ec0ca241d79dc2", func := "turnspit/turnspitlaw16.StealHalf", spec := "stealHalf", unfollowed := true, recurses := true, apart := false }
def StealHalfSaid : Prop := stealHalfRow.holds Try.pinned (OpenSpec.ofChange stealHalfSpec)

/-- ITS FALSE NEIGHBOUR: 'it returns false'. Refute it at one input. -/
def stealHalfWrong : ChangeSpec := { name := "stealHalf", fn := fun _ => fun
  | [d1, d2] => { results := [.lit (.bool false)], args := [d1, d2] }
  | _ => none }
def StealHalfWrongFalsely : Prop := stealHalfRow.holds Try.pinned (OpenSpec.ofChange stealHalfWrong)

/-- 'turnspitlaw11.GfreeGets': WHATEVER THE INPUT: true; the input reads as it did. -/
def gfreeGetsSpec : ChangeSpec := { name := "gfreeGets", fn := fun _ => fun
  | [d1, d2, d3] => { results := [.lit (.bool true)], args := [d1, d2, d3] }
  | _ => none }
def gfreeGetsRow : OpenClaim := { program := "ytokpgbocomhpiaa", sum := "303932bf678cd38fcfacce840ad41fd40777c110b921477991ec0ca241d79dc2", func := "turnspit/turnspitlaw11.GfreeGets", spec := "gfreeGets", unfollowed := true, recurses := true, apart := false }
def GfreeGetsSaid : Prop := gfreeGetsRow.holds Try.pinned (OpenSpec.ofChange gfreeGetsSpec)

/-- ITS FALSE NEIGHBOUR: 'it returns false'. Refute it at one input. -/
def gfreeGetsWrong : ChangeSpec := { name := "gfreeGets", fn := fun _ => fun
  | [d1, d2, d3] => { results := [.lit (.bool false)], args := [d1, d2, d3] }
  | _ => none }
def GfreeGetsWrongFalsely : Prop := gfreeGetsRow.holds Try.pinned (OpenSpec.ofChange gfreeGetsWrong)

/-- 'turnspitlaw11.GfreePuts': WHATEVER THE INPUT: true; the input reads as it did. -/
def gfreePutsSpec : ChangeSpec := { name := "gfreePuts", fn := fun _ => fun
  | [d1, d2, d3] => { results := [.lit (.bool true)], args := [d1, d2, d3] }
  | _ => none }
def gfreePutsRow : OpenClaim := { program := "ytokpgbocomhpiaa", sum := "303932bf678cd38fcfacce840ad41fd40777c110b921477991ec0ca241d79dc2", func := "turnspit/turnspitlaw11.GfreePuts", spec := "gfreePuts", unfollowed := true, recurses := true, apart := false }
def GfreePutsSaid : Prop := gfreePutsRow.holds Try.pinned (OpenSpec.ofChange gfreePutsSpec)

/-- ITS FALSE NEIGHBOUR: 'it returns false'. Refute it at one input. -/
def gfreePutsWrong : ChangeSpec := { name := "gfreePuts", fn := fun _ => fun
  | [d1, d2, d3] => { results := [.lit (.bool false)], args := [d1, d2, d3] }
  | _ => none }
def GfreePutsWrongFalsely : Prop := gfreePutsRow.holds Try.pinned (OpenSpec.ofChange gfreePutsWrong)

/-- 'turnspitlaw13.GlobqOrder': WHATEVER THE INPUT: true; the input reads as it did. -/
def globqOrderSpec : ChangeSpec := { name := "globqOrder", fn := fun _ => fun
  | [d1, d2] => { results := [.lit (.bool true)], args := [d1, d2] }
  | _ => none }
def globqOrderRow : OpenClaim := { program := "ytokpgbocomhpiaa", sum := "303932bf678cd38fcfacce840ad41fd40777c110b921477991ec0ca241d79dc2", func := "turnspit/turnspitlaw13.GlobqOrder", spec := "globqOrder", unfollowed := true, recurses := true, apart := false }
def GlobqOrderSaid : Prop := globqOrderRow.holds Try.pinned (OpenSpec.ofChange globqOrderSpec)

/-- ITS FALSE NEIGHBOUR: 'it returns false'. Refute it at one input. -/
def globqOrderWrong : ChangeSpec := { name := "globqOrder", fn := fun _ => fun
  | [d1, d2] => { results := [.lit (.bool false)], args := [d1, d2] }
  | _ => none }
def GlobqOrderWrongFalsely : Prop := globqOrderRow.holds Try.pinned (OpenSpec.ofChange globqOrderWrong)

/- THE SECOND FORM. 'bulk': how many values and letters a reading holds, each counted each time it is reached (what is shared counts as often as it is met; a slice's spare places count too). A statement '..UptoSaid' is the law's where the arguments, and the package variables that the reading takes, are together of bulk at most 1048576: NARROWER than '..Said'. Prove '..Said' where nothing that the law and all that it calls make is longer than what came in: it says more and counts as full. Else prove '..UptoSaid'. A law counts once. -/
mutual
def uptoBulk {H : Type} : DataW H → Nat
  | .lit (.string bytes) => bytes.length + 1
  | .lit _ => 1
  | .nil => 1
  | .ptr d => uptoBulk d + 1
  | .slice elems spare => uptoBulkAll elems + uptoBulkAll spare + 1
  | .agg parts => uptoBulkAll parts + 1
  | .iface _ d => uptoBulk d + 1
  | .map entries => uptoBulkEntries entries + 1
  | .held _ => 1
def uptoBulkAll {H : Type} : List (DataW H) → Nat
  | [] => 0
  | d :: r => uptoBulk d + uptoBulkAll r
def uptoBulkEntries {H : Type} : List (Lit × DataW H) → Nat
  | [] => 0
  | x :: r => uptoBulkEntry x + uptoBulkEntries r
def uptoBulkEntry {H : Type} : Lit × DataW H → Nat
  | (.string bytes, d) => bytes.length + uptoBulk d + 1
  | (_, d) => uptoBulk d + 1
 end
def uptoSmall : (H : Type) → List (DataW H) → Bool := fun _ ds => decide (uptoBulkAll ds ≤ 1048576)
def OpenSpec.upto (s : _root_.Go.ChangeSpec) : _root_.Go.OpenSpec := { _root_.Go.OpenSpec.ofChange s with cond := some uptoSmall }

/-- 'turnspitlaw08.LockNone', WHERE WHAT IT READS IS OF BULK AT MOST 1048576: true; the input reads as it did. -/
def lockNoneUptoRow : OpenClaim := { program := "ytokpgbocomhpiaa", sum := "303932bf678cd38fcfacce840ad41fd40777c110b921477991ec0ca241d79dc2", func := "turnspit/turnspitlaw08.LockNone", spec := "lockNone", unfollowed := true, recurses := true, apart := false, narrowed := true }
def LockNoneUptoSaid : Prop := lockNoneUptoRow.holds Try.pinned (OpenSpec.upto lockNoneSpec)

/-- 'turnspitlaw09.NoteKeeps', WHERE WHAT IT READS IS OF BULK AT MOST 1048576: true; the input reads as it did. -/
def noteKeepsUptoRow : OpenClaim := { program := "ytokpgbocomhpiaa", sum := "303932bf678cd38fcfacce840ad41fd40777c110b921477991ec0ca241d79dc2", func := "turnspit/turnspitlaw09.NoteKeeps", spec := "noteKeeps", unfollowed := true, recurses := true, apart := false, narrowed := true }
def NoteKeepsUptoSaid : Prop := noteKeepsUptoRow.holds Try.pinned (OpenSpec.upto noteKeepsSpec)

/-- 'turnspitlaw08.LockAlone', WHERE WHAT IT READS IS OF BULK AT MOST 1048576: true; the input reads as it did. -/
def lockAloneUptoRow : OpenClaim := { program := "ytokpgbocomhpiaa", sum := "303932bf678cd38fcfacce840ad41fd40777c110b921477991ec0ca241d79dc2", func := "turnspit/turnspitlaw08.LockAlone", spec := "lockAlone", unfollowed := true, recurses := true, apart := false, narrowed := true }
def LockAloneUptoSaid : Prop := lockAloneUptoRow.holds Try.pinned (OpenSpec.upto lockAloneSpec)

/-- 'turnspitlaw08.LockSteps', WHERE WHAT IT READS IS OF BULK AT MOST 1048576: true; the input reads as it did. -/
def lockStepsUptoRow : OpenClaim := { program := "ytokpgbocomhpiaa", sum := "303932bf678cd38fcfacce840ad41fd40777c110b921477991ec0ca241d79dc2", func := "turnspit/turnspitlaw08.LockSteps", spec := "lockSteps", unfollowed := true, recurses := true, apart := false, narrowed := true }
def LockStepsUptoSaid : Prop := lockStepsUptoRow.holds Try.pinned (OpenSpec.upto lockStepsSpec)

/-- 'turnspitlaw09.NoteSteps', WHERE WHAT IT READS IS OF BULK AT MOST 1048576: true; the input reads as it did. -/
def noteStepsUptoRow : OpenClaim := { program := "ytokpgbocomhpiaa", sum := "303932bf678cd38fcfacce840ad41fd40777c110b921477991ec0ca241d79dc2", func := "turnspit/turnspitlaw09.NoteSteps", spec := "noteSteps", unfollowed := true, recurses := true, apart := false, narrowed := true }
def NoteStepsUptoSaid : Prop := noteStepsUptoRow.holds Try.pinned (OpenSpec.upto noteStepsSpec)

/-- 'turnspitlaw09.NoteWakes', WHERE WHAT IT READS IS OF BULK AT MOST 1048576: true; the input reads as it did. -/
def noteWakesUptoRow : OpenClaim := { program := "ytokpgbocomhpiaa", sum := "303932bf678cd38fcfacce840ad41fd40777c110b921477991ec0ca241d79dc2", func := "turnspit/turnspitlaw09.NoteWakes", spec := "noteWakes", unfollowed := true, recurses := true, apart := false, narrowed := true }
def NoteWakesUptoSaid : Prop := noteWakesUptoRow.holds Try.pinned (OpenSpec.upto noteWakesSpec)

/-- 'turnspitlaw08.LockReleases', WHERE WHAT IT READS IS OF BULK AT MOST 1048576: true; the input reads as it did. -/
def lockReleasesUptoRow : OpenClaim := { program := "ytokpgbocomhpiaa", sum := "303932bf678cd38fcfacce840ad41fd40777c110b921477991ec0ca241d79dc2", func := "turnspit/turnspitlaw08.LockReleases", spec := "lockReleases", unfollowed := true, recurses := true, apart := false, narrowed := true }
def LockReleasesUptoSaid : Prop := lockReleasesUptoRow.holds Try.pinned (OpenSpec.upto lockReleasesSpec)

/-- 'turnspitlaw12.RingMany', WHERE WHAT IT READS IS OF BULK AT MOST 1048576: true; the input reads as it did. -/
def ringManyUptoRow : OpenClaim := { program := "ytokpgbocomhpiaa", sum := "303932bf678cd38fcfacce840ad41fd40777c110b921477991ec0ca241d79dc2", func := "turnspit/turnspitlaw12.RingMany", spec := "ringMany", unfollowed := true, recurses := true, apart := false, narrowed := true }
def RingManyUptoSaid : Prop := ringManyUptoRow.holds Try.pinned (OpenSpec.upto ringManySpec)

/-- 'turnspitlaw12.RingLooks', WHERE WHAT IT READS IS OF BULK AT MOST 1048576: true; the input reads as it did. -/
def ringLooksUptoRow : OpenClaim := { program := "ytokpgbocomhpiaa", sum := "303932bf678cd38fcfacce840ad41fd40777c110b921477991ec0ca241d79dc2", func := "turnspit/turnspitlaw12.RingLooks", spec := "ringLooks", unfollowed := true, recurses := true, apart := false, narrowed := true }
def RingLooksUptoSaid : Prop := ringLooksUptoRow.holds Try.pinned (OpenSpec.upto ringLooksSpec)

/-- 'turnspitlaw18.IdlemMany', WHERE WHAT IT READS IS OF BULK AT MOST 1048576: true; the input reads as it did. -/
def idlemManyUptoRow : OpenClaim := { program := "ytokpgbocomhpiaa", sum := "303932bf678cd38fcfacce840ad41fd40777c110b921477991ec0ca241d79dc2", func := "turnspit/turnspitlaw18.IdlemMany", spec := "idlemMany", unfollowed := true, recurses := true, apart := false, narrowed := true }
def IdlemManyUptoSaid : Prop := idlemManyUptoRow.holds Try.pinned (OpenSpec.upto idlemManySpec)

/-- 'turnspitlaw17.IdlepBits', WHERE WHAT IT READS IS OF BULK AT MOST 1048576: true; the input reads as it did. -/
def idlepBitsUptoRow : OpenClaim := { program := "ytokpgbocomhpiaa", sum := "303932bf678cd38fcfacce840ad41fd40777c110b921477991ec0ca241d79dc2", func := "turnspit/turnspitlaw17.IdlepBits", spec := "idlepBits", unfollowed := true, recurses := true, apart := false, narrowed := true }
def IdlepBitsUptoSaid : Prop := idlepBitsUptoRow.holds Try.pinned (OpenSpec.upto idlepBitsSpec)

/-- 'turnspitlaw17.IdlepPile', WHERE WHAT IT READS IS OF BULK AT MOST 1048576: true; the input reads as it did. -/
def idlepPileUptoRow : OpenClaim := { program := "ytokpgbocomhpiaa", sum := "303932bf678cd38fcfacce840ad41fd40777c110b921477991ec0ca241d79dc2", func := "turnspit/turnspitlaw17.IdlepPile", spec := "idlepPile", unfollowed := true, recurses := true, apart := false, narrowed := true }
def IdlepPileUptoSaid : Prop := idlepPileUptoRow.holds Try.pinned (OpenSpec.upto idlepPileSpec)

/-- 'turnspitlaw15.RgetSteps', WHERE WHAT IT READS IS OF BULK AT MOST 1048576: true; the input reads as it did. -/
def rgetStepsUptoRow : OpenClaim := { program := "ytokpgbocomhpiaa", sum := "303932bf678cd38fcfacce840ad41fd40777c110b921477991ec0ca241d79dc2", func := "turnspit/turnspitlaw15.RgetSteps", spec := "rgetSteps", unfollowed := true, recurses := true, apart := false, narrowed := true }
def RgetStepsUptoSaid : Prop := rgetStepsUptoRow.holds Try.pinned (OpenSpec.upto rgetStepsSpec)

/-- 'turnspitlaw18.IdlemPuts', WHERE WHAT IT READS IS OF BULK AT MOST 1048576: true; the input reads as it did. -/
def idlemPutsUptoRow : OpenClaim := { program := "ytokpgbocomhpiaa", sum := "303932bf678cd38fcfacce840ad41fd40777c110b921477991ec0ca241d79dc2", func := "turnspit/turnspitlaw18.IdlemPuts", spec := "idlemPuts", unfollowed := true, recurses := true, apart := false, narrowed := true }
def IdlemPutsUptoSaid : Prop := idlemPutsUptoRow.holds Try.pinned (OpenSpec.upto idlemPutsSpec)

/-- 'turnspitlaw17.IdlepGets', WHERE WHAT IT READS IS OF BULK AT MOST 1048576: true; the input reads as it did. -/
def idlepGetsUptoRow : OpenClaim := { program := "ytokpgbocomhpiaa", sum := "303932bf678cd38fcfacce840ad41fd40777c110b921477991ec0ca241d79dc2", func := "turnspit/turnspitlaw17.IdlepGets", spec := "idlepGets", unfollowed := true, recurses := true, apart := false, narrowed := true }
def IdlepGetsUptoSaid : Prop := idlepGetsUptoRow.holds Try.pinned (OpenSpec.upto idlepGetsSpec)

/-- 'turnspitlaw18.IdlemGets', WHERE WHAT IT READS IS OF BULK AT MOST 1048576: true; the input reads as it did. -/
def idlemGetsUptoRow : OpenClaim := { program := "ytokpgbocomhpiaa", sum := "303932bf678cd38fcfacce840ad41fd40777c110b921477991ec0ca241d79dc2", func := "turnspit/turnspitlaw18.IdlemGets", spec := "idlemGets", unfollowed := true, recurses := true, apart := false, narrowed := true }
def IdlemGetsUptoSaid : Prop := idlemGetsUptoRow.holds Try.pinned (OpenSpec.upto idlemGetsSpec)

/-- 'turnspitlaw17.IdlepPuts', WHERE WHAT IT READS IS OF BULK AT MOST 1048576: true; the input reads as it did. -/
def idlepPutsUptoRow : OpenClaim := { program := "ytokpgbocomhpiaa", sum := "303932bf678cd38fcfacce840ad41fd40777c110b921477991ec0ca241d79dc2", func := "turnspit/turnspitlaw17.IdlepPuts", spec := "idlepPuts", unfollowed := true, recurses := true, apart := false, narrowed := true }
def IdlepPutsUptoSaid : Prop := idlepPutsUptoRow.holds Try.pinned (OpenSpec.upto idlepPutsSpec)

/-- 'turnspitlaw11.GfreeMany', WHERE WHAT IT READS IS OF BULK AT MOST 1048576: true; the input reads as it did. -/
def gfreeManyUptoRow : OpenClaim := { program := "ytokpgbocomhpiaa", sum := "303932bf678cd38fcfacce840ad41fd40777c110b921477991ec0ca241d79dc2", func := "turnspit/turnspitlaw11.GfreeMany", spec := "gfreeMany", unfollowed := true, recurses := true, apart := false, narrowed := true }
def GfreeManyUptoSaid : Prop := gfreeManyUptoRow.holds Try.pinned (OpenSpec.upto gfreeManySpec)

/-- 'turnspitlaw16.StealHalf', WHERE WHAT IT READS IS OF BULK AT MOST 1048576: true; the input reads as it did. -/
def stealHalfUptoRow : OpenClaim := { program := "ytokpgbocomhpiaa", sum := "303932bf678cd38fcfacce840ad41fd40777c110b921477991ec0ca241d79dc2", func := "turnspit/turnspitlaw16.StealHalf", spec := "stealHalf", unfollowed := true, recurses := true, apart := false, narrowed := true }
def StealHalfUptoSaid : Prop := stealHalfUptoRow.holds Try.pinned (OpenSpec.upto stealHalfSpec)

/-- 'turnspitlaw11.GfreeGets', WHERE WHAT IT READS IS OF BULK AT MOST 1048576: true; the input reads as it did. -/
def gfreeGetsUptoRow : OpenClaim := { program := "ytokpgbocomhpiaa", sum := "303932bf678cd38fcfacce840ad41fd40777c110b921477991ec0ca241d79dc2", func := "turnspit/turnspitlaw11.GfreeGets", spec := "gfreeGets", unfollowed := true, recurses := true, apart := false, narrowed := true }
def GfreeGetsUptoSaid : Prop := gfreeGetsUptoRow.holds Try.pinned (OpenSpec.upto gfreeGetsSpec)

/-- 'turnspitlaw11.GfreePuts', WHERE WHAT IT READS IS OF BULK AT MOST 1048576: true; the input reads as it did. -/
def gfreePutsUptoRow : OpenClaim := { program := "ytokpgbocomhpiaa", sum := "303932bf678cd38fcfacce840ad41fd40777c110b921477991ec0ca241d79dc2", func := "turnspit/turnspitlaw11.GfreePuts", spec := "gfreePuts", unfollowed := true, recurses := true, apart := false, narrowed := true }
def GfreePutsUptoSaid : Prop := gfreePutsUptoRow.holds Try.pinned (OpenSpec.upto gfreePutsSpec)

/-- 'turnspitlaw13.GlobqOrder', WHERE WHAT IT READS IS OF BULK AT MOST 1048576: true; the input reads as it did. -/
def globqOrderUptoRow : OpenClaim := { program := "ytokpgbocomhpiaa", sum := "303932bf678cd38fcfacce840ad41fd40777c110b921477991ec0ca241d79dc2", func := "turnspit/turnspitlaw13.GlobqOrder", spec := "globqOrder", unfollowed := true, recurses := true, apart := false, narrowed := true }
def GlobqOrderUptoSaid : Prop := globqOrderUptoRow.holds Try.pinned (OpenSpec.upto globqOrderSpec)

end Rows
end Go.Proofs.Ytokpgbocomhpiaa
