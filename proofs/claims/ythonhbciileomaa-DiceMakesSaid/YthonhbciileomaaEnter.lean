/- The row's closed facts on how the program was cut, one by one (all at once they want too much memory). -/
import Derived.Test.YthonhbciileomaaRows
import Derived.JoinedOf
import Derived.WalkKit
import Derived.ProofKit
namespace Go.Proofs.Ythonhbciileomaa.Enter
theorem strip_cut (rest : List (List Char)) : stripLifts liftWords (['c', 'u', 't'] :: rest) = ([], ['c', 'u', 't'] :: rest) := by rfl
theorem make_cut (P : Program) (rest : List (List Char)) (h : behindMainWord (wordsSigns P.initOrder.toList) = ['c', 'u', 't'] :: rest) : P.make = some .cut := by
  unfold Program.make
  rw [h]
  rfl
theorem lifts_cut (P : Program) (rest : List (List Char)) (h : behindMainWord (wordsSigns P.initOrder.toList) = ['c', 'u', 't'] :: rest) : P.liftsFinal = false := by
  unfold Program.liftsFinal Program.headLifts
  rw [h, strip_cut]
  rfl
theorem enter_cut (P : Program) (rest : List (List Char)) (h : behindMainWord (wordsSigns P.initOrder.toList) = ['c', 'u', 't'] :: rest) (h1 : P.laysLater = false) (h2 : P.bearsReflect = false) (h3 : P.doorFits [] = true) : P.mayEnter = true := by
  unfold Program.mayEnter
  rw [h]
  simp only [strip_cut, h1, h2, h3]
  rfl
theorem io : Try.prog.initOrder = String.ofList ['h', 'a', 'r', 'n', 'e', 's', 's', ' ', '0', '7', 'b', '3', '1', 'd', 'c', 'a', 'c', '6', 'a', 'a', 'c', '1', '0', '7', 'f', '9', '8', 'b', 'f', '5', '6', '7', '4', '8', 'f', '0', 'a', '7', '6', 'a', 'b', '4', 'd', 'b', '6', '2', '0', '3', 'f', 'd', 'b', 'e', 'c', 'd', 'c', 'f', '2', '3', '4', 'a', '7', 'e', 'b', 'a', '5', '3', '0', '8', '3', '3', '1', '1', ' ', 'c', 'u', 't', ' ', 'a', 't', ' ', 't', 'u', 'r', 'n', 's', 'p', 'i', 't', '/', 't', 'u', 'r', 'n', 's', 'p', 'i', 't', 'l', 'a', 'w', '3', '8', '.', 'D', 'i', 'c', 'e', 'M', 'a', 'k', 'e', 's'] := by kernel_rfl
theorem cs : wordsSigns ['h', 'a', 'r', 'n', 'e', 's', 's', ' ', '0', '7', 'b', '3', '1', 'd', 'c', 'a', 'c', '6', 'a', 'a', 'c', '1', '0', '7', 'f', '9', '8', 'b', 'f', '5', '6', '7', '4', '8', 'f', '0', 'a', '7', '6', 'a', 'b', '4', 'd', 'b', '6', '2', '0', '3', 'f', 'd', 'b', 'e', 'c', 'd', 'c', 'f', '2', '3', '4', 'a', '7', 'e', 'b', 'a', '5', '3', '0', '8', '3', '3', '1', '1', ' ', 'c', 'u', 't', ' ', 'a', 't', ' ', 't', 'u', 'r', 'n', 's', 'p', 'i', 't', '/', 't', 'u', 'r', 'n', 's', 'p', 'i', 't', 'l', 'a', 'w', '3', '8', '.', 'D', 'i', 'c', 'e', 'M', 'a', 'k', 'e', 's'] = [['h', 'a', 'r', 'n', 'e', 's', 's'], ['0', '7', 'b', '3', '1', 'd', 'c', 'a', 'c', '6', 'a', 'a', 'c', '1', '0', '7', 'f', '9', '8', 'b', 'f', '5', '6', '7', '4', '8', 'f', '0', 'a', '7', '6', 'a', 'b', '4', 'd', 'b', '6', '2', '0', '3', 'f', 'd', 'b', 'e', 'c', 'd', 'c', 'f', '2', '3', '4', 'a', '7', 'e', 'b', 'a', '5', '3', '0', '8', '3', '3', '1', '1'], ['c', 'u', 't'], ['a', 't'], ['t', 'u', 'r', 'n', 's', 'p', 'i', 't', '/', 't', 'u', 'r', 'n', 's', 'p', 'i', 't', 'l', 'a', 'w', '3', '8', '.', 'D', 'i', 'c', 'e', 'M', 'a', 'k', 'e', 's']] := by kernel_rfl
theorem bw : behindMainWord [['h', 'a', 'r', 'n', 'e', 's', 's'], ['0', '7', 'b', '3', '1', 'd', 'c', 'a', 'c', '6', 'a', 'a', 'c', '1', '0', '7', 'f', '9', '8', 'b', 'f', '5', '6', '7', '4', '8', 'f', '0', 'a', '7', '6', 'a', 'b', '4', 'd', 'b', '6', '2', '0', '3', 'f', 'd', 'b', 'e', 'c', 'd', 'c', 'f', '2', '3', '4', 'a', '7', 'e', 'b', 'a', '5', '3', '0', '8', '3', '3', '1', '1'], ['c', 'u', 't'], ['a', 't'], ['t', 'u', 'r', 'n', 's', 'p', 'i', 't', '/', 't', 'u', 'r', 'n', 's', 'p', 'i', 't', 'l', 'a', 'w', '3', '8', '.', 'D', 'i', 'c', 'e', 'M', 'a', 'k', 'e', 's']] = ['c', 'u', 't'] :: [['a', 't'], ['t', 'u', 'r', 'n', 's', 'p', 'i', 't', '/', 't', 'u', 'r', 'n', 's', 'p', 'i', 't', 'l', 'a', 'w', '3', '8', '.', 'D', 'i', 'c', 'e', 'M', 'a', 'k', 'e', 's']] := by kernel_rfl
theorem words : behindMainWord (wordsSigns Try.prog.initOrder.toList) = ['c', 'u', 't'] :: [['a', 't'], ['t', 'u', 'r', 'n', 's', 'p', 'i', 't', '/', 't', 'u', 'r', 'n', 's', 'p', 'i', 't', 'l', 'a', 'w', '3', '8', '.', 'D', 'i', 'c', 'e', 'M', 'a', 'k', 'e', 's']] := by
  rw [io, String.toList_ofList, cs, bw]
theorem mayE : Program.mayEnter Try.pinned.checked.prog = true := enter_cut Try.prog _ words (by kernel_rfl) (by kernel_rfl) (by kernel_rfl)
theorem lifts : Program.liftsFinal Try.pinned.checked.prog = false := lifts_cut Try.prog _ words
theorem mk : Program.make Try.pinned.checked.prog = some .cut := make_cut Try.prog _ words
end Go.Proofs.Ythonhbciileomaa.Enter
