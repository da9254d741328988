/- The notes' example. -/
import Derived.Test.YtokpgbocomhpiaaNoteB
import Derived.Test.YtokpgbocomhpiaaLockD
set_option maxRecDepth 100000
set_option maxHeartbeats 4000000
set_option linter.unusedVariables false
set_option linter.unusedSimpArgs false
namespace Go.Proofs.Ytokpgbocomhpiaa.Note
open Go.RowKit Go.Shelf Go.Proofs.Ytokpgbocomhpiaa.TK Go.Proofs.Ytokpgbocomhpiaa.Flag Go.Proofs.Ytokpgbocomhpiaa.Words Go.Proofs.Ytokpgbocomhpiaa.Mem Go.Proofs.Ytokpgbocomhpiaa.Flow Go.Proofs.Ytokpgbocomhpiaa.Layout Go.Proofs.Ytokpgbocomhpiaa.Run Go.Proofs.Ytokpgbocomhpiaa.Lock
def n0 : St := fresh (layW (lenOf 1 1 1) [])
def n1 : SlSt × St := (SlSt.waits false).step (nt 1 1 0) 0 n0
def n2 : St := (n1.2.acc 2 0 (nt 1 1 0) 0 1).1
def n3 : SlSt × St := n1.1.step (nt 1 1 0) 0 n2
def n4 : SlSt × St := n3.1.step (nt 1 1 0) 0 n3.2
theorem few111 : FewP 1 1 1 := by unfold FewP Right; omega
theorem ex_run : n1.1.over = false ∧ n1.1.asleep (nt 1 1 0) n1.2 = true ∧ decide ((n2.peek (nt 1 1 0)).1 ≠ 0) = true ∧ n1.1.asleep (nt 1 1 0) n2 = false ∧ n3.1.over = false ∧ n4.1.over = true ∧ decide ((n4.2.peek (nt 1 1 0)).1 ≠ 0) = false
    ∧ n0.clock = 0 ∧ n0.bad = 0 ∧ n1.2.clock = 1 ∧ n1.2.bad = 0 ∧ n2.clock = 2 ∧ n2.bad = 0 ∧ n3.2.clock = 3 ∧ n3.2.bad = 0 := by
  refine ⟨?_, ?_, ?_, ?_, ?_, ?_, ?_, ?_, ?_, ?_, ?_, ?_, ?_, ?_, ?_⟩ <;> decide +kernel
theorem awake_run (w : World) : Calls Try.prog 31 #[] w fun e w' => e = .returned (.bool true) ∧ Below w.heap.size w w' := by
  obtain ⟨e1, e2, e3, e4, e5, e6, e7, e8, e9, e10, e11, e12, e13, e14, e15⟩ := ex_run
  have HE := hid (show _ ∧ _ ∧ _ ∧ _ ∧ _ ∧ _ ∧ _ from ⟨e1, e2, e3, e4, e5, e6, e7⟩)
  clear e1 e2 e3 e4 e5 e6 e7
  go_enter Try.func31, Try.ntmps31
  go_wp2_with fail
  refine (lay_yes 1 1 1 none 0 [] _ few111 (by simp) ?_ (by simp)).mono ?_
  · intro i hi; simp at hi
  rintro e w1 ⟨l, m, g, rm, rg, rfl, hL⟩
  have hM : MemAt w1 m g n0 := hL.mem
  have hLay := hL.lay
  have hlow := hL.low
  obtain ⟨q1, q2, q3, q4, q5⟩ := hL.low5
  clear hL
  go_wp2_with fail
  refine (nnew_run l 1 1 1 0 w1 hLay).mono ?_
  rintro e w2 ⟨rfl, hA, hb⟩
  replace hM := hM.quiet hb
  replace hLay := hLay.quiet hb
  have hlow2 := hlow.trans (hb.mono hlow.size)
  have hA : SlAt w2 w1.heap.size (nt 1 1 0) 0 (.waits false) := hA
  have q6 := hlow.size
  generalize w1.heap.size = x at *
  clear hlow hb
  go_wp2_with fail
  refine (nstep_run x m g _ 0 _ n0 w2 hA hM (by omega) (by omega)).mono ?_
  rintro e w3 ⟨rfl, hA3, hM3, hK3⟩
  have hlx : l ∉ [x, m, g] := by
    obtain ⟨f, hf, _⟩ := hA.fl
    have a1 := Blk.ne hLay.1 hf (by decide)
    have a2 := hM.neT hLay.1 (by decide)
    have a3 := hM.neG hLay.1 (by decide)
    simp [a1, a2, a3]
  replace hLay := hLay.kept hK3 hlx
  have hlow3 : Below w.heap.size w w3 := below_kept hlow2 hK3 (by simp; omega) hlow2.size
  change SlAt w3 x (nt 1 1 0) 0 n1.1 at hA3
  change MemAt w3 m g n1.2 at hM3
  rw [show ((SlSt.waits false).step (nt 1 1 0) 0 n0).1.over = false from HE.out.1]
  clear hA hM hK3 hlow2
  go_wp2_with fail
  refine (nasleep_run x m g _ 0 _ _ w3 hA3 hM3).mono ?_
  rintro e w4 ⟨rfl, rfl⟩
  rw [HE.out.2.1]
  go_wp2_with fail
  refine (nwake_run l 1 1 1 0 0 w3 hLay).mono ?_
  rintro e w4 ⟨rfl, hW, hb⟩
  replace hM3 := hM3.quiet hb
  replace hLay := hLay.quiet hb
  replace hA3 := hA3.quiet hb
  have hlow4 := hlow3.trans (hb.mono hlow3.size)
  have hW : WkAt w4 w3.heap.size (nt 1 1 0) 0 false := hW
  have q7 := hlow3.size
  generalize w3.heap.size = y at *
  clear hlow3 hb
  go_wp2_with fail
  refine (wstep_run y m g _ 0 _ w4 hW hM3 (by omega) (by omega)).mono ?_
  rintro e w5 ⟨rfl, hW5, hM5, hK5⟩
  obtain ⟨fx, hfx, _⟩ := hA3.fl
  obtain ⟨fy, hfy, _⟩ := hW.fl
  have hxy : x ≠ y := Blk.ne hfx hfy (by decide)
  have hly : l ≠ y := Blk.ne hLay.1 hfy (by decide)
  have hlx' : l ≠ x := Blk.ne hLay.1 hfx (by decide)
  have hS : ∀ i ∈ [y, m, g], ∀ cs, ¬ Blk w4 i cs 1 := by
    obtain ⟨cap, spare, z1, z2, z3⟩ := hM3.ex
    intro i hi
    simp at hi
    rcases hi with rfl | rfl | rfl
    · exact blk_not hfy (by decide)
    · exact blk_not z1 (by decide)
    · exact blk_not z2 (by decide)
  have hxm := hM3.neT hfx (by decide)
  have hxg := hM3.neG hfx (by decide)
  have hlm := hM3.neT hLay.1 (by decide)
  have hlg := hM3.neG hLay.1 (by decide)
  replace hA3 := hA3.kept hK5 (by simp [hxy, hxm, hxg]) hS
  replace hLay := hLay.kept hK5 (by simp [hly, hlm, hlg])
  have hlow5 : Below w.heap.size w w5 := below_kept hlow4 hK5 (by simp; omega) hlow4.size
  change MemAt w5 m g n2 at hM5
  clear hfx hfy hS hK5 hlow4 hM3 hW
  go_wp2_with fail
  refine (nawake_run l m g 1 1 1 0 _ w5 hLay hM5).mono ?_
  rintro e w6 ⟨rfl, hb⟩
  rw [HE.out.2.2.1]
  replace hM5 := hM5.quiet hb
  replace hLay := hLay.quiet hb
  replace hA3 := hA3.quiet hb
  have hlow6 := hlow5.trans (hb.mono hlow5.size)
  clear hlow5 hb
  go_wp2_with fail
  refine (nasleep_run x m g _ 0 _ _ w6 hA3 hM5).mono ?_
  rintro e w7 ⟨rfl, rfl⟩
  rw [HE.out.2.2.2.1]
  go_wp2_with fail
  refine (nstep_run x m g _ 0 _ _ w6 hA3 hM5 (by omega) (by omega)).mono ?_
  rintro e w7 ⟨rfl, hA7, hM7, hK7⟩
  change SlAt w7 x (nt 1 1 0) 0 n3.1 at hA7
  change MemAt w7 m g n3.2 at hM7
  rw [show (n1.1.step (nt 1 1 0) 0 n2).1.over = false from HE.out.2.2.2.2.1]
  replace hLay := hLay.kept hK7 (by simp [hlx', hlm, hlg])
  have hlow7 : Below w.heap.size w w7 := below_kept hlow6 hK7 (by simp; omega) hlow6.size
  clear hlow6 hK7 hA3 hM5
  go_wp2_with fail
  refine (nstep_run x m g _ 0 _ _ w7 hA7 hM7 (by omega) (by omega)).mono ?_
  rintro e w8 ⟨rfl, hA8, hM8, hK8⟩
  change MemAt w8 m g n4.2 at hM8
  rw [show (n3.1.step (nt 1 1 0) 0 n3.2).1.over = true from HE.out.2.2.2.2.2.1]
  replace hLay := hLay.kept hK8 (by simp [hlx', hlm, hlg])
  have hlow8 : Below w.heap.size w w8 := below_kept hlow7 hK8 (by simp; omega) hlow7.size
  clear hlow7 hK8 hA8 hA7 hM7
  go_wp2_with fail
  refine (nawake_run l m g 1 1 1 0 _ w8 hLay hM8).mono ?_
  rintro e w9 ⟨rfl, hb⟩
  rw [HE.out.2.2.2.2.2.2]
  go_wp2
  go_ret
  exact ⟨rfl, hlow8.trans (hb.mono hlow8.size)⟩
end Go.Proofs.Ytokpgbocomhpiaa.Note
