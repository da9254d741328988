/- A thread comes to rest: the example. -/
import Derived.Test.YtlhnnggceebpjaaGreatRestC
import Derived.Test.YtlhnnggceebpjaaGreatListM
set_option maxRecDepth 100000
set_option maxHeartbeats 4000000
set_option linter.unusedVariables false
set_option linter.unusedSimpArgs false
namespace Go.Proofs.YtlhnnggceebpjaaGreat.Rest
open Go.RowKit Go.Shelf Go.Proofs.YtlhnnggceebpjaaGreat.TK Go.Proofs.YtlhnnggceebpjaaGreat.Flag Go.Proofs.YtlhnnggceebpjaaGreat.Read Go.Proofs.YtlhnnggceebpjaaGreat.Grow Go.Proofs.YtlhnnggceebpjaaGreat.Words Go.Proofs.YtlhnnggceebpjaaGreat.Mem Go.Proofs.YtlhnnggceebpjaaGreat.Flow Go.Proofs.YtlhnnggceebpjaaGreat.Layout Go.Proofs.YtlhnnggceebpjaaGreat.Lock Go.Proofs.YtlhnnggceebpjaaGreat.Run Go.Proofs.YtlhnnggceebpjaaGreat.Sys Go.Proofs.YtlhnnggceebpjaaGreat.Mach Go.Proofs.YtlhnnggceebpjaaGreat.Ref05 Go.Proofs.YtlhnnggceebpjaaGreat.Subs Go.Proofs.YtlhnnggceebpjaaGreat.Note Go.Proofs.YtlhnnggceebpjaaGreat.Idlem
open Go.Proofs.YtlhnnggceebpjaaGreat.Ring (after after_clock)
def sR : St := fresh (layW (lenOf 1 2 1) [])
def rend : RsSt × St := after (rsY 1 2 1) 1 (.aq .ask) sR 20
theorem few121 : FewP 1 2 1 := by unfold FewP Right; omega
theorem rex_end : rend.1 = .np none (.sl (.waits true)) := by kernel_rfl
theorem rex_run : mlst rend.2 1 2 = ([1], true) ∧ rsA 1 2 1 (.np none (.sl (.waits true))) rend.2 = true ∧ sR.clock = 0 ∧ sR.bad = 0 := by
  refine ⟨?_, ?_, ?_, ?_⟩ <;> decide +kernel
theorem lit1R (w : World) (a : Int) : RowOf (encI .i64) 1 (w.alloc (.cells #[.int .i64 a] 3)) (some ⟨w.heap.size, 0, none⟩) [a] := by
  have hnew := Blk.new w [.int .i64 a] 3
  intro i hi
  refine ⟨_, rfl, ?_⟩
  intro j v hv
  have hj : j = 0 := by
    have := (List.getElem?_eq_some_iff.1 hv).1
    simp [encI] at this
    exact this
  subst hj
  have hi0 : i = 0 := by simp at hi; omega
  subst hi0
  rw [show (⟨w.heap.size, 0, none⟩ : Addr).add (0 * 1 + 0) = ⟨w.heap.size, 0, none⟩ by unfold Addr.add; simp]
  exact (hnew.cell _).trans hv
theorem awake_run (w : World) : Calls Tryz.prog 19 #[] w fun e w' => e = .returned (.bool true) ∧ Below w.heap.size w w' := by
  have HE := hid rex_run
  go_enter Tryz.func19, Tryz.ntmps19
  go_wp2_with fail
  refine (lay_yes 1 2 1 none 0 [] _ few121 (by simp) ?_ (by simp)).mono ?_
  · intro i hi; simp at hi
  rintro e w1 ⟨l, m, g, rm, rg, rfl, hL⟩
  have HQ := hid (show w.heap.size ≤ m ∧ w.heap.size ≤ g from ⟨hL.low5.2.1, hL.low5.2.2.1⟩)
  obtain ⟨sX, hsX⟩ : ∃ z, z = sR := ⟨_, rfl⟩
  have HX := hid hsX
  have HC := hid (show sX.clock = 0 ∧ sX.bad = 0 by rw [hsX]; exact HE.out.2.2)
  have HI := hid (show Lay w1 l 1 2 1 ∧ MemAt w1 m g sX ∧ Below w.heap.size w w1 from ⟨hL.lay, by rw [hsX]; exact hL.mem, hL.low⟩)
  clear hL hsX
  go_wp2_with fail
  refine (rs_made w.heap.size l 1 2 1 1 w1 (by omega) HI.out.1 HI.out.2.2.size).mono ?_
  rintro e w2 ⟨rfl, hA, hb⟩
  have HI := hid (show (rsM w.heap.size l 1 2 1 1).at_ w.heap.size l w1.heap.size 1 2 1 1 w2 (after (rsY 1 2 1) 1 (.aq .ask) sX 0).1 ∧ MemAt w2 m g (after (rsY 1 2 1) 1 (.aq .ask) sX 0).2 ∧ Below w.heap.size w w2 from ⟨hA, HI.out.2.1.quiet hb, HI.out.2.2.trans (hb.mono HI.out.2.2.size)⟩)
  obtain ⟨y, hy⟩ : ∃ y, y = w1.heap.size := ⟨_, rfl⟩
  rw [← hy] at HI ⊢
  clear hA hb hy
  go_wp2_with fail
  go_loopw [6] (fun i wr => ∃ j : Nat, j ≤ 20 ∧ i = .int .i64 (j : Int) ∧ (rsM w.heap.size l 1 2 1 1).at_ w.heap.size l y 1 2 1 1 wr (after (rsY 1 2 1) 1 (.aq .ask) sX j).1 ∧ MemAt wr m g (after (rsY 1 2 1) 1 (.aq .ask) sX j).2 ∧ Below w.heap.size w wr) (fun i _ => 20 - (intOf i).toNat)
  case atStart => exact ⟨0, by omega, rfl, HI.out⟩
  case round =>
    clear HI
    obtain ⟨j, hj, rfl, hI⟩ := hrel
    have HI := hid hI
    clear hI
    by_cases hlt2 : j < 20
    · have hltj : decide ((j : Int) < 20) = true := decide_eq_true (by omega)
      have hcl := after_clock (rsY 1 2 1) 1 (.aq .ask) sX j
      have hc0 := HC.out
      go_wp2_with fail
      refine (mz_stepL rs_thru (rs_goes w.heap.size l y 1 2 1 1 (by omega)) HI.out.1 HI.out.2.1 (by omega) (by omega)).mono ?_
      rintro e w6 ⟨⟨bb, rfl⟩, hA6, hM6, hK6⟩
      have HI6 := hid (And.intro hA6 (And.intro hM6 (keptOwn_low hK6 HI.out.2.2 HQ.out.1 HQ.out.2 HI.out.2.2.size)))
      clear hA6 hM6 hK6 HI hcl hc0
      go_wp2_with fail
      go_roundw
      case rel => exact ⟨j + 1, by omega, by go_num, HI6.out⟩
      case measure => simp [intOf]; omega
    · obtain rfl : j = 20 := by omega
      have hltj : decide ((20 : Int) < 20) = false := by decide
      have hA : (rsM w.heap.size l 1 2 1 1).at_ w.heap.size l y 1 2 1 1 wr (.np none (.sl (.waits true))) := by have := HI.out.1; rw [HX.out] at this; rw [← rex_end]; exact this
      have hM : MemAt wr m g rend.2 := by have := HI.out.2.1; rw [HX.out] at this; exact this
      obtain ⟨sE, hsE⟩ : ∃ z, z = rend.2 := ⟨_, rfl⟩
      have hF := HE.out
      rw [← hsE] at hM hF
      have HF := hid (And.intro hF.1 hF.2.1)
      have HI := hid (And.intro hA (And.intro hM HI.out.2.2))
      have HLS := hid (mlist_run l m g 1 2 1 sE wr HI.out.1.2.2.1 HI.out.2.1)
      rw [HF.out.1] at HLS
      clear hA hM hsE hF HX HC HE
      go_wp2_with fail
      refine HLS.out.mono ?_
      rintro e w7 ⟨a7, c7, rfl, hrow7, hb7⟩
      have HI := hid (show (rsM w.heap.size l 1 2 1 1).at_ w.heap.size l y 1 2 1 1 w7 (.np none (.sl (.waits true))) ∧ MemAt w7 m g sE ∧ Below w.heap.size w w7 ∧ RowOf (encI .i64) 1 w7 a7 [1] from ⟨(mz_of (K := rsM w.heap.size l 1 2 1 1) (lo := w.heap.size) (l := l) (p := 1) (t := 2) (g := 1) (who := 1) (x := y) (fun y _ => rs_goes w.heap.size l y 1 2 1 1 (by omega)) (rs_own w.heap.size l 1 2 1 1)).quiet HI.out.1 hb7, HI.out.2.1.quiet hb7, Below.then_ HI.out.2.2 hb7, hrow7⟩)
      clear hrow7 hb7 HLS
      go_wp2_with (first | (go_at_call 23; have q := rs_asl_run HI.out.1 HI.out.2.1 (fun o z h => by cases h); rw [HF.out.2] at q; refine q.mono ?_; rintro e w8 ⟨rfl, rfl⟩) | (go_at_call 26; have q2 := mz_doneL rs_thruD (rs_goes w.heap.size l y 1 2 1 1 (by omega)) HI.out.1; rw [show ((rsM w.heap.size l 1 2 1 1).sys.want (.np none (.sl (.waits true)))).isNone = false from rfl] at q2; refine q2.mono ?_; rintro e w9 ⟨rfl, rfl⟩) | (go_at_call 47; refine (Idlem.same12_run a7 _ c7 _ [1] _ (HI.out.2.2.2.quiet (below_one _ _)) (lit1R _ 1) (by simp)).mono ?_; rintro e w10 ⟨rfl, hb⟩; replace HI := hid (Below.then_ HI.out.2.2.1 ((below_one w7 (.cells #[.int .i64 1] 3)).trans (hb.mono (by simp))))))
      go_ret
      exact ⟨rfl, HI.out⟩
end Go.Proofs.YtlhnnggceebpjaaGreat.Rest
