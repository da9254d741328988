/- A processor is handed over: the example. -/
import Derived.Test.YtncmajflakkibaaGreatHandD
import Derived.Test.YtncmajflakkibaaGreatWakeWordsW
set_option maxRecDepth 100000
set_option maxHeartbeats 4000000
set_option linter.unusedVariables false
set_option linter.unusedSimpArgs false
namespace Go.Proofs.YtncmajflakkibaaGreat.Hand
open Go.RowKit Go.Shelf Go.Proofs.YtncmajflakkibaaGreat.TK Go.Proofs.YtncmajflakkibaaGreat.Flag Go.Proofs.YtncmajflakkibaaGreat.Read Go.Proofs.YtncmajflakkibaaGreat.Grow Go.Proofs.YtncmajflakkibaaGreat.Words Go.Proofs.YtncmajflakkibaaGreat.Mem Go.Proofs.YtncmajflakkibaaGreat.Flow Go.Proofs.YtncmajflakkibaaGreat.Layout Go.Proofs.YtncmajflakkibaaGreat.Lock Go.Proofs.YtncmajflakkibaaGreat.Run Go.Proofs.YtncmajflakkibaaGreat.Sys Go.Proofs.YtncmajflakkibaaGreat.Mach Go.Proofs.YtncmajflakkibaaGreat.Doc Go.Proofs.YtncmajflakkibaaGreat.Ref05 Go.Proofs.YtncmajflakkibaaGreat.Subs Go.Proofs.YtncmajflakkibaaGreat.Ring Go.Proofs.YtncmajflakkibaaGreat.Idlem Go.Proofs.YtncmajflakkibaaGreat.Wake
def puts3 : List PutT := [(15, 1), (22, 1), (28, 4)]
theorem row3 {w' : World} {b : Nat} {T : TypeId} (h : Blk w' b [.int .i64 15, .int .u64 1, .int .i64 22, .int .u64 1, .int .i64 28, .int .u64 4] T) : RowOf encP 2 w' (some ⟨b, 0, none⟩) puts3 := by
  intro i hi
  refine ⟨_, rfl, ?_⟩
  intro j v hv
  have hj : j < 2 := by have := (List.getElem?_eq_some_iff.1 hv).1; simpa [encP] using this
  rw [show (⟨b, 0, none⟩ : Addr).add (i * 2 + j) = ⟨b, i * 2 + j, none⟩ by unfold Addr.add; split <;> simp_all]
  rw [h.cell]
  have hi4 : i < 3 := hi
  have h4 : i = 0 ∨ i = 1 ∨ i = 2 := by omega
  have hj2 : j = 0 ∨ j = 1 := by omega
  rcases h4 with rfl | rfl | rfl <;> rcases hj2 with rfl | rfl <;> exact hv
def s0H : St := fresh (layW (lenOf 1 2 4) puts3)
def hend : OvSt × St := after (ovY 1 2 2 0) 2 (.look .h) s0H 30
theorem hex_run : (((ovY 1 2 2 0).want hend.1).isNone = true ∧ (hend.2.peek (th 1 2 1 1)).1 = 1 ∧ ovH 0 hend.1 = -1) ∧ s0H.clock = 0 ∧ s0H.bad = 0 := by
  refine ⟨⟨?_, ?_, ?_⟩, ?_, ?_⟩ <;> decide +kernel
theorem few124 : FewP 1 2 4 := by unfold FewP Right; omega
theorem gv1 : gvP 1 = 0 ∧ gvS 1 = false := by decide
theorem awake_run (w : World) : Calls Tryz.prog 62 #[] w fun e w' => e = .returned (.bool true) ∧ Below w.heap.size w w' := by
  have HE := hid hex_run
  obtain ⟨wP, hwP⟩ : ∃ wP, wP = w.alloc (.cells #[.int .i64 15, .int .u64 1, .int .i64 22, .int .u64 1, .int .i64 28, .int .u64 4] 106) := ⟨_, rfl⟩
  have hbP : Below w.heap.size w wP := by rw [hwP]; exact below_one w _
  have hrow : RowOf encP 2 wP (some ⟨w.heap.size, 0, none⟩) puts3 := by rw [hwP]; exact row3 (Blk.new w [.int .i64 15, .int .u64 1, .int .i64 22, .int .u64 1, .int .i64 28, .int .u64 4] 106)
  have HB := hid (And.intro hbP hrow)
  have HWP := hid hwP
  clear hbP hrow hwP
  go_enter Tryz.func62, Tryz.ntmps62
  go_wp2_with fail
  rw [← HWP.out]
  refine (lay_yes 1 2 4 (some ⟨w.heap.size, 0, none⟩) 3 puts3 wP few124 (by decide) HB.out.2 (by decide)).mono ?_
  rintro e w1 ⟨l, m, g, rm, rg, rfl, hL⟩
  have HQ := hid (show w.heap.size ≤ m ∧ w.heap.size ≤ g from ⟨Nat.le_trans HB.out.1.size hL.low5.2.1, Nat.le_trans HB.out.1.size hL.low5.2.2.1⟩)
  have hM : MemAt w1 m g s0H := hL.mem
  have hlow : Below w.heap.size w w1 := HB.out.1.trans (hL.low.mono HB.out.1.size)
  have HI := hid (And.intro hL.lay (And.intro hM hlow))
  clear hL hM hlow HB HWP
  go_wp2_with fail
  refine (ov_made w.heap.size l 1 2 4 2 0 w1 HI.out.1 HI.out.2.2.size).mono ?_
  rintro e w2 ⟨rfl, hA, hb⟩
  have HI := hid (show (ovM w.heap.size l 1 2 4 2 0).at_ w.heap.size l w1.heap.size 1 2 4 2 w2 (after (ovY 1 2 2 0) 2 (.look .h) s0H 0).1 ∧ MemAt w2 m g (after (ovY 1 2 2 0) 2 (.look .h) s0H 0).2 ∧ Below w.heap.size w w2 from ⟨hA, HI.out.2.1.quiet hb, HI.out.2.2.trans (hb.mono HI.out.2.2.size)⟩)
  obtain ⟨y, hy⟩ : ∃ y, y = w1.heap.size := ⟨_, rfl⟩
  rw [← hy] at HI ⊢
  obtain ⟨sX, hsX⟩ : ∃ sX, sX = s0H := ⟨_, rfl⟩
  rw [← hsX] at HI
  have HX := hid hsX
  have HC := hid (show sX.clock = 0 ∧ sX.bad = 0 by rw [hsX]; exact HE.out.2)
  clear hA hb hy hsX
  go_wp2_with fail
  go_loopw [6] (fun i wr => ∃ j : Nat, j ≤ 30 ∧ i = .int .i64 (j : Int) ∧ (ovM w.heap.size l 1 2 4 2 0).at_ w.heap.size l y 1 2 4 2 wr (after (ovY 1 2 2 0) 2 (.look .h) sX j).1 ∧ MemAt wr m g (after (ovY 1 2 2 0) 2 (.look .h) sX j).2 ∧ Below w.heap.size w wr) (fun i _ => 30 - (intOf i).toNat)
  case atStart => exact ⟨0, by omega, rfl, HI.out⟩
  case round =>
    clear HI
    obtain ⟨j, hj, rfl, hI⟩ := hrel
    have HI := hid hI
    clear hI
    by_cases hlt2 : j < 30
    · have hltj : decide ((j : Int) < 30) = true := decide_eq_true (by omega)
      have hcl := after_clock (ovY 1 2 2 0) 2 (.look .h) sX j
      have hc0 := HC.out
      go_wp2_with fail
      refine (m2_stepL ov_thru (ov_goes w.heap.size l y 1 2 4 2 0 (by omega) (by omega)) HI.out.1 HI.out.2.1 (by omega) (by omega)).mono ?_
      rintro e w6 ⟨⟨bb, rfl⟩, hA6, hM6, hK6⟩
      have HI6 := hid (And.intro hA6 (And.intro hM6 (keptOwn_low hK6 HI.out.2.2 HQ.out.1 HQ.out.2 HI.out.2.2.size)))
      clear hA6 hM6 hK6 HI hcl hc0
      go_wp2_with fail
      go_roundw
      case rel => exact ⟨j + 1, by omega, by go_num, HI6.out⟩
      case measure => simp [intOf]; omega
    · obtain rfl : j = 30 := by omega
      have hltj : decide ((30 : Int) < 30) = false := by decide
      have hA : (ovM w.heap.size l 1 2 4 2 0).at_ w.heap.size l y 1 2 4 2 wr hend.1 := by have := HI.out.1; rw [HX.out] at this; exact this
      have hM : MemAt wr m g hend.2 := by have := HI.out.2.1; rw [HX.out] at this; exact this
      obtain ⟨wq, hwq⟩ : ∃ q, q = hend := ⟨_, rfl⟩
      have HF := HE.out.1
      rw [← hwq] at hA hM HF
      have HN := hid HF
      have HA := hid hA
      have HM := hid hM
      have HI := hid HI.out.2.2
      clear hA hM hwq HX HC HF HE
      go_wp2_with fail
      refine (thread_run l 1 2 4 1 1 _ HA.out.2.2.1).mono ?_
      rintro e w7 ⟨rfl, hb7⟩
      have HA := hid (m2_kept (ov_goes w.heap.size l y 1 2 4 2 0 (by omega) (by omega)) HA.out (Kept.of_below hb7 []) (by simp))
      have HM := hid (HM.out.quiet hb7)
      have HI := hid (Below.then_ HI.out hb7)
      clear hb7
      go_wp2_with fail
      refine (mpeek_run m g wq.2 _ _ HM.out).mono ?_
      rintro e w8 ⟨rfl, rfl⟩
      rw [show (wq.2.peek (placeN true 284 1 2 3 1 3)).1 = 1 from HN.out.2.1]
      go_wp2_with fail
      refine (given_run 1 (by omega) _).mono ?_
      rintro e w8 ⟨rfl, rfl⟩
      rw [gv1.1, gv1.2]
      have HD := hid (m2_doneL ov_thruD (ov_goes w.heap.size l y 1 2 4 2 0 (by omega) (by omega)) HA.out)
      have HH := hid (ov_h_run HA.out)
      go_wp2_with (first | (go_at_call 65; have q := HD.out; rw [show ((ovM w.heap.size l 1 2 4 2 0).sys.want wq.1).isNone = true from HN.out.1] at q; refine q.mono ?_; rintro e w8 ⟨rfl, rfl⟩) | (go_at_call 66; have q := HH.out; rw [HN.out.2.2] at q; refine q.mono ?_; rintro e w8 ⟨rfl, rfl⟩))
      go_ret
      exact ⟨rfl, HI.out⟩
end Go.Proofs.YtncmajflakkibaaGreat.Hand
