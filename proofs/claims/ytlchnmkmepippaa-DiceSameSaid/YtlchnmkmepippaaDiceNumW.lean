/- The walk of DiceNumbers. -/
import Derived.Test.YtlchnmkmepippaaDice
set_option maxRecDepth 100000
set_option linter.unusedVariables false
set_option linter.unusedSimpArgs false
namespace Go.Proofs.Ytlchnmkmepippaa.Dice
open Go.RowKit Go.Proofs.Ytlchnmkmepippaa.TK Go.Proofs.Ytlchnmkmepippaa.Flag

theorem mix_one : mix (nx 0) = 16294208416658607535 := by decide +kernel

theorem awake_run (w : World) : Calls Try.prog 15 #[] w fun e w' => e = .returned (.bool true) ∧ Below w.heap.size w w' := by
  have hm : (mix (nx 0) == 16294208416658607535) = true := by rw [mix_one]; rfl
  go_enter Try.func15, Try.ntmps15
  go_wp2_with (first | (go_at_call 16; refine (new_run _ _).mono ?_; rintro e w' ⟨rfl, rfl⟩) | (go_at_call 19; refine (next_run _ 0 _ (Blk.new _ _ _)).mono ?_; rintro e w' ⟨rfl, rfl⟩))
  go_ret
  exact ⟨rfl, (Below.refl _ _).alloc (Nat.le_refl _) _⟩

/-- The worlds of the round's test: whether the first dice, and the second, have told their number. -/
def NumD (w : World) (a0 : Int) (m : Nat) (x : Addr) (k : Nat) (n : Int) (bs : List Bool) (w' : World) : Prop :=
  Blk w' w.heap.size [.int .u64 (if bs.getD 0 false then nx (stt a0 m) else stt a0 m)] 93 ∧ Blk w' (w.heap.size + 1) [.int .u64 (if bs.getD 1 false then nx (stt a0 m) else stt a0 m)] 93 ∧
  Blk w' (w.heap.size + 1 + 1) [.int .u64 a0, .int .i64 ((m : Int) + 1)] 28 ∧ Below w.heap.size w w' ∧ w'.cell? (x.add k) = some (.int .i64 n)
theorem numbers_walk (a0 : Int) (a1 : Option Addr) (len1 cap1 : Nat) (z1 : List Int) (w : World) (w0 : (Lit.int .u64 a0).wf = true) (w1 : IsRow .i64 w a1 len1 cap1 z1) :
    Calls Try.prog 3 #[.int .u64 a0, .slice a1 len1 cap1] w fun e w' => e = .returned (.bool true) ∧ Below w.heap.size w w' := by
  by_cases hlen : len1 > 100
  · have hd : decide (100 < (len1 : Int)) = true := decide_eq_true (by omega)
    go_enter Try.func3, Try.ntmps3
    go_wp2_with (first | (go_at_call 15; refine (awake_run _).mono ?_; rintro e w' ⟨rfl, hb⟩))
    go_ret
    exact ⟨rfl, hb⟩
  · have hd : decide (100 < (len1 : Int)) = false := decide_eq_false (by omega)
    go_enter Try.func3, Try.ntmps3
    go_wp2_with (first | (go_at_call 15; refine (awake_run _).mono ?_; rintro e w' ⟨rfl, hb⟩) | (go_at_call 16; refine (new_run _ _).mono ?_; rintro e w' ⟨rfl, rfl⟩))
    have w0' := wf_u64 w0
    clear w0
    go_loopw [8] (fun i wr => ∃ k m : Nat, k ≤ len1 ∧ m ≤ k ∧ i = .int .i64 k ∧ Blk wr w.heap.size [.int .u64 (stt a0 m)] 93 ∧ Blk wr (w.heap.size + 1) [.int .u64 (stt a0 m)] 93 ∧ Blk wr (w.heap.size + 1 + 1) [.int .u64 a0, .int .i64 m] 28 ∧ Below w.heap.size w wr) (fun i _ => len1 - (intOf i).toNat)
    case atStart =>
      refine ⟨0, 0, by omega, by omega, rfl, ?_, ?_, ?_, ?_⟩
      · exact ((Blk.new _ _ _).alloc _).alloc _
      · exact (Blk.new_at [.int .u64 (stt a0 0)] _ (by simp)).alloc _
      · exact Blk.new_at [.int .u64 a0, .int .i64 (0 : Nat)] _ (by simp)
      · exact (((Below.refl _ _).alloc (Nat.le_refl _) _).alloc (by simp) _).alloc (by simp; omega) _
    case round =>
      obtain ⟨k, m, hk, hm, rfl, hA, hB, hD, hlow⟩ := hrel
      have hD1 := hD.cell 1
      simp only [List.getElem?_cons_zero, List.getElem?_cons_succ] at hD1
      by_cases hlt : k < len1
      · obtain ⟨x, rfl, hx, hwf⟩ := w1.at_ hlt
        have hwf' := wf_i64 hwf
        obtain ⟨n, hn⟩ : ∃ n, n = z1.getD k 0 := ⟨_, rfl⟩
        rw [← hn] at hx hwf'
        clear hwf hn w1
        have hxr : wr.cell? (x.add k) = some (.int .i64 n) := by rw [hlow.cell (cell_lt hx)]; exact hx
        by_cases h1 : n < 1
        · go_wp2_with (first | (go_at_call 17; refine (rbelow_no _ _ _ h1).mono ?_; rintro e w' ⟨rfl, rfl⟩))
          go_quiet ((go_at_call 18; exact quiet_same (below_no _ _ _ h1)))
          go_wp2
          go_roundw
          case rel => exact ⟨k + 1, m, by omega, by omega, by go_num, hA, hB, hD, below_drewN hlow _⟩
          case measure => simp [intOf]; omega
        · have h1' : 1 ≤ n := by omega
          go_wp2_with (first | (go_at_call 17; refine (rbelow_run _ a0 m n _ w0'.1 w0'.2 (by omega) hD h1' hwf'.2).mono ?_; rintro e w' ⟨rfl, m', rfl⟩))
          obtain ⟨W, hW⟩ : ∃ W, W = (wr.setCell ⟨w.heap.size + 1 + 1, 1, none⟩ (.int .i64 ((m : Int) + 1))).drewN m' := ⟨_, rfl⟩
          have hlt2 : x.block < w.heap.size := by have := cell_lt hx; simpa using this
          have h0 : NumD w a0 m x k n [false, false] W.drew := by
            subst hW
            refine ⟨((hA.far (by simp; omega) _).drewN _).drew, ((hB.far (by simp) _).drewN _).drew, ((hD.set 1 _).drewN _).drew, (below_drewN (hlow.setCell (by simp; omega) _) _).drew, ?_⟩
            exact cell_set (a := x.add k) hxr (by simp; omega)
          rw [← hW]
          clear hW hxr hA hB hD hD1 hlow hx
          have hnum : num a0 ((m : Int) + 1) = mix (nx (stt a0 m)) := stt_num a0 w0'.1 w0'.2 (m + 1)
          have hgt : (m : Int) < (m : Int) + 1 := by omega
          refine wp_region_D [5, 15] (NumD w a0 m x k n) (by kernel_rfl) (by kernel_rfl) rfl (by kernel_rfl) h0 ?_
          repeat (apply walkD_pure; rfl; rfl; (intro _; go_simp; first | done | rfl); (intro K hK; go_simp; refine hK _ ?_; clear hK K))
          apply walkD_read; rfl; rfl; (intro bs hbs w' hD; have hx := hD.2.2.2.2; go_simp; rfl); (intro K hK; go_simp; refine hK _ ?_; clear hK K)
          apply walkD_call1 [false, false] (by kernel_rfl); rfl; (intro _; go_simp; first | rfl | exact ⟨rfl, rfl⟩)
          · intro w' hD
            refine (below_run _ _ n _ hD.1 h1' hwf'.2).mono ?_
            rintro e w2 ⟨rfl, rfl⟩
            refine ⟨rfl, hD.1.set 0 _, hD.2.1.far (by simp) _, hD.2.2.1.far (by simp; omega) _, hD.2.2.2.1.setCell (Nat.le_refl _) _, cell_set hD.2.2.2.2 (by simp; omega)⟩
          (intro K hK; go_simp; refine hK _ ?_; clear hK K)
          repeat (apply walkD_pure; rfl; rfl; (intro _; go_simp; first | done | rfl); (intro K hK; go_simp; refine hK _ ?_; clear hK K))
          apply walkD_read; rfl; rfl; (intro bs hbs w' hD; have hx := hD.2.2.1.cell 1; simp only [List.getElem?_cons_zero, List.getElem?_cons_succ] at hx; go_simp; rfl); (intro K hK; go_simp; refine hK _ ?_; clear hK K)
          repeat (apply walkD_pure; rfl; rfl; (intro _; go_simp; first | done | rfl); (intro K hK; go_simp; refine hK _ ?_; clear hK K))
          apply walkD_call1 [true, false] (by kernel_rfl); rfl; (intro _; go_simp; first | rfl | exact ⟨rfl, rfl⟩)
          · intro w' hD
            refine (next_run _ _ _ hD.2.1).mono ?_
            rintro e w2 ⟨rfl, rfl⟩
            refine ⟨rfl, hD.1.far (by simp) _, hD.2.1.set 0 _, hD.2.2.1.far (by simp) _, hD.2.2.2.1.setCell (by simp) _, cell_set hD.2.2.2.2 (by simp; omega)⟩
          (intro K hK; go_simp; refine hK _ ?_; clear hK K)
          repeat (apply walkD_pure; rfl; rfl; (intro _; go_simp; first | done | rfl); (intro K hK; go_simp; refine hK _ ?_; clear hK K))
          apply walkD_read; rfl; rfl; (intro bs hbs w' hD; have hx := hD.2.2.1.cell 1; simp only [List.getElem?_cons_zero, List.getElem?_cons_succ] at hx; go_simp; rfl); (intro K hK; go_simp; refine hK _ ?_; clear hK K)
          apply walkD_call; rfl; (intro _; go_simp; first | rfl | exact ⟨rfl, rfl⟩)
          · intro bs hbs w' hD
            refine (number_run _ _ _).mono ?_
            rintro e w2 ⟨rfl, rfl⟩
            exact ⟨by rw [hnum], by rw [came_poss (md := .any) rfl hbs]; exact hD⟩
          (intro K hK; go_simp; refine hK _ ?_; clear hK K)
          repeat (apply walkD_pure; rfl; rfl; (intro _; go_simp; first | done | rfl); (intro K hK; go_simp; refine hK _ ?_; clear hK K))
          intro w' hD
          go_wp2
          go_roundw
          case rel => exact ⟨k + 1, m + 1, by omega, by omega, by go_num, hD.1, hD.2.1, by have := hD.2.2.1; simpa using this, hD.2.2.2.1⟩
          case measure => simp [intOf]; omega
      · go_wp2_with (first | (go_at_call 15; refine (awake_run _).mono ?_; rintro e w' ⟨rfl, hb⟩))

        go_ret
        exact ⟨rfl, hlow.trans (hb.mono hlow.size)⟩
end Go.Proofs.Ytlchnmkmepippaa.Dice
