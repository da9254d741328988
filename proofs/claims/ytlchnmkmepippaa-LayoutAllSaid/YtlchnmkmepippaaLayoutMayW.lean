/- The walk of LayoutMay. -/
import Derived.Test.YtlchnmkmepippaaLayoutB
import Derived.Test.YtlchnmkmepippaaRead
set_option maxRecDepth 100000
set_option linter.unusedVariables false
set_option linter.unusedSimpArgs false
namespace Go.Proofs.Ytlchnmkmepippaa.Layout
open Go.RowKit Go.Proofs.Ytlchnmkmepippaa.TK Go.Proofs.Ytlchnmkmepippaa.Flag

theorem lay_awake (w : World) : Calls Try.prog 23 #[] w fun e w' => e = .returned (.bool true) ∧ Below w.heap.size w w' := by
  have h1 : placeN true 20 0 1 264 2 8 = 22 := by decide
  have h2 : placeN true (20 + 1 * 264 + 1 * 3) 0 1 2 1 2 = 288 := by decide
  go_enter Try.func23, Try.ntmps23
  go_wp2_with (first | (go_at_call 21; refine (of_yes 1 1 1 _ (by decide)).mono ?_; rintro e w1 ⟨l, hl, rfl, hL, hb⟩) | (go_at_call 25; refine (len_run _ 1 1 1 _ hL).mono ?_; rintro e w2 ⟨rfl, rfl⟩) | (go_at_call 48; refine (proc_run _ 1 1 1 _ _ _ hL).mono ?_; rintro e w2 ⟨rfl, hb2⟩) | (go_at_call 51; refine (g_run _ 1 1 1 _ _ _ (hL.quiet hb2)).mono ?_; rintro e w3 ⟨rfl, hb3⟩))
  go_ret
  exact ⟨rfl, (hb.trans (hb2.mono hb.size)).trans (hb3.mono (Nat.le_trans hb.size hb2.size))⟩

theorem rlen_run (p t g : Int) (w : World) (h : Right p t g) :
    Calls Try.prog 27 #[.agg #[.int .i64 p, .int .i64 t, .int .i64 g]] w fun e w' => e = .returned (.int .i64 (20 + p * 264 + t * 3 + g * 2)) ∧ Below w.heap.size w w' := by
  unfold Right at h
  go_enter Try.func27, Try.ntmps27
  go_wp2
  go_ret
  exact ⟨ret_int (by omega), below_one _ _⟩

theorem may_walk (w : World) (cs : List Value) (hcs : Read.AllL w [.base (.int .i64), .base (.int .i64), .base (.int .i64)] cs) :
    Calls Try.prog 4 #[.agg cs.toArray] w fun e w' => e = .returned (.bool true) ∧ Below w.heap.size w w' := by
  obtain ⟨p, t, g, rfl, hp, ht, hg⟩ := Read.three_ints hcs
  clear hcs hp ht hg
  by_cases hR : Right p t g
  · have hd : decide (Right p t g) = true := decide_eq_true hR
    have HR := hid hR
    clear hR
    go_enter Try.func4, Try.ntmps4
    go_wp2_with (first | (go_at_call 21; refine (of_yes p t g _ HR.out).mono ?_; rintro e w1 ⟨l, hl, rfl, hL, hb⟩; obtain ⟨hc, hf, hz0⟩ := below_cells hb; have hz : w.heap.size < w1.heap.size := (by simp at hz0; omega)) | (go_at_call 22; refine (rright_run _ _ _ _).mono ?_; rintro e w2 ⟨rfl, hb2⟩))
    have hB : Blk w2 w.heap.size [.int .i64 p, .int .i64 t, .int .i64 g] 34 := ((Blk.new w [.int .i64 p, .int .i64 t, .int .i64 g] _).quiet hb).quiet hb2
    have hlow : Below w.heap.size w w2 := Below.then_ (Below.then_ (below_one w _) hb) hb2
    have hL2 := hL.quiet hb2
    clear hb2 hb hL hc hf hz hz0
    refine wp_region_D [] (fun _ w' => Blk w' w.heap.size [.int .i64 p, .int .i64 t, .int .i64 g] 34 ∧ Lay w' l p t g ∧ Below w.heap.size w w') (by kernel_rfl) (by kernel_rfl) rfl (by kernel_rfl) ⟨hB.drew, hL2, hlow.drew⟩ ?_
    repeat (first
      | (apply walkD_pure; rfl; rfl; (intro _; go_simp; first | done | rfl); (intro K hK; go_simp; refine hK _ ?_; clear hK K))
      | (apply walkD_skip; rfl; rfl; (intro K hK; go_simp; refine hK _ ?_; clear hK K))
      | (apply walkD_read; rfl; rfl; (intro bs hbs w' hD; have hc0 := hD.1.cell 0; have hc1 := hD.1.cell 1; have hc2 := hD.1.cell 2; simp only [List.getElem?_cons_zero, List.getElem?_cons_succ] at hc0 hc1 hc2; go_simp; rfl); (intro K hK; go_simp; refine hK _ ?_; clear hK K))
      | (apply walkD_call; rfl; (intro _; go_simp; first | rfl | exact ⟨rfl, rfl⟩); (intro bs hbs w' hD; go_at_call 23; refine (lay_awake _).mono ?_; rintro e w2 ⟨rfl, hb⟩; exact ⟨rfl, hD.1.quiet hb, hD.2.1.quiet hb, Below.then_ hD.2.2 hb⟩); (intro K hK; go_simp; refine hK _ ?_; clear hK K))
      | (apply walkD_call; rfl; (intro _; go_simp; first | rfl | exact ⟨rfl, rfl⟩); (intro bs hbs w' hD; go_at_call 24; refine (right_run _ _ _ _).mono ?_; rintro e w2 ⟨rfl, hb⟩; exact ⟨rfl, hD.1.quiet hb, hD.2.1.quiet hb, Below.then_ hD.2.2 hb⟩); (intro K hK; go_simp; refine hK _ ?_; clear hK K))
      | (apply walkD_call; rfl; (intro _; go_simp; first | rfl | exact ⟨rfl, rfl⟩); (intro bs hbs w' hD; go_at_call 26; refine (config_run _ _ _ _ _ hD.2.1).mono ?_; rintro e w2 ⟨rfl, hb⟩; exact ⟨rfl, hD.1.quiet hb, hD.2.1.quiet hb, Below.then_ hD.2.2 hb⟩); (intro K hK; go_simp; refine hK _ ?_; clear hK K))
      | (apply walkD_call; rfl; (intro _; go_simp; first | rfl | exact ⟨rfl, rfl⟩); (intro bs hbs w' hD; go_at_call 25; refine (len_run _ _ _ _ _ hD.2.1).mono ?_; rintro e w2 ⟨rfl, rfl⟩; exact ⟨rfl, hD⟩); (intro K hK; go_simp; refine hK _ ?_; clear hK K))
      | (apply walkD_call; rfl; (intro _; go_simp; first | rfl | exact ⟨rfl, rfl⟩); (intro bs hbs w' hD; go_at_call 27; refine (rlen_run _ _ _ _ HR.out).mono ?_; rintro e w2 ⟨rfl, hb⟩; exact ⟨rfl, hD.1.quiet hb, hD.2.1.quiet hb, Below.then_ hD.2.2 hb⟩); (intro K hK; go_simp; refine hK _ ?_; clear hK K)))
    intro w' hD
    go_wp2
    go_ret
    exact ⟨rfl, hD.2.2⟩
  · have hd : decide (Right p t g) = false := decide_eq_false hR
    have HR := hid hR
    clear hR
    go_enter Try.func4, Try.ntmps4
    go_wp2_with (first | (go_at_call 21; refine (of_no p t g _ HR.out).mono ?_; rintro e w1 ⟨rfl, hb⟩; obtain ⟨hc, hf, hz0⟩ := below_cells hb; have hz : w.heap.size < w1.heap.size := (by simp at hz0; omega)) | (go_at_call 22; refine (rright_run _ _ _ _).mono ?_; rintro e w2 ⟨rfl, hb2⟩) | (go_at_call 23; refine (lay_awake _).mono ?_; rintro e w3 ⟨rfl, hb3⟩; obtain ⟨hc0, hc1, hc2⟩ : w3.cell? ⟨w.heap.size, 0, none⟩ = some (.int .i64 p) ∧ w3.cell? ⟨w.heap.size, 1, none⟩ = some (.int .i64 t) ∧ w3.cell? ⟨w.heap.size, 2, none⟩ = some (.int .i64 g) := (by
          have hB : Blk w3 w.heap.size [.int .i64 p, .int .i64 t, .int .i64 g] 34 := (((Blk.new w [.int .i64 p, .int .i64 t, .int .i64 g] _).quiet hb).quiet hb2).quiet hb3
          exact ⟨hB.cell 0, hB.cell 1, hB.cell 2⟩)) | (go_at_call 24; refine (right_run _ _ _ _).mono ?_; rintro e w4 ⟨rfl, hb4⟩) | (go_at_call 25; refine (len_nil _).mono ?_; rintro e w5 ⟨rfl, rfl⟩) | (go_at_call 26; refine (config_nil _).mono ?_; rintro e w6 ⟨rfl, hb6⟩))
    go_ret
    exact ⟨rfl, Below.then_ (Below.then_ (Below.then_ (Below.then_ (Below.then_ (below_one w _) hb) hb2) hb3) hb4) hb6⟩
end Go.Proofs.Ytlchnmkmepippaa.Layout
