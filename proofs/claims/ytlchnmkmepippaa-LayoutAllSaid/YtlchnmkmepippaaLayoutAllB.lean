/- What a word is, and where a name's word lies. -/
import Derived.Test.YtlchnmkmepippaaLayoutAllN
set_option maxRecDepth 100000
set_option maxHeartbeats 8000000
set_option linter.unusedVariables false
set_option linter.unusedSimpArgs false
namespace Go.Proofs.Ytlchnmkmepippaa.Layout
open Go.RowKit Go.Proofs.Ytlchnmkmepippaa.TK Go.Proofs.Ytlchnmkmepippaa.Flag Go.Proofs.Ytlchnmkmepippaa.Read

theorem row_run (x k : Int) (w : World) (h0 : 0 ≤ x) (h1 : x ≤ 1000000) (hk : 1 ≤ k) (hk' : k ≤ 1000) :
    Calls Try.prog 80 #[.int .i64 x, .int .i64 k] w fun e w' => e = .returned (.tuple #[.int .i64 (x / k), .int .i64 (x % k)]) ∧ Below w.heap.size w w' := by
  have hz : ¬ k = 0 := by omega
  have e1 : x.tdiv k = x / k := Int.tdiv_eq_ediv_of_nonneg h0
  have e2 : x.tmod k = x % k := Int.tmod_eq_emod_of_nonneg h0
  have b1 : 0 ≤ x / k := Int.ediv_nonneg h0 (by omega)
  have b2 : x / k ≤ x := Int.ediv_le_self _ h0
  have b3 : 0 ≤ x % k := Int.emod_nonneg _ hz
  have b4 : x % k < k := Int.emod_lt_of_pos _ (by omega)
  have m1 : wrap64 (x / k) = x / k := by unfold wrap64; omega
  have m2 : wrap64 (x % k) = x % k := by unfold wrap64; omega
  go_enter Try.func80, Try.ntmps80
  go_wp2
  go_region
  go_wp2
  go_ret2
  exact ⟨rfl, (Below.refl _ _).drew⟩

theorem which_out (l : Nat) (p t g i : Int) (w : World) (h : Lay w l p t g) (hi : i < 0 ∨ 20 + p * 264 + t * 3 + g * 2 ≤ i) :
    Calls Try.prog 63 #[.pointer (some ⟨l, 0, none⟩), .int .i64 i] w fun e w' => e = .returned (.tuple #[.int .i64 0, .int .i64 0, .int .i64 0]) ∧ w = w' := by
  have d3 := h.1.cell 3; have d4 := h.1.cell 4; have d5 := h.1.cell 5; simp only [layCells, List.getElem?_cons_zero, List.getElem?_cons_succ] at d3 d4 d5
  clear h
  by_cases h0 : i < 0
  · go_enter Try.func63, Try.ntmps63
    go_wp2
    go_ret3
    exact ⟨rfl, rfl⟩
  · have h1 : 20 + p * 264 + t * 3 + g * 2 ≤ i := by omega
    have h0' : 0 ≤ i := by omega
    clear hi h0
    go_enter Try.func63, Try.ntmps63
    go_wp2
    go_ret3
    exact ⟨rfl, rfl⟩
theorem which_run (l : Nat) (p t g : Int) (i : Nat) (w : World) (h : Lay w l p t g) (hp : p ≤ 4) (ht : t ≤ 8) (hg : g ≤ 60) (hi : (i : Int) < 20 + p * 264 + t * 3 + g * 2) :
    Calls Try.prog 63 #[.pointer (some ⟨l, 0, none⟩), .int .i64 i] w fun e w' => e = .returned (.tuple #[.int .i64 (nameAt p t i).1, .int .i64 (nameAt p t i).2.1, .int .i64 (nameAt p t i).2.2]) ∧ Below w.heap.size w w' := by
  have d3 := h.1.cell 3; have d4 := h.1.cell 4; have d5 := h.1.cell 5; simp only [layCells, List.getElem?_cons_zero, List.getElem?_cons_succ] at d3 d4 d5
  have hR := h.2
  unfold Right at hR
  clear h
  have hx : ¬ (20 + p * 264 + t * 3 + g * 2 ≤ i) := by omega
  by_cases h6 : i < 6
  · rw [name_lock h6]
    go_enter Try.func63, Try.ntmps63
    go_wp2_with (first | (go_at_call 80; refine (row_run _ _ _ (by omega) (by omega) (by omega) (by omega)).mono ?_; rintro e w' ⟨rfl, hb⟩))
    go_ret3
    exact ⟨rfl, hb⟩
  · by_cases h20 : i < 20
    · rw [name_word (by omega) h20]
      go_enter Try.func63, Try.ntmps63
      go_wp2
      go_ret3
      exact ⟨rfl, Below.refl _ _⟩
    · by_cases hpr : (i : Int) < 20 + p * 264
      · obtain ⟨x, hx'⟩ : ∃ x : Nat, i = 20 + x := ⟨i - 20, by omega⟩
        obtain ⟨q, f, hqf, hf⟩ : ∃ q f : Nat, x = 264 * q + f ∧ f < 264 := ⟨x / 264, x % 264, by omega, by omega⟩
        have hq : (q : Int) < p := by omega
        have e1 : ((i : Int) - 20) / 264 = q := by omega
        have e2 : ((i : Int) - 20) % 264 = f := by omega
        by_cases hf8 : f < 8
        · rw [name_proc (q := q) (i := f) (by omega) hq hf8]
          clear hx' hqf x
          go_enter Try.func63, Try.ntmps63
          go_wp2_with (first | (go_at_call 80; refine (row_run _ _ _ (by omega) (by omega) (by omega) (by omega)).mono ?_; rintro e w' ⟨rfl, hb⟩; rw [e1, e2]))
          go_ret3
          exact ⟨rfl, hb⟩
        · rw [name_ring (q := q) (i := f - 8) (by omega) hq (by omega)]
          have e3 : ((f - 8 : Nat) : Int) = (f : Int) - 8 := by omega
          rw [e3]
          clear hx' hqf x e3
          go_enter Try.func63, Try.ntmps63
          go_wp2_with (first | (go_at_call 80; refine (row_run _ _ _ (by omega) (by omega) (by omega) (by omega)).mono ?_; rintro e w' ⟨rfl, hb⟩; rw [e1, e2]))
          go_ret3
          exact ⟨rfl, hb⟩
      · by_cases hth : (i : Int) < 20 + p * 264 + t * 3
        · obtain ⟨x, hx'⟩ : ∃ x : Nat, (i : Int) = 20 + 264 * p + x := ⟨i - (20 + 264 * p.toNat), by omega⟩
          obtain ⟨q, f, hqf, hf⟩ : ∃ q f : Nat, x = 3 * q + f ∧ f < 3 := ⟨x / 3, x % 3, by omega, by omega⟩
          rw [name_thread (q := q) (i := f) (by omega) (by omega) (by omega) hf]
          have e1 : ((i : Int) - (20 + p * 264)) / 3 = q := by omega
          have e2 : ((i : Int) - (20 + p * 264)) % 3 = f := by omega
          clear hx' hqf x
          go_enter Try.func63, Try.ntmps63
          go_wp2_with (first | (go_at_call 80; refine (row_run _ _ _ (by omega) (by omega) (by omega) (by omega)).mono ?_; rintro e w' ⟨rfl, hb⟩; rw [e1, e2]))
          go_ret3
          exact ⟨rfl, hb⟩
        · obtain ⟨x, hx'⟩ : ∃ x : Nat, (i : Int) = 20 + 264 * p + 3 * t + x := ⟨i - (20 + 264 * p.toNat + 3 * t.toNat), by omega⟩
          obtain ⟨q, f, hqf, hf⟩ : ∃ q f : Nat, x = 2 * q + f ∧ f < 2 := ⟨x / 2, x % 2, by omega, by omega⟩
          rw [name_g (q := q) (i := f) (by omega) (by omega) (by omega) hf]
          have e1 : ((i : Int) - (20 + p * 264 + t * 3)) / 2 = q := by omega
          have e2 : ((i : Int) - (20 + p * 264 + t * 3)) % 2 = f := by omega
          clear hx' hqf x
          go_enter Try.func63, Try.ntmps63
          go_wp2_with (first | (go_at_call 80; refine (row_run _ _ _ (by omega) (by omega) (by omega) (by omega)).mono ?_; rintro e w' ⟨rfl, hb⟩; rw [e1, e2]))
          go_ret3
          exact ⟨rfl, hb⟩

theorem at_run (l : Nat) (p t g : Int) (i : Nat) (w : World) (h : Lay w l p t g) (hp : p ≤ 4) (ht : t ≤ 8) (hg : g ≤ 60) (hi : (i : Int) < 20 + p * 264 + t * 3 + g * 2) :
    Calls Try.prog 64 #[.pointer (some ⟨l, 0, none⟩), .agg #[.int .i64 (nameAt p t i).1, .int .i64 (nameAt p t i).2.1, .int .i64 (nameAt p t i).2.2]] w fun e w' => e = .returned (.int .i64 i) ∧ Below w.heap.size w w' := by
  have hR := h.2
  unfold Right at hR
  by_cases h6 : i < 6
  · rw [name_lock h6]
    rcases (show (i : Int) % 3 = 0 ∨ (i : Int) % 3 = 1 ∨ (i : Int) % 3 = 2 by omega) with hf | hf | hf
    · have ev : placeN true 0 ((i : Int) / 3) 2 3 0 3 = i := by unfold placeN; rw [if_pos ⟨rfl, by omega⟩]; omega
      go_enter Try.func64, Try.ntmps64
      go_wp2_with (first | (go_at_call 53; refine (ticket_run _ _ _).mono ?_; rintro e w' ⟨rfl, rfl⟩))
      go_ret
      exact ⟨rfl, below_one _ _⟩
    · have ev : placeN true 0 ((i : Int) / 3) 2 3 1 3 = i := by unfold placeN; rw [if_pos ⟨rfl, by omega⟩]; omega
      go_enter Try.func64, Try.ntmps64
      go_wp2_with (first | (go_at_call 56; refine (serving_run _ _ _).mono ?_; rintro e w' ⟨rfl, rfl⟩))
      go_ret
      exact ⟨rfl, below_one _ _⟩
    · have ev : placeN true 0 ((i : Int) / 3) 2 3 2 3 = i := by unfold placeN; rw [if_pos ⟨rfl, by omega⟩]; omega
      go_enter Try.func64, Try.ntmps64
      go_wp2_with (first | (go_at_call 57; refine (owner_run _ _ _).mono ?_; rintro e w' ⟨rfl, rfl⟩))
      go_ret
      exact ⟨rfl, below_one _ _⟩
  · by_cases h20 : i < 20
    · rw [name_word (by omega) h20]
      have ev : wordN (i : Int) = i := by unfold wordN; rw [if_pos (by omega)]
      go_enter Try.func64, Try.ntmps64
      go_wp2_with (first | (go_at_call 52; refine (word_run l p t g _ _).mono ?_; rintro e w' ⟨rfl, rfl⟩))
      go_ret
      exact ⟨rfl, below_one _ _⟩
    · by_cases hpr : (i : Int) < 20 + p * 264
      · obtain ⟨x, hx'⟩ : ∃ x : Nat, i = 20 + x := ⟨i - 20, by omega⟩
        obtain ⟨q, f, hqf, hf⟩ : ∃ q f : Nat, x = 264 * q + f ∧ f < 264 := ⟨x / 264, x % 264, by omega, by omega⟩
        have hq : (q : Int) < p := by omega
        by_cases hf8 : f < 8
        · rw [name_proc (q := q) (i := f) (by omega) hq hf8]
          have ev : placeN true 20 q p 264 f 8 = i := by unfold placeN; rw [if_pos ⟨rfl, by omega⟩]; omega
          clear hx' hqf
          go_enter Try.func64, Try.ntmps64
          go_wp2_with (first | (go_at_call 48; refine (proc_run l p t g _ _ _ (h.quiet (below_one _ _))).mono ?_; rintro e w' ⟨rfl, hb⟩))
          go_ret
          exact ⟨rfl, Below.then_ (below_one _ _) hb⟩
        · obtain ⟨f, rfl⟩ : ∃ f' : Nat, f = f' + 8 := ⟨f - 8, by omega⟩
          rw [name_ring (q := q) (i := f) (by omega) hq (by omega)]
          have ev : placeN true 28 q p 264 ((f : Int) % 256) 256 = i := by unfold placeN; rw [if_pos ⟨rfl, by omega⟩]; omega
          clear hx' hqf
          go_enter Try.func64, Try.ntmps64
          go_wp2_with (first | (go_at_call 49; refine (ring_run l p t g _ _ (by omega) _ (h.quiet (below_one _ _))).mono ?_; rintro e w' ⟨rfl, hb⟩))
          go_ret
          exact ⟨rfl, Below.then_ (below_one _ _) hb⟩
      · by_cases hth : (i : Int) < 20 + p * 264 + t * 3
        · obtain ⟨x, hx'⟩ : ∃ x : Nat, (i : Int) = 20 + 264 * p + x := ⟨i - (20 + 264 * p.toNat), by omega⟩
          obtain ⟨q, f, hqf, hf⟩ : ∃ q f : Nat, x = 3 * q + f ∧ f < 3 := ⟨x / 3, x % 3, by omega, by omega⟩
          rw [name_thread (q := q) (i := f) (by omega) (by omega) (by omega) hf]
          have ev : placeN true (20 + p * 264) q t 3 f 3 = i := by unfold placeN; rw [if_pos ⟨rfl, by omega⟩]; omega
          clear hx' hqf
          go_enter Try.func64, Try.ntmps64
          go_wp2_with (first | (go_at_call 50; refine (thread_run l p t g _ _ _ (h.quiet (below_one _ _))).mono ?_; rintro e w' ⟨rfl, hb⟩))
          go_ret
          exact ⟨rfl, Below.then_ (below_one _ _) hb⟩
        · obtain ⟨x, hx'⟩ : ∃ x : Nat, (i : Int) = 20 + 264 * p + 3 * t + x := ⟨i - (20 + 264 * p.toNat + 3 * t.toNat), by omega⟩
          obtain ⟨q, f, hqf, hf⟩ : ∃ q f : Nat, x = 2 * q + f ∧ f < 2 := ⟨x / 2, x % 2, by omega, by omega⟩
          rw [name_g (q := q) (i := f) (by omega) (by omega) (by omega) hf]
          have ev : placeN true (20 + p * 264 + t * 3) q g 2 f 2 = i := by unfold placeN; rw [if_pos ⟨rfl, by omega⟩]; omega
          clear hx' hqf
          go_enter Try.func64, Try.ntmps64
          go_wp2_with (first | (go_at_call 51; refine (g_run l p t g _ _ _ (h.quiet (below_one _ _))).mono ?_; rintro e w' ⟨rfl, hb⟩))
          go_ret
          exact ⟨rfl, Below.then_ (below_one _ _) hb⟩

def FewP (p t g : Int) : Prop := Right p t g ∧ p ≤ 4 ∧ t ≤ 8 ∧ g ≤ 60
instance (p t g : Int) : Decidable (FewP p t g) := by unfold FewP; infer_instance
theorem few_yes (p t g : Int) (w : World) (h : FewP p t g) :
    Calls Try.prog 61 #[.agg #[.int .i64 p, .int .i64 t, .int .i64 g]] w fun e w' => e = .returned (.bool true) ∧ Below w.heap.size w w' := by
  obtain ⟨hR, h1, h2, h3⟩ := h
  have hd : decide (Right p t g) = true := decide_eq_true hR
  clear hR
  go_enter Try.func61, Try.ntmps61
  go_wp2_with (first | (go_at_call 22; refine (rright_run _ _ _ _).mono ?_; rintro e w2 ⟨rfl, hb2⟩; have hB := ((Blk.new w [.int .i64 p, .int .i64 t, .int .i64 g] 34).quiet hb2); have b0 := hB.cell 0; have b1 := hB.cell 1; have b2 := hB.cell 2; simp only [List.getElem?_cons_zero, List.getElem?_cons_succ] at b0 b1 b2; clear hB))
  go_ret
  exact ⟨rfl, Below.then_ (below_one _ _) hb2⟩
theorem few_no (p t g : Int) (w : World) (h : ¬ FewP p t g) :
    Calls Try.prog 61 #[.agg #[.int .i64 p, .int .i64 t, .int .i64 g]] w fun e w' => e = .returned (.bool false) ∧ Below w.heap.size w w' := by
  by_cases hR : Right p t g
  · have hd : decide (Right p t g) = true := decide_eq_true hR
    have h' : ¬ (p ≤ 4 ∧ t ≤ 8 ∧ g ≤ 60) := fun x => h ⟨hR, x⟩
    rcases (show decide (p ≤ 4) = false ∨ (decide (p ≤ 4) = true ∧ decide (t ≤ 8) = false) ∨ (decide (p ≤ 4) = true ∧ decide (t ≤ 8) = true ∧ decide (g ≤ 60) = false) by simp only [decide_eq_false_iff_not, decide_eq_true_eq]; omega) with h1 | ⟨h1, h2⟩ | ⟨h1, h2, h3⟩
    all_goals (clear hR h h')
    all_goals go_enter Try.func61, Try.ntmps61
    all_goals go_wp2_with (first | (go_at_call 22; refine (rright_run _ _ _ _).mono ?_; rintro e w2 ⟨rfl, hb2⟩; have hB := ((Blk.new w [.int .i64 p, .int .i64 t, .int .i64 g] 34).quiet hb2); have b0 := hB.cell 0; have b1 := hB.cell 1; have b2 := hB.cell 2; simp only [List.getElem?_cons_zero, List.getElem?_cons_succ] at b0 b1 b2; clear hB))
    all_goals (go_ret; exact ⟨rfl, Below.then_ (below_one _ _) hb2⟩)
  · have hd : decide (Right p t g) = false := decide_eq_false hR
    clear hR h
    go_enter Try.func61, Try.ntmps61
    go_wp2_with (first | (go_at_call 22; refine (rright_run _ _ _ _).mono ?_; rintro e w2 ⟨rfl, hb2⟩))
    go_ret
    exact ⟨rfl, Below.then_ (below_one _ _) hb2⟩
end Go.Proofs.Ytlchnmkmepippaa.Layout
