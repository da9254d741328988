/- The walk of LayoutOne, joined. -/
import Derived.Test.YtlchnmkmepippaaLayoutOneX1
import Derived.Test.YtlchnmkmepippaaLayoutOneX2
import Derived.Test.YtlchnmkmepippaaLayoutOneX3
import Derived.Test.YtlchnmkmepippaaLayoutOneX4
import Derived.Test.YtlchnmkmepippaaLayoutOneX5
import Derived.Test.YtlchnmkmepippaaLayoutOneX6
import Derived.Test.YtlchnmkmepippaaRead
set_option maxRecDepth 100000
set_option linter.unusedVariables false
namespace Go.Proofs.Ytlchnmkmepippaa.Layout
open Go.RowKit Go.Proofs.Ytlchnmkmepippaa.TK Go.Proofs.Ytlchnmkmepippaa.Flag Go.Proofs.Ytlchnmkmepippaa.Read
theorem one_walk (w : World) (cs0 : List Value) (w0 : AllL w [.base (.int .i64), .base (.int .i64), .base (.int .i64)] cs0) (cs1 : List Value) (w1 : AllL w [.base (.int .i64), .base (.int .i64)] cs1) (i : Int) (hi : (Lit.int .u64 i).wf = true) :
    Calls Try.prog 11 #[.agg cs0.toArray, .agg cs1.toArray, .int .u64 i] w fun e w' => e = .returned (.bool true) ∧ Below w.heap.size w w' := by
  obtain ⟨p, t, g, rfl, _, _, _⟩ := three_ints w0
  obtain ⟨n, field, rfl, _, _⟩ := two_ints w1
  have hI : Hid (0 ≤ i ∧ i < 18446744073709551616) := wf_u64 hi
  by_cases hR : ¬ Right p t g
  · exact one_no w p t g n field i hI hR
  replace hR := Classical.not_not.1 hR
  have HR := hid hR
  have hR2 := hR
  unfold Right at hR2
  have hm : 0 ≤ i % 256 ∧ i % 256 < 256 := by omega
  by_cases hbad : n < 0 ∨ 0 ≤ n ∧ field < 0 ∨ 0 ≤ n ∧ 0 ≤ field ∧ 70000 < n ∨ 0 ≤ n ∧ 0 ≤ field ∧ n ≤ 70000 ∧ 70000 < field
  · by_cases hp : 0 ≤ n ∧ n < p
    · exact one_bad w p t g n field i hI HR (28 + n * 264 + i % 256) (by rw [place_one, one_some (by omega)]) (by rw [place_one, one_none (by omega)]) (by rw [place_one, one_none (by omega)]) (by rw [place_one, one_none (by omega)]) (.inl ⟨hp.1, hp.2, rfl⟩) hbad
    · exact one_bad w p t g n field i hI HR (-1) (by rw [place_one, one_none (by omega)]) (by rw [place_one, one_none (by omega)]) (by rw [place_one, one_none (by omega)]) (by rw [place_one, one_none (by omega)]) (.inr ⟨by omega, rfl⟩) hbad
  have h0 : 0 ≤ n := by omega
  have h1 : n ≤ 70000 := by omega
  have h2 : 0 ≤ field := by omega
  have h3 : field ≤ 70000 := by omega
  have L0 (h : n < 2) := (show placeN true 0 n 2 3 0 3 = 3 * n by rw [place_one, one_some (by omega)]; omega)
  have L1 (h : n < 2) := (show placeN true 0 n 2 3 1 3 = 3 * n + 1 by rw [place_one, one_some (by omega)]; omega)
  have L2 (h : n < 2) := (show placeN true 0 n 2 3 2 3 = 3 * n + 2 by rw [place_one, one_some (by omega)]; omega)
  have L3 (h : n < 2) := (show oneN n 2 0 3 (3 * n) = 3 * n from one_some (by omega))
  have N0 (h : 2 ≤ n) := (show placeN true 0 n 2 3 0 3 = -1 by rw [place_one, one_none (by omega)])
  have N1 (h : 2 ≤ n) := (show oneN n 2 0 3 (3 * n) = -1 from one_none (by omega))
  have W0 (h : field < 6) := (show wordN field = -1 from if_neg (by omega))
  have W1 (h : 6 ≤ field) (h' : field ≤ 19) := (show wordN field = field from if_pos ⟨h, h'⟩)
  have W2 (h : 19 < field) := (show wordN field = -1 from if_neg (by omega))
  by_cases hp : n < p
  · have e1 : placeN true 28 n p 264 (i % 256) 256 = 28 + n * 264 + i % 256 := by rw [place_one, one_some (by omega)]
    rcases (show field < 6 ∨ (6 ≤ field ∧ field ≤ 19) ∨ (6 ≤ field ∧ 19 < field) by omega) with hf | ⟨hf, hf'⟩ | ⟨hf, hf'⟩
    · by_cases hl : n < 2
      · exact one_in_000 w p t g n field i hI HR _ e1 hp rfl h0 h1 h2 h3 hf (W0 hf) hl (L0 hl) (L1 hl) (L2 hl) (L3 hl) (by omega)
      · exact one_in_001 w p t g n field i hI HR _ e1 hp rfl h0 h1 h2 h3 hf (W0 hf) (by omega) (N0 (by omega)) (N1 (by omega))
    · by_cases hl : n < 2
      · exact one_in_010 w p t g n field i hI HR _ e1 hp rfl h0 h1 h2 h3 hf hf' (W1 hf hf') hl (L0 hl) (L1 hl) (L2 hl) (L3 hl) (by omega)
      · exact one_in_011 w p t g n field i hI HR _ e1 hp rfl h0 h1 h2 h3 hf hf' (W1 hf hf') (by omega) (N0 (by omega)) (N1 (by omega))
    · by_cases hl : n < 2
      · exact one_in_020 w p t g n field i hI HR _ e1 hp rfl h0 h1 h2 h3 hf hf' (W2 hf') hl (L0 hl) (L1 hl) (L2 hl) (L3 hl) (by omega)
      · exact one_in_021 w p t g n field i hI HR _ e1 hp rfl h0 h1 h2 h3 hf hf' (W2 hf') (by omega) (N0 (by omega)) (N1 (by omega))
  · have e1 : placeN true 28 n p 264 (i % 256) 256 = -1 := by rw [place_one, one_none (by omega)]
    rcases (show field < 6 ∨ (6 ≤ field ∧ field ≤ 19) ∨ (6 ≤ field ∧ 19 < field) by omega) with hf | ⟨hf, hf'⟩ | ⟨hf, hf'⟩
    · by_cases hl : n < 2
      · exact one_in_100 w p t g n field i hI HR _ e1 (by omega) rfl h0 h1 h2 h3 hf (W0 hf) hl (L0 hl) (L1 hl) (L2 hl) (L3 hl) (by omega)
      · exact one_in_101 w p t g n field i hI HR _ e1 (by omega) rfl h0 h1 h2 h3 hf (W0 hf) (by omega) (N0 (by omega)) (N1 (by omega))
    · by_cases hl : n < 2
      · exact one_in_110 w p t g n field i hI HR _ e1 (by omega) rfl h0 h1 h2 h3 hf hf' (W1 hf hf') hl (L0 hl) (L1 hl) (L2 hl) (L3 hl) (by omega)
      · exact one_in_111 w p t g n field i hI HR _ e1 (by omega) rfl h0 h1 h2 h3 hf hf' (W1 hf hf') (by omega) (N0 (by omega)) (N1 (by omega))
    · by_cases hl : n < 2
      · exact one_in_120 w p t g n field i hI HR _ e1 (by omega) rfl h0 h1 h2 h3 hf hf' (W2 hf') hl (L0 hl) (L1 hl) (L2 hl) (L3 hl) (by omega)
      · exact one_in_121 w p t g n field i hI HR _ e1 (by omega) rfl h0 h1 h2 h3 hf hf' (W2 hf') (by omega) (N0 (by omega)) (N1 (by omega))
end Go.Proofs.Ytlchnmkmepippaa.Layout
