/- An order has each number once; unlike starts or steps have unlike orders. Plain. -/
import Derived.Test.YtlchnmkmepippaaOrdB
set_option linter.unusedVariables false
namespace Go.Proofs.Ytlchnmkmepippaa.Ord
theorem inv_of (n s : Nat) (h1 : 2 ≤ n) (h2 : n ≤ 64) (h3 : s ≤ 64) (hg : Nat.gcd s n = 1) : ∃ t, t < n ∧ s * t % n = 1 := by
  have key : ∀ n, n < 65 → ∀ s, s < 65 → n < 2 ∨ Nat.gcd s n ≠ 1 ∨ (List.range n).any (fun t => s * t % n == 1) = true := by decide +kernel
  rcases key n (by omega) s (by omega) with h | h | h
  · omega
  · exact absurd hg h
  · obtain ⟨t, ht, h4⟩ := List.any_eq_true.1 h
    exact ⟨t, by simpa using ht, by simpa using h4⟩
/-- The place of a number. -/
theorem place_of (n w0 : Nat) (h1 : 1 ≤ n) (h2 : n ≤ 64) : ∃ g : Nat → Nat, ∀ i j, i < n → j < n → (at_ n w0 i = j ↔ i = g j) ∧ g j < n := by
  rcases Nat.lt_or_ge n 2 with hn | hn
  · obtain rfl : n = 1 := by omega
    refine ⟨fun _ => 0, fun i j hi hj => ⟨?_, by simp⟩⟩
    have := at_lt 1 w0 i (by omega)
    show _ ↔ i = 0
    omega
  · have hs := step_range n w0 h1
    have ha := start_lt n w0 h1
    obtain ⟨t, ht, hst⟩ := inv_of n (step n w0) hn h2 (by omega) hs.2.2
    obtain ⟨a, had⟩ : ∃ a, a = start n w0 := ⟨_, rfl⟩
    obtain ⟨s, hsd⟩ : ∃ s, s = step n w0 := ⟨_, rfl⟩
    have hat : ∀ i, at_ n w0 i = (a + i * s) % n := by intro i; rw [had, hsd]; rfl
    rw [← had] at ha
    rw [← hsd] at hs hst
    obtain ⟨c, hc⟩ : ∃ c, s * t = 1 + n * c := ⟨s * t / n, by have := Nat.div_add_mod (s * t) n; omega⟩
    refine ⟨fun j => ((j + (n - a)) * t) % n, fun i j hi hj => ⟨⟨fun h => ?_, fun h => ?_⟩, Nat.mod_lt _ (by omega)⟩⟩
    · rw [hat] at h
      have hd := Nat.div_add_mod (a + i * s) n
      obtain ⟨q, hq⟩ : ∃ q, q = (a + i * s) / n := ⟨_, rfl⟩
      rw [← hq, h] at hd
      have e : (((j + (n - a)) * t : Nat) : Int) = (i : Int) + (n : Int) * ((i : Int) * (c : Int) + (1 - (q : Int)) * (t : Int)) := by
        have e1 : ((s : Int) * (t : Int)) = 1 + (n : Int) * (c : Int) := by exact_mod_cast hc
        have e2 : (n : Int) * (q : Int) + (j : Int) = (a : Int) + (i : Int) * (s : Int) := by exact_mod_cast hd
        have e3 : ((n - a : Nat) : Int) = (n : Int) - (a : Int) := by omega
        rw [Int.natCast_mul, Int.natCast_add, e3]
        grind
      have e4 : (((j + (n - a)) * t % n : Nat) : Int) = (i : Int) := by
        rw [Int.natCast_emod, e, Int.add_mul_emod_self_left]
        exact Int.emod_eq_of_lt (by omega) (by omega)
      exact_mod_cast e4.symm
    · rw [hat]
      have hd := Nat.div_add_mod ((j + (n - a)) * t) n
      obtain ⟨q, hq⟩ : ∃ q, q = (j + (n - a)) * t / n := ⟨_, rfl⟩
      dsimp only at h
      rw [← hq, ← h] at hd
      have e : ((a + i * s : Nat) : Int) = (j : Int) + (n : Int) * (1 + ((j : Int) + ((n : Int) - (a : Int))) * (c : Int) - (q : Int) * (s : Int)) := by
        have e1 : ((s : Int) * (t : Int)) = 1 + (n : Int) * (c : Int) := by exact_mod_cast hc
        have e3 : ((n - a : Nat) : Int) = (n : Int) - (a : Int) := by omega
        have e2 : (n : Int) * (q : Int) + (i : Int) = ((j : Int) + ((n : Int) - (a : Int))) * (t : Int) := by
          rw [← e3]; exact_mod_cast hd
        rw [Int.natCast_add, Int.natCast_mul]
        grind
      have e4 : ((((a + i * s) % n : Nat)) : Int) = (j : Int) := by
        rw [Int.natCast_emod, e, Int.add_mul_emod_self_left]
        exact Int.emod_eq_of_lt (by omega) (by omega)
      exact_mod_cast e4
theorem once (n w0 j : Nat) (h1 : 1 ≤ n) (h2 : n ≤ 64) (hj : j < n) : (orderL n w0).count j = 1 := by
  obtain ⟨g, hg⟩ := place_of n w0 h1 h2
  have hgj := (hg 0 j (by omega) hj).2
  have e : (orderL n w0).count j = (List.range n).count (g j) := by
    unfold orderL upto
    rw [List.count, List.countP_map, List.count]
    refine List.countP_congr (fun i hi => ?_)
    have := (hg i j (by simpa using hi) hj).1
    simp [this]
  rw [e, List.count_range, if_pos hgj]
theorem many (n v w : Nat) (h : 3 ≤ n) : (orderL n v = orderL n w) ↔ (start n v = start n w ∧ step n v = step n w) := by
  constructor
  · intro e
    have e0 : at_ n v 0 = at_ n w 0 := by
      have := congrArg (fun l => l[0]?) e
      simpa [orderL, upto, show 0 < n by omega] using this
    have e1 : at_ n v 1 = at_ n w 1 := by
      have := congrArg (fun l => l[1]?) e
      simpa [orderL, upto, show 1 < n by omega] using this
    have a0 := at_zero n v (by omega)
    have a1 := at_zero n w (by omega)
    have b0 := at_next n v 0 (by omega)
    have b1 := at_next n w 0 (by omega)
    rw [Nat.zero_add] at b0 b1
    have s0 := step_range n v (by omega)
    have s1 := step_range n w (by omega)
    have l0 := start_lt n v (by omega)
    have l1 := start_lt n w (by omega)
    refine ⟨by omega, ?_⟩
    split at b0 <;> split at b1 <;> try omega
    all_goals
      have hn : ∀ k, Nat.gcd k n = 1 → k = n → False := by
        intro k hk e
        subst e
        rw [Nat.gcd_self] at hk
        omega
      have n0 := hn _ s0.2.2
      have n1 := hn _ s1.2.2
      omega
  · rintro ⟨e0, e1⟩
    unfold orderL upto at_
    rw [e0, e1]
end Go.Proofs.Ytlchnmkmepippaa.Ord
