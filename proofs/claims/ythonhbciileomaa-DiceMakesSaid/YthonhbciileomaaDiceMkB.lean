/- Programs, draws, scripts, configs that dice make up: by the program and by the document. -/
import Derived.Test.YthonhbciileomaaDiceMk
import Derived.Deep.RegionHeld3
set_option maxRecDepth 100000
set_option maxHeartbeats 1000000
set_option linter.unusedVariables false
set_option linter.unusedSimpArgs false
namespace Go.Proofs.Ythonhbciileomaa.Dice
open Go.RowKit Go.Proofs.Ythonhbciileomaa.TK Go.Proofs.Ythonhbciileomaa.Flag Go.Proofs.Ythonhbciileomaa.Read Go.Proofs.Ythonhbciileomaa.Grow
theorem programs_1 (g : Nat) (a0 : Int) (m : Nat) (n : Int) (w : World) (hb : DiceAt w g a0 m) (h1 : n < 1) :
    Calls Try.prog 11 #[.pointer (some ⟨g, 0, none⟩), .int .i64 n] w fun e w' => ∃ v, e = .returned v ∧ Grow w' w.heap.size 22 1 (encI .u64) v (progs a0 1 m (1 : Int).toNat).1 ∧ DiceAt w' g a0 (progs a0 1 m (1 : Int).toNat).2 ∧ Kept [g] w w' := by
  have hg := hb.lt
  have HI := hid (And.intro hb (Kept.refl [g] w))
  clear hb
  have hc : 1 ≤ (1 : Int) ∧ (1 : Int) ≤ 16 := by omega
  go_enter Try.func11, Try.ntmps11
  go_wp2_with fail
  go_loopw [13, 5] (fun i v wr => ∃ p : Nat, (p : Int) ≤ 1 ∧ i = .int .i64 (p : Int) ∧ Grow wr w.heap.size 22 1 (encI .u64) v (progs a0 1 m p).1 ∧ DiceAt wr g a0 (progs a0 1 m p).2 ∧ Kept [g] w wr ∧ w.heap.size ≤ wr.heap.size) (fun i _ _ => (1 : Int).toNat - (intOf i).toNat)
  case atStart => exact ⟨0, by omega, rfl, Grow.nil _ _ _ _ _, HI.out.1, HI.out.2, Nat.le_refl _⟩
  case round =>
    clear HI
    obtain ⟨p, hp, rfl, hG, HD, HK, hle⟩ := hrel
    have hpl := progs_le a0 1 m p
    by_cases hlt : (p : Int) < 1
    · have hlt' : decide ((p : Int) < (1 : Int)) = true := decide_eq_true hlt
      have hstep := progs_succ a0 1 m p
      have hml := manyP_le a0 (progs a0 1 m p).2
      obtain ⟨⟨xs, mm⟩, hs⟩ : ∃ s, s = progs a0 1 m p := ⟨_, rfl⟩
      rw [← hs] at hG HD hpl hstep hml
      simp only at hG HD hpl hstep hml
      have HST := hid hstep
      clear hs hstep
      by_cases hp0 : p = 0
      · have hpa : parted p xs = xs := if_pos hp0
        rw [hpa] at HST
        have z1 : decide ((0 : Int) < (p : Int)) = false := decide_eq_false (by omega)
        have z2 : decide (0 < p) = false := decide_eq_false (by omega)
        clear hpa
        go_wp2_with fail
        refine (dbelow_run g a0 mm 8 _ HD (by omega) (by omega)).mono ?_
        rintro e w2 ⟨rfl, HD2, hK2⟩
        have hG2 := hG.kept hK2 (by simp; omega)
        have HK2 := HK.trans hK2 (by simp)
        have hle2 := Nat.le_trans hle hK2.size
        obtain ⟨c, hcd⟩ : ∃ c, c = blAt a0 mm 8 := ⟨_, rfl⟩
        rw [← hcd] at hml ⊢
        obtain ⟨M, hM⟩ : ∃ M, M = manyP a0 mm := ⟨_, rfl⟩
        rw [← hM] at hml HST
        clear hcd hM hG HD HK hle hK2
        go_wp2_with fail
        go_loopw [24, 5] (fun i v wr => ∃ j : Nat, j ≤ M ∧ i = .int .i64 (j : Int) ∧ Grow wr w.heap.size 22 1 (encI .u64) v (instrs a0 1 (xs, mm + 1) j).1 ∧ DiceAt wr g a0 (instrs a0 1 (xs, mm + 1) j).2 ∧ Kept [g] w wr ∧ w.heap.size ≤ wr.heap.size) (fun i _ _ => M - (intOf i).toNat)
        case atStart => exact ⟨0, by omega, rfl, hG2, HD2, HK2, hle2⟩
        case round =>
          clear hG2 HD2 HK2 hle2
          obtain ⟨j, hj, rfl, hG, HD, HK, hle⟩ := hrel
          have hil := instrs_le a0 1 (xs, mm + 1) j
          simp only at hil
          by_cases hlt2 : j < M
          · have hltj : decide ((j : Int) < 1 + c) = true := decide_eq_true (by omega)
            have hnx := instrs_succ a0 1 (xs, mm + 1) j
            obtain ⟨⟨ys, m3⟩, hs⟩ : ∃ s, s = instrs a0 1 (xs, mm + 1) j := ⟨_, rfl⟩
            rw [← hs] at hG HD hil hnx
            simp only at hG HD hil hnx
            have HNX := hid hnx
            clear hs hnx
            go_wp2_with fail
            refine (instr_run g a0 m3 1 _ HD hc).mono ?_
            rintro e w4 ⟨rfl, HD4, hK4⟩
            have hG4 := hG.kept hK4 (by simp; omega)
            have HK4 := HK.trans hK4 (by simp)
            have hle4 := Nat.le_trans hle hK4.size
            obtain ⟨⟨X, m4⟩, hX⟩ : ∃ s, s = instrL a0 1 m3 := ⟨_, rfl⟩
            rw [← hX] at HD4 HNX ⊢
            rw [show pushW (ys, m3) (X, m4) = (ys ++ [X], m4) from rfl] at HNX
            simp only at HD4 ⊢
            clear hX hG HD HK hle hK4
            have hG := hG4; have hle := hle4
            clear hG4 hle4
            go_wp2_with (first | (at_builtin; refine app_one (T := 22) X hG infoU Try.underlying39 rfl (by decide) (by omega) rfl _ _ rfl rfl rfl rfl rfl (encU_one X) (by omega) hle ?_; intro v' w5 hG5 hb5 hle5))
            have HD5 : DiceAt w5 g a0 m4 := Blk.below HD4 hb5 hg
            have HK5 := kept_low HK4 hb5 (Nat.le_refl _)
            have HR := hid (show Grow w5 w.heap.size 22 1 (encI .u64) v' (instrs a0 1 (xs, mm + 1) (j + 1)).1 ∧ DiceAt w5 g a0 (instrs a0 1 (xs, mm + 1) (j + 1)).2 ∧ Kept [g] w w5 ∧ w.heap.size ≤ w5.heap.size by rw [HNX.out]; exact ⟨hG5, HD5, HK5, hle5⟩)
            clear hG5 HD5 HK5 hle5 hG hle HD4 HK4 hb5
            go_roundw
            case rel => first | exact ⟨j + 1, by omega, by go_num, HR.out⟩ | ((repeat apply Exists.intro); exact ⟨⟨j + 1, by omega, by go_num, HR.out⟩, rfl⟩)
            case measure => simp [intOf]; omega
          · obtain rfl : j = M := by omega
            have hltj : decide ((j : Int) < 1 + c) = false := decide_eq_false (by omega)
            rw [← HST.out] at hG HD
            go_wp2_with fail
            go_roundw
            case rel => first | exact ⟨p + 1, by omega, by go_num, hG, HD, HK, hle⟩ | ((repeat apply Exists.intro); exact ⟨⟨p + 1, by omega, by go_num, hG, HD, HK, hle⟩, rfl⟩)
            case measure => simp [intOf]; omega
      · exact absurd hlt (by omega)
    · have hlt' : decide ((p : Int) < (1 : Int)) = false := decide_eq_false hlt
      have hpq : (1 : Int).toNat = p := by omega
      go_wp2
      go_ret
      try rw [hpq]
      exact ⟨_, rfl, hG, HD, HK⟩
theorem programs_n (g : Nat) (a0 : Int) (m : Nat) (n : Int) (w : World) (hb : DiceAt w g a0 m) (h1 : 1 ≤ n) (h2 : n < 16) :
    Calls Try.prog 11 #[.pointer (some ⟨g, 0, none⟩), .int .i64 n] w fun e w' => ∃ v, e = .returned v ∧ Grow w' w.heap.size 22 1 (encI .u64) v (progs a0 n m (n : Int).toNat).1 ∧ DiceAt w' g a0 (progs a0 n m (n : Int).toNat).2 ∧ Kept [g] w w' := by
  have hg := hb.lt
  have HI := hid (And.intro hb (Kept.refl [g] w))
  clear hb
  have hc : 1 ≤ (n : Int) ∧ (n : Int) ≤ 16 := by omega
  go_enter Try.func11, Try.ntmps11
  go_wp2_with fail
  go_loopw [13, 5] (fun i v wr => ∃ p : Nat, (p : Int) ≤ n ∧ i = .int .i64 (p : Int) ∧ Grow wr w.heap.size 22 1 (encI .u64) v (progs a0 n m p).1 ∧ DiceAt wr g a0 (progs a0 n m p).2 ∧ Kept [g] w wr ∧ w.heap.size ≤ wr.heap.size) (fun i _ _ => n.toNat - (intOf i).toNat)
  case atStart => exact ⟨0, by omega, rfl, Grow.nil _ _ _ _ _, HI.out.1, HI.out.2, Nat.le_refl _⟩
  case round =>
    clear HI
    obtain ⟨p, hp, rfl, hG, HD, HK, hle⟩ := hrel
    have hpl := progs_le a0 n m p
    by_cases hlt : (p : Int) < n
    · have hlt' : decide ((p : Int) < n) = true := decide_eq_true hlt
      have hstep := progs_succ a0 n m p
      have hml := manyP_le a0 (progs a0 n m p).2
      obtain ⟨⟨xs, mm⟩, hs⟩ : ∃ s, s = progs a0 n m p := ⟨_, rfl⟩
      rw [← hs] at hG HD hpl hstep hml
      simp only at hG HD hpl hstep hml
      have HST := hid hstep
      clear hs hstep
      by_cases hp0 : p = 0
      · have hpa : parted p xs = xs := if_pos hp0
        rw [hpa] at HST
        have z1 : decide ((0 : Int) < (p : Int)) = false := decide_eq_false (by omega)
        have z2 : decide (0 < p) = false := decide_eq_false (by omega)
        clear hpa
        go_wp2_with fail
        refine (dbelow_run g a0 mm 8 _ HD (by omega) (by omega)).mono ?_
        rintro e w2 ⟨rfl, HD2, hK2⟩
        have hG2 := hG.kept hK2 (by simp; omega)
        have HK2 := HK.trans hK2 (by simp)
        have hle2 := Nat.le_trans hle hK2.size
        obtain ⟨c, hcd⟩ : ∃ c, c = blAt a0 mm 8 := ⟨_, rfl⟩
        rw [← hcd] at hml ⊢
        obtain ⟨M, hM⟩ : ∃ M, M = manyP a0 mm := ⟨_, rfl⟩
        rw [← hM] at hml HST
        clear hcd hM hG HD HK hle hK2
        go_wp2_with fail
        go_loopw [24, 5] (fun i v wr => ∃ j : Nat, j ≤ M ∧ i = .int .i64 (j : Int) ∧ Grow wr w.heap.size 22 1 (encI .u64) v (instrs a0 n (xs, mm + 1) j).1 ∧ DiceAt wr g a0 (instrs a0 n (xs, mm + 1) j).2 ∧ Kept [g] w wr ∧ w.heap.size ≤ wr.heap.size) (fun i _ _ => M - (intOf i).toNat)
        case atStart => exact ⟨0, by omega, rfl, hG2, HD2, HK2, hle2⟩
        case round =>
          clear hG2 HD2 HK2 hle2
          obtain ⟨j, hj, rfl, hG, HD, HK, hle⟩ := hrel
          have hil := instrs_le a0 n (xs, mm + 1) j
          simp only at hil
          by_cases hlt2 : j < M
          · have hltj : decide ((j : Int) < 1 + c) = true := decide_eq_true (by omega)
            have hnx := instrs_succ a0 n (xs, mm + 1) j
            obtain ⟨⟨ys, m3⟩, hs⟩ : ∃ s, s = instrs a0 n (xs, mm + 1) j := ⟨_, rfl⟩
            rw [← hs] at hG HD hil hnx
            simp only at hG HD hil hnx
            have HNX := hid hnx
            clear hs hnx
            go_wp2_with fail
            refine (instr_run g a0 m3 n _ HD hc).mono ?_
            rintro e w4 ⟨rfl, HD4, hK4⟩
            have hG4 := hG.kept hK4 (by simp; omega)
            have HK4 := HK.trans hK4 (by simp)
            have hle4 := Nat.le_trans hle hK4.size
            obtain ⟨⟨X, m4⟩, hX⟩ : ∃ s, s = instrL a0 n m3 := ⟨_, rfl⟩
            rw [← hX] at HD4 HNX ⊢
            rw [show pushW (ys, m3) (X, m4) = (ys ++ [X], m4) from rfl] at HNX
            simp only at HD4 ⊢
            clear hX hG HD HK hle hK4
            have hG := hG4; have hle := hle4
            clear hG4 hle4
            go_wp2_with (first | (at_builtin; refine app_one (T := 22) X hG infoU Try.underlying39 rfl (by decide) (by omega) rfl _ _ rfl rfl rfl rfl rfl (encU_one X) (by omega) hle ?_; intro v' w5 hG5 hb5 hle5))
            have HD5 : DiceAt w5 g a0 m4 := Blk.below HD4 hb5 hg
            have HK5 := kept_low HK4 hb5 (Nat.le_refl _)
            have HR := hid (show Grow w5 w.heap.size 22 1 (encI .u64) v' (instrs a0 n (xs, mm + 1) (j + 1)).1 ∧ DiceAt w5 g a0 (instrs a0 n (xs, mm + 1) (j + 1)).2 ∧ Kept [g] w w5 ∧ w.heap.size ≤ w5.heap.size by rw [HNX.out]; exact ⟨hG5, HD5, HK5, hle5⟩)
            clear hG5 HD5 HK5 hle5 hG hle HD4 HK4 hb5
            go_roundw
            case rel => first | exact ⟨j + 1, by omega, by go_num, HR.out⟩ | ((repeat apply Exists.intro); exact ⟨⟨j + 1, by omega, by go_num, HR.out⟩, rfl⟩)
            case measure => simp [intOf]; omega
          · obtain rfl : j = M := by omega
            have hltj : decide ((j : Int) < 1 + c) = false := decide_eq_false (by omega)
            rw [← HST.out] at hG HD
            go_wp2_with fail
            go_roundw
            case rel => first | exact ⟨p + 1, by omega, by go_num, hG, HD, HK, hle⟩ | ((repeat apply Exists.intro); exact ⟨⟨p + 1, by omega, by go_num, hG, HD, HK, hle⟩, rfl⟩)
            case measure => simp [intOf]; omega
      · have hpa : parted p xs = xs ++ [7] := if_neg hp0
        rw [hpa] at HST
        have z1 : decide ((0 : Int) < (p : Int)) = true := decide_eq_true (by omega)
        have z2 : decide (0 < p) = true := decide_eq_true (by omega)
        obtain ⟨X, hX⟩ : ∃ X : Int, X = 7 := ⟨_, rfl⟩
        clear hpa
        go_wp2_with (first | (at_builtin; refine app_one (T := 22) 7 hG infoU Try.underlying39 rfl (by decide) (by omega) rfl _ _ rfl rfl rfl rfl rfl (encU_one 7) (by omega) hle ?_; intro v' w5 hG5 hb5 hle5))
        have HD5 : DiceAt w5 g a0 mm := Blk.below HD hb5 hg
        have HK5 := kept_low HK hb5 (Nat.le_refl _)
        clear hG HD HK hle hb5 X hX
        obtain ⟨ys, hys⟩ : ∃ ys, ys = xs ++ [7] := ⟨_, rfl⟩
        have hyl : ys.length = xs.length + 1 := by rw [hys]; simp
        rw [← hys] at hG5 HST
        replace hpl : ys.length ≤ 9 * p + 1 ∧ mm ≤ m + 17 * p ∧ p ≤ ys.length := by omega
        clear hys hyl
        have hG := hG5; have HD := HD5; have HK := HK5; have hle := hle5
        clear hG5 HD5 HK5 hle5
        obtain ⟨xs, hxs⟩ : ∃ xs, xs = ys := ⟨_, rfl⟩
        rw [← hxs] at hG HST hpl
        clear hxs
        refine (dbelow_run g a0 mm 8 _ HD (by omega) (by omega)).mono ?_
        rintro e w2 ⟨rfl, HD2, hK2⟩
        have hG2 := hG.kept hK2 (by simp; omega)
        have HK2 := HK.trans hK2 (by simp)
        have hle2 := Nat.le_trans hle hK2.size
        obtain ⟨c, hcd⟩ : ∃ c, c = blAt a0 mm 8 := ⟨_, rfl⟩
        rw [← hcd] at hml ⊢
        obtain ⟨M, hM⟩ : ∃ M, M = manyP a0 mm := ⟨_, rfl⟩
        rw [← hM] at hml HST
        clear hcd hM hG HD HK hle hK2
        go_wp2_with fail
        go_loopw [24, 5] (fun i v wr => ∃ j : Nat, j ≤ M ∧ i = .int .i64 (j : Int) ∧ Grow wr w.heap.size 22 1 (encI .u64) v (instrs a0 n (xs, mm + 1) j).1 ∧ DiceAt wr g a0 (instrs a0 n (xs, mm + 1) j).2 ∧ Kept [g] w wr ∧ w.heap.size ≤ wr.heap.size) (fun i _ _ => M - (intOf i).toNat)
        case atStart => exact ⟨0, by omega, rfl, hG2, HD2, HK2, hle2⟩
        case round =>
          clear hG2 HD2 HK2 hle2
          obtain ⟨j, hj, rfl, hG, HD, HK, hle⟩ := hrel
          have hil := instrs_le a0 n (xs, mm + 1) j
          simp only at hil
          by_cases hlt2 : j < M
          · have hltj : decide ((j : Int) < 1 + c) = true := decide_eq_true (by omega)
            have hnx := instrs_succ a0 n (xs, mm + 1) j
            obtain ⟨⟨ys, m3⟩, hs⟩ : ∃ s, s = instrs a0 n (xs, mm + 1) j := ⟨_, rfl⟩
            rw [← hs] at hG HD hil hnx
            simp only at hG HD hil hnx
            have HNX := hid hnx
            clear hs hnx
            go_wp2_with fail
            refine (instr_run g a0 m3 n _ HD hc).mono ?_
            rintro e w4 ⟨rfl, HD4, hK4⟩
            have hG4 := hG.kept hK4 (by simp; omega)
            have HK4 := HK.trans hK4 (by simp)
            have hle4 := Nat.le_trans hle hK4.size
            obtain ⟨⟨X, m4⟩, hX⟩ : ∃ s, s = instrL a0 n m3 := ⟨_, rfl⟩
            rw [← hX] at HD4 HNX ⊢
            rw [show pushW (ys, m3) (X, m4) = (ys ++ [X], m4) from rfl] at HNX
            simp only at HD4 ⊢
            clear hX hG HD HK hle hK4
            have hG := hG4; have hle := hle4
            clear hG4 hle4
            go_wp2_with (first | (at_builtin; refine app_one (T := 22) X hG infoU Try.underlying39 rfl (by decide) (by omega) rfl _ _ rfl rfl rfl rfl rfl (encU_one X) (by omega) hle ?_; intro v' w5 hG5 hb5 hle5))
            have HD5 : DiceAt w5 g a0 m4 := Blk.below HD4 hb5 hg
            have HK5 := kept_low HK4 hb5 (Nat.le_refl _)
            have HR := hid (show Grow w5 w.heap.size 22 1 (encI .u64) v' (instrs a0 n (xs, mm + 1) (j + 1)).1 ∧ DiceAt w5 g a0 (instrs a0 n (xs, mm + 1) (j + 1)).2 ∧ Kept [g] w w5 ∧ w.heap.size ≤ w5.heap.size by rw [HNX.out]; exact ⟨hG5, HD5, HK5, hle5⟩)
            clear hG5 HD5 HK5 hle5 hG hle HD4 HK4 hb5
            go_roundw
            case rel => first | exact ⟨j + 1, by omega, by go_num, HR.out⟩ | ((repeat apply Exists.intro); exact ⟨⟨j + 1, by omega, by go_num, HR.out⟩, rfl⟩)
            case measure => simp [intOf]; omega
          · obtain rfl : j = M := by omega
            have hltj : decide ((j : Int) < 1 + c) = false := decide_eq_false (by omega)
            rw [← HST.out] at hG HD
            go_wp2_with fail
            go_roundw
            case rel => first | exact ⟨p + 1, by omega, by go_num, hG, HD, HK, hle⟩ | ((repeat apply Exists.intro); exact ⟨⟨p + 1, by omega, by go_num, hG, HD, HK, hle⟩, rfl⟩)
            case measure => simp [intOf]; omega
    · have hlt' : decide ((p : Int) < n) = false := decide_eq_false hlt
      have hpq : n.toNat = p := by omega
      go_wp2
      go_ret
      try rw [hpq]
      exact ⟨_, rfl, hG, HD, HK⟩
theorem programs_e (g : Nat) (a0 : Int) (m : Nat) (w : World) (hb : DiceAt w g a0 m)  :
    Calls Try.prog 11 #[.pointer (some ⟨g, 0, none⟩), .int .i64 16] w fun e w' => ∃ v, e = .returned v ∧ Grow w' w.heap.size 22 1 (encI .u64) v (progs a0 16 m (16 : Int).toNat).1 ∧ DiceAt w' g a0 (progs a0 16 m (16 : Int).toNat).2 ∧ Kept [g] w w' := by
  have hg := hb.lt
  have HI := hid (And.intro hb (Kept.refl [g] w))
  clear hb
  have hc : 1 ≤ (16 : Int) ∧ (16 : Int) ≤ 16 := by omega
  go_enter Try.func11, Try.ntmps11
  go_wp2_with fail
  go_loopw [13, 5] (fun i v wr => ∃ p : Nat, (p : Int) ≤ 16 ∧ i = .int .i64 (p : Int) ∧ Grow wr w.heap.size 22 1 (encI .u64) v (progs a0 16 m p).1 ∧ DiceAt wr g a0 (progs a0 16 m p).2 ∧ Kept [g] w wr ∧ w.heap.size ≤ wr.heap.size) (fun i _ _ => (16 : Int).toNat - (intOf i).toNat)
  case atStart => exact ⟨0, by omega, rfl, Grow.nil _ _ _ _ _, HI.out.1, HI.out.2, Nat.le_refl _⟩
  case round =>
    clear HI
    obtain ⟨p, hp, rfl, hG, HD, HK, hle⟩ := hrel
    have hpl := progs_le a0 16 m p
    by_cases hlt : (p : Int) < 16
    · have hlt' : decide ((p : Int) < (16 : Int)) = true := decide_eq_true hlt
      have hstep := progs_succ a0 16 m p
      have hml := manyP_le a0 (progs a0 16 m p).2
      obtain ⟨⟨xs, mm⟩, hs⟩ : ∃ s, s = progs a0 16 m p := ⟨_, rfl⟩
      rw [← hs] at hG HD hpl hstep hml
      simp only at hG HD hpl hstep hml
      have HST := hid hstep
      clear hs hstep
      by_cases hp0 : p = 0
      · have hpa : parted p xs = xs := if_pos hp0
        rw [hpa] at HST
        have z1 : decide ((0 : Int) < (p : Int)) = false := decide_eq_false (by omega)
        have z2 : decide (0 < p) = false := decide_eq_false (by omega)
        clear hpa
        go_wp2_with fail
        refine (dbelow_run g a0 mm 8 _ HD (by omega) (by omega)).mono ?_
        rintro e w2 ⟨rfl, HD2, hK2⟩
        have hG2 := hG.kept hK2 (by simp; omega)
        have HK2 := HK.trans hK2 (by simp)
        have hle2 := Nat.le_trans hle hK2.size
        obtain ⟨c, hcd⟩ : ∃ c, c = blAt a0 mm 8 := ⟨_, rfl⟩
        rw [← hcd] at hml ⊢
        obtain ⟨M, hM⟩ : ∃ M, M = manyP a0 mm := ⟨_, rfl⟩
        rw [← hM] at hml HST
        clear hcd hM hG HD HK hle hK2
        go_wp2_with fail
        go_loopw [24, 5] (fun i v wr => ∃ j : Nat, j ≤ M ∧ i = .int .i64 (j : Int) ∧ Grow wr w.heap.size 22 1 (encI .u64) v (instrs a0 16 (xs, mm + 1) j).1 ∧ DiceAt wr g a0 (instrs a0 16 (xs, mm + 1) j).2 ∧ Kept [g] w wr ∧ w.heap.size ≤ wr.heap.size) (fun i _ _ => M - (intOf i).toNat)
        case atStart => exact ⟨0, by omega, rfl, hG2, HD2, HK2, hle2⟩
        case round =>
          clear hG2 HD2 HK2 hle2
          obtain ⟨j, hj, rfl, hG, HD, HK, hle⟩ := hrel
          have hil := instrs_le a0 16 (xs, mm + 1) j
          simp only at hil
          by_cases hlt2 : j < M
          · have hltj : decide ((j : Int) < 1 + c) = true := decide_eq_true (by omega)
            have hnx := instrs_succ a0 16 (xs, mm + 1) j
            obtain ⟨⟨ys, m3⟩, hs⟩ : ∃ s, s = instrs a0 16 (xs, mm + 1) j := ⟨_, rfl⟩
            rw [← hs] at hG HD hil hnx
            simp only at hG HD hil hnx
            have HNX := hid hnx
            clear hs hnx
            go_wp2_with fail
            refine (instr_run g a0 m3 16 _ HD hc).mono ?_
            rintro e w4 ⟨rfl, HD4, hK4⟩
            have hG4 := hG.kept hK4 (by simp; omega)
            have HK4 := HK.trans hK4 (by simp)
            have hle4 := Nat.le_trans hle hK4.size
            obtain ⟨⟨X, m4⟩, hX⟩ : ∃ s, s = instrL a0 16 m3 := ⟨_, rfl⟩
            rw [← hX] at HD4 HNX ⊢
            rw [show pushW (ys, m3) (X, m4) = (ys ++ [X], m4) from rfl] at HNX
            simp only at HD4 ⊢
            clear hX hG HD HK hle hK4
            have hG := hG4; have hle := hle4
            clear hG4 hle4
            go_wp2_with (first | (at_builtin; refine app_one (T := 22) X hG infoU Try.underlying39 rfl (by decide) (by omega) rfl _ _ rfl rfl rfl rfl rfl (encU_one X) (by omega) hle ?_; intro v' w5 hG5 hb5 hle5))
            have HD5 : DiceAt w5 g a0 m4 := Blk.below HD4 hb5 hg
            have HK5 := kept_low HK4 hb5 (Nat.le_refl _)
            have HR := hid (show Grow w5 w.heap.size 22 1 (encI .u64) v' (instrs a0 16 (xs, mm + 1) (j + 1)).1 ∧ DiceAt w5 g a0 (instrs a0 16 (xs, mm + 1) (j + 1)).2 ∧ Kept [g] w w5 ∧ w.heap.size ≤ w5.heap.size by rw [HNX.out]; exact ⟨hG5, HD5, HK5, hle5⟩)
            clear hG5 HD5 HK5 hle5 hG hle HD4 HK4 hb5
            go_roundw
            case rel => first | exact ⟨j + 1, by omega, by go_num, HR.out⟩ | ((repeat apply Exists.intro); exact ⟨⟨j + 1, by omega, by go_num, HR.out⟩, rfl⟩)
            case measure => simp [intOf]; omega
          · obtain rfl : j = M := by omega
            have hltj : decide ((j : Int) < 1 + c) = false := decide_eq_false (by omega)
            rw [← HST.out] at hG HD
            go_wp2_with fail
            go_roundw
            case rel => first | exact ⟨p + 1, by omega, by go_num, hG, HD, HK, hle⟩ | ((repeat apply Exists.intro); exact ⟨⟨p + 1, by omega, by go_num, hG, HD, HK, hle⟩, rfl⟩)
            case measure => simp [intOf]; omega
      · have hpa : parted p xs = xs ++ [7] := if_neg hp0
        rw [hpa] at HST
        have z1 : decide ((0 : Int) < (p : Int)) = true := decide_eq_true (by omega)
        have z2 : decide (0 < p) = true := decide_eq_true (by omega)
        obtain ⟨X, hX⟩ : ∃ X : Int, X = 7 := ⟨_, rfl⟩
        clear hpa
        go_wp2_with (first | (at_builtin; refine app_one (T := 22) 7 hG infoU Try.underlying39 rfl (by decide) (by omega) rfl _ _ rfl rfl rfl rfl rfl (encU_one 7) (by omega) hle ?_; intro v' w5 hG5 hb5 hle5))
        have HD5 : DiceAt w5 g a0 mm := Blk.below HD hb5 hg
        have HK5 := kept_low HK hb5 (Nat.le_refl _)
        clear hG HD HK hle hb5 X hX
        obtain ⟨ys, hys⟩ : ∃ ys, ys = xs ++ [7] := ⟨_, rfl⟩
        have hyl : ys.length = xs.length + 1 := by rw [hys]; simp
        rw [← hys] at hG5 HST
        replace hpl : ys.length ≤ 9 * p + 1 ∧ mm ≤ m + 17 * p ∧ p ≤ ys.length := by omega
        clear hys hyl
        have hG := hG5; have HD := HD5; have HK := HK5; have hle := hle5
        clear hG5 HD5 HK5 hle5
        obtain ⟨xs, hxs⟩ : ∃ xs, xs = ys := ⟨_, rfl⟩
        rw [← hxs] at hG HST hpl
        clear hxs
        refine (dbelow_run g a0 mm 8 _ HD (by omega) (by omega)).mono ?_
        rintro e w2 ⟨rfl, HD2, hK2⟩
        have hG2 := hG.kept hK2 (by simp; omega)
        have HK2 := HK.trans hK2 (by simp)
        have hle2 := Nat.le_trans hle hK2.size
        obtain ⟨c, hcd⟩ : ∃ c, c = blAt a0 mm 8 := ⟨_, rfl⟩
        rw [← hcd] at hml ⊢
        obtain ⟨M, hM⟩ : ∃ M, M = manyP a0 mm := ⟨_, rfl⟩
        rw [← hM] at hml HST
        clear hcd hM hG HD HK hle hK2
        go_wp2_with fail
        go_loopw [24, 5] (fun i v wr => ∃ j : Nat, j ≤ M ∧ i = .int .i64 (j : Int) ∧ Grow wr w.heap.size 22 1 (encI .u64) v (instrs a0 16 (xs, mm + 1) j).1 ∧ DiceAt wr g a0 (instrs a0 16 (xs, mm + 1) j).2 ∧ Kept [g] w wr ∧ w.heap.size ≤ wr.heap.size) (fun i _ _ => M - (intOf i).toNat)
        case atStart => exact ⟨0, by omega, rfl, hG2, HD2, HK2, hle2⟩
        case round =>
          clear hG2 HD2 HK2 hle2
          obtain ⟨j, hj, rfl, hG, HD, HK, hle⟩ := hrel
          have hil := instrs_le a0 16 (xs, mm + 1) j
          simp only at hil
          by_cases hlt2 : j < M
          · have hltj : decide ((j : Int) < 1 + c) = true := decide_eq_true (by omega)
            have hnx := instrs_succ a0 16 (xs, mm + 1) j
            obtain ⟨⟨ys, m3⟩, hs⟩ : ∃ s, s = instrs a0 16 (xs, mm + 1) j := ⟨_, rfl⟩
            rw [← hs] at hG HD hil hnx
            simp only at hG HD hil hnx
            have HNX := hid hnx
            clear hs hnx
            go_wp2_with fail
            refine (instr_run g a0 m3 16 _ HD hc).mono ?_
            rintro e w4 ⟨rfl, HD4, hK4⟩
            have hG4 := hG.kept hK4 (by simp; omega)
            have HK4 := HK.trans hK4 (by simp)
            have hle4 := Nat.le_trans hle hK4.size
            obtain ⟨⟨X, m4⟩, hX⟩ : ∃ s, s = instrL a0 16 m3 := ⟨_, rfl⟩
            rw [← hX] at HD4 HNX ⊢
            rw [show pushW (ys, m3) (X, m4) = (ys ++ [X], m4) from rfl] at HNX
            simp only at HD4 ⊢
            clear hX hG HD HK hle hK4
            have hG := hG4; have hle := hle4
            clear hG4 hle4
            go_wp2_with (first | (at_builtin; refine app_one (T := 22) X hG infoU Try.underlying39 rfl (by decide) (by omega) rfl _ _ rfl rfl rfl rfl rfl (encU_one X) (by omega) hle ?_; intro v' w5 hG5 hb5 hle5))
            have HD5 : DiceAt w5 g a0 m4 := Blk.below HD4 hb5 hg
            have HK5 := kept_low HK4 hb5 (Nat.le_refl _)
            have HR := hid (show Grow w5 w.heap.size 22 1 (encI .u64) v' (instrs a0 16 (xs, mm + 1) (j + 1)).1 ∧ DiceAt w5 g a0 (instrs a0 16 (xs, mm + 1) (j + 1)).2 ∧ Kept [g] w w5 ∧ w.heap.size ≤ w5.heap.size by rw [HNX.out]; exact ⟨hG5, HD5, HK5, hle5⟩)
            clear hG5 HD5 HK5 hle5 hG hle HD4 HK4 hb5
            go_roundw
            case rel => first | exact ⟨j + 1, by omega, by go_num, HR.out⟩ | ((repeat apply Exists.intro); exact ⟨⟨j + 1, by omega, by go_num, HR.out⟩, rfl⟩)
            case measure => simp [intOf]; omega
          · obtain rfl : j = M := by omega
            have hltj : decide ((j : Int) < 1 + c) = false := decide_eq_false (by omega)
            rw [← HST.out] at hG HD
            go_wp2_with fail
            go_roundw
            case rel => first | exact ⟨p + 1, by omega, by go_num, hG, HD, HK, hle⟩ | ((repeat apply Exists.intro); exact ⟨⟨p + 1, by omega, by go_num, hG, HD, HK, hle⟩, rfl⟩)
            case measure => simp [intOf]; omega
    · have hlt' : decide ((p : Int) < (16 : Int)) = false := decide_eq_false hlt
      have hpq : (16 : Int).toNat = p := by omega
      go_wp2
      go_ret
      try rw [hpq]
      exact ⟨_, rfl, hG, HD, HK⟩
theorem programs_16 (g : Nat) (a0 : Int) (m : Nat) (n : Int) (w : World) (hb : DiceAt w g a0 m) (h1 : 16 < n) :
    Calls Try.prog 11 #[.pointer (some ⟨g, 0, none⟩), .int .i64 n] w fun e w' => ∃ v, e = .returned v ∧ Grow w' w.heap.size 22 1 (encI .u64) v (progs a0 16 m (16 : Int).toNat).1 ∧ DiceAt w' g a0 (progs a0 16 m (16 : Int).toNat).2 ∧ Kept [g] w w' := by
  have hg := hb.lt
  have HI := hid (And.intro hb (Kept.refl [g] w))
  clear hb
  have hc : 1 ≤ (16 : Int) ∧ (16 : Int) ≤ 16 := by omega
  go_enter Try.func11, Try.ntmps11
  go_wp2_with fail
  go_loopw [13, 5] (fun i v wr => ∃ p : Nat, (p : Int) ≤ 16 ∧ i = .int .i64 (p : Int) ∧ Grow wr w.heap.size 22 1 (encI .u64) v (progs a0 16 m p).1 ∧ DiceAt wr g a0 (progs a0 16 m p).2 ∧ Kept [g] w wr ∧ w.heap.size ≤ wr.heap.size) (fun i _ _ => (16 : Int).toNat - (intOf i).toNat)
  case atStart => exact ⟨0, by omega, rfl, Grow.nil _ _ _ _ _, HI.out.1, HI.out.2, Nat.le_refl _⟩
  case round =>
    clear HI
    obtain ⟨p, hp, rfl, hG, HD, HK, hle⟩ := hrel
    have hpl := progs_le a0 16 m p
    by_cases hlt : (p : Int) < 16
    · have hlt' : decide ((p : Int) < (16 : Int)) = true := decide_eq_true hlt
      have hstep := progs_succ a0 16 m p
      have hml := manyP_le a0 (progs a0 16 m p).2
      obtain ⟨⟨xs, mm⟩, hs⟩ : ∃ s, s = progs a0 16 m p := ⟨_, rfl⟩
      rw [← hs] at hG HD hpl hstep hml
      simp only at hG HD hpl hstep hml
      have HST := hid hstep
      clear hs hstep
      by_cases hp0 : p = 0
      · have hpa : parted p xs = xs := if_pos hp0
        rw [hpa] at HST
        have z1 : decide ((0 : Int) < (p : Int)) = false := decide_eq_false (by omega)
        have z2 : decide (0 < p) = false := decide_eq_false (by omega)
        clear hpa
        go_wp2_with fail
        refine (dbelow_run g a0 mm 8 _ HD (by omega) (by omega)).mono ?_
        rintro e w2 ⟨rfl, HD2, hK2⟩
        have hG2 := hG.kept hK2 (by simp; omega)
        have HK2 := HK.trans hK2 (by simp)
        have hle2 := Nat.le_trans hle hK2.size
        obtain ⟨c, hcd⟩ : ∃ c, c = blAt a0 mm 8 := ⟨_, rfl⟩
        rw [← hcd] at hml ⊢
        obtain ⟨M, hM⟩ : ∃ M, M = manyP a0 mm := ⟨_, rfl⟩
        rw [← hM] at hml HST
        clear hcd hM hG HD HK hle hK2
        go_wp2_with fail
        go_loopw [24, 5] (fun i v wr => ∃ j : Nat, j ≤ M ∧ i = .int .i64 (j : Int) ∧ Grow wr w.heap.size 22 1 (encI .u64) v (instrs a0 16 (xs, mm + 1) j).1 ∧ DiceAt wr g a0 (instrs a0 16 (xs, mm + 1) j).2 ∧ Kept [g] w wr ∧ w.heap.size ≤ wr.heap.size) (fun i _ _ => M - (intOf i).toNat)
        case atStart => exact ⟨0, by omega, rfl, hG2, HD2, HK2, hle2⟩
        case round =>
          clear hG2 HD2 HK2 hle2
          obtain ⟨j, hj, rfl, hG, HD, HK, hle⟩ := hrel
          have hil := instrs_le a0 16 (xs, mm + 1) j
          simp only at hil
          by_cases hlt2 : j < M
          · have hltj : decide ((j : Int) < 1 + c) = true := decide_eq_true (by omega)
            have hnx := instrs_succ a0 16 (xs, mm + 1) j
            obtain ⟨⟨ys, m3⟩, hs⟩ : ∃ s, s = instrs a0 16 (xs, mm + 1) j := ⟨_, rfl⟩
            rw [← hs] at hG HD hil hnx
            simp only at hG HD hil hnx
            have HNX := hid hnx
            clear hs hnx
            go_wp2_with fail
            refine (instr_run g a0 m3 16 _ HD hc).mono ?_
            rintro e w4 ⟨rfl, HD4, hK4⟩
            have hG4 := hG.kept hK4 (by simp; omega)
            have HK4 := HK.trans hK4 (by simp)
            have hle4 := Nat.le_trans hle hK4.size
            obtain ⟨⟨X, m4⟩, hX⟩ : ∃ s, s = instrL a0 16 m3 := ⟨_, rfl⟩
            rw [← hX] at HD4 HNX ⊢
            rw [show pushW (ys, m3) (X, m4) = (ys ++ [X], m4) from rfl] at HNX
            simp only at HD4 ⊢
            clear hX hG HD HK hle hK4
            have hG := hG4; have hle := hle4
            clear hG4 hle4
            go_wp2_with (first | (at_builtin; refine app_one (T := 22) X hG infoU Try.underlying39 rfl (by decide) (by omega) rfl _ _ rfl rfl rfl rfl rfl (encU_one X) (by omega) hle ?_; intro v' w5 hG5 hb5 hle5))
            have HD5 : DiceAt w5 g a0 m4 := Blk.below HD4 hb5 hg
            have HK5 := kept_low HK4 hb5 (Nat.le_refl _)
            have HR := hid (show Grow w5 w.heap.size 22 1 (encI .u64) v' (instrs a0 16 (xs, mm + 1) (j + 1)).1 ∧ DiceAt w5 g a0 (instrs a0 16 (xs, mm + 1) (j + 1)).2 ∧ Kept [g] w w5 ∧ w.heap.size ≤ w5.heap.size by rw [HNX.out]; exact ⟨hG5, HD5, HK5, hle5⟩)
            clear hG5 HD5 HK5 hle5 hG hle HD4 HK4 hb5
            go_roundw
            case rel => first | exact ⟨j + 1, by omega, by go_num, HR.out⟩ | ((repeat apply Exists.intro); exact ⟨⟨j + 1, by omega, by go_num, HR.out⟩, rfl⟩)
            case measure => simp [intOf]; omega
          · obtain rfl : j = M := by omega
            have hltj : decide ((j : Int) < 1 + c) = false := decide_eq_false (by omega)
            rw [← HST.out] at hG HD
            go_wp2_with fail
            go_roundw
            case rel => first | exact ⟨p + 1, by omega, by go_num, hG, HD, HK, hle⟩ | ((repeat apply Exists.intro); exact ⟨⟨p + 1, by omega, by go_num, hG, HD, HK, hle⟩, rfl⟩)
            case measure => simp [intOf]; omega
      · have hpa : parted p xs = xs ++ [7] := if_neg hp0
        rw [hpa] at HST
        have z1 : decide ((0 : Int) < (p : Int)) = true := decide_eq_true (by omega)
        have z2 : decide (0 < p) = true := decide_eq_true (by omega)
        obtain ⟨X, hX⟩ : ∃ X : Int, X = 7 := ⟨_, rfl⟩
        clear hpa
        go_wp2_with (first | (at_builtin; refine app_one (T := 22) 7 hG infoU Try.underlying39 rfl (by decide) (by omega) rfl _ _ rfl rfl rfl rfl rfl (encU_one 7) (by omega) hle ?_; intro v' w5 hG5 hb5 hle5))
        have HD5 : DiceAt w5 g a0 mm := Blk.below HD hb5 hg
        have HK5 := kept_low HK hb5 (Nat.le_refl _)
        clear hG HD HK hle hb5 X hX
        obtain ⟨ys, hys⟩ : ∃ ys, ys = xs ++ [7] := ⟨_, rfl⟩
        have hyl : ys.length = xs.length + 1 := by rw [hys]; simp
        rw [← hys] at hG5 HST
        replace hpl : ys.length ≤ 9 * p + 1 ∧ mm ≤ m + 17 * p ∧ p ≤ ys.length := by omega
        clear hys hyl
        have hG := hG5; have HD := HD5; have HK := HK5; have hle := hle5
        clear hG5 HD5 HK5 hle5
        obtain ⟨xs, hxs⟩ : ∃ xs, xs = ys := ⟨_, rfl⟩
        rw [← hxs] at hG HST hpl
        clear hxs
        refine (dbelow_run g a0 mm 8 _ HD (by omega) (by omega)).mono ?_
        rintro e w2 ⟨rfl, HD2, hK2⟩
        have hG2 := hG.kept hK2 (by simp; omega)
        have HK2 := HK.trans hK2 (by simp)
        have hle2 := Nat.le_trans hle hK2.size
        obtain ⟨c, hcd⟩ : ∃ c, c = blAt a0 mm 8 := ⟨_, rfl⟩
        rw [← hcd] at hml ⊢
        obtain ⟨M, hM⟩ : ∃ M, M = manyP a0 mm := ⟨_, rfl⟩
        rw [← hM] at hml HST
        clear hcd hM hG HD HK hle hK2
        go_wp2_with fail
        go_loopw [24, 5] (fun i v wr => ∃ j : Nat, j ≤ M ∧ i = .int .i64 (j : Int) ∧ Grow wr w.heap.size 22 1 (encI .u64) v (instrs a0 16 (xs, mm + 1) j).1 ∧ DiceAt wr g a0 (instrs a0 16 (xs, mm + 1) j).2 ∧ Kept [g] w wr ∧ w.heap.size ≤ wr.heap.size) (fun i _ _ => M - (intOf i).toNat)
        case atStart => exact ⟨0, by omega, rfl, hG2, HD2, HK2, hle2⟩
        case round =>
          clear hG2 HD2 HK2 hle2
          obtain ⟨j, hj, rfl, hG, HD, HK, hle⟩ := hrel
          have hil := instrs_le a0 16 (xs, mm + 1) j
          simp only at hil
          by_cases hlt2 : j < M
          · have hltj : decide ((j : Int) < 1 + c) = true := decide_eq_true (by omega)
            have hnx := instrs_succ a0 16 (xs, mm + 1) j
            obtain ⟨⟨ys, m3⟩, hs⟩ : ∃ s, s = instrs a0 16 (xs, mm + 1) j := ⟨_, rfl⟩
            rw [← hs] at hG HD hil hnx
            simp only at hG HD hil hnx
            have HNX := hid hnx
            clear hs hnx
            go_wp2_with fail
            refine (instr_run g a0 m3 16 _ HD hc).mono ?_
            rintro e w4 ⟨rfl, HD4, hK4⟩
            have hG4 := hG.kept hK4 (by simp; omega)
            have HK4 := HK.trans hK4 (by simp)
            have hle4 := Nat.le_trans hle hK4.size
            obtain ⟨⟨X, m4⟩, hX⟩ : ∃ s, s = instrL a0 16 m3 := ⟨_, rfl⟩
            rw [← hX] at HD4 HNX ⊢
            rw [show pushW (ys, m3) (X, m4) = (ys ++ [X], m4) from rfl] at HNX
            simp only at HD4 ⊢
            clear hX hG HD HK hle hK4
            have hG := hG4; have hle := hle4
            clear hG4 hle4
            go_wp2_with (first | (at_builtin; refine app_one (T := 22) X hG infoU Try.underlying39 rfl (by decide) (by omega) rfl _ _ rfl rfl rfl rfl rfl (encU_one X) (by omega) hle ?_; intro v' w5 hG5 hb5 hle5))
            have HD5 : DiceAt w5 g a0 m4 := Blk.below HD4 hb5 hg
            have HK5 := kept_low HK4 hb5 (Nat.le_refl _)
            have HR := hid (show Grow w5 w.heap.size 22 1 (encI .u64) v' (instrs a0 16 (xs, mm + 1) (j + 1)).1 ∧ DiceAt w5 g a0 (instrs a0 16 (xs, mm + 1) (j + 1)).2 ∧ Kept [g] w w5 ∧ w.heap.size ≤ w5.heap.size by rw [HNX.out]; exact ⟨hG5, HD5, HK5, hle5⟩)
            clear hG5 HD5 HK5 hle5 hG hle HD4 HK4 hb5
            go_roundw
            case rel => first | exact ⟨j + 1, by omega, by go_num, HR.out⟩ | ((repeat apply Exists.intro); exact ⟨⟨j + 1, by omega, by go_num, HR.out⟩, rfl⟩)
            case measure => simp [intOf]; omega
          · obtain rfl : j = M := by omega
            have hltj : decide ((j : Int) < 1 + c) = false := decide_eq_false (by omega)
            rw [← HST.out] at hG HD
            go_wp2_with fail
            go_roundw
            case rel => first | exact ⟨p + 1, by omega, by go_num, hG, HD, HK, hle⟩ | ((repeat apply Exists.intro); exact ⟨⟨p + 1, by omega, by go_num, hG, HD, HK, hle⟩, rfl⟩)
            case measure => simp [intOf]; omega
    · have hlt' : decide ((p : Int) < (16 : Int)) = false := decide_eq_false hlt
      have hpq : (16 : Int).toNat = p := by omega
      go_wp2
      go_ret
      try rw [hpq]
      exact ⟨_, rfl, hG, HD, HK⟩
theorem programs_run (g : Nat) (a0 : Int) (m : Nat) (n : Int) (w : World) (hb : DiceAt w g a0 m) :
    Calls Try.prog 11 #[.pointer (some ⟨g, 0, none⟩), .int .i64 n] w fun e w' => ∃ v, e = .returned v ∧ Grow w' w.heap.size 22 1 (encI .u64) v (progs a0 (clampN n) m (clampN n).toNat).1 ∧ DiceAt w' g a0 (progs a0 (clampN n) m (clampN n).toNat).2 ∧ Kept [g] w w' := by
  by_cases h1 : n < 1
  · have e : clampN n = 1 := by unfold clampN; omega
    rw [e]
    exact programs_1 g a0 m n w hb h1
  by_cases h2 : n < 16
  · have e : clampN n = n := by unfold clampN; omega
    rw [e]
    exact programs_n g a0 m n w hb (by omega) h2
  by_cases h3 : n = 16
  · subst h3
    have e : clampN 16 = 16 := by unfold clampN; omega
    rw [e]
    exact programs_e g a0 m w hb
  · have e : clampN n = 16 := by unfold clampN; omega
    rw [e]
    exact programs_16 g a0 m n w hb (by omega)
/-- So many numbers, behind m. -/
def drawsL (a0 : Int) (m : Nat) (n : Nat) : List Int := (List.range n).map (fun i => mix (stt a0 (m + 1 + i)))
theorem drawsL_len (a0 : Int) (m n : Nat) : (drawsL a0 m n).length = n := by unfold drawsL; simp
theorem drawsL_succ (a0 : Int) (m n : Nat) : drawsL a0 m (n + 1) = drawsL a0 m n ++ [mix (stt a0 (m + 1 + n))] := by unfold drawsL; rw [List.range_succ, List.map_append]; rfl
theorem draws_run (g : Nat) (a0 : Int) (m : Nat) (n : Int) (w : World) (hb : DiceAt w g a0 m) (hn : n ≤ 300) :
    Calls Try.prog 15 #[.pointer (some ⟨g, 0, none⟩), .int .i64 n] w fun e w' => ∃ v, e = .returned v ∧ Grow w' w.heap.size 22 1 (encI .u64) v (drawsL a0 m n.toNat) ∧ Kept [g] w w' := by
  have hg := hb.lt
  have HI := hid (And.intro hb (Kept.refl [g] w))
  clear hb
  by_cases hneg : n < 0
  · have HZ := hid (show n.toNat = 0 by omega)
    rw [HZ.out]
    go_enter Try.func15, Try.ntmps15
    go_wp2_with fail
    go_loopw [11, 5] (fun i v wr => i = .int .i64 0 ∧ v = .slice none 0 0 ∧ wr = w) (fun _ _ _ => 0)
    case atStart => exact ⟨rfl, rfl, rfl⟩
    case round =>
      obtain ⟨rfl, rfl, rfl⟩ := hrel
      go_wp2
      go_ret
      exact ⟨_, rfl, Grow.nil _ _ _ _ _, HI.out.2⟩
  obtain ⟨N, rfl⟩ : ∃ N : Nat, (N : Int) = n := ⟨n.toNat, by omega⟩
  have hN3 : N ≤ 300 := by omega
  have h0N : (0 : Int) ≤ (N : Int) := by omega
  rw [Int.toNat_natCast]
  clear hn hneg
  go_enter Try.func15, Try.ntmps15
  go_wp2_with fail
  go_loopw [11, 5] (fun i v wr => ∃ p : Nat, p ≤ N ∧ i = .int .i64 (p : Int) ∧ Grow wr w.heap.size 22 1 (encI .u64) v (drawsL a0 m p) ∧ DiceAt wr g a0 (m + p) ∧ Kept [g] w wr ∧ w.heap.size ≤ wr.heap.size) (fun i _ _ => N - (intOf i).toNat)
  case atStart => exact ⟨0, by omega, rfl, Grow.nil _ _ _ _ _, HI.out.1, HI.out.2, Nat.le_refl _⟩
  case round =>
    clear HI
    obtain ⟨p, hp, rfl, hG, HD, HK, hle⟩ := hrel
    have hpl := drawsL_len a0 m p
    by_cases hlt : p < N
    · have hlt' : decide ((p : Int) < (N : Int)) = true := decide_eq_true (by omega)
      go_wp2_with fail
      refine (dnext_run g a0 (m + p) _ HD).mono ?_
      rintro e w4 ⟨rfl, HD4, hK4⟩
      have hG4 := hG.kept hK4 (by simp; omega)
      have HK4 := HK.trans hK4 (by simp)
      have hle4 := Nat.le_trans hle hK4.size
      obtain ⟨X, hX⟩ : ∃ X, X = mix (stt a0 (m + p + 1)) := ⟨_, rfl⟩
      rw [← hX]
      have HX := hid (show drawsL a0 m (p + 1) = drawsL a0 m p ++ [X] by rw [drawsL_succ, hX, show m + 1 + p = m + p + 1 by omega])
      clear hX hG HD HK hle hK4
      have hG := hG4; have hle := hle4
      clear hG4 hle4
      go_wp2_with (first | (at_builtin; refine app_one (T := 22) X hG infoU Try.underlying39 rfl (by decide) (by omega) rfl _ _ rfl rfl rfl rfl rfl (encU_one X) (by omega) hle ?_; intro v' w5 hG5 hb5 hle5))
      have HD5 : DiceAt w5 g a0 (m + (p + 1)) := Blk.below HD4 hb5 hg
      have HK5 := kept_low HK4 hb5 (Nat.le_refl _)
      rw [← HX.out] at hG5
      go_roundw
      case rel => first | exact ⟨p + 1, by omega, by go_num, hG5, HD5, HK5, hle5⟩ | ((repeat apply Exists.intro); exact ⟨⟨p + 1, by omega, by go_num, hG5, HD5, HK5, hle5⟩, rfl⟩)
      case measure => simp [intOf]; omega
    · obtain rfl : p = N := by omega
      have hlt' : decide ((p : Int) < (p : Int)) = false := decide_eq_false (by omega)
      go_wp2
      go_ret
      exact ⟨_, rfl, hG, HK⟩
end Go.Proofs.Ythonhbciileomaa.Dice
