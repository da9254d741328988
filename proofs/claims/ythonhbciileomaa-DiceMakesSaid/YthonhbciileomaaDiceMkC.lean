/- Programs, scripts, configs that dice make up: by the document. -/
import Derived.Test.YthonhbciileomaaDiceMkB
import Derived.Deep.LoopGhost
import Derived.Laws.Rows
import Derived.Deep.RegionHeld3
set_option maxRecDepth 100000
set_option maxHeartbeats 1000000
set_option linter.unusedVariables false
set_option linter.unusedSimpArgs false
namespace Go.Proofs.Ythonhbciileomaa.Dice
open Go.RowKit Go.Proofs.Ythonhbciileomaa.TK Go.Proofs.Ythonhbciileomaa.Flag Go.Proofs.Ythonhbciileomaa.Read Go.Proofs.Ythonhbciileomaa.Grow
theorem rprograms_1 (g : Nat) (a0 : Int) (m : Nat) (n : Int) (w : World) (hb : RDiceAt w g a0 m) (ha : U64 a0) (hm : m ≤ 1000) (h1 : n < 1) :
    Calls Try.prog 12 #[.pointer (some ⟨g, 0, none⟩), .int .i64 n] w fun e w' => ∃ v, e = .returned v ∧ Grow w' w.heap.size 22 1 (encI .u64) v (progs a0 1 m (1 : Int).toNat).1 ∧ RDiceAt w' g a0 (progs a0 1 m (1 : Int).toNat).2 ∧ Kept [g] w w' := by
  have hg := hb.lt
  have HI := hid (And.intro hb (Kept.refl [g] w))
  clear hb
  have hc : 1 ≤ (1 : Int) ∧ (1 : Int) ≤ 16 := by omega
  go_enter Try.func12, Try.ntmps12
  go_wp2_with fail
  go_loopw [6, 5] (fun i v wr => ∃ p : Nat, (p : Int) ≤ 1 ∧ i = .int .i64 (p : Int) ∧ Grow wr w.heap.size 22 1 (encI .u64) v (progs a0 1 m p).1 ∧ RDiceAt wr g a0 (progs a0 1 m p).2 ∧ Kept [g] w wr ∧ w.heap.size ≤ wr.heap.size) (fun i _ _ => (1 : Int).toNat - (intOf i).toNat)
  case atStart => exact ⟨0, by omega, rfl, Grow.nil _ _ _ _ _, HI.out.1, HI.out.2, Nat.le_refl _⟩
  case round =>
    clear HI
    obtain ⟨p, hp, rfl, hG, HD, HK, hle⟩ := hrel
    have hpl := progs_le a0 1 m p
    by_cases hlt : (p : Int) < 1
    · have hlt' : decide ((p : Int) < (1 : Int)) = true := decide_eq_true hlt
      have hstep := progs_succ a0 1 m p
      have hml := manyP_le a0 (progs a0 1 m p).2
      obtain ⟨⟨xs, mm⟩, hs⟩ : ∃ s, s = progs a0 1 m p := ⟨_, rfl⟩
      rw [← hs] at hG HD hpl hstep hml
      simp only at hG HD hpl hstep hml
      have HST := hid hstep
      clear hs hstep
      by_cases hp0 : p = 0
      · have hpa : parted p xs = xs := if_pos hp0
        rw [hpa] at HST
        have z1 : decide ((0 : Int) < (p : Int)) = false := decide_eq_false (by omega)
        have z2 : decide (0 < p) = false := decide_eq_false (by omega)
        clear hpa
        go_wp2_with fail
        refine (rdbelow_run g a0 mm 8 _ HD ha (by omega) (by omega) (by omega)).mono ?_
        rintro e w2 ⟨rfl, HD2, hK2⟩
        have hG2 := hG.kept hK2 (by simp; omega)
        have HK2 := HK.trans hK2 (by simp)
        have hle2 := Nat.le_trans hle hK2.size
        obtain ⟨c, hcd⟩ : ∃ c, c = blAt a0 mm 8 := ⟨_, rfl⟩
        rw [← hcd] at hml ⊢
        obtain ⟨M, hM⟩ : ∃ M, M = manyP a0 mm := ⟨_, rfl⟩
        rw [← hM] at hml HST
        clear hcd hM hG HD HK hle hK2
        go_wp2_with fail
        go_loopw [8, 5] (fun i v wr => ∃ j : Nat, j ≤ M ∧ i = .int .i64 (j : Int) ∧ Grow wr w.heap.size 22 1 (encI .u64) v (instrs a0 1 (xs, mm + 1) j).1 ∧ RDiceAt wr g a0 (instrs a0 1 (xs, mm + 1) j).2 ∧ Kept [g] w wr ∧ w.heap.size ≤ wr.heap.size) (fun i _ _ => M - (intOf i).toNat)
        case atStart => exact ⟨0, by omega, rfl, hG2, HD2, HK2, hle2⟩
        case round =>
          clear hG2 HD2 HK2 hle2
          obtain ⟨j, hj, rfl, hG, HD, HK, hle⟩ := hrel
          have hil := instrs_le a0 1 (xs, mm + 1) j
          simp only at hil
          by_cases hlt2 : j < M
          · have hltj : decide ((j : Int) < 1 + c) = true := decide_eq_true (by omega)
            have hnx := instrs_succ a0 1 (xs, mm + 1) j
            obtain ⟨⟨ys, m3⟩, hs⟩ : ∃ s, s = instrs a0 1 (xs, mm + 1) j := ⟨_, rfl⟩
            rw [← hs] at hG HD hil hnx
            simp only at hG HD hil hnx
            have HNX := hid hnx
            clear hs hnx
            go_wp2_with fail
            refine (rword_run g a0 m3 1 _ HD ha (by omega) hc).mono ?_
            rintro e w4 ⟨rfl, HD4, hK4⟩
            have hG4 := hG.kept hK4 (by simp; omega)
            have HK4 := HK.trans hK4 (by simp)
            have hle4 := Nat.le_trans hle hK4.size
            obtain ⟨⟨X, m4⟩, hX⟩ : ∃ s, s = instrL a0 1 m3 := ⟨_, rfl⟩
            rw [← hX] at HD4 HNX ⊢
            rw [show pushW (ys, m3) (X, m4) = (ys ++ [X], m4) from rfl] at HNX
            simp only at HD4 ⊢
            clear hX hG HD HK hle hK4
            have hG := hG4; have hle := hle4
            clear hG4 hle4
            go_wp2_with (first | (at_builtin; refine app_one (T := 22) X hG infoU Try.underlying39 rfl (by decide) (by omega) rfl _ _ rfl rfl rfl rfl rfl (encU_one X) (by omega) hle ?_; intro v' w5 hG5 hb5 hle5))
            have HD5 : RDiceAt w5 g a0 m4 := Blk.below HD4 hb5 hg
            have HK5 := kept_low HK4 hb5 (Nat.le_refl _)
            have HR := hid (show Grow w5 w.heap.size 22 1 (encI .u64) v' (instrs a0 1 (xs, mm + 1) (j + 1)).1 ∧ RDiceAt w5 g a0 (instrs a0 1 (xs, mm + 1) (j + 1)).2 ∧ Kept [g] w w5 ∧ w.heap.size ≤ w5.heap.size by rw [HNX.out]; exact ⟨hG5, HD5, HK5, hle5⟩)
            clear hG5 HD5 HK5 hle5 hG hle HD4 HK4 hb5
            go_roundw
            case rel => first | exact ⟨j + 1, by omega, by go_num, HR.out⟩ | ((repeat apply Exists.intro); exact ⟨⟨j + 1, by omega, by go_num, HR.out⟩, rfl⟩)
            case measure => simp [intOf]; omega
          · obtain rfl : j = M := by omega
            have hltj : decide ((j : Int) < 1 + c) = false := decide_eq_false (by omega)
            rw [← HST.out] at hG HD
            go_wp2_with fail
            go_roundw
            case rel => first | exact ⟨p + 1, by omega, by go_num, hG, HD, HK, hle⟩ | ((repeat apply Exists.intro); exact ⟨⟨p + 1, by omega, by go_num, hG, HD, HK, hle⟩, rfl⟩)
            case measure => simp [intOf]; omega
      · exact absurd hlt (by omega)
    · have hlt' : decide ((p : Int) < (1 : Int)) = false := decide_eq_false hlt
      have hpq : (1 : Int).toNat = p := by omega
      go_wp2
      go_ret
      try rw [hpq]
      exact ⟨_, rfl, hG, HD, HK⟩
theorem rprograms_n (g : Nat) (a0 : Int) (m : Nat) (n : Int) (w : World) (hb : RDiceAt w g a0 m) (ha : U64 a0) (hm : m ≤ 1000) (h1 : 1 ≤ n) (h2 : n < 16) :
    Calls Try.prog 12 #[.pointer (some ⟨g, 0, none⟩), .int .i64 n] w fun e w' => ∃ v, e = .returned v ∧ Grow w' w.heap.size 22 1 (encI .u64) v (progs a0 n m (n : Int).toNat).1 ∧ RDiceAt w' g a0 (progs a0 n m (n : Int).toNat).2 ∧ Kept [g] w w' := by
  have hg := hb.lt
  have HI := hid (And.intro hb (Kept.refl [g] w))
  clear hb
  have hc : 1 ≤ (n : Int) ∧ (n : Int) ≤ 16 := by omega
  go_enter Try.func12, Try.ntmps12
  go_wp2_with fail
  go_loopw [6, 5] (fun i v wr => ∃ p : Nat, (p : Int) ≤ n ∧ i = .int .i64 (p : Int) ∧ Grow wr w.heap.size 22 1 (encI .u64) v (progs a0 n m p).1 ∧ RDiceAt wr g a0 (progs a0 n m p).2 ∧ Kept [g] w wr ∧ w.heap.size ≤ wr.heap.size) (fun i _ _ => n.toNat - (intOf i).toNat)
  case atStart => exact ⟨0, by omega, rfl, Grow.nil _ _ _ _ _, HI.out.1, HI.out.2, Nat.le_refl _⟩
  case round =>
    clear HI
    obtain ⟨p, hp, rfl, hG, HD, HK, hle⟩ := hrel
    have hpl := progs_le a0 n m p
    by_cases hlt : (p : Int) < n
    · have hlt' : decide ((p : Int) < n) = true := decide_eq_true hlt
      have hstep := progs_succ a0 n m p
      have hml := manyP_le a0 (progs a0 n m p).2
      obtain ⟨⟨xs, mm⟩, hs⟩ : ∃ s, s = progs a0 n m p := ⟨_, rfl⟩
      rw [← hs] at hG HD hpl hstep hml
      simp only at hG HD hpl hstep hml
      have HST := hid hstep
      clear hs hstep
      by_cases hp0 : p = 0
      · have hpa : parted p xs = xs := if_pos hp0
        rw [hpa] at HST
        have z1 : decide ((0 : Int) < (p : Int)) = false := decide_eq_false (by omega)
        have z2 : decide (0 < p) = false := decide_eq_false (by omega)
        clear hpa
        go_wp2_with fail
        refine (rdbelow_run g a0 mm 8 _ HD ha (by omega) (by omega) (by omega)).mono ?_
        rintro e w2 ⟨rfl, HD2, hK2⟩
        have hG2 := hG.kept hK2 (by simp; omega)
        have HK2 := HK.trans hK2 (by simp)
        have hle2 := Nat.le_trans hle hK2.size
        obtain ⟨c, hcd⟩ : ∃ c, c = blAt a0 mm 8 := ⟨_, rfl⟩
        rw [← hcd] at hml ⊢
        obtain ⟨M, hM⟩ : ∃ M, M = manyP a0 mm := ⟨_, rfl⟩
        rw [← hM] at hml HST
        clear hcd hM hG HD HK hle hK2
        go_wp2_with fail
        go_loopw [8, 5] (fun i v wr => ∃ j : Nat, j ≤ M ∧ i = .int .i64 (j : Int) ∧ Grow wr w.heap.size 22 1 (encI .u64) v (instrs a0 n (xs, mm + 1) j).1 ∧ RDiceAt wr g a0 (instrs a0 n (xs, mm + 1) j).2 ∧ Kept [g] w wr ∧ w.heap.size ≤ wr.heap.size) (fun i _ _ => M - (intOf i).toNat)
        case atStart => exact ⟨0, by omega, rfl, hG2, HD2, HK2, hle2⟩
        case round =>
          clear hG2 HD2 HK2 hle2
          obtain ⟨j, hj, rfl, hG, HD, HK, hle⟩ := hrel
          have hil := instrs_le a0 n (xs, mm + 1) j
          simp only at hil
          by_cases hlt2 : j < M
          · have hltj : decide ((j : Int) < 1 + c) = true := decide_eq_true (by omega)
            have hnx := instrs_succ a0 n (xs, mm + 1) j
            obtain ⟨⟨ys, m3⟩, hs⟩ : ∃ s, s = instrs a0 n (xs, mm + 1) j := ⟨_, rfl⟩
            rw [← hs] at hG HD hil hnx
            simp only at hG HD hil hnx
            have HNX := hid hnx
            clear hs hnx
            go_wp2_with fail
            refine (rword_run g a0 m3 n _ HD ha (by omega) hc).mono ?_
            rintro e w4 ⟨rfl, HD4, hK4⟩
            have hG4 := hG.kept hK4 (by simp; omega)
            have HK4 := HK.trans hK4 (by simp)
            have hle4 := Nat.le_trans hle hK4.size
            obtain ⟨⟨X, m4⟩, hX⟩ : ∃ s, s = instrL a0 n m3 := ⟨_, rfl⟩
            rw [← hX] at HD4 HNX ⊢
            rw [show pushW (ys, m3) (X, m4) = (ys ++ [X], m4) from rfl] at HNX
            simp only at HD4 ⊢
            clear hX hG HD HK hle hK4
            have hG := hG4; have hle := hle4
            clear hG4 hle4
            go_wp2_with (first | (at_builtin; refine app_one (T := 22) X hG infoU Try.underlying39 rfl (by decide) (by omega) rfl _ _ rfl rfl rfl rfl rfl (encU_one X) (by omega) hle ?_; intro v' w5 hG5 hb5 hle5))
            have HD5 : RDiceAt w5 g a0 m4 := Blk.below HD4 hb5 hg
            have HK5 := kept_low HK4 hb5 (Nat.le_refl _)
            have HR := hid (show Grow w5 w.heap.size 22 1 (encI .u64) v' (instrs a0 n (xs, mm + 1) (j + 1)).1 ∧ RDiceAt w5 g a0 (instrs a0 n (xs, mm + 1) (j + 1)).2 ∧ Kept [g] w w5 ∧ w.heap.size ≤ w5.heap.size by rw [HNX.out]; exact ⟨hG5, HD5, HK5, hle5⟩)
            clear hG5 HD5 HK5 hle5 hG hle HD4 HK4 hb5
            go_roundw
            case rel => first | exact ⟨j + 1, by omega, by go_num, HR.out⟩ | ((repeat apply Exists.intro); exact ⟨⟨j + 1, by omega, by go_num, HR.out⟩, rfl⟩)
            case measure => simp [intOf]; omega
          · obtain rfl : j = M := by omega
            have hltj : decide ((j : Int) < 1 + c) = false := decide_eq_false (by omega)
            rw [← HST.out] at hG HD
            go_wp2_with fail
            go_roundw
            case rel => first | exact ⟨p + 1, by omega, by go_num, hG, HD, HK, hle⟩ | ((repeat apply Exists.intro); exact ⟨⟨p + 1, by omega, by go_num, hG, HD, HK, hle⟩, rfl⟩)
            case measure => simp [intOf]; omega
      · have hpa : parted p xs = xs ++ [7] := if_neg hp0
        rw [hpa] at HST
        have z1 : decide ((0 : Int) < (p : Int)) = true := decide_eq_true (by omega)
        have z2 : decide (0 < p) = true := decide_eq_true (by omega)
        obtain ⟨X, hX⟩ : ∃ X : Int, X = 7 := ⟨_, rfl⟩
        clear hpa
        go_wp2_with (first | (at_builtin; refine app_one (T := 22) 7 hG infoU Try.underlying39 rfl (by decide) (by omega) rfl _ _ rfl rfl rfl rfl rfl (encU_one 7) (by omega) hle ?_; intro v' w5 hG5 hb5 hle5))
        have HD5 : RDiceAt w5 g a0 mm := Blk.below HD hb5 hg
        have HK5 := kept_low HK hb5 (Nat.le_refl _)
        clear hG HD HK hle hb5 X hX
        obtain ⟨ys, hys⟩ : ∃ ys, ys = xs ++ [7] := ⟨_, rfl⟩
        have hyl : ys.length = xs.length + 1 := by rw [hys]; simp
        rw [← hys] at hG5 HST
        replace hpl : ys.length ≤ 9 * p + 1 ∧ mm ≤ m + 17 * p ∧ p ≤ ys.length := by omega
        clear hys hyl
        have hG := hG5; have HD := HD5; have HK := HK5; have hle := hle5
        clear hG5 HD5 HK5 hle5
        obtain ⟨xs, hxs⟩ : ∃ xs, xs = ys := ⟨_, rfl⟩
        rw [← hxs] at hG HST hpl
        clear hxs
        refine (rdbelow_run g a0 mm 8 _ HD ha (by omega) (by omega) (by omega)).mono ?_
        rintro e w2 ⟨rfl, HD2, hK2⟩
        have hG2 := hG.kept hK2 (by simp; omega)
        have HK2 := HK.trans hK2 (by simp)
        have hle2 := Nat.le_trans hle hK2.size
        obtain ⟨c, hcd⟩ : ∃ c, c = blAt a0 mm 8 := ⟨_, rfl⟩
        rw [← hcd] at hml ⊢
        obtain ⟨M, hM⟩ : ∃ M, M = manyP a0 mm := ⟨_, rfl⟩
        rw [← hM] at hml HST
        clear hcd hM hG HD HK hle hK2
        go_wp2_with fail
        go_loopw [8, 5] (fun i v wr => ∃ j : Nat, j ≤ M ∧ i = .int .i64 (j : Int) ∧ Grow wr w.heap.size 22 1 (encI .u64) v (instrs a0 n (xs, mm + 1) j).1 ∧ RDiceAt wr g a0 (instrs a0 n (xs, mm + 1) j).2 ∧ Kept [g] w wr ∧ w.heap.size ≤ wr.heap.size) (fun i _ _ => M - (intOf i).toNat)
        case atStart => exact ⟨0, by omega, rfl, hG2, HD2, HK2, hle2⟩
        case round =>
          clear hG2 HD2 HK2 hle2
          obtain ⟨j, hj, rfl, hG, HD, HK, hle⟩ := hrel
          have hil := instrs_le a0 n (xs, mm + 1) j
          simp only at hil
          by_cases hlt2 : j < M
          · have hltj : decide ((j : Int) < 1 + c) = true := decide_eq_true (by omega)
            have hnx := instrs_succ a0 n (xs, mm + 1) j
            obtain ⟨⟨ys, m3⟩, hs⟩ : ∃ s, s = instrs a0 n (xs, mm + 1) j := ⟨_, rfl⟩
            rw [← hs] at hG HD hil hnx
            simp only at hG HD hil hnx
            have HNX := hid hnx
            clear hs hnx
            go_wp2_with fail
            refine (rword_run g a0 m3 n _ HD ha (by omega) hc).mono ?_
            rintro e w4 ⟨rfl, HD4, hK4⟩
            have hG4 := hG.kept hK4 (by simp; omega)
            have HK4 := HK.trans hK4 (by simp)
            have hle4 := Nat.le_trans hle hK4.size
            obtain ⟨⟨X, m4⟩, hX⟩ : ∃ s, s = instrL a0 n m3 := ⟨_, rfl⟩
            rw [← hX] at HD4 HNX ⊢
            rw [show pushW (ys, m3) (X, m4) = (ys ++ [X], m4) from rfl] at HNX
            simp only at HD4 ⊢
            clear hX hG HD HK hle hK4
            have hG := hG4; have hle := hle4
            clear hG4 hle4
            go_wp2_with (first | (at_builtin; refine app_one (T := 22) X hG infoU Try.underlying39 rfl (by decide) (by omega) rfl _ _ rfl rfl rfl rfl rfl (encU_one X) (by omega) hle ?_; intro v' w5 hG5 hb5 hle5))
            have HD5 : RDiceAt w5 g a0 m4 := Blk.below HD4 hb5 hg
            have HK5 := kept_low HK4 hb5 (Nat.le_refl _)
            have HR := hid (show Grow w5 w.heap.size 22 1 (encI .u64) v' (instrs a0 n (xs, mm + 1) (j + 1)).1 ∧ RDiceAt w5 g a0 (instrs a0 n (xs, mm + 1) (j + 1)).2 ∧ Kept [g] w w5 ∧ w.heap.size ≤ w5.heap.size by rw [HNX.out]; exact ⟨hG5, HD5, HK5, hle5⟩)
            clear hG5 HD5 HK5 hle5 hG hle HD4 HK4 hb5
            go_roundw
            case rel => first | exact ⟨j + 1, by omega, by go_num, HR.out⟩ | ((repeat apply Exists.intro); exact ⟨⟨j + 1, by omega, by go_num, HR.out⟩, rfl⟩)
            case measure => simp [intOf]; omega
          · obtain rfl : j = M := by omega
            have hltj : decide ((j : Int) < 1 + c) = false := decide_eq_false (by omega)
            rw [← HST.out] at hG HD
            go_wp2_with fail
            go_roundw
            case rel => first | exact ⟨p + 1, by omega, by go_num, hG, HD, HK, hle⟩ | ((repeat apply Exists.intro); exact ⟨⟨p + 1, by omega, by go_num, hG, HD, HK, hle⟩, rfl⟩)
            case measure => simp [intOf]; omega
    · have hlt' : decide ((p : Int) < n) = false := decide_eq_false hlt
      have hpq : n.toNat = p := by omega
      go_wp2
      go_ret
      try rw [hpq]
      exact ⟨_, rfl, hG, HD, HK⟩
theorem rprograms_e (g : Nat) (a0 : Int) (m : Nat) (w : World) (hb : RDiceAt w g a0 m) (ha : U64 a0) (hm : m ≤ 1000)  :
    Calls Try.prog 12 #[.pointer (some ⟨g, 0, none⟩), .int .i64 16] w fun e w' => ∃ v, e = .returned v ∧ Grow w' w.heap.size 22 1 (encI .u64) v (progs a0 16 m (16 : Int).toNat).1 ∧ RDiceAt w' g a0 (progs a0 16 m (16 : Int).toNat).2 ∧ Kept [g] w w' := by
  have hg := hb.lt
  have HI := hid (And.intro hb (Kept.refl [g] w))
  clear hb
  have hc : 1 ≤ (16 : Int) ∧ (16 : Int) ≤ 16 := by omega
  go_enter Try.func12, Try.ntmps12
  go_wp2_with fail
  go_loopw [6, 5] (fun i v wr => ∃ p : Nat, (p : Int) ≤ 16 ∧ i = .int .i64 (p : Int) ∧ Grow wr w.heap.size 22 1 (encI .u64) v (progs a0 16 m p).1 ∧ RDiceAt wr g a0 (progs a0 16 m p).2 ∧ Kept [g] w wr ∧ w.heap.size ≤ wr.heap.size) (fun i _ _ => (16 : Int).toNat - (intOf i).toNat)
  case atStart => exact ⟨0, by omega, rfl, Grow.nil _ _ _ _ _, HI.out.1, HI.out.2, Nat.le_refl _⟩
  case round =>
    clear HI
    obtain ⟨p, hp, rfl, hG, HD, HK, hle⟩ := hrel
    have hpl := progs_le a0 16 m p
    by_cases hlt : (p : Int) < 16
    · have hlt' : decide ((p : Int) < (16 : Int)) = true := decide_eq_true hlt
      have hstep := progs_succ a0 16 m p
      have hml := manyP_le a0 (progs a0 16 m p).2
      obtain ⟨⟨xs, mm⟩, hs⟩ : ∃ s, s = progs a0 16 m p := ⟨_, rfl⟩
      rw [← hs] at hG HD hpl hstep hml
      simp only at hG HD hpl hstep hml
      have HST := hid hstep
      clear hs hstep
      by_cases hp0 : p = 0
      · have hpa : parted p xs = xs := if_pos hp0
        rw [hpa] at HST
        have z1 : decide ((0 : Int) < (p : Int)) = false := decide_eq_false (by omega)
        have z2 : decide (0 < p) = false := decide_eq_false (by omega)
        clear hpa
        go_wp2_with fail
        refine (rdbelow_run g a0 mm 8 _ HD ha (by omega) (by omega) (by omega)).mono ?_
        rintro e w2 ⟨rfl, HD2, hK2⟩
        have hG2 := hG.kept hK2 (by simp; omega)
        have HK2 := HK.trans hK2 (by simp)
        have hle2 := Nat.le_trans hle hK2.size
        obtain ⟨c, hcd⟩ : ∃ c, c = blAt a0 mm 8 := ⟨_, rfl⟩
        rw [← hcd] at hml ⊢
        obtain ⟨M, hM⟩ : ∃ M, M = manyP a0 mm := ⟨_, rfl⟩
        rw [← hM] at hml HST
        clear hcd hM hG HD HK hle hK2
        go_wp2_with fail
        go_loopw [8, 5] (fun i v wr => ∃ j : Nat, j ≤ M ∧ i = .int .i64 (j : Int) ∧ Grow wr w.heap.size 22 1 (encI .u64) v (instrs a0 16 (xs, mm + 1) j).1 ∧ RDiceAt wr g a0 (instrs a0 16 (xs, mm + 1) j).2 ∧ Kept [g] w wr ∧ w.heap.size ≤ wr.heap.size) (fun i _ _ => M - (intOf i).toNat)
        case atStart => exact ⟨0, by omega, rfl, hG2, HD2, HK2, hle2⟩
        case round =>
          clear hG2 HD2 HK2 hle2
          obtain ⟨j, hj, rfl, hG, HD, HK, hle⟩ := hrel
          have hil := instrs_le a0 16 (xs, mm + 1) j
          simp only at hil
          by_cases hlt2 : j < M
          · have hltj : decide ((j : Int) < 1 + c) = true := decide_eq_true (by omega)
            have hnx := instrs_succ a0 16 (xs, mm + 1) j
            obtain ⟨⟨ys, m3⟩, hs⟩ : ∃ s, s = instrs a0 16 (xs, mm + 1) j := ⟨_, rfl⟩
            rw [← hs] at hG HD hil hnx
            simp only at hG HD hil hnx
            have HNX := hid hnx
            clear hs hnx
            go_wp2_with fail
            refine (rword_run g a0 m3 16 _ HD ha (by omega) hc).mono ?_
            rintro e w4 ⟨rfl, HD4, hK4⟩
            have hG4 := hG.kept hK4 (by simp; omega)
            have HK4 := HK.trans hK4 (by simp)
            have hle4 := Nat.le_trans hle hK4.size
            obtain ⟨⟨X, m4⟩, hX⟩ : ∃ s, s = instrL a0 16 m3 := ⟨_, rfl⟩
            rw [← hX] at HD4 HNX ⊢
            rw [show pushW (ys, m3) (X, m4) = (ys ++ [X], m4) from rfl] at HNX
            simp only at HD4 ⊢
            clear hX hG HD HK hle hK4
            have hG := hG4; have hle := hle4
            clear hG4 hle4
            go_wp2_with (first | (at_builtin; refine app_one (T := 22) X hG infoU Try.underlying39 rfl (by decide) (by omega) rfl _ _ rfl rfl rfl rfl rfl (encU_one X) (by omega) hle ?_; intro v' w5 hG5 hb5 hle5))
            have HD5 : RDiceAt w5 g a0 m4 := Blk.below HD4 hb5 hg
            have HK5 := kept_low HK4 hb5 (Nat.le_refl _)
            have HR := hid (show Grow w5 w.heap.size 22 1 (encI .u64) v' (instrs a0 16 (xs, mm + 1) (j + 1)).1 ∧ RDiceAt w5 g a0 (instrs a0 16 (xs, mm + 1) (j + 1)).2 ∧ Kept [g] w w5 ∧ w.heap.size ≤ w5.heap.size by rw [HNX.out]; exact ⟨hG5, HD5, HK5, hle5⟩)
            clear hG5 HD5 HK5 hle5 hG hle HD4 HK4 hb5
            go_roundw
            case rel => first | exact ⟨j + 1, by omega, by go_num, HR.out⟩ | ((repeat apply Exists.intro); exact ⟨⟨j + 1, by omega, by go_num, HR.out⟩, rfl⟩)
            case measure => simp [intOf]; omega
          · obtain rfl : j = M := by omega
            have hltj : decide ((j : Int) < 1 + c) = false := decide_eq_false (by omega)
            rw [← HST.out] at hG HD
            go_wp2_with fail
            go_roundw
            case rel => first | exact ⟨p + 1, by omega, by go_num, hG, HD, HK, hle⟩ | ((repeat apply Exists.intro); exact ⟨⟨p + 1, by omega, by go_num, hG, HD, HK, hle⟩, rfl⟩)
            case measure => simp [intOf]; omega
      · have hpa : parted p xs = xs ++ [7] := if_neg hp0
        rw [hpa] at HST
        have z1 : decide ((0 : Int) < (p : Int)) = true := decide_eq_true (by omega)
        have z2 : decide (0 < p) = true := decide_eq_true (by omega)
        obtain ⟨X, hX⟩ : ∃ X : Int, X = 7 := ⟨_, rfl⟩
        clear hpa
        go_wp2_with (first | (at_builtin; refine app_one (T := 22) 7 hG infoU Try.underlying39 rfl (by decide) (by omega) rfl _ _ rfl rfl rfl rfl rfl (encU_one 7) (by omega) hle ?_; intro v' w5 hG5 hb5 hle5))
        have HD5 : RDiceAt w5 g a0 mm := Blk.below HD hb5 hg
        have HK5 := kept_low HK hb5 (Nat.le_refl _)
        clear hG HD HK hle hb5 X hX
        obtain ⟨ys, hys⟩ : ∃ ys, ys = xs ++ [7] := ⟨_, rfl⟩
        have hyl : ys.length = xs.length + 1 := by rw [hys]; simp
        rw [← hys] at hG5 HST
        replace hpl : ys.length ≤ 9 * p + 1 ∧ mm ≤ m + 17 * p ∧ p ≤ ys.length := by omega
        clear hys hyl
        have hG := hG5; have HD := HD5; have HK := HK5; have hle := hle5
        clear hG5 HD5 HK5 hle5
        obtain ⟨xs, hxs⟩ : ∃ xs, xs = ys := ⟨_, rfl⟩
        rw [← hxs] at hG HST hpl
        clear hxs
        refine (rdbelow_run g a0 mm 8 _ HD ha (by omega) (by omega) (by omega)).mono ?_
        rintro e w2 ⟨rfl, HD2, hK2⟩
        have hG2 := hG.kept hK2 (by simp; omega)
        have HK2 := HK.trans hK2 (by simp)
        have hle2 := Nat.le_trans hle hK2.size
        obtain ⟨c, hcd⟩ : ∃ c, c = blAt a0 mm 8 := ⟨_, rfl⟩
        rw [← hcd] at hml ⊢
        obtain ⟨M, hM⟩ : ∃ M, M = manyP a0 mm := ⟨_, rfl⟩
        rw [← hM] at hml HST
        clear hcd hM hG HD HK hle hK2
        go_wp2_with fail
        go_loopw [8, 5] (fun i v wr => ∃ j : Nat, j ≤ M ∧ i = .int .i64 (j : Int) ∧ Grow wr w.heap.size 22 1 (encI .u64) v (instrs a0 16 (xs, mm + 1) j).1 ∧ RDiceAt wr g a0 (instrs a0 16 (xs, mm + 1) j).2 ∧ Kept [g] w wr ∧ w.heap.size ≤ wr.heap.size) (fun i _ _ => M - (intOf i).toNat)
        case atStart => exact ⟨0, by omega, rfl, hG2, HD2, HK2, hle2⟩
        case round =>
          clear hG2 HD2 HK2 hle2
          obtain ⟨j, hj, rfl, hG, HD, HK, hle⟩ := hrel
          have hil := instrs_le a0 16 (xs, mm + 1) j
          simp only at hil
          by_cases hlt2 : j < M
          · have hltj : decide ((j : Int) < 1 + c) = true := decide_eq_true (by omega)
            have hnx := instrs_succ a0 16 (xs, mm + 1) j
            obtain ⟨⟨ys, m3⟩, hs⟩ : ∃ s, s = instrs a0 16 (xs, mm + 1) j := ⟨_, rfl⟩
            rw [← hs] at hG HD hil hnx
            simp only at hG HD hil hnx
            have HNX := hid hnx
            clear hs hnx
            go_wp2_with fail
            refine (rword_run g a0 m3 16 _ HD ha (by omega) hc).mono ?_
            rintro e w4 ⟨rfl, HD4, hK4⟩
            have hG4 := hG.kept hK4 (by simp; omega)
            have HK4 := HK.trans hK4 (by simp)
            have hle4 := Nat.le_trans hle hK4.size
            obtain ⟨⟨X, m4⟩, hX⟩ : ∃ s, s = instrL a0 16 m3 := ⟨_, rfl⟩
            rw [← hX] at HD4 HNX ⊢
            rw [show pushW (ys, m3) (X, m4) = (ys ++ [X], m4) from rfl] at HNX
            simp only at HD4 ⊢
            clear hX hG HD HK hle hK4
            have hG := hG4; have hle := hle4
            clear hG4 hle4
            go_wp2_with (first | (at_builtin; refine app_one (T := 22) X hG infoU Try.underlying39 rfl (by decide) (by omega) rfl _ _ rfl rfl rfl rfl rfl (encU_one X) (by omega) hle ?_; intro v' w5 hG5 hb5 hle5))
            have HD5 : RDiceAt w5 g a0 m4 := Blk.below HD4 hb5 hg
            have HK5 := kept_low HK4 hb5 (Nat.le_refl _)
            have HR := hid (show Grow w5 w.heap.size 22 1 (encI .u64) v' (instrs a0 16 (xs, mm + 1) (j + 1)).1 ∧ RDiceAt w5 g a0 (instrs a0 16 (xs, mm + 1) (j + 1)).2 ∧ Kept [g] w w5 ∧ w.heap.size ≤ w5.heap.size by rw [HNX.out]; exact ⟨hG5, HD5, HK5, hle5⟩)
            clear hG5 HD5 HK5 hle5 hG hle HD4 HK4 hb5
            go_roundw
            case rel => first | exact ⟨j + 1, by omega, by go_num, HR.out⟩ | ((repeat apply Exists.intro); exact ⟨⟨j + 1, by omega, by go_num, HR.out⟩, rfl⟩)
            case measure => simp [intOf]; omega
          · obtain rfl : j = M := by omega
            have hltj : decide ((j : Int) < 1 + c) = false := decide_eq_false (by omega)
            rw [← HST.out] at hG HD
            go_wp2_with fail
            go_roundw
            case rel => first | exact ⟨p + 1, by omega, by go_num, hG, HD, HK, hle⟩ | ((repeat apply Exists.intro); exact ⟨⟨p + 1, by omega, by go_num, hG, HD, HK, hle⟩, rfl⟩)
            case measure => simp [intOf]; omega
    · have hlt' : decide ((p : Int) < (16 : Int)) = false := decide_eq_false hlt
      have hpq : (16 : Int).toNat = p := by omega
      go_wp2
      go_ret
      try rw [hpq]
      exact ⟨_, rfl, hG, HD, HK⟩
theorem rprograms_16 (g : Nat) (a0 : Int) (m : Nat) (n : Int) (w : World) (hb : RDiceAt w g a0 m) (ha : U64 a0) (hm : m ≤ 1000) (h1 : 16 < n) :
    Calls Try.prog 12 #[.pointer (some ⟨g, 0, none⟩), .int .i64 n] w fun e w' => ∃ v, e = .returned v ∧ Grow w' w.heap.size 22 1 (encI .u64) v (progs a0 16 m (16 : Int).toNat).1 ∧ RDiceAt w' g a0 (progs a0 16 m (16 : Int).toNat).2 ∧ Kept [g] w w' := by
  have hg := hb.lt
  have HI := hid (And.intro hb (Kept.refl [g] w))
  clear hb
  have hc : 1 ≤ (16 : Int) ∧ (16 : Int) ≤ 16 := by omega
  go_enter Try.func12, Try.ntmps12
  go_wp2_with fail
  go_loopw [6, 5] (fun i v wr => ∃ p : Nat, (p : Int) ≤ 16 ∧ i = .int .i64 (p : Int) ∧ Grow wr w.heap.size 22 1 (encI .u64) v (progs a0 16 m p).1 ∧ RDiceAt wr g a0 (progs a0 16 m p).2 ∧ Kept [g] w wr ∧ w.heap.size ≤ wr.heap.size) (fun i _ _ => (16 : Int).toNat - (intOf i).toNat)
  case atStart => exact ⟨0, by omega, rfl, Grow.nil _ _ _ _ _, HI.out.1, HI.out.2, Nat.le_refl _⟩
  case round =>
    clear HI
    obtain ⟨p, hp, rfl, hG, HD, HK, hle⟩ := hrel
    have hpl := progs_le a0 16 m p
    by_cases hlt : (p : Int) < 16
    · have hlt' : decide ((p : Int) < (16 : Int)) = true := decide_eq_true hlt
      have hstep := progs_succ a0 16 m p
      have hml := manyP_le a0 (progs a0 16 m p).2
      obtain ⟨⟨xs, mm⟩, hs⟩ : ∃ s, s = progs a0 16 m p := ⟨_, rfl⟩
      rw [← hs] at hG HD hpl hstep hml
      simp only at hG HD hpl hstep hml
      have HST := hid hstep
      clear hs hstep
      by_cases hp0 : p = 0
      · have hpa : parted p xs = xs := if_pos hp0
        rw [hpa] at HST
        have z1 : decide ((0 : Int) < (p : Int)) = false := decide_eq_false (by omega)
        have z2 : decide (0 < p) = false := decide_eq_false (by omega)
        clear hpa
        go_wp2_with fail
        refine (rdbelow_run g a0 mm 8 _ HD ha (by omega) (by omega) (by omega)).mono ?_
        rintro e w2 ⟨rfl, HD2, hK2⟩
        have hG2 := hG.kept hK2 (by simp; omega)
        have HK2 := HK.trans hK2 (by simp)
        have hle2 := Nat.le_trans hle hK2.size
        obtain ⟨c, hcd⟩ : ∃ c, c = blAt a0 mm 8 := ⟨_, rfl⟩
        rw [← hcd] at hml ⊢
        obtain ⟨M, hM⟩ : ∃ M, M = manyP a0 mm := ⟨_, rfl⟩
        rw [← hM] at hml HST
        clear hcd hM hG HD HK hle hK2
        go_wp2_with fail
        go_loopw [8, 5] (fun i v wr => ∃ j : Nat, j ≤ M ∧ i = .int .i64 (j : Int) ∧ Grow wr w.heap.size 22 1 (encI .u64) v (instrs a0 16 (xs, mm + 1) j).1 ∧ RDiceAt wr g a0 (instrs a0 16 (xs, mm + 1) j).2 ∧ Kept [g] w wr ∧ w.heap.size ≤ wr.heap.size) (fun i _ _ => M - (intOf i).toNat)
        case atStart => exact ⟨0, by omega, rfl, hG2, HD2, HK2, hle2⟩
        case round =>
          clear hG2 HD2 HK2 hle2
          obtain ⟨j, hj, rfl, hG, HD, HK, hle⟩ := hrel
          have hil := instrs_le a0 16 (xs, mm + 1) j
          simp only at hil
          by_cases hlt2 : j < M
          · have hltj : decide ((j : Int) < 1 + c) = true := decide_eq_true (by omega)
            have hnx := instrs_succ a0 16 (xs, mm + 1) j
            obtain ⟨⟨ys, m3⟩, hs⟩ : ∃ s, s = instrs a0 16 (xs, mm + 1) j := ⟨_, rfl⟩
            rw [← hs] at hG HD hil hnx
            simp only at hG HD hil hnx
            have HNX := hid hnx
            clear hs hnx
            go_wp2_with fail
            refine (rword_run g a0 m3 16 _ HD ha (by omega) hc).mono ?_
            rintro e w4 ⟨rfl, HD4, hK4⟩
            have hG4 := hG.kept hK4 (by simp; omega)
            have HK4 := HK.trans hK4 (by simp)
            have hle4 := Nat.le_trans hle hK4.size
            obtain ⟨⟨X, m4⟩, hX⟩ : ∃ s, s = instrL a0 16 m3 := ⟨_, rfl⟩
            rw [← hX] at HD4 HNX ⊢
            rw [show pushW (ys, m3) (X, m4) = (ys ++ [X], m4) from rfl] at HNX
            simp only at HD4 ⊢
            clear hX hG HD HK hle hK4
            have hG := hG4; have hle := hle4
            clear hG4 hle4
            go_wp2_with (first | (at_builtin; refine app_one (T := 22) X hG infoU Try.underlying39 rfl (by decide) (by omega) rfl _ _ rfl rfl rfl rfl rfl (encU_one X) (by omega) hle ?_; intro v' w5 hG5 hb5 hle5))
            have HD5 : RDiceAt w5 g a0 m4 := Blk.below HD4 hb5 hg
            have HK5 := kept_low HK4 hb5 (Nat.le_refl _)
            have HR := hid (show Grow w5 w.heap.size 22 1 (encI .u64) v' (instrs a0 16 (xs, mm + 1) (j + 1)).1 ∧ RDiceAt w5 g a0 (instrs a0 16 (xs, mm + 1) (j + 1)).2 ∧ Kept [g] w w5 ∧ w.heap.size ≤ w5.heap.size by rw [HNX.out]; exact ⟨hG5, HD5, HK5, hle5⟩)
            clear hG5 HD5 HK5 hle5 hG hle HD4 HK4 hb5
            go_roundw
            case rel => first | exact ⟨j + 1, by omega, by go_num, HR.out⟩ | ((repeat apply Exists.intro); exact ⟨⟨j + 1, by omega, by go_num, HR.out⟩, rfl⟩)
            case measure => simp [intOf]; omega
          · obtain rfl : j = M := by omega
            have hltj : decide ((j : Int) < 1 + c) = false := decide_eq_false (by omega)
            rw [← HST.out] at hG HD
            go_wp2_with fail
            go_roundw
            case rel => first | exact ⟨p + 1, by omega, by go_num, hG, HD, HK, hle⟩ | ((repeat apply Exists.intro); exact ⟨⟨p + 1, by omega, by go_num, hG, HD, HK, hle⟩, rfl⟩)
            case measure => simp [intOf]; omega
      · have hpa : parted p xs = xs ++ [7] := if_neg hp0
        rw [hpa] at HST
        have z1 : decide ((0 : Int) < (p : Int)) = true := decide_eq_true (by omega)
        have z2 : decide (0 < p) = true := decide_eq_true (by omega)
        obtain ⟨X, hX⟩ : ∃ X : Int, X = 7 := ⟨_, rfl⟩
        clear hpa
        go_wp2_with (first | (at_builtin; refine app_one (T := 22) 7 hG infoU Try.underlying39 rfl (by decide) (by omega) rfl _ _ rfl rfl rfl rfl rfl (encU_one 7) (by omega) hle ?_; intro v' w5 hG5 hb5 hle5))
        have HD5 : RDiceAt w5 g a0 mm := Blk.below HD hb5 hg
        have HK5 := kept_low HK hb5 (Nat.le_refl _)
        clear hG HD HK hle hb5 X hX
        obtain ⟨ys, hys⟩ : ∃ ys, ys = xs ++ [7] := ⟨_, rfl⟩
        have hyl : ys.length = xs.length + 1 := by rw [hys]; simp
        rw [← hys] at hG5 HST
        replace hpl : ys.length ≤ 9 * p + 1 ∧ mm ≤ m + 17 * p ∧ p ≤ ys.length := by omega
        clear hys hyl
        have hG := hG5; have HD := HD5; have HK := HK5; have hle := hle5
        clear hG5 HD5 HK5 hle5
        obtain ⟨xs, hxs⟩ : ∃ xs, xs = ys := ⟨_, rfl⟩
        rw [← hxs] at hG HST hpl
        clear hxs
        refine (rdbelow_run g a0 mm 8 _ HD ha (by omega) (by omega) (by omega)).mono ?_
        rintro e w2 ⟨rfl, HD2, hK2⟩
        have hG2 := hG.kept hK2 (by simp; omega)
        have HK2 := HK.trans hK2 (by simp)
        have hle2 := Nat.le_trans hle hK2.size
        obtain ⟨c, hcd⟩ : ∃ c, c = blAt a0 mm 8 := ⟨_, rfl⟩
        rw [← hcd] at hml ⊢
        obtain ⟨M, hM⟩ : ∃ M, M = manyP a0 mm := ⟨_, rfl⟩
        rw [← hM] at hml HST
        clear hcd hM hG HD HK hle hK2
        go_wp2_with fail
        go_loopw [8, 5] (fun i v wr => ∃ j : Nat, j ≤ M ∧ i = .int .i64 (j : Int) ∧ Grow wr w.heap.size 22 1 (encI .u64) v (instrs a0 16 (xs, mm + 1) j).1 ∧ RDiceAt wr g a0 (instrs a0 16 (xs, mm + 1) j).2 ∧ Kept [g] w wr ∧ w.heap.size ≤ wr.heap.size) (fun i _ _ => M - (intOf i).toNat)
        case atStart => exact ⟨0, by omega, rfl, hG2, HD2, HK2, hle2⟩
        case round =>
          clear hG2 HD2 HK2 hle2
          obtain ⟨j, hj, rfl, hG, HD, HK, hle⟩ := hrel
          have hil := instrs_le a0 16 (xs, mm + 1) j
          simp only at hil
          by_cases hlt2 : j < M
          · have hltj : decide ((j : Int) < 1 + c) = true := decide_eq_true (by omega)
            have hnx := instrs_succ a0 16 (xs, mm + 1) j
            obtain ⟨⟨ys, m3⟩, hs⟩ : ∃ s, s = instrs a0 16 (xs, mm + 1) j := ⟨_, rfl⟩
            rw [← hs] at hG HD hil hnx
            simp only at hG HD hil hnx
            have HNX := hid hnx
            clear hs hnx
            go_wp2_with fail
            refine (rword_run g a0 m3 16 _ HD ha (by omega) hc).mono ?_
            rintro e w4 ⟨rfl, HD4, hK4⟩
            have hG4 := hG.kept hK4 (by simp; omega)
            have HK4 := HK.trans hK4 (by simp)
            have hle4 := Nat.le_trans hle hK4.size
            obtain ⟨⟨X, m4⟩, hX⟩ : ∃ s, s = instrL a0 16 m3 := ⟨_, rfl⟩
            rw [← hX] at HD4 HNX ⊢
            rw [show pushW (ys, m3) (X, m4) = (ys ++ [X], m4) from rfl] at HNX
            simp only at HD4 ⊢
            clear hX hG HD HK hle hK4
            have hG := hG4; have hle := hle4
            clear hG4 hle4
            go_wp2_with (first | (at_builtin; refine app_one (T := 22) X hG infoU Try.underlying39 rfl (by decide) (by omega) rfl _ _ rfl rfl rfl rfl rfl (encU_one X) (by omega) hle ?_; intro v' w5 hG5 hb5 hle5))
            have HD5 : RDiceAt w5 g a0 m4 := Blk.below HD4 hb5 hg
            have HK5 := kept_low HK4 hb5 (Nat.le_refl _)
            have HR := hid (show Grow w5 w.heap.size 22 1 (encI .u64) v' (instrs a0 16 (xs, mm + 1) (j + 1)).1 ∧ RDiceAt w5 g a0 (instrs a0 16 (xs, mm + 1) (j + 1)).2 ∧ Kept [g] w w5 ∧ w.heap.size ≤ w5.heap.size by rw [HNX.out]; exact ⟨hG5, HD5, HK5, hle5⟩)
            clear hG5 HD5 HK5 hle5 hG hle HD4 HK4 hb5
            go_roundw
            case rel => first | exact ⟨j + 1, by omega, by go_num, HR.out⟩ | ((repeat apply Exists.intro); exact ⟨⟨j + 1, by omega, by go_num, HR.out⟩, rfl⟩)
            case measure => simp [intOf]; omega
          · obtain rfl : j = M := by omega
            have hltj : decide ((j : Int) < 1 + c) = false := decide_eq_false (by omega)
            rw [← HST.out] at hG HD
            go_wp2_with fail
            go_roundw
            case rel => first | exact ⟨p + 1, by omega, by go_num, hG, HD, HK, hle⟩ | ((repeat apply Exists.intro); exact ⟨⟨p + 1, by omega, by go_num, hG, HD, HK, hle⟩, rfl⟩)
            case measure => simp [intOf]; omega
    · have hlt' : decide ((p : Int) < (16 : Int)) = false := decide_eq_false hlt
      have hpq : (16 : Int).toNat = p := by omega
      go_wp2
      go_ret
      try rw [hpq]
      exact ⟨_, rfl, hG, HD, HK⟩
theorem rprograms_run (g : Nat) (a0 : Int) (m : Nat) (n : Int) (w : World) (hb : RDiceAt w g a0 m) (ha : U64 a0) (hm : m ≤ 1000) :
    Calls Try.prog 12 #[.pointer (some ⟨g, 0, none⟩), .int .i64 n] w fun e w' => ∃ v, e = .returned v ∧ Grow w' w.heap.size 22 1 (encI .u64) v (progs a0 (clampN n) m (clampN n).toNat).1 ∧ RDiceAt w' g a0 (progs a0 (clampN n) m (clampN n).toNat).2 ∧ Kept [g] w w' := by
  by_cases h1 : n < 1
  · have e : clampN n = 1 := by unfold clampN; omega
    rw [e]
    exact rprograms_1 g a0 m n w hb ha hm h1
  by_cases h2 : n < 16
  · have e : clampN n = n := by unfold clampN; omega
    rw [e]
    exact rprograms_n g a0 m n w hb ha hm (by omega) h2
  by_cases h3 : n = 16
  · subst h3
    have e : clampN 16 = 16 := by unfold clampN; omega
    rw [e]
    exact rprograms_e g a0 m w hb ha hm
  · have e : clampN n = 16 := by unfold clampN; omega
    rw [e]
    exact rprograms_16 g a0 m n w hb ha hm (by omega)
/-- Appending, and where the new one lies. -/
theorem run_append_own2 {P : Program} (w : World) (base : Nat) (t ty e : TypeId) (i : TypeInfo) (z : Value) (size bytes : Nat) (ht : P.underlying t = some (.slice e)) (hi : P.info? e = some i) (hz : i.zero = some z)
    (hsize : i.size = size) (hby : i.bytes = bytes) (hzs : z.cells.size = size) (hsz : 0 < size)
    (v : Value) (n : Nat) (xs : List Value) (hown : w.ownsRow base e size v n xs)
    (a : Addr) (m c : Nat) (news : List Value) (hl : news.length = m * size) (hnews : ∀ j u, news[j]? = some u → w.cell? (a.add j) = some u) (h1 : ∀ u ∈ news, u.oneCell' = true)
    (h63 : n + m ≤ maxLen) (hbytes : (n + m) * bytes ≤ 140737488355328) (hbase : base ≤ w.heap.size) :
    ∃ v' w', (Builtin.append_ #[t, t] ty #[v, .slice (some a) m c]).run P w = .ok v' w' ∧ w'.ownsRow base e size v' (n + m) (xs ++ news) ∧ w.grownBy w' v.ownBlock ∧ (v'.ownBlock = v.ownBlock ∨ ∀ k, v'.ownBlock = some k → w.heap.size ≤ k) := by
  obtain ⟨v', w', hr, h2, h3, _⟩ := run_append_own (P := P) w base t ty e i z size bytes ht hi hz hsize hby hzs hsz v n xs hown a m c news hl hnews h1 h63 hbytes hbase
  refine ⟨v', w', hr, h2, h3, ?_⟩
  rcases hown.2 with ⟨rfl, rfl⟩ | ⟨g, cap, cur, rfl, hbg, hg, hnc, hcm, hcs, htake⟩
  · have hx : xs = [] := List.eq_nil_of_length_eq_zero (by simpa using hown.1)
    subst hx
    obtain ⟨v2, w2, hr2, r2, _, _⟩ := run_append_own (P := P) w w.heap.size t ty e i z size bytes ht hi hz hsize hby hzs hsz (.slice none 0 0) 0 [] (World.ownsRow_nil w _ e size) a m c news hl hnews h1 h63 hbytes (Nat.le_refl _)
    rw [hr] at hr2
    cases hr2
    exact .inr (fun k hk => (r2.lt k hk).1)
  · by_cases hroom : n + m ≤ cap
    · have hr2 := run_append_room (P := P) w t ty e i ht hi g n cap cur hg a m c news (by rw [hsize]; exact hl) hnews h1 hroom (by rw [hsize, hl, hcs, ← Nat.add_mul]; exact Nat.mul_le_mul_right _ hroom)
      rw [hr] at hr2
      cases hr2
      exact .inl rfl
    · have hr2 := run_append_grow (P := P) w t ty e i z ht hi hz ⟨g, 0, none⟩ n cap xs (by rw [hsize]; exact hown.1) (hown.cells (g := g) rfl) a m c news (by rw [hsize]; exact hl) hnews (by omega) (by unfold maxLen at h63; omega) (growslice_fits (by omega) (by rw [hby]; exact hbytes))
      rw [hr] at hr2
      cases hr2
      exact .inr (fun k hk => by simp [Value.ownBlock] at hk; omega)
theorem app_oneN {α : Type} {P : Program} {w : World} {B : Nat} {T S : TypeId} {z : Value} {size bytes : Nat} {enc : α → List Value} {v : Value} {xs : List α} (x : α) {U : TypeId} {cs : Array Value}
    (hG : Grow w B T size enc v xs) (hE : Elem P T z size bytes) (hS : P.underlying S = some (.slice T)) (hzs : z.cells.size = size) (hsz : 0 < size) (hbz : bytes ≤ 1000)
    {ops : Array Oper} {rest : List Oper} {o : Oper} {a : Act} {Q : Exit → Act → World → Prop}
    (hgd : o.guard = none) (s x' : Operand) (ho : o.op = .call { callee := .builtin .append, args := #[s, x'], argTypes := #[S, S] }) (hs : a.eval s = v) (hx : a.eval x' = .slice (some ⟨w.heap.size, 0, none⟩) 1 1)
    (hc : cs.toList = enc x) (hl : (enc x).length = size) (h1 : ∀ u ∈ enc x, u.oneCell' = true) (hm : xs.length ≤ 1000000) (hB : B ≤ w.heap.size)
    (h : ∀ v' w', Grow w' B T size enc v' (xs ++ [x]) → Kept v.ownBlock.toList w w' → (v'.ownBlock = v.ownBlock ∨ ∀ k, v'.ownBlock = some k → w.heap.size ≤ k) → wpList P ops Q rest (a.put o.dst v') w') :
    wpList P ops Q (o :: rest) a (w.alloc (.cells cs U)) := by
  obtain ⟨i0, hi, hz0, hz1, hz2⟩ := info_parts hE
  have hb1 : (xs.length + 1) * bytes ≤ 1000001 * 1000 := Nat.mul_le_mul (by omega) hbz
  refine wpList_plain hgd fun K hK' => ?_
  obtain ⟨v', w', hrun, r1, r2, r3⟩ := run_append_own2 (P := P) (w.alloc (.cells cs U)) B S o.type T i0 z size bytes hS hi hz0 hz1 hz2 hzs hsz v xs.length (xs.flatMap enc) (World.ownsRow.alloc hG _) ⟨w.heap.size, 0, none⟩ 1 1 (enc x) (by rw [hl, Nat.one_mul]) (by
    intro j u hj
    have hb : Blk (w.alloc (.cells cs U)) w.heap.size cs.toList U := by
      have := Blk.new w cs.toList U
      simpa using this
    have e1 : (⟨w.heap.size, 0, none⟩ : Addr).add j = ⟨w.heap.size, j, none⟩ := by unfold Addr.add; split <;> simp_all
    rw [e1, hb.cell j, hc]
    exact hj) h1 (by unfold maxLen; omega) (by omega) (by simp; omega)
  unfold Oper.wp execOp
  simp only [ho, resolve, invoke, builtin, Sem.run_bind, Sem.run_pure, Result.andThen_ok, List.map_toArray, List.map_cons, List.map_nil, hs, hx, hrun]
  refine hK' _ _ (h v' w' ?_ ?_ (r3.imp id (fun h k hk => by have := h k hk; simp at this; omega)))
  · unfold Grow
    rw [List.length_append, List.flatMap_append]
    simpa using r1
  · exact ⟨r2.os, r2.tape, r2.output, by have := r2.size; simp at this; omega, fun k hk hn => (r2.block k (by simp; omega) (fun e => hn (by simp [← e]))).trans (Below.heap_alloc w _ k hk)⟩
end Go.Proofs.Ythonhbciileomaa.Dice
