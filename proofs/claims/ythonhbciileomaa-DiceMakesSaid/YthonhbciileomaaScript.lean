/- A script that dice make up. -/
import Derived.Test.YthonhbciileomaaDice
import Derived.Test.YthonhbciileomaaBase1
set_option maxRecDepth 100000
set_option maxHeartbeats 4000000
set_option linter.unusedVariables false
set_option linter.unusedSimpArgs false
namespace Go.Proofs.Ythonhbciileomaa.Dice
open Go.RowKit Go.Proofs.Ythonhbciileomaa.TK Go.Proofs.Ythonhbciileomaa.Flag Go.Proofs.Ythonhbciileomaa.Read Go.Proofs.Ythonhbciileomaa.Grow

abbrev Ent := Int × Int
def encE (x : Ent) : List Value := [.int .i64 x.1, .int .i64 x.2]
theorem infoE : Elem Try.prog 43 (.agg #[.int .i64 0, .int .i64 0]) 2 16 := by unfold Elem; kernel_rfl
/-- The next number below n, behind m numbers. -/
def blAt (a0 : Int) (m : Nat) (n : Int) : Int := bel (stt a0 (m + 1)) n
theorem blAt_range (a0 : Int) (m : Nat) (n : Int) (h : 1 ≤ n) : 0 ≤ blAt a0 m n ∧ blAt a0 m n < n := bel_range _ _ h
/-- A run of a script. -/
def runL (a0 T : Int) (m : Nat) : List Ent × Nat :=
  if blAt a0 m 8 = 0 then (List.replicate (1 + blAt a0 (m + 1) 16).toNat (2, 0), m + 2)
  else if blAt a0 m 8 = 1 then (List.replicate (1 + blAt a0 (m + 1) 16).toNat (3, 0), m + 2)
  else if blAt a0 m 8 = 2 then ([(4, blAt a0 (m + 1) T)], m + 2)
  else (List.replicate (1 + blAt a0 (m + 2) 16).toNat (1, blAt a0 (m + 1) T), m + 3)
/-- Dice of the state a0, behind m numbers, at block g. -/
def DiceAt (w : World) (g : Nat) (a0 : Int) (m : Nat) : Prop := Blk w g [.int .u64 (stt a0 m)] 48
theorem DiceAt.quiet {w w' : World} {g : Nat} {a0 : Int} {m : Nat} (h : DiceAt w g a0 m) (hb : Below w.heap.size w w') : DiceAt w' g a0 m := Blk.quiet h hb
theorem dbelow_run (g : Nat) (a0 : Int) (m : Nat) (n : Int) (w : World) (hb : DiceAt w g a0 m) (h : 1 ≤ n) (h' : n ≤ 9223372036854775807) :
    Calls Try.prog 18 #[.pointer (some ⟨g, 0, none⟩), .int .i64 n] w fun e w' => e = .returned (.int .i64 (blAt a0 m n)) ∧ DiceAt w' g a0 (m + 1) ∧ Kept [g] w w' := by
  refine (below_run g (stt a0 m) n w hb h h').mono ?_
  rintro e w' ⟨rfl, rfl⟩
  exact ⟨rfl, Blk.set hb 0 _, (Kept.refl [g] w).set (.inl (by simp)) _⟩

/-- The loop's end, by one entry. -/
theorem rep_succ (k : Nat) (x : Ent) : List.replicate (k + 1) x = List.replicate k x ++ [x] := List.replicate_succ'

theorem kept_low {S : List Nat} {B : Nat} {w w1 w2 : World} (h : Kept S w w1) (hb : Below B w1 w2) (hB : w.heap.size ≤ B) : Kept S w w2 :=
  ⟨hb.os.trans h.os, hb.tape.trans h.tape, hb.output.trans h.output, Nat.le_trans h.size hb.size, fun k hk hn => (hb.block k (by omega)).trans (h.block k hk hn)⟩
theorem encE_one (x : Ent) : ∀ u ∈ encE x, u.oneCell' = true := by
  intro u hu
  simp [encE] at hu
  rcases hu with rfl | rfl <;> rfl
theorem encE_len (x : Ent) : (encE x).length = 2 := rfl
theorem run_run (g : Nat) (a0 : Int) (m : Nat) (T : Int) (w : World) (hb : DiceAt w g a0 m) (hT : 1 ≤ T) (hT' : T ≤ 256) :
    Calls Try.prog 20 #[.pointer (some ⟨g, 0, none⟩), .int .i64 T] w fun e w' => ∃ ad cap, e = .returned (.slice (some ad) (runL a0 T m).1.length cap) ∧ RowOf encE 2 w' (some ad) (runL a0 T m).1 ∧ w.heap.size ≤ ad.block ∧
      DiceAt w' g a0 (runL a0 T m).2 ∧ Kept [g] w w' := by
  have hg := hb.lt
  have hk := blAt_range a0 m 8 (by omega)
  obtain ⟨k, hkd⟩ : ∃ k, k = blAt a0 m 8 := ⟨_, rfl⟩
  go_enter Try.func20, Try.ntmps20
  go_wp2_with fail
  refine (dbelow_run g a0 m 8 _ (hb.quiet (below_one _ _)) (by omega) (by omega)).mono ?_
  rintro e w1 ⟨rfl, HD, hK⟩
  have B1 := (Blk.new w [.int .i64 0, .int .i64 0] 43).kept hK (by simp; omega)
  have K1 : Kept [g] w w1 := ((Kept.refl [g] w).alloc _).trans hK (by simp)
  have hlt : w.heap.size < w1.heap.size := B1.lt
  rw [← hkd] at hk ⊢
  have HKD := hid hkd
  clear hK hkd hb
  have b0 := B1.cell 0
  have b1 := B1.cell 1
  have f0 := B1.frozen 0
  have f1 := B1.frozen 1
  simp only [List.getElem?_cons_zero, List.getElem?_cons_succ] at b0 b1
  rcases (show k = 0 ∨ k = 1 ∨ k = 2 ∨ (k ≠ 0 ∧ k ≠ 1 ∧ k ≠ 2) by omega) with rfl | rfl | rfl | ⟨k0, k1, k2⟩
  · obtain ⟨X, hX⟩ : ∃ X : Ent, X = (2, 0) := ⟨_, rfl⟩
    obtain ⟨mm, hmm⟩ : ∃ mm, mm = m + 1 := ⟨_, rfl⟩
    have HR : Hid (runL a0 T m = (List.replicate (1 + blAt a0 mm 16).toNat X, mm + 1)) := by unfold Hid runL; rw [if_pos HKD.out.symm, hX, hmm]
    have BX : Blk (w1.setCell ⟨w.heap.size, 0, none⟩ (.int .i64 2)) w.heap.size (encE X) 43 := hX ▸ B1.set 0 (.int .i64 2)
    have HD2 : DiceAt (w1.setCell ⟨w.heap.size, 0, none⟩ (.int .i64 2)) g a0 mm := hmm ▸ Blk.far HD (by simp; omega) _
    have K2 : Kept [g] w (w1.setCell ⟨w.heap.size, 0, none⟩ (.int .i64 2)) := K1.set (.inr (Nat.le_refl _)) _
    clear hX hmm
    (go_wp2_with fail); (refine (dbelow_run g a0 mm 16 _ HD2 (by omega) (by omega)).mono ?_); (rintro e w3 ⟨rfl, HD3, hK⟩); (have BX3 := BX.kept hK (by simp; omega)); (have K3 := K2.trans hK (by simp)); (have hc := blAt_range a0 mm 16 (by omega)); (obtain ⟨c, hcd⟩ : ∃ c, c = blAt a0 mm 16 := ⟨_, rfl⟩); (rw [← hcd] at hc ⊢ HR); (clear hcd hK HD2 BX K2); (have hle : w.heap.size + 1 ≤ w3.heap.size := BX3.lt); (go_wp2_with fail); (go_loopw [6, 31] (fun v i wr => ∃ q : Nat, (q : Int) ≤ 1 + c ∧ i = .int .i64 q ∧ Grow wr (w.heap.size + 1) 43 2 encE v (List.replicate q X) ∧ Blk wr w.heap.size (encE X) 43 ∧ DiceAt wr g a0 (mm + 1) ∧ Kept [g] w wr ∧ w.heap.size + 1 ≤ wr.heap.size) (fun _ i _ => (1 + c).toNat - (intOf i).toNat)); (case atStart => exact ⟨0, by omega, rfl, Grow.nil _ _ _ _ _, BX3, HD3, K3, hle⟩); (case round => ((clear BX3 HD3 K3 hle); (obtain ⟨q, hq, rfl, hG, BX, HD, K4, hle⟩ := hrel); (have y0 := BX.cell 0); (have y1 := BX.cell 1); (simp only [encE, List.getElem?_cons_zero, List.getElem?_cons_succ] at y0 y1); (by_cases hqc : (q : Int) < 1 + c); (· ((go_wp2_with (first | (at_builtin; refine app_one (T := 43) X hG infoE Try.underlying35 rfl (by decide) (by omega) rfl _ _ rfl rfl rfl rfl rfl (encE_one X) (by simp; omega) hle ?_; intro v' w5 hG5 hb5 hle5))); (have BX5 := BX.below hb5 (by omega)); (have HD5 : DiceAt w5 g a0 (mm + 1) := Blk.below HD hb5 (by omega)); (have K5 : Kept [g] w w5 := kept_low K4 hb5 (by omega)); (rw [← rep_succ] at hG5); (go_roundw); (case rel => first | exact ⟨q + 1, by omega, by go_num, hG5, BX5, HD5, K5, hle5⟩ | ((repeat apply Exists.intro); exact ⟨⟨q + 1, by omega, by go_num, hG5, BX5, HD5, K5, hle5⟩, rfl⟩)); (case measure => simp [intOf]; omega))); (· ((have hqe : (1 + c).toNat = q := by omega); (obtain ⟨a, cap, rfl, hrow, _, hab⟩ := hG.row encE_len); (obtain ⟨ad, rfl, _⟩ := hrow 0 (by simp; omega)); (go_wp2); (go_ret); (rw [HR.out, hqe]); (exact ⟨ad, cap, rfl, hrow, by have := (hab ad rfl).1; omega, HD, K4⟩)))))
  · obtain ⟨X, hX⟩ : ∃ X : Ent, X = (3, 0) := ⟨_, rfl⟩
    obtain ⟨mm, hmm⟩ : ∃ mm, mm = m + 1 := ⟨_, rfl⟩
    have HR : Hid (runL a0 T m = (List.replicate (1 + blAt a0 mm 16).toNat X, mm + 1)) := by unfold Hid runL; rw [if_neg (by rw [← HKD.out]; omega), if_pos HKD.out.symm, hX, hmm]
    have BX : Blk (w1.setCell ⟨w.heap.size, 0, none⟩ (.int .i64 3)) w.heap.size (encE X) 43 := hX ▸ B1.set 0 (.int .i64 3)
    have HD2 : DiceAt (w1.setCell ⟨w.heap.size, 0, none⟩ (.int .i64 3)) g a0 mm := hmm ▸ Blk.far HD (by simp; omega) _
    have K2 : Kept [g] w (w1.setCell ⟨w.heap.size, 0, none⟩ (.int .i64 3)) := K1.set (.inr (Nat.le_refl _)) _
    clear hX hmm
    (go_wp2_with fail); (refine (dbelow_run g a0 mm 16 _ HD2 (by omega) (by omega)).mono ?_); (rintro e w3 ⟨rfl, HD3, hK⟩); (have BX3 := BX.kept hK (by simp; omega)); (have K3 := K2.trans hK (by simp)); (have hc := blAt_range a0 mm 16 (by omega)); (obtain ⟨c, hcd⟩ : ∃ c, c = blAt a0 mm 16 := ⟨_, rfl⟩); (rw [← hcd] at hc ⊢ HR); (clear hcd hK HD2 BX K2); (have hle : w.heap.size + 1 ≤ w3.heap.size := BX3.lt); (go_wp2_with fail); (go_loopw [6, 31] (fun v i wr => ∃ q : Nat, (q : Int) ≤ 1 + c ∧ i = .int .i64 q ∧ Grow wr (w.heap.size + 1) 43 2 encE v (List.replicate q X) ∧ Blk wr w.heap.size (encE X) 43 ∧ DiceAt wr g a0 (mm + 1) ∧ Kept [g] w wr ∧ w.heap.size + 1 ≤ wr.heap.size) (fun _ i _ => (1 + c).toNat - (intOf i).toNat)); (case atStart => exact ⟨0, by omega, rfl, Grow.nil _ _ _ _ _, BX3, HD3, K3, hle⟩); (case round => ((clear BX3 HD3 K3 hle); (obtain ⟨q, hq, rfl, hG, BX, HD, K4, hle⟩ := hrel); (have y0 := BX.cell 0); (have y1 := BX.cell 1); (simp only [encE, List.getElem?_cons_zero, List.getElem?_cons_succ] at y0 y1); (by_cases hqc : (q : Int) < 1 + c); (· ((go_wp2_with (first | (at_builtin; refine app_one (T := 43) X hG infoE Try.underlying35 rfl (by decide) (by omega) rfl _ _ rfl rfl rfl rfl rfl (encE_one X) (by simp; omega) hle ?_; intro v' w5 hG5 hb5 hle5))); (have BX5 := BX.below hb5 (by omega)); (have HD5 : DiceAt w5 g a0 (mm + 1) := Blk.below HD hb5 (by omega)); (have K5 : Kept [g] w w5 := kept_low K4 hb5 (by omega)); (rw [← rep_succ] at hG5); (go_roundw); (case rel => first | exact ⟨q + 1, by omega, by go_num, hG5, BX5, HD5, K5, hle5⟩ | ((repeat apply Exists.intro); exact ⟨⟨q + 1, by omega, by go_num, hG5, BX5, HD5, K5, hle5⟩, rfl⟩)); (case measure => simp [intOf]; omega))); (· ((have hqe : (1 + c).toNat = q := by omega); (obtain ⟨a, cap, rfl, hrow, _, hab⟩ := hG.row encE_len); (obtain ⟨ad, rfl, _⟩ := hrow 0 (by simp; omega)); (go_wp2); (go_ret); (rw [HR.out, hqe]); (exact ⟨ad, cap, rfl, hrow, by have := (hab ad rfl).1; omega, HD, K4⟩)))))
  · have HR : Hid (runL a0 T m = ([(4, blAt a0 (m + 1) T)], m + 2)) := by unfold Hid runL; rw [if_neg (by rw [← HKD.out]; omega), if_neg (by rw [← HKD.out]; omega), if_pos HKD.out.symm]
    go_wp2_with fail
    refine (dbelow_run g a0 (m + 1) T _ HD (by omega) (by omega)).mono ?_
    rintro e w3 ⟨rfl, HD3, hK⟩
    have K3 := K1.trans hK (by simp)
    have hle := hK.size
    go_wp2
    go_ret
    rw [HR.out]
    have hb := Blk.new w3 (encE (4, blAt a0 (m + 1) T)) 43
    refine ⟨_, 1, rfl, fun i hi => ⟨_, rfl, fun j v hj => ?_⟩, by simp; omega, Blk.quiet HD3 (below_one _ _), K3.quiet (below_one _ _)⟩
    obtain rfl : i = 0 := by simp at hi; omega
    have e1 : (⟨w3.heap.size, 0, none⟩ : Addr).add (0 * 2 + j) = ⟨w3.heap.size, j, none⟩ := by unfold Addr.add; split <;> simp_all
    rw [e1]
    exact (hb.cell j).trans hj
  · go_wp2_with fail
    refine (dbelow_run g a0 (m + 1) T _ HD (by omega) (by omega)).mono ?_
    rintro e w2 ⟨rfl, HD2, hK⟩
    have B2 := B1.kept hK (by simp; omega)
    have K2 := K1.trans hK (by simp)
    have hlt2 : w.heap.size < w2.heap.size := B2.lt
    clear hK K1 B1 HD b0 b1 f0 f1 hlt
    have b0 := B2.cell 0
    have b1 := B2.cell 1
    have f0 := B2.frozen 0
    have f1 := B2.frozen 1
    simp only [List.getElem?_cons_zero, List.getElem?_cons_succ] at b0 b1
    obtain ⟨X, hX⟩ : ∃ X : Ent, X = (1, blAt a0 (m + 1) T) := ⟨_, rfl⟩
    obtain ⟨mm, hmm⟩ : ∃ mm, mm = m + 2 := ⟨_, rfl⟩
    have HR : Hid (runL a0 T m = (List.replicate (1 + blAt a0 mm 16).toNat X, mm + 1)) := by unfold Hid runL; rw [if_neg (by rw [← HKD.out]; omega), if_neg (by rw [← HKD.out]; omega), if_neg (by rw [← HKD.out]; omega), hX, hmm]
    have BX : Blk ((w2.setCell ⟨w.heap.size, 0, none⟩ (.int .i64 1)).setCell ⟨w.heap.size, 1, none⟩ (.int .i64 (blAt a0 (m + 1) T))) w.heap.size (encE X) 43 := hX ▸ (B2.set 0 (.int .i64 1)).set 1 (.int .i64 (blAt a0 (m + 1) T))
    have HDx : DiceAt ((w2.setCell ⟨w.heap.size, 0, none⟩ (.int .i64 1)).setCell ⟨w.heap.size, 1, none⟩ (.int .i64 (blAt a0 (m + 1) T))) g a0 mm := hmm ▸ Blk.far (Blk.far HD2 (by simp; omega) _) (by simp; omega) _
    have Kx : Kept [g] w ((w2.setCell ⟨w.heap.size, 0, none⟩ (.int .i64 1)).setCell ⟨w.heap.size, 1, none⟩ (.int .i64 (blAt a0 (m + 1) T))) := (K2.set (.inr (Nat.le_refl _)) _).set (.inr (Nat.le_refl _)) _
    clear hX hmm
    replace HD2 := HDx; replace K2 := Kx
    (go_wp2_with fail); (refine (dbelow_run g a0 mm 16 _ HD2 (by omega) (by omega)).mono ?_); (rintro e w3 ⟨rfl, HD3, hK⟩); (have BX3 := BX.kept hK (by simp; omega)); (have K3 := K2.trans hK (by simp)); (have hc := blAt_range a0 mm 16 (by omega)); (obtain ⟨c, hcd⟩ : ∃ c, c = blAt a0 mm 16 := ⟨_, rfl⟩); (rw [← hcd] at hc ⊢ HR); (clear hcd hK HD2 BX K2); (have hle : w.heap.size + 1 ≤ w3.heap.size := BX3.lt); (go_wp2_with fail); (go_loopw [6, 31] (fun v i wr => ∃ q : Nat, (q : Int) ≤ 1 + c ∧ i = .int .i64 q ∧ Grow wr (w.heap.size + 1) 43 2 encE v (List.replicate q X) ∧ Blk wr w.heap.size (encE X) 43 ∧ DiceAt wr g a0 (mm + 1) ∧ Kept [g] w wr ∧ w.heap.size + 1 ≤ wr.heap.size) (fun _ i _ => (1 + c).toNat - (intOf i).toNat)); (case atStart => exact ⟨0, by omega, rfl, Grow.nil _ _ _ _ _, BX3, HD3, K3, hle⟩); (case round => ((clear BX3 HD3 K3 hle); (obtain ⟨q, hq, rfl, hG, BX, HD, K4, hle⟩ := hrel); (have y0 := BX.cell 0); (have y1 := BX.cell 1); (simp only [encE, List.getElem?_cons_zero, List.getElem?_cons_succ] at y0 y1); (by_cases hqc : (q : Int) < 1 + c); (· ((go_wp2_with (first | (at_builtin; refine app_one (T := 43) X hG infoE Try.underlying35 rfl (by decide) (by omega) rfl _ _ rfl rfl rfl rfl rfl (encE_one X) (by simp; omega) hle ?_; intro v' w5 hG5 hb5 hle5))); (have BX5 := BX.below hb5 (by omega)); (have HD5 : DiceAt w5 g a0 (mm + 1) := Blk.below HD hb5 (by omega)); (have K5 : Kept [g] w w5 := kept_low K4 hb5 (by omega)); (rw [← rep_succ] at hG5); (go_roundw); (case rel => first | exact ⟨q + 1, by omega, by go_num, hG5, BX5, HD5, K5, hle5⟩ | ((repeat apply Exists.intro); exact ⟨⟨q + 1, by omega, by go_num, hG5, BX5, HD5, K5, hle5⟩, rfl⟩)); (case measure => simp [intOf]; omega))); (· ((have hqe : (1 + c).toNat = q := by omega); (obtain ⟨a, cap, rfl, hrow, _, hab⟩ := hG.row encE_len); (obtain ⟨ad, rfl, _⟩ := hrow 0 (by simp; omega)); (go_wp2); (go_ret); (rw [HR.out, hqe]); (exact ⟨ad, cap, rfl, hrow, by have := (hab ad rfl).1; omega, HD, K4⟩)))))

/-- What a script has come to behind j runs. -/
def joinS (n : Nat) (s r : List Ent × Nat) : List Ent × Nat := if s.1.length < n then ((s.1 ++ r.1).take n, r.2) else s
theorem joinS_yes {n : Nat} {s r : List Ent × Nat} (h : s.1.length < n) : joinS n s r = ((s.1 ++ r.1).take n, r.2) := if_pos h
theorem joinS_no {n : Nat} {s r : List Ent × Nat} (h : s.1.length = n) : joinS n s r = s := if_neg (by omega)
theorem joinS_le (n : Nat) (s r : List Ent × Nat) (h : s.1.length ≤ n) (h1 : 1 ≤ r.1.length ∧ r.1.length ≤ 16) (h2 : s.2 < r.2 ∧ r.2 ≤ s.2 + 3) : (joinS n s r).1.length ≤ n ∧ (joinS n s r).2 ≤ s.2 + 3 ∧ (s.1.length + 1 ≤ (joinS n s r).1.length ∨ (joinS n s r).1.length = n) := by
  by_cases hl : s.1.length < n
  · rw [joinS_yes hl]
    simp only [List.length_take, List.length_append]
    omega
  · rw [joinS_no (by omega)]
    omega
def stepS (a0 T : Int) (n : Nat) (s : List Ent × Nat) : List Ent × Nat := joinS n s (runL a0 T s.2)
def iterS (a0 T : Int) (n m : Nat) : Nat → List Ent × Nat
  | 0 => ([], m)
  | j + 1 => stepS a0 T n (iterS a0 T n m j)
theorem runL_pos (a0 T : Int) (m : Nat) : 1 ≤ (runL a0 T m).1.length ∧ (runL a0 T m).1.length ≤ 16 := by
  have h1 := blAt_range a0 (m + 1) 16 (by omega)
  have h2 := blAt_range a0 (m + 2) 16 (by omega)
  unfold runL
  split
  · simp; omega
  · split
    · simp; omega
    · split
      · simp
      · simp; omega
theorem runL_step (a0 T : Int) (m : Nat) : m < (runL a0 T m).2 ∧ (runL a0 T m).2 ≤ m + 3 := by
  unfold runL
  split
  · simp
  · split
    · simp
    · split <;> simp
theorem stepS_le (a0 T : Int) (n : Nat) (s : List Ent × Nat) (h : s.1.length ≤ n) : (stepS a0 T n s).1.length ≤ n ∧ (stepS a0 T n s).2 ≤ s.2 + 3 ∧ (s.1.length + 1 ≤ (stepS a0 T n s).1.length ∨ (stepS a0 T n s).1.length = n) :=
  joinS_le n s _ h (runL_pos a0 T s.2) (runL_step a0 T s.2)
theorem iterS_succ (a0 T : Int) (n m j : Nat) : iterS a0 T n m (j + 1) = stepS a0 T n (iterS a0 T n m j) := by rw [iterS]
theorem iterS_le (a0 T : Int) (n m : Nat) : ∀ j, (iterS a0 T n m j).1.length ≤ n ∧ (iterS a0 T n m j).2 ≤ m + 3 * j ∧ (j ≤ (iterS a0 T n m j).1.length ∨ (iterS a0 T n m j).1.length = n) := by
  intro j
  induction j with
  | zero => rw [iterS]; simp
  | succ j ih =>
    have h1 := stepS_le a0 T n (iterS a0 T n m j) ih.1
    rw [← iterS_succ] at h1
    generalize iterS a0 T n m (j + 1) = s1 at h1 ⊢
    generalize iterS a0 T n m j = s0 at h1 ih
    omega
theorem iterS_stop (a0 T : Int) (n m j i : Nat) (h : (iterS a0 T n m j).1.length = n) : iterS a0 T n m (j + i) = iterS a0 T n m j := by
  induction i with
  | zero => rfl
  | succ i ih =>
    rw [← Nat.add_assoc, iterS_succ, ih]
    exact joinS_no h
/-- The script of n entries. -/
def scrL (a0 T : Int) (n m : Nat) : List Ent × Nat := iterS a0 T n m n
theorem scr_of (a0 T : Int) (n m j : Nat) (h : (iterS a0 T n m j).1.length = n) : iterS a0 T n m j = scrL a0 T n m := by
  have hn : (iterS a0 T n m n).1.length = n := by
    have h2 := iterS_le a0 T n m n
    generalize iterS a0 T n m n = s at h2 ⊢
    omega
  unfold scrL
  rcases Nat.le_total j n with hj | hj
  · obtain ⟨i, rfl⟩ := Nat.exists_eq_add_of_le hj
    exact (iterS_stop a0 T _ m j i h).symm
  · obtain ⟨i, rfl⟩ := Nat.exists_eq_add_of_le hj
    exact iterS_stop a0 T n m n i hn
theorem scr_len (a0 T : Int) (n m : Nat) : (scrL a0 T n m).1.length = n ∧ (scrL a0 T n m).2 ≤ m + 3 * n := by
  have h2 := iterS_le a0 T n m n
  unfold scrL
  generalize iterS a0 T n m n = s at h2 ⊢
  omega
end Go.Proofs.Ythonhbciileomaa.Dice
