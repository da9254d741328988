/- Configs that dice make up: by the program and by the document; two rows compared. -/
import Derived.Test.YthonhbciileomaaDiceMkB
import Derived.Deep.RegionHeld3
import Derived.Laws.Rows
import Derived.BigQuiet
set_option maxRecDepth 100000
set_option maxHeartbeats 1000000
set_option linter.unusedVariables false
set_option linter.unusedSimpArgs false
namespace Go.Proofs.Ythonhbciileomaa.Dice
open Go.RowKit Go.Proofs.Ythonhbciileomaa.TK Go.Proofs.Ythonhbciileomaa.Flag Go.Proofs.Ythonhbciileomaa.Read Go.Proofs.Ythonhbciileomaa.Grow Go.Proofs.Ythonhbciileomaa.Layout
/-- Two rows of words that are the same. -/
theorem same03_run (a b : Option Addr) (ca cb : Nat) (xs : List Int) (w : World) (ha : RowOf (encI .u64) 1 w a xs) (hb : RowOf (encI .u64) 1 w b xs) (hl : xs.length ≤ 1000000) :
    Calls Try.prog 10 #[.slice a xs.length ca, .slice b xs.length cb] w fun e w' => e = .returned (.bool true) ∧ Below w.heap.size w w' := by
  have HA := hid ha
  have HB := hid hb
  clear ha hb
  go_enter Try.func10, Try.ntmps10
  go_wp2_with fail
  go_loopw [5] (fun i wr => ∃ k : Nat, k ≤ xs.length ∧ i = .int .i64 (k : Int) ∧ Below w.heap.size w wr) (fun i _ => xs.length - (intOf i).toNat)
  case atStart => exact ⟨0, Nat.zero_le _, rfl, Below.refl _ _⟩
  case round =>
    obtain ⟨k, hk, rfl, hlow⟩ := hrel
    by_cases hlt : k < xs.length
    · obtain ⟨xa, rfl, h1⟩ := (HA.out.quiet hlow) k hlt
      obtain ⟨xb, rfl, h2⟩ := (HB.out.quiet hlow) k hlt
      have c1 := h1 0 _ rfl
      have c2 := h2 0 _ rfl
      rw [Nat.mul_one, Nat.add_zero] at c1 c2
      have hlt' : decide ((k : Int) < (xs.length : Int)) = true := decide_eq_true (by omega)
      obtain ⟨v, hv⟩ : ∃ v, v = xs[k] := ⟨_, rfl⟩
      rw [← hv] at c1 c2
      clear hv h1 h2
      obtain ⟨n, hn⟩ : ∃ n, n = xs.length := ⟨_, rfl⟩
      rw [← hn] at hl hk hlt hlt' ⊢
      clear hn HA HB
      have k0 : (0 : Int) ≤ (k : Int) := by omega
      have k1 : (k : Int) < (n : Int) := by omega
      go_wp2_with fail
      go_quiet (fail)
      go_wp2_with fail
      go_roundw
      case rel => exact ⟨k + 1, by omega, by go_num, below_drewN hlow _⟩
      case measure => simp [intOf]; omega
    · have hlt' : decide ((k : Int) < (xs.length : Int)) = false := decide_eq_false (by omega)
      go_wp2
      go_ret
      exact ⟨rfl, hlow⟩
/-- The numbers of a config, behind m. -/
def cfP (a0 P : Int) (m : Nat) : Int := 1 + blAt a0 m P
def cfT (a0 P T : Int) (m : Nat) : Int := cfP a0 P m + blAt a0 (m + 1) (T - cfP a0 P m + 1)
def cfG (a0 G : Int) (m : Nat) : Int := 1 + blAt a0 (m + 2) G
theorem cf_range {a0 P T G : Int} {m : Nat} (h : Right P T G) : (1 ≤ cfP a0 P m ∧ cfP a0 P m ≤ P) ∧ (cfP a0 P m ≤ cfT a0 P T m ∧ cfT a0 P T m ≤ T) ∧ (1 ≤ cfG a0 G m ∧ cfG a0 G m ≤ G) ∧ (0 ≤ blAt a0 (m + 1) (T - cfP a0 P m + 1) ∧ blAt a0 (m + 1) (T - cfP a0 P m + 1) ≤ T - cfP a0 P m) := by
  unfold Right at h
  have h1 := blAt_range a0 m P (by omega)
  unfold cfT cfG cfP
  generalize blAt a0 m P = x at h1 ⊢
  have h2 := blAt_range a0 (m + 1) (T - (1 + x) + 1) (by omega)
  generalize blAt a0 (m + 1) (T - (1 + x) + 1) = y at h2 ⊢
  have h3 := blAt_range a0 (m + 2) G (by omega)
  generalize blAt a0 (m + 2) G = z at h3 ⊢
  omega
theorem cf_eq {a0 P T G x y z : Int} {m : Nat} (hx : x = blAt a0 m P) (hy : y = blAt a0 (m + 1) (T - (1 + x) + 1)) (hz : z = blAt a0 (m + 2) G) : cfP a0 P m = 1 + x ∧ cfT a0 P T m = 1 + x + y ∧ cfG a0 G m = 1 + z := by
  subst hx hy hz
  exact ⟨rfl, rfl, rfl⟩
theorem rconfig_run (g : Nat) (a0 : Int) (m : Nat) (P T G : Int) (w : World) (hb : RDiceAt w g a0 m) (ha : U64 a0) (hm : m ≤ 1000) (hR : Right P T G) :
    Calls Try.prog 9 #[.pointer (some ⟨g, 0, none⟩), .agg #[.int .i64 P, .int .i64 T, .int .i64 G]] w fun e w' => e = .returned (.agg #[.int .i64 (cfP a0 P m), .int .i64 (cfT a0 P T m), .int .i64 (cfG a0 G m)]) ∧ RDiceAt w' g a0 (m + 3) ∧ Kept [g] w w' := by
  have hg := hb.lt
  have hR' := hR
  unfold Right at hR'
  have HB := hid hb
  clear hb
  go_enter Try.func9, Try.ntmps9
  go_wp2_with fail
  obtain ⟨w1, hw1⟩ : ∃ w1, w1 = (w.alloc (.cells #[.int .i64 P, .int .i64 T, .int .i64 G] 24)).alloc (.cells #[.int .i64 0, .int .i64 0, .int .i64 0] 24) := ⟨_, rfl⟩
  have hs1 : w1.heap.size = w.heap.size + 2 := by rw [hw1]; simp
  have hbm : Blk w1 w.heap.size [.int .i64 P, .int .i64 T, .int .i64 G] 24 := by rw [hw1]; exact (Blk.new w [.int .i64 P, .int .i64 T, .int .i64 G] 24).alloc _
  have hbr : Blk w1 (w.heap.size + 1) [.int .i64 0, .int .i64 0, .int .i64 0] 24 := by rw [hw1]; exact Blk.new_at (w := w.alloc (.cells #[.int .i64 P, .int .i64 T, .int .i64 G] 24)) (g := w.heap.size + 1) [.int .i64 0, .int .i64 0, .int .i64 0] 24 (by simp)
  have HD1 : RDiceAt w1 g a0 m := by rw [hw1]; exact (HB.out.alloc _).alloc _
  have HK1 : Kept [g] w w1 := by rw [hw1]; exact ((Kept.refl [g] w).alloc _).alloc _
  rw [← hw1]
  clear hw1
  refine (rdbelow_run g a0 m P _ HD1 ha (by omega) (by omega) (by omega)).mono ?_
  rintro e w2 ⟨rfl, HD2, K2⟩
  have hx := blAt_range a0 m P (by omega)
  obtain ⟨x, hxd⟩ : ∃ x, x = blAt a0 m P := ⟨_, rfl⟩
  rw [← hxd] at hx ⊢
  have HX := hid hxd
  have hbm2 := hbm.kept K2 (by simp; omega)
  have hbr2 := hbr.kept K2 (by simp; omega)
  have HK2 := HK1.trans K2 (by simp)
  have c1 := hbm2.cell 1
  simp only [List.getElem?_cons_zero, List.getElem?_cons_succ] at c1
  clear hbm hbr HD1 HK1 K2 hxd
  go_wp2_with fail
  refine (rdbelow_run g a0 (m + 1) (T - (1 + x) + 1) _ HD2 ha (by omega) (by omega) (by omega)).mono ?_
  rintro e w3 ⟨rfl, HD3, K3⟩
  have hy := blAt_range a0 (m + 1) (T - (1 + x) + 1) (by omega)
  obtain ⟨y, hyd⟩ : ∃ y, y = blAt a0 (m + 1) (T - (1 + x) + 1) := ⟨_, rfl⟩
  rw [← hyd] at hy ⊢
  have HY := hid hyd
  have hbm3 := hbm2.kept K3 (by simp; omega)
  have hbr3 := hbr2.kept K3 (by simp; omega)
  have HK3 := HK2.trans K3 (by simp)
  have c2 := hbm3.cell 2
  simp only [List.getElem?_cons_zero, List.getElem?_cons_succ] at c2
  clear hbm2 hbr2 HD2 HK2 K3 c1 hyd
  go_wp2_with fail
  refine (rdbelow_run g a0 (m + 1 + 1) G _ HD3 ha (by omega) (by omega) (by omega)).mono ?_
  rintro e w4 ⟨rfl, HD4, K4⟩
  have hz := blAt_range a0 (m + 1 + 1) G (by omega)
  obtain ⟨z, hzd⟩ : ∃ z, z = blAt a0 (m + 1 + 1) G := ⟨_, rfl⟩
  rw [← hzd] at hz ⊢
  have HZ := hid hzd
  have hbr4 := hbr3.kept K4 (by simp; omega)
  have HK4 := HK3.trans K4 (by simp)
  have r0 := hbr4.cell 0
  have r1 := hbr4.cell 1
  have r2 := hbr4.cell 2
  have f0 := hbr4.frozen 0
  have f1 := hbr4.frozen 1
  have f2 := hbr4.frozen 2
  simp only [List.getElem?_cons_zero, List.getElem?_cons_succ] at r0 r1 r2
  clear hbm3 hbr3 HD3 HK3 K4 c2 hzd
  go_wp2_with fail
  have HF := ((hbr4.set 0 (.int .i64 (1 + x))).set 1 (.int .i64 (1 + x + y))).set 2 (.int .i64 (1 + z))
  have hcf := cf_eq (G := G) HX.out HY.out HZ.out
  refine bodyPost_ret (results_cell_row rfl _ _ _ _ _ _ _ rfl HF Try.underlying24 rfl (by kernel_rfl)) rfl ?_
  refine ⟨by rw [hcf.1, hcf.2.1, hcf.2.2]; rfl, Blk.far (Blk.far (Blk.far HD4 (by simp; omega) _) (by simp; omega) _) (by simp; omega) _, ((HK4.set (.inr (by simp)) _).set (.inr (by simp)) _).set (.inr (by simp)) _⟩
theorem config_run (g : Nat) (a0 : Int) (m : Nat) (P T G : Int) (w : World) (hb : DiceAt w g a0 m) (hR : Right P T G) :
    Calls Try.prog 6 #[.pointer (some ⟨g, 0, none⟩), .agg #[.int .i64 P, .int .i64 T, .int .i64 G]] w fun e w' => e = .returned (.tuple #[.agg #[.int .i64 (cfP a0 P m), .int .i64 (cfT a0 P T m), .int .i64 (cfG a0 G m)], .int .i64 0]) ∧ DiceAt w' g a0 (m + 3) ∧ Kept [g] w w' := by
  have hg := hb.lt
  have hR' := hR
  unfold Right at hR'
  have HB := hid hb
  have HRT := hid (show decide (Right P T G) = true from decide_eq_true hR)
  clear hb hR
  go_enter Try.func6, Try.ntmps6
  go_wp2_with fail
  obtain ⟨w1, hw1⟩ : ∃ w1, w1 = (w.alloc (.cells #[.int .i64 P, .int .i64 T, .int .i64 G] 24)).alloc (.cells #[.int .i64 0, .int .i64 0, .int .i64 0] 24) := ⟨_, rfl⟩
  have hs1 : w1.heap.size = w.heap.size + 2 := by rw [hw1]; simp
  have hbm : Blk w1 w.heap.size [.int .i64 P, .int .i64 T, .int .i64 G] 24 := by rw [hw1]; exact (Blk.new w [.int .i64 P, .int .i64 T, .int .i64 G] 24).alloc _
  have hbr : Blk w1 (w.heap.size + 1) [.int .i64 0, .int .i64 0, .int .i64 0] 24 := by rw [hw1]; exact Blk.new_at (w := w.alloc (.cells #[.int .i64 P, .int .i64 T, .int .i64 G] 24)) (g := w.heap.size + 1) [.int .i64 0, .int .i64 0, .int .i64 0] 24 (by simp)
  have HD1 : DiceAt w1 g a0 m := by rw [hw1]; exact (HB.out.alloc _).alloc _
  have HK1 : Kept [g] w w1 := by rw [hw1]; exact ((Kept.refl [g] w).alloc _).alloc _
  rw [← hw1]
  clear hw1
  refine (right_run P T G _).mono ?_
  rintro e w2 ⟨rfl, hb2⟩
  rw [HRT.out]
  have hbm2 := hbm.quiet hb2
  have hbr2 := hbr.quiet hb2
  have HD2 : DiceAt w2 g a0 m := Blk.quiet HD1 hb2
  have HK2 := HK1.quiet hb2
  have hs2 := hb2.size
  have c0 := hbm2.cell 0
  simp only [List.getElem?_cons_zero, List.getElem?_cons_succ] at c0
  clear hbm hbr HD1 HK1 hb2
  go_wp2_with fail
  refine (dbelow_run g a0 m P _ HD2 (by omega) (by omega)).mono ?_
  rintro e w3 ⟨rfl, HD3, K3⟩
  have hx := blAt_range a0 m P (by omega)
  obtain ⟨x, hxd⟩ : ∃ x, x = blAt a0 m P := ⟨_, rfl⟩
  rw [← hxd] at hx ⊢
  have HX := hid hxd
  have hbm3 := hbm2.kept K3 (by simp; omega)
  have hbr3 := hbr2.kept K3 (by simp; omega)
  have HK3 := HK2.trans K3 (by simp)
  have hs3 := K3.size
  clear hbm2 hbr2 HD2 HK2 K3 hxd c0
  have hy := blAt_range a0 (m + 1) (T - (1 + x) + 1) (by omega)
  obtain ⟨y, hyd⟩ : ∃ y, y = blAt a0 (m + 1) (T - (1 + x) + 1) := ⟨_, rfl⟩
  rw [← hyd] at hy
  have HY := hid hyd
  clear hyd
  go_wp2_with fail
  obtain ⟨W0, hW0⟩ : ∃ W0, W0 = w3.alloc (.cells #[.int .i64 (1 + x), .int .i64 0, .int .i64 0] 24) := ⟨_, rfl⟩
  have hc4 : Blk W0.drew w3.heap.size [.int .i64 (1 + x), .int .i64 0, .int .i64 0] 24 := by rw [hW0]; exact Blk.new w3 [.int .i64 (1 + x), .int .i64 0, .int .i64 0] 24
  have hbm4 : Blk W0.drew w.heap.size [.int .i64 P, .int .i64 T, .int .i64 G] 24 := by rw [hW0]; exact hbm3.alloc _
  have hbr4 : Blk W0.drew (w.heap.size + 1) [.int .i64 0, .int .i64 0, .int .i64 0] 24 := by rw [hW0]; exact hbr3.alloc _
  have HD4 : DiceAt W0.drew g a0 (m + 1) := by rw [hW0]; exact Blk.alloc HD3 _
  have HK4 : Kept [g] w W0.drew := by rw [hW0]; exact (HK3.alloc _).drew
  have hs4 : W0.heap.size = w3.heap.size + 1 := by rw [hW0]; simp
  have c0 : W0.cell? ⟨w3.heap.size, 0, none⟩ = some (.int .i64 (1 + x)) := hc4.cell 0
  have c1 : W0.cell? ⟨w.heap.size, 1, none⟩ = some (.int .i64 T) := hbm4.cell 1
  rw [← hW0]
  clear hW0 hbm3 hbr3 HD3 HK3
  have n1 : IntKind.i64.wrap (T - (1 + x)) = T - (1 + x) := by rw [IntKind.wrap_i64]; omega
  have n2 : IntKind.i64.wrap (T - (1 + x) + 1) = T - (1 + x) + 1 := by rw [IntKind.wrap_i64]; omega
  have n3 : IntKind.i64.wrap (1 + x + y) = 1 + x + y := by rw [IntKind.wrap_i64]; omega
  go_region_held3 (fun w' => w'.cell? ⟨w3.heap.size, 0, none⟩ = some (.int .i64 (1 + x)) ∧ w'.cell? ⟨w.heap.size, 1, none⟩ = some (.int .i64 T)) (first | exact ⟨f0, f1⟩ | exact ⟨e0, e1⟩ | exact ⟨c0, c1⟩) (first | (go_at_call 18; ((with_reducible refine (dbelow_run g a0 (m + 1) (T - (1 + x) + 1) _ HD4 (by omega) (by omega)).mono ?_); rintro e wx ⟨rfl, HD5, K5⟩); rw [← HY.out]; have hc5 := hc4.kept K5 (by simp; omega); have hbm5 := hbm4.kept K5 (by simp; omega); have hbr5 := hbr4.kept K5 (by simp; omega); have HK5 := HK4.trans K5 (by simp); have e0 : wx.cell? ⟨w3.heap.size, 0, none⟩ = some (.int .i64 (1 + x)) := hc5.cell 0; have e1 : wx.cell? ⟨w.heap.size, 1, none⟩ = some (.int .i64 T) := hbm5.cell 1; have e2 : wx.cell? ⟨w3.heap.size, 1, none⟩ = some (.int .i64 0) := hc5.cell 1; have e3 := hc5.frozen 1; have hc6 := hc5.set 1 (.int .i64 (1 + x + y)); have f0 : (wx.setCell ⟨w3.heap.size, 1, none⟩ (.int .i64 (1 + x + y))).cell? ⟨w3.heap.size, 0, none⟩ = some (.int .i64 (1 + x)) := hc6.cell 0; have f1 : (wx.setCell ⟨w3.heap.size, 1, none⟩ (.int .i64 (1 + x + y))).cell? ⟨w.heap.size, 1, none⟩ = some (.int .i64 T) := (hbm5.far (by simp; omega) _).cell 1))
  have hbm6 := hbm5.far (p := ⟨w3.heap.size, 1, none⟩) (by simp; omega) (.int .i64 (1 + x + y))
  have hbr6 := hbr5.far (p := ⟨w3.heap.size, 1, none⟩) (by simp; omega) (.int .i64 (1 + x + y))
  have HD6 : DiceAt (wx.setCell ⟨w3.heap.size, 1, none⟩ (.int .i64 (1 + x + y))) g a0 (m + 1 + 1) := Blk.far HD5 (by simp; omega) _
  have HK6 := HK5.set (p := ⟨w3.heap.size, 1, none⟩) (.inr (by simp; omega)) (.int .i64 (1 + x + y))
  obtain ⟨w6, hw6⟩ : ∃ w6, w6 = wx.setCell ⟨w3.heap.size, 1, none⟩ (.int .i64 (1 + x + y)) := ⟨_, rfl⟩
  rw [← hw6] at hc6 hbm6 hbr6 HD6 HK6 ⊢
  clear hw6 f0 f1 e0 e1 e2 e3 hc5 hbm5 hbr5 HD5 HK5 K5 hc4 hbm4 hbr4 HD4 HK4 c0 c1 n1 n2 n3
  have c2 := hbm6.cell 2
  simp only [List.getElem?_cons_zero, List.getElem?_cons_succ] at c2
  go_wp2_with fail
  refine (dbelow_run g a0 (m + 1 + 1) G _ HD6 (by omega) (by omega)).mono ?_
  rintro e w7 ⟨rfl, HD7, K7⟩
  have hz := blAt_range a0 (m + 1 + 1) G (by omega)
  obtain ⟨z, hzd⟩ : ∃ z, z = blAt a0 (m + 1 + 1) G := ⟨_, rfl⟩
  rw [← hzd] at hz ⊢
  have HZ := hid hzd
  have hc7 := hc6.kept K7 (by simp; omega)
  have hbr7 := hbr6.kept K7 (by simp; omega)
  have HK7 := HK6.trans K7 (by simp)
  clear hbm6 hbr6 HD6 HK6 K7 hzd c2 hc6
  have y0 := hc7.cell 0
  have y1 := hc7.cell 1
  have y2 := hc7.cell 2
  have fy := hc7.frozen 2
  have r0 := hbr7.cell 0
  have r1 := hbr7.cell 1
  have r2 := hbr7.cell 2
  have q0 := hbr7.frozen 0
  have q1 := hbr7.frozen 1
  have q2 := hbr7.frozen 2
  simp only [List.getElem?_cons_zero, List.getElem?_cons_succ, List.set_cons_zero, List.set_cons_succ] at y0 y1 y2 r0 r1 r2
  have hne : w3.heap.size ≠ w.heap.size + 1 := by omega
  have hbr8 := hbr7.far (p := ⟨w3.heap.size, 2, none⟩) (by simp; omega) (.int .i64 (1 + z))
  have HD8 : DiceAt (w7.setCell ⟨w3.heap.size, 2, none⟩ (.int .i64 (1 + z))) g a0 (m + 1 + 1 + 1) := Blk.far HD7 (by simp; omega) _
  have HK8 := HK7.set (p := ⟨w3.heap.size, 2, none⟩) (.inr (by simp; omega)) (.int .i64 (1 + z))
  have HF := ((hbr8.set 0 (.int .i64 (1 + x))).set 1 (.int .i64 (1 + x + y))).set 2 (.int .i64 (1 + z))
  have HFF := hid HF
  have H8 := hid (And.intro HD8 HK8)
  clear HF hbr8 HD8 HK8 hc7 HD7 HK7 hbr7
  go_wp2_with fail
  have hcf := cf_eq (G := G) HX.out HY.out HZ.out
  have z0 := HFF.out.cell 0
  have z1 := HFF.out.cell 1
  have z2 := HFF.out.cell 2
  have HE := hid (And.intro (show DiceAt _ g a0 (m + 3) from Blk.far (Blk.far (Blk.far H8.out.1 (p := ⟨w.heap.size + 1, 0, none⟩) (by simp; omega) (.int .i64 (1 + x))) (p := ⟨w.heap.size + 1, 1, none⟩) (by simp; omega) (.int .i64 (1 + x + y))) (p := ⟨w.heap.size + 1, 2, none⟩) (by simp; omega) (.int .i64 (1 + z))) (((H8.out.2.set (p := ⟨w.heap.size + 1, 0, none⟩) (.inr (by simp)) (.int .i64 (1 + x))).set (p := ⟨w.heap.size + 1, 1, none⟩) (.inr (by simp)) (.int .i64 (1 + x + y))).set (p := ⟨w.heap.size + 1, 2, none⟩) (.inr (by simp)) (.int .i64 (1 + z))))
  simp only [List.getElem?_cons_zero, List.getElem?_cons_succ, List.set_cons_zero, List.set_cons_succ] at z0 z1 z2
  obtain ⟨wF, hwF⟩ : ∃ wF, wF = (((w7.setCell ⟨w3.heap.size, 2, none⟩ (.int .i64 (1 + z))).setCell ⟨w.heap.size + 1, 0, none⟩ (.int .i64 (1 + x))).setCell ⟨w.heap.size + 1, 1, none⟩ (.int .i64 (1 + x + y))).setCell ⟨w.heap.size + 1, 2, none⟩ (.int .i64 (1 + z)) := ⟨_, rfl⟩
  rw [← hwF] at z0 z1 z2 HE ⊢
  clear hwF
  refine bodyPost_ret (v := .tuple #[.agg #[.int .i64 (1 + x), .int .i64 (1 + x + y), .int .i64 (1 + z)], .int .i64 0]) (by simp [results, Try.results6, go_sem, z0, z1, z2]) rfl ?_
  exact ⟨by rw [hcf.1, hcf.2.1, hcf.2.2], HE.out⟩
theorem config_no (g : Nat) (P T G : Int) (w : World) (hR : ¬ Right P T G) :
    Calls Try.prog 6 #[.pointer (some ⟨g, 0, none⟩), .agg #[.int .i64 P, .int .i64 T, .int .i64 G]] w fun e w' => e = .returned (.tuple #[.agg #[.int .i64 0, .int .i64 0, .int .i64 0], .int .i64 1]) ∧ Below w.heap.size w w' := by
  have HRT := hid (show decide (Right P T G) = false from decide_eq_false hR)
  clear hR
  go_enter Try.func6, Try.ntmps6
  go_wp2_with fail
  obtain ⟨w1, hw1⟩ : ∃ w1, w1 = (w.alloc (.cells #[.int .i64 P, .int .i64 T, .int .i64 G] 24)).alloc (.cells #[.int .i64 0, .int .i64 0, .int .i64 0] 24) := ⟨_, rfl⟩
  have hbr : Blk w1 (w.heap.size + 1) [.int .i64 0, .int .i64 0, .int .i64 0] 24 := by rw [hw1]; exact Blk.new_at (w := w.alloc (.cells #[.int .i64 P, .int .i64 T, .int .i64 G] 24)) (g := w.heap.size + 1) [.int .i64 0, .int .i64 0, .int .i64 0] 24 (by simp)
  have hlow : Below w.heap.size w w1 := by rw [hw1]; exact (below_one w _).alloc (by simp) _
  rw [← hw1]
  clear hw1
  refine (right_run P T G _).mono ?_
  rintro e w2 ⟨rfl, hb2⟩
  rw [HRT.out]
  have hbr2 := hbr.quiet hb2
  have hlow2 := Below.then_ hlow hb2
  have r0 := hbr2.cell 0
  have r1 := hbr2.cell 1
  have r2 := hbr2.cell 2
  have q0 := hbr2.frozen 0
  have q1 := hbr2.frozen 1
  have q2 := hbr2.frozen 2
  simp only [List.getElem?_cons_zero, List.getElem?_cons_succ] at r0 r1 r2
  have HFF := hid (((hbr2.set 0 (.int .i64 0)).set 1 (.int .i64 0)).set 2 (.int .i64 0))
  have HL := hid hlow2
  clear hbr hb2 hbr2 hlow hlow2
  go_wp2_with fail
  have z0 := HFF.out.cell 0
  have z1 := HFF.out.cell 1
  have z2 := HFF.out.cell 2
  simp only [List.getElem?_cons_zero, List.getElem?_cons_succ, List.set_cons_zero, List.set_cons_succ] at z0 z1 z2
  have HE := hid (((HL.out.setCell (p := ⟨w.heap.size + 1, 0, none⟩) (by simp) (.int .i64 0)).setCell (p := ⟨w.heap.size + 1, 1, none⟩) (by simp) (.int .i64 0)).setCell (p := ⟨w.heap.size + 1, 2, none⟩) (by simp) (.int .i64 0))
  obtain ⟨wF, hwF⟩ : ∃ wF, wF = ((w2.setCell ⟨w.heap.size + 1, 0, none⟩ (.int .i64 0)).setCell ⟨w.heap.size + 1, 1, none⟩ (.int .i64 0)).setCell ⟨w.heap.size + 1, 2, none⟩ (.int .i64 0) := ⟨_, rfl⟩
  rw [← hwF] at z0 z1 z2 HE ⊢
  clear hwF
  refine bodyPost_ret (v := .tuple #[.agg #[.int .i64 0, .int .i64 0, .int .i64 0], .int .i64 1]) (by simp [results, Try.results6, go_sem, z0, z1, z2]) rfl ?_
  exact ⟨rfl, HE.out⟩
end Go.Proofs.Ythonhbciileomaa.Dice
