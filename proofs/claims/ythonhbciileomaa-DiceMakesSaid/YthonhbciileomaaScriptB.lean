/- A script, by the program and by the document. -/
import Derived.Test.YthonhbciileomaaScript
import Derived.Deep.LoopGhost
set_option maxRecDepth 100000
set_option maxHeartbeats 4000000
set_option linter.unusedVariables false
set_option linter.unusedSimpArgs false
namespace Go.Proofs.Ythonhbciileomaa.Dice
open Go.RowKit Go.Proofs.Ythonhbciileomaa.TK Go.Proofs.Ythonhbciileomaa.Flag Go.Proofs.Ythonhbciileomaa.Read Go.Proofs.Ythonhbciileomaa.Grow

theorem grow_cap {a : Option Addr} {len cap : Nat} {w : World} {B : Nat} {xs : List Ent} (h : Grow w B 43 2 encE (.slice a len cap) xs) : xs.length ≤ cap := by
  rcases h.2 with ⟨h1, h0⟩ | ⟨g, cap', cur, h1, hg, hh, hc, _⟩
  · omega
  · simp only [Value.slice.injEq] at h1
    omega
theorem some_run (v : Value) (n : Nat) (ad : Addr) (c B : Nat) (xs ys : List Ent) (w : World) (hG : Grow w B 43 2 encE v xs) (hr : RowOf encE 2 w (some ad) ys) (hB : B ≤ w.heap.size) (hn : n ≤ 1000) (hx : xs.length ≤ 1000) (hy : ys.length ≤ 1000) :
    Calls Try.prog 19 #[v, .int .i64 n, .slice (some ad) ys.length c] w fun e w' => ∃ v', e = .returned v' ∧ Grow w' B 43 2 encE v' ((xs ++ ys).take n) ∧ Below B w w' := by
  obtain ⟨a0, cap0, rfl, _, _, _⟩ := hG.row encE_len
  by_cases hnl : n < xs.length + ys.length
  · go_enter Try.func19, Try.ntmps19
    go_wp2_with (first | (at_builtin; refine app_row (T := 43) ys hG infoE Try.underlying35 rfl (by decide) (by omega) rfl _ _ rfl rfl rfl hr encE_len encE_one (by omega) (by omega) hB ?_; intro v' w1 hG1 hb1 hB1; obtain ⟨a1, cap1, rfl, _, _, _⟩ := hG1.row encE_len; have hcap := grow_cap hG1; have HG := hid hG1; clear hG1; simp only [List.length_append] at hcap; have hcap2 : n ≤ cap1 := (by omega)))
    go_ret
    have h2 := HG.out.take encE_len n (by simp; omega)
    exact ⟨_, rfl, by simpa using h2, hb1⟩
  · have hnl' : xs.length + ys.length ≤ n := by omega
    go_enter Try.func19, Try.ntmps19
    go_wp2_with (first | (at_builtin; refine app_row (T := 43) ys hG infoE Try.underlying35 rfl (by decide) (by omega) rfl _ _ rfl rfl rfl hr encE_len encE_one (by omega) (by omega) hB ?_; intro v' w1 hG1 hb1 hB1; obtain ⟨a1, cap1, rfl, _, _, _⟩ := hG1.row encE_len; have hcap := grow_cap hG1; have HG := hid hG1; clear hG1; simp only [List.length_append] at hcap))
    go_ret
    have h2 := HG.out
    have h4 : ((xs.length : Int) + ys.length).toNat = xs.length + ys.length := by omega
    have h3 : (xs ++ ys).take n = xs ++ ys := List.take_of_length_le (by simp; omega)
    rw [h3]
    simp only [List.length_append] at h2
    exact ⟨_, rfl, h2, hb1⟩

theorem script_run (g : Nat) (a0 : Int) (m : Nat) (p T gs : Int) (n : Int) (w : World) (hb : DiceAt w g a0 m) (hT : 1 ≤ T) (hT' : T ≤ 256) (hn : n ≤ 300) (hn0 : -9223372036854775808 ≤ n) :
    Calls Try.prog 8 #[.pointer (some ⟨g, 0, none⟩), .agg #[.int .i64 p, .int .i64 T, .int .i64 gs], .int .i64 n] w fun e w' => ∃ v, e = .returned v ∧ Grow w' w.heap.size 43 2 encE v (scrL a0 T n.toNat m).1 ∧ DiceAt w' g a0 (scrL a0 T n.toNat m).2 ∧ Kept [g] w w' := by
  have hg := hb.lt
  have hmin : min n 65536 = n := by omega
  have HB := hid ((hb.quiet (below_one w (.cells #[.int .i64 p, .int .i64 T, .int .i64 gs] 24))))
  have HX := hid (Blk.new w [.int .i64 p, .int .i64 T, .int .i64 gs] 24)
  have HK := hid ((Kept.refl [g] w).alloc (.cells #[.int .i64 p, .int .i64 T, .int .i64 gs] 24))
  obtain ⟨N, hN⟩ : ∃ N, N = n.toNat := ⟨_, rfl⟩
  rw [← hN]
  have HN := hid hN
  clear hb hN
  go_enter Try.func8, Try.ntmps8
  go_wp2_with fail
  obtain ⟨w0, hw0⟩ : ∃ w0, w0 = w.alloc (.cells #[.int .i64 p, .int .i64 T, .int .i64 gs] 24) := ⟨_, rfl⟩
  have hs0 : w0.heap.size = w.heap.size + 1 := by rw [hw0]; simp
  have h1 : DiceAt w0 g a0 m := hw0 ▸ HB.out
  have h2 : Blk w0 w.heap.size [.int .i64 p, .int .i64 T, .int .i64 gs] 24 := hw0 ▸ HX.out
  have h3 : Kept [g] w w0 := hw0 ▸ HK.out
  rw [← hw0]
  clear HB HX HK hw0
  go_loopg [7] N (fun gk v wr => ∃ j, gk = N - (iterS a0 T N m j).1.length ∧ Grow wr (w.heap.size + 1) 43 2 encE v (iterS a0 T N m j).1 ∧ DiceAt wr g a0 (iterS a0 T N m j).2 ∧ Blk wr w.heap.size [.int .i64 p, .int .i64 T, .int .i64 gs] 24 ∧ Kept [g] w wr)
  case atStart => exact ⟨0, by simp [iterS], Grow.nil _ _ _ _ _, h1, h2, h3⟩
  case round =>
    clear h1 h2 h3 hs0
    obtain ⟨j, hgk, hG, HD, HX, HK⟩ := hrel
    have hle := iterS_le a0 T N m j
    have hsucc := hid (iterS_succ a0 T N m j)
    have hscr := hid (scr_of a0 T N m j)
    obtain ⟨⟨xs, mm⟩, hs⟩ : ∃ s, s = iterS a0 T N m j := ⟨_, rfl⟩
    rw [← hs] at hgk hG HD hle hsucc hscr
    have HS := hid hs
    clear hs
    simp only at hgk hG HD hle
    obtain ⟨a, cap, rfl, _, _, _⟩ := hG.row encE_len
    have x1 := HX.cell 1
    simp only [List.getElem?_cons_zero, List.getElem?_cons_succ] at x1
    have hnN := HN.out
    have hwl : w.heap.size + 1 ≤ wr.heap.size := HX.lt
    by_cases hlt : xs.length < N
    · have hlt' : (xs.length : Int) < n := by omega
      have hnN' : n = (N : Int) := by omega
      have hN3 : N ≤ 300 := by omega
      clear hnN
      have HNN := hid hnN'
      clear hnN'
      go_wp2_with fail
      refine (run_run g a0 mm T _ HD hT hT').mono ?_
      rintro e w1 ⟨ad, cap1, rfl, hrow, hab, HD1, HK1⟩
      have hG1 := hG.kept HK1 (by simp; omega)
      have HX1 := HX.kept HK1 (by simp; omega)
      have HK2 := HK.trans HK1 (by simp)
      have hpos := runL_pos a0 T mm
      obtain ⟨⟨ys, m1⟩, hr⟩ : ∃ r, r = runL a0 T mm := ⟨_, rfl⟩
      rw [← hr] at hrow HD1 hpos
      have HRL := hid hr
      clear hr hG HX HK HK1 HD x1
      simp only at hrow HD1 hpos
      rw [show (runL a0 T mm).1 = ys by rw [← HRL.out]]
      have hwl1 : w.heap.size + 1 ≤ w1.heap.size := HX1.lt
      go_wp2_with fail
      have hsr := some_run _ N ad cap1 (w.heap.size + 1) xs ys _ hG1 hrow hwl1 (by omega) (by omega) (by omega)
      rw [← HNN.out] at hsr
      refine hsr.mono ?_
      clear hsr
      rintro e w2 ⟨v', rfl, hG2, hb2⟩
      have HD2 : DiceAt w2 g a0 m1 := Blk.below HD1 hb2 (by omega)
      have HX2 := HX1.below hb2 (by omega)
      have HK3 := kept_low HK2 hb2 (by omega)
      have hnext : iterS a0 T N m (j + 1) = ((xs ++ ys).take N, m1) := by rw [hsucc.out]; unfold stepS; rw [← HRL.out]; exact joinS_yes hlt
      have hl2 : ((xs ++ ys).take N).length = min N (xs.length + ys.length) := by simp
      clear hG1 HX1 HK2 HD1 hrow
      go_wp2_with fail
      go_roundg (N - ((xs ++ ys).take N).length)
      case measure => omega
      case rel => exact ⟨j + 1, by rw [hnext], by rw [hnext]; exact hG2, by rw [hnext]; exact HD2, HX2, HK3⟩
    · have hlt' : n ≤ (xs.length : Int) := by omega
      have hsc := hscr.out (by simp only; omega)
      clear hnN
      go_wp2
      go_ret
      rw [← hsc]
      exact ⟨_, rfl, hG.mono (by omega), HD, HK⟩
end Go.Proofs.Ythonhbciileomaa.Dice
