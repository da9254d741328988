/- A ground's memory, and the document's, as they are laid. -/
import Derived.Test.YtokpgbocomhpiaaRun
import Derived.Test.YtokpgbocomhpiaaLayoutB
import Derived.Deep.RegionHeld3
import Derived.Deep.AppendLies
import Derived.Deep.RegionLaw
import Derived.RangeFuncBox
set_option maxRecDepth 100000
set_option maxHeartbeats 4000000
set_option linter.unusedVariables false
set_option linter.unusedSimpArgs false
namespace Go.Proofs.Ytokpgbocomhpiaa.Run
open Go.RowKit Go.Shelf Go.Proofs.Ytokpgbocomhpiaa.TK Go.Proofs.Ytokpgbocomhpiaa.Flag Go.Proofs.Ytokpgbocomhpiaa.Read Go.Proofs.Ytokpgbocomhpiaa.Grow Go.Proofs.Ytokpgbocomhpiaa.Words Go.Proofs.Ytokpgbocomhpiaa.Mem Go.Proofs.Ytokpgbocomhpiaa.Layout

theorem rnew_run (ad : Addr) (c : Nat) (xs : List Int) (w : World) (hlen : xs.length ≤ 100000) (hpos : 0 < xs.length) (hwf : ∀ x ∈ xs, 0 ≤ x ∧ x < 18446744073709551616) (hc : ∀ i (h : i < xs.length), w.cell? (ad.add i) = some (.int .u64 xs[i])) :
    Calls Try.prog 136 #[.slice (some ad) xs.length c] w fun e w' => ∃ m g, e = .returned (.pointer (some ⟨m, 0, none⟩)) ∧ w.heap.size ≤ m ∧ w.heap.size ≤ g ∧ RMemAt w' m g ⟨xs, 0, 0, ⟨0, 0, 0, 0, 0, false⟩⟩ ∧ Below w.heap.size w w' := by
  obtain ⟨i0, hi0, hz0, hz1, hz2⟩ := info_parts info64'
  have HC := hid hc
  have HW := hid hwf
  have had : ad.block < w.heap.size := by have := cell_lt (hc 0 hpos); simpa using this
  obtain ⟨n, hn⟩ : ∃ n, n = xs.length := ⟨_, rfl⟩
  rw [← hn] at hlen hpos ⊢
  have HN := hid hn
  clear hc hwf hn
  go_enter Try.func136, Try.ntmps136
  go_wp2_with fail
  go_loopw [4] (fun i wr => ∃ (k : Nat) (v : Value), k ≤ n ∧ i = .int .i64 (k : Int) ∧ Blk wr w.heap.size (v :: .int .i64 0 :: .int .i64 0 :: accCells ⟨0, 0, 0, 0, 0, false⟩) 77 ∧ Grow wr (w.heap.size + 1) 25 1 (encI .u64) v (xs.take k) ∧ Below w.heap.size w wr) (fun i _ => n - (intOf i).toNat)
  case atStart => exact ⟨0, .slice none 0 0, Nat.zero_le _, rfl, Blk.new w (.slice none 0 0 :: .int .i64 0 :: .int .i64 0 :: accCells ⟨0, 0, 0, 0, 0, false⟩) _, Grow.nil _ _ _ _ _, below_one _ _⟩
  case round =>
    obtain ⟨k, v, hk, rfl, hB, hG, hlow⟩ := hrel
    have hlt := hB.lt
    by_cases hkn : k < n
    · have hkx : k < xs.length := by rw [← HN.out]; exact hkn
      have cx0 := HC.out k hkx
      have cx := hlow.cell (p := ad.add k) (by simpa using had) |>.trans cx0
      have HT := hid (List.take_succ_eq_append_getElem hkx)
      obtain ⟨y, hy⟩ : ∃ y, xs[k] = y := ⟨_, rfl⟩
      rw [hy] at cx cx0 HT
      clear hy
      have c0 := hB.cell 0
      have f0 := hB.frozen 0
      simp only [List.getElem?_cons_zero] at c0
      have hl : (xs.take k).length = k := by rw [List.length_take]; omega
      obtain ⟨L, hL⟩ : ∃ L, L = xs.take k := ⟨_, rfl⟩
      rw [← hL] at hG HT hl
      have HL := hid hl
      have hll : L.length ≤ 100000 := by omega
      clear hL hl
      have k0 : (0 : Int) ≤ (k : Int) := by omega
      have k1 : (k : Int) < (n : Int) := by omega
      go_wp2_with fail
      have hne := own_low hG (r := w.heap.size) (by omega)
      have hcells := hB
      go_region_law ((refine step_append_lies _ (by rfl) _ _ _ (by rfl) (w.heap.size + 1) 25 i0 _ 1 8 Try.underlying60 hi0 hz0 hz1 hz2 rfl (by omega) v L.length (L.flatMap (encI .u64)) (by rfl) ((World.ownsRow.alloc hG _).drew) ⟨wr.heap.size, 0, none⟩ 1 1 [.int .u64 y] (by rfl) (by rfl) (World.news_of_block (cs := #[.int .u64 y]) (t := 25) (fr := (0, 0)) (heap_alloc_new wr _)) (by simp [Value.oneCell']) (by omega) (by unfold maxLen; omega) (by omega) (by simp; omega) (wr.heap.size + 1) (by simp) ?_; intro gg cp w1 hown1 hgrow hat hlt1; have hb1 : Blk w1 w.heap.size (v :: .int .i64 0 :: .int .i64 0 :: accCells ⟨0, 0, 0, 0, 0, false⟩) 77 := (hgrow.block w.heap.size (by simp; omega) (Ne.symm hne)).trans (hB.alloc _); have f1 := hb1.frozen 0; have d0 := hb1.cell 0; simp only [List.getElem?_cons_zero] at d0; have hl1 : Below w.heap.size w w1 := ((hlow.alloc hlow.size _).drew).grown hgrow (by simp; omega) (fun j e => by have := own_le hG j e; omega)))
      all_goals
        have hb2 : Blk (w1.setCell ⟨w.heap.size, 0, none⟩ (.slice (some ⟨gg, 0, none⟩) (L.length + 1) cp)) w.heap.size (.slice (some ⟨gg, 0, none⟩) (L.length + 1) cp :: .int .i64 0 :: .int .i64 0 :: accCells ⟨0, 0, 0, 0, 0, false⟩) 77 := hb1.set 0 _
        have hown2 := hown1.kept (grownBy_setCell' w1 w.heap.size (.slice (some ⟨gg, 0, none⟩) (L.length + 1) cp)) (.inr (fun e => by have := own_le hown1 w.heap.size (by simpa using e); omega))
        have hG2 : Grow (w1.setCell ⟨w.heap.size, 0, none⟩ (.slice (some ⟨gg, 0, none⟩) (L.length + 1) cp)) (w.heap.size + 1) 25 1 (encI .u64) (.slice (some ⟨gg, 0, none⟩) (L.length + 1) cp) (xs.take (k + 1)) := by
          rw [HT.out]; unfold Grow; rw [List.length_append, List.flatMap_append]; simpa [encI] using hown2
        have hl2 := hl1.setCell (p := ⟨w.heap.size, 0, none⟩) (Nat.le_refl _) (.slice (some ⟨gg, 0, none⟩) (L.length + 1) cp)
        have HP := hid (And.intro hb2 (And.intro hG2 hl2))
        clear hb2 hown2 hG2 hl2 hown1 hgrow hat hb1 f1 d0 hl1 hlt1 hB hG hlow
        go_wp2
        go_roundw
        case rel => exact ⟨k + 1, _, by omega, by go_num, HP.out.1, HP.out.2.1, HP.out.2.2⟩
        case measure => simp only [intOf]; omega
    · obtain rfl : k = n := by omega
      have HP := hid (And.intro hB (And.intro hG hlow))
      clear hB hG hlow
      go_wp2
      go_ret
      obtain ⟨hB, hG, hlow⟩ := HP.out
      rw [List.take_of_length_le (by rw [← HN.out]; exact Nat.le_refl _)] at hG
      rcases hG.2 with ⟨_, h0⟩ | ⟨g, cap, cur, hv, hg, hh, hcap, hmax, hsz, htake⟩
      · rw [← HN.out] at h0; omega
      · subst hv
        refine ⟨w.heap.size, g, rfl, Nat.le_refl _, by omega, ⟨⟨cap, cur.toList.drop xs.length, hB, ?_, hcap⟩, by omega, HW.out, by rw [← HN.out]; omega, by simp, by simp⟩, hlow⟩
        have e : ∀ zs : List Int, zs.flatMap (encI .u64) = u64s zs := by
          intro zs; induction zs with
          | nil => rfl
          | cons z zs ih => rw [List.flatMap_cons, ih]; rfl
        have e2 : u64s xs ++ cur.toList.drop xs.length = cur.toList := by
          rw [← e, ← htake, Nat.mul_one, List.take_append_drop]
        unfold Blk
        rw [e2]
        simpa using hh
end Go.Proofs.Ytokpgbocomhpiaa.Run
