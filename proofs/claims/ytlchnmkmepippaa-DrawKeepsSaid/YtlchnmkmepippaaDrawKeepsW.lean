/- The walk of DrawKeeps. -/
import Derived.Test.YtlchnmkmepippaaDrawTellsW
set_option maxRecDepth 100000
set_option maxHeartbeats 4000000
set_option linter.unusedVariables false
set_option linter.unusedSimpArgs false
namespace Go.Proofs.Ytlchnmkmepippaa.Draw
open Go.RowKit Go.Proofs.Ytlchnmkmepippaa.TK Go.Proofs.Ytlchnmkmepippaa.Flag Go.Proofs.Ytlchnmkmepippaa.Read Go.Proofs.Ytlchnmkmepippaa.Words

theorem cbelow_nil (n : Int) (w : World) (hn : 1 ≤ n) (hn' : n ≤ 9223372036854775807) : Calls Try.prog 46 #[.pointer none, .int .i64 n] w fun e w' => e = .returned (.int .i64 0) ∧ w = w' := by
  have hd : decide (n < 1) = false := decide_eq_false (by omega)
  have hz := u64_pos n hn hn'
  have hr : remOf 0 n = 0 := by rw [rem_eq 0 n (by omega) hn hn']; simp
  have HX := hid hr
  clear hr
  go_enter Try.func46, Try.ntmps46
  go_wp2_with (first | (go_at_call 43; refine (cnext_nil _).mono ?_; rintro e w' ⟨rfl, rfl⟩))
  go_ret
  exact ⟨rfl, rfl⟩

theorem made_zero (n : Nat) : (madeCells #[Value.int .u64 0] n).toList = u64s (List.replicate n 0) := by
  have h : (madeCells #[Value.int .u64 0] n) = Array.replicate n (Value.int .u64 0) := by
    unfold madeCells
    apply Array.ext
    · simp
    · intro i h1 h2
      simp [Nat.mod_one]
  rw [h]
  simp [u64s]
theorem u64s_set (ys : List Int) (spare : List Value) (k : Nat) (x : Int) (hk : k < ys.length) : (u64s ys ++ spare).set k (.int .u64 x) = u64s (ys.set k x) ++ spare := by
  rw [List.set_append_left _ _ (by simpa [u64s] using hk)]
  simp [u64s, List.map_set]
/-- The cells of a slice that the call itself made: whatever they are, each can be written. -/
def Room (w : World) (G n : Nat) : Prop := ∃ cs : List Value, n ≤ cs.length ∧ Blk w G cs 22
theorem Room.cell {w : World} {G n : Nat} (h : Room w G n) {i : Nat} (hi : i < n) : (∃ v, w.cell? ⟨G, i, none⟩ = some v) ∧ w.frozen? ⟨G, i, none⟩ = false := by
  obtain ⟨cs, hn, hb⟩ := h
  exact ⟨⟨cs[i]'(by omega), (hb.cell i).trans (List.getElem?_eq_getElem (by omega))⟩, hb.frozen i⟩
theorem Room.set {w : World} {G n : Nat} (h : Room w G n) (i : Nat) (v : Value) : Room (w.setCell ⟨G, i, none⟩ v) G n := by
  obtain ⟨cs, hn, hb⟩ := h
  exact ⟨cs.set i v, by simpa using hn, hb.set i v⟩
/-- What the last loop's test knows. -/
def cntOf : List Bool → Int
  | [true] => 1
  | _ => 0
def KD (W : World) (c : Nat) (a' : Option Addr) (cap' : Nat) (xs : List Int) (k : Int) (bs : List Bool) (w : World) : Prop := Cur w c a' cap' xs (k + cntOf bs) (k + cntOf bs) ∧ Below W.heap.size W w

theorem keeps_walk (w : World) (v0 : Value) (h0 : (Leaf.row [.int .u64]).holds w v0) (n : Int) (hn : (Lit.int .i64 n).wf = true) :
    Calls Try.prog 10 #[v0, .int .i64 n] w fun e w' => e = .returned (.bool true) ∧ Below w.heap.size w w' := by
  obtain ⟨a, cap, xs, rfl, hr, _, hlc, hm, hnil⟩ := ints_of h0
  have hn' := wf_i64 hn
  clear h0 hn
  by_cases hlen : 100 < xs.length
  · go_enter Try.func10, Try.ntmps10
    go_wp2_with (first | (go_at_call 38; refine (cawake_run _).mono ?_; rintro e w' ⟨rfl, hb⟩))
    go_ret
    exact ⟨rfl, hb⟩
  · have hl : xs.length ≤ 100 := by omega
    have hd1 : decide (100 < (xs.length : Int)) = false := decide_eq_false (by omega)
    clear hlen hnil hm hlc
    obtain ⟨i0, hi, hz0, hz1, hz2⟩ := info_parts info64
    have HR := hid hr
    clear hr
    go_enter Try.func10, Try.ntmps10
    go_wp2_with (first | (at_make; refine wpList_make_full _ rfl _ _ 53 rfl w.heap.size 22 i0 (.int .u64 0) 1 Try.underlying53 hi hz0 hz1 .i64 .i64 xs.length xs.length xs.length rfl rfl rfl rfl (by rw [hz2]; omega) (by unfold maxLen; omega) (by first | exact Nat.le_refl _ | simp) ?_))
    intro w1 hown hgrow
    rw [made_zero] at hown
    obtain ⟨g, _, cap1, spare, he, _, hB1⟩ := of_own (n := xs.length) (xs := List.replicate xs.length 0) (by simp) hown (by simp)
    obtain ⟨rfl, _⟩ : w.heap.size = g ∧ True := by simp at he; exact ⟨he.1, trivial⟩
    have HB1 : Below w.heap.size w w1 := (Below.refl _ w).grown hgrow (Nat.le_refl _) (by simp)
    clear he hown hgrow
    go_wp2_with fail
    go_loopw [6] (fun i wr => ∃ (k : Nat) (ys : List Int), k ≤ xs.length ∧ i = .int .i64 k ∧ ys.length = xs.length ∧ (∀ j, j < k → ys[j]? = xs[j]?) ∧ Blk wr w.heap.size (u64s ys ++ spare) 22 ∧ Below w.heap.size w wr) (fun i _ => xs.length - (intOf i).toNat)
    case atStart => exact ⟨0, List.replicate xs.length 0, Nat.zero_le _, rfl, by simp, fun j hj => by omega, hB1, HB1⟩
    case round =>
      clear hB1 HB1
      obtain ⟨k, ys, hk, rfl, hys, hsame, hG, HB⟩ := hrel
      have HS := hid hsame
      clear hsame
      by_cases hkx : k < xs.length
      · obtain ⟨x, rfl, hx⟩ := HR.out.int_at hkx
        have hx' := (HB.cell (by simpa using cell_lt hx)).trans hx
        have hg' := (hG.cell k).trans (List.getElem?_append_left (by simp [u64s]; omega))
        rw [u64s_get ys k (by omega)] at hg'
        have hf := hG.frozen k
        clear hx
        go_wp2
        go_roundw
        have hset := hG.set k (.int .u64 xs[k])
        rw [u64s_set ys spare k _ (by omega)] at hset
        have hsame : ∀ j, j < k + 1 → (ys.set k xs[k])[j]? = xs[j]? := by
          intro j hj
          by_cases hjk : j = k
          · subst hjk
            rw [List.getElem?_set_self (by omega), List.getElem?_eq_getElem hkx]
          · rw [List.getElem?_set_ne (by omega)]
            exact HS.out j (by omega)
        case rel => first | exact ⟨k + 1, ys.set k xs[k], by omega, by go_num, by simpa using hys, hsame, hset, HB.setCell (Nat.le_refl _) _⟩ | ((repeat apply Exists.intro); exact ⟨⟨k + 1, ys.set k xs[k], by omega, by go_num, by simpa using hys, hsame, hset, HB.setCell (Nat.le_refl _) _⟩, rfl⟩)
        case measure => simp [intOf]; omega
      · obtain rfl : k = xs.length := by omega
        have hyx : ys = xs := by
          apply List.ext_getElem? 
          intro j
          by_cases hj : j < xs.length
          · exact HS.out j hj
          · rw [List.getElem?_eq_none (by omega), List.getElem?_eq_none (by omega)]
        subst hyx
        clear HS hkx
        have hrow : RowOf (encI .u64) 1 wr (some ⟨w.heap.size, 0, none⟩) ys := by
          intro i hi'
          refine ⟨_, rfl, fun j v hj => ?_⟩
          match j, hj with
          | 0, hj =>
            simp only [encI, List.getElem?_cons_zero, Option.some.injEq] at hj
            subst hj
            have hc := (hG.cell i).trans (List.getElem?_append_left (by simpa [u64s] using hi'))
            rw [u64s_get ys i hi'] at hc
            have e1 : (⟨w.heap.size, 0, none⟩ : Addr).add i = ⟨w.heap.size, i, none⟩ := by unfold Addr.add; split <;> simp_all
            rw [Nat.mul_one, Nat.add_zero, e1]; exact hc
        have hroom : Room wr w.heap.size ys.length := ⟨_, by simp [u64s], hG⟩
        have hgl := hG.lt
        have hgs := HB.size
        clear hG
        go_wp2_with fail
        refine (cnew_run (some ⟨w.heap.size, 0, none⟩) ys.length ys wr (by simp) (by omega) hrow).mono ?_
        rintro e w2 ⟨c, a', cap', rfl, hc0, HC, hb, hfa⟩
        have hroom2 : Room w2 w.heap.size ys.length := by obtain ⟨cs, h1, h2⟩ := hroom; exact ⟨cs, h1, h2.quiet hb⟩
        have HB2 := below_step HB hb hgs
        have sepG : w.heap.size ≠ c := by omega
        have sepA : ∀ x, a' = some x → x.block ≠ w.heap.size := fun x hx => by have := hfa x hx; omega
        clear hb hfa HB hroom hrow
        go_wp2_with fail
        go_loopw [8] (fun i wr' => ∃ k : Nat, k ≤ ys.length ∧ i = .int .i64 k ∧ Room wr' w.heap.size ys.length ∧ Cur wr' c a' cap' ys 0 0 ∧ Below w.heap.size w wr') (fun i _ => ys.length - (intOf i).toNat)
        case atStart => exact ⟨0, Nat.zero_le _, rfl, hroom2, HC, HB2⟩
        case round =>
          clear hroom2 HC HB2
          obtain ⟨k, hk2, rfl, hroom, HC, HB⟩ := hrel
          by_cases hkx : k < ys.length
          · obtain ⟨⟨v, hv⟩, hf⟩ := hroom.cell hkx
            have HRM := hid hroom
            clear hroom
            go_wp2
            go_roundw
            have HC' := HC.kept (S := [w.heap.size]) ((Kept.refl _ _).set (p := ⟨w.heap.size, k, none⟩) (v := .int .u64 12345) (.inl (by simp))) (by simpa using fun h => sepG h.symm) (fun x hx => by simpa using sepA x hx)
            case rel => first | exact ⟨k + 1, by omega, by go_num, HRM.out.set _ _, HC', HB.setCell (Nat.le_refl _) _⟩ | ((repeat apply Exists.intro); exact ⟨⟨k + 1, by omega, by go_num, HRM.out.set _ _, HC', HB.setCell (Nat.le_refl _) _⟩, rfl⟩)
            case measure => simp [intOf]; omega
          · obtain rfl : k = ys.length := by omega
            clear hroom
            go_wp2_with fail
            have hHB := hid HB
            clear HB
            go_loopw [9] (fun i wr' => ∃ k : Nat, k ≤ ys.length ∧ i = .int .i64 k ∧ Cur wr' c a' cap' ys k k ∧ Below w.heap.size w wr') (fun i _ => ys.length - (intOf i).toNat)
            case atStart => exact ⟨0, Nat.zero_le _, rfl, HC, hHB.out⟩
            case round =>
              clear HC hHB
              obtain ⟨k, hk3, rfl, HC, HB⟩ := hrel
              by_cases hkx : k < ys.length
              · obtain ⟨x, rfl, hx⟩ := HR.out.int_at hkx
                have HX := hid hx
                have hlt := cell_lt hx
                have hwk := wordAt_in ys k hkx
                clear hx
                go_wp2_with fail
                have HKD : KD w c a' cap' ys k [false] wr.drew := ⟨by simpa [cntOf] using HC.quiet (Below.refl _ _).drew, HB.drew⟩
                refine wp_region_D [1] (KD w c a' cap' ys k) (by kernel_rfl) (by kernel_rfl) rfl (by kernel_rfl) HKD ?_
                clear HKD HC HB
                repeat (first | (apply walkD_pure; rfl; rfl; (intro _; go_simp; first | done | rfl); (intro K hK; go_simp; refine hK _ ?_; clear hK K)) | (apply walkD_skip; rfl; rfl; (intro K hK; go_simp; refine hK _ ?_; clear hK K)))
                apply walkD_call1 [false] (by kernel_rfl); rfl; (intro _; go_simp; first | rfl | exact ⟨rfl, rfl⟩)
                · intro w' hD
                  have h1 := hD.1
                  simp only [cntOf, Int.add_zero] at h1
                  refine (cnext_run c a' cap' ys k k w' h1 (by omega) (by omega) (by omega) (by omega) (by omega)).mono ?_
                  rintro e w2 ⟨rfl, hC, hK⟩
                  rw [show min ((k : Int) + 1) ys.length = k + 1 by omega] at hC
                  exact ⟨rfl, hC, below_kept hD.2 hK (by simp; omega) hD.2.size⟩
                (intro K hK; go_simp; refine hK _ ?_; clear hK K)
                repeat (first | (apply walkD_pure; rfl; rfl; (intro _; go_simp; first | done | rfl); (intro K hK; go_simp; refine hK _ ?_; clear hK K)) | (apply walkD_skip; rfl; rfl; (intro K hK; go_simp; refine hK _ ?_; clear hK K)))
                apply walkD_read; rfl; rfl; (intro bs hbs w' hD; have y := (hD.2.cell (by simpa using hlt)).trans HX.out; go_simp; rfl); (intro K hK; go_simp; refine hK _ ?_; clear hK K)
                repeat (first | (apply walkD_pure; rfl; rfl; (intro _; go_simp; first | done | rfl); (intro K hK; go_simp; refine hK _ ?_; clear hK K)) | (apply walkD_skip; rfl; rfl; (intro K hK; go_simp; refine hK _ ?_; clear hK K)))
                intro w' hD
                have HC4 : Cur w' c a' cap' ys ((k + 1 : Nat) : Int) ((k + 1 : Nat) : Int) := hD.1
                have HB4 := hD.2
                clear hD
                go_wp2
                go_roundw
                case rel => first | exact ⟨k + 1, by omega, by go_num, HC4, HB4⟩ | ((repeat apply Exists.intro); exact ⟨⟨k + 1, by omega, by go_num, HC4, HB4⟩, rfl⟩)
                case measure => simp [intOf]; omega
              · obtain rfl : k = ys.length := by omega
                have hwo := wordAt_out ys ys.length (by omega)
                by_cases hn1 : n < 1
                · go_wp2_with (first | (go_at_call 38; refine (cawake_run _).mono ?_; rintro e w4 ⟨rfl, hb⟩; replace HC := HC.quiet hb; replace HB := below_step HB hb HB.size; clear hb) | (go_at_call 43; (with_reducible refine (cnext_nil _).mono ?_); rintro e w5 ⟨rfl, rfl⟩) | (go_at_call 43; refine (cnext_run c a' cap' ys ys.length ys.length _ HC (by omega) (by omega) (by omega) (by omega) (by omega)).mono ?_; rintro e w5 ⟨rfl, _, hK⟩; replace HB := below_kept HB hK (by simp; omega) HB.size; clear hK) | (go_at_call 46; refine (cbelow_no none n _ hn1).mono ?_; rintro e w5 ⟨rfl, rfl⟩) | (go_at_call 42; refine (cleft_nil _).mono ?_; rintro e w5 ⟨rfl, rfl⟩) | (go_at_call 41; refine (ctold_nil _).mono ?_; rintro e w5 ⟨rfl, rfl⟩) | (go_at_call 47; refine (cpeek_nil n _).mono ?_; rintro e w5 ⟨rfl, rfl⟩) | (go_at_call 40; refine (cskip_nil n _).mono ?_; rintro e w5 ⟨rfl, rfl⟩))
                  go_ret
                  exact ⟨rfl, HB⟩
                · have hn2 : 1 ≤ n := by omega
                  go_wp2_with (first | (go_at_call 38; refine (cawake_run _).mono ?_; rintro e w4 ⟨rfl, hb⟩; replace HC := HC.quiet hb; replace HB := below_step HB hb HB.size; clear hb) | (go_at_call 43; (with_reducible refine (cnext_nil _).mono ?_); rintro e w5 ⟨rfl, rfl⟩) | (go_at_call 43; refine (cnext_run c a' cap' ys ys.length ys.length _ HC (by omega) (by omega) (by omega) (by omega) (by omega)).mono ?_; rintro e w5 ⟨rfl, _, hK⟩; replace HB := below_kept HB hK (by simp; omega) HB.size; clear hK) | (go_at_call 46; refine (cbelow_nil n _ hn2 hn'.2).mono ?_; rintro e w5 ⟨rfl, rfl⟩) | (go_at_call 42; refine (cleft_nil _).mono ?_; rintro e w5 ⟨rfl, rfl⟩) | (go_at_call 41; refine (ctold_nil _).mono ?_; rintro e w5 ⟨rfl, rfl⟩) | (go_at_call 47; refine (cpeek_nil n _).mono ?_; rintro e w5 ⟨rfl, rfl⟩) | (go_at_call 40; refine (cskip_nil n _).mono ?_; rintro e w5 ⟨rfl, rfl⟩))
                  go_ret
                  exact ⟨rfl, HB⟩
end Go.Proofs.Ytlchnmkmepippaa.Draw
