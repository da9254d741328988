/- The document's list of all names. -/
import Derived.Test.YtlchnmkmepippaaLayoutMayW
import Derived.Test.YtlchnmkmepippaaRead
import Derived.Test.YtlchnmkmepippaaFlagB
set_option maxRecDepth 100000
set_option maxHeartbeats 8000000
set_option linter.unusedVariables false
set_option linter.unusedSimpArgs false
namespace Go.Proofs.Ytlchnmkmepippaa.Layout
open Go.RowKit Go.Proofs.Ytlchnmkmepippaa.TK Go.Proofs.Ytlchnmkmepippaa.Flag Go.Proofs.Ytlchnmkmepippaa.Read

abbrev NameT := Int × Int × Int
def encN (x : NameT) : List Value := [.int .i64 x.1, .int .i64 x.2.1, .int .i64 x.2.2]
/-- What a word is. -/
def nameAt (p t : Int) (i : Int) : NameT :=
  if i < 6 then (1, i / 3, i % 3) else if i < 20 then (2, 0, i) else
  if i < 20 + 264 * p then (if (i - 20) % 264 < 8 then (3, (i - 20) / 264, (i - 20) % 264) else (4, (i - 20) / 264, (i - 20) % 264 - 8)) else
  if i < 20 + 264 * p + 3 * t then (5, (i - 20 - 264 * p) / 3, (i - 20 - 264 * p) % 3) else (6, (i - 20 - 264 * p - 3 * t) / 2, (i - 20 - 264 * p - 3 * t) % 2)
def namesL (p t : Int) (m : Nat) : List NameT := (List.range m).map (fun i : Nat => nameAt p t i)
theorem namesL_length (p t : Int) (m : Nat) : (namesL p t m).length = m := by simp [namesL]
theorem namesL_get (p t : Int) (m i : Nat) (h : i < (namesL p t m).length) : (namesL p t m)[i] = nameAt p t i := by simp [namesL]
def cellsN (p t : Int) (m : Nat) : List Value := (namesL p t m).flatMap encN
theorem cellsN_succ (p t : Int) (m : Nat) : cellsN p t (m + 1) = cellsN p t m ++ encN (nameAt p t m) := by
  simp [cellsN, namesL, List.range_succ]
theorem infoN : (Try.prog.info? 78).map (fun i => (i.zero, i.size, i.bytes)) = some (some (.agg #[.int .i64 0, .int .i64 0, .int .i64 0]), 3, 24) := by kernel_rfl

/-- The list's first m names lie in v; nothing below B has turned. -/
structure NS (p t : Int) (W0 : World) (B : Nat) (w : World) (v : Value) (m : Nat) : Prop where
  own : w.ownsRow B 78 3 v m (cellsN p t m)
  low : Below B W0 w
  le : B ≤ w.heap.size
theorem names_first (p t : Int) (W0 : World) : NS p t W0 W0.heap.size W0 (.slice none 0 0) 0 := ⟨World.ownsRow_nil _ _ _ _, Below.refl _ _, Nat.le_refl _⟩

theorem own_le {w : World} {B e size : Nat} {v : Value} {n : Nat} {xs : List Value} (h : w.ownsRow B e size v n xs) : ∀ k, v.ownBlock = some k → B ≤ k := by
  intro k hk
  rcases h.2 with ⟨rfl, _⟩ | ⟨g, cap, cur, rfl, hg, _⟩
  · simp [Value.ownBlock] at hk
  · simp [Value.ownBlock] at hk; omega
/-- One more name. -/
theorem app_run {p t : Int} {W0 wr : World} {B m : Nat} {v : Value} (HN : NS p t W0 B wr v m) {ops : Array Oper} {rest : List Oper} {o : Oper} {a : Act} {Q : Exit → Act → World → Prop} {x y z : Int}
    (hgd : o.guard = none) (s x' : Operand) (ho : o.op = .call { callee := .builtin .append, args := #[s, x'], argTypes := #[72, 72] }) (hs : a.eval s = v) (hx : a.eval x' = .slice (some ⟨wr.heap.size, 0, none⟩) 1 1)
    (hname : nameAt p t m = (x, y, z)) (hm : m ≤ 100000) (h : ∀ v' w', NS p t W0 B w' v' (m + 1) → wpList Try.prog ops Q rest (a.put o.dst v') w') :
    wpList Try.prog ops Q (o :: rest) a (wr.alloc (.cells #[.int .i64 x, .int .i64 y, .int .i64 z] 78)) := by
  obtain ⟨i0, hi, hz0, hz1, hz2⟩ := info_parts infoN
  have hle := HN.le
  refine wpList_append_own _ hgd s x' 72 ho B 78 i0 _ 3 24 Try.underlying72 hi hz0 hz1 hz2 rfl (by decide) v m (cellsN p t m) hs (HN.own.alloc _) ⟨wr.heap.size, 0, none⟩ 1 1 [.int .i64 x, .int .i64 y, .int .i64 z] hx rfl ?_ ?_ (by unfold maxLen; omega) (by omega) (by simp; omega) ?_
  · intro j u hj
    have hb := (Blk.new wr [.int .i64 x, .int .i64 y, .int .i64 z] 78).cell j
    have e1 : (⟨wr.heap.size, 0, none⟩ : Addr).add j = ⟨wr.heap.size, j, none⟩ := by unfold Addr.add; split <;> simp_all
    rw [e1]
    exact hb.trans hj
  · intro u hu
    simp at hu
    rcases hu with rfl | rfl | rfl <;> rfl
  · intro v' w' hown hgrow _
    have hb : Below B wr w' := ((Below.refl B wr).alloc hle _).grown hgrow (by simp; omega) (own_le HN.own)
    refine h v' w' ⟨?_, HN.low.trans hb, Nat.le_trans hle hb.size⟩
    rw [cellsN_succ, hname]
    exact hown

theorem name_lock {p t : Int} {m : Nat} (h : m < 6) : nameAt p t m = (1, (m : Int) / 3, (m : Int) % 3) := by
  unfold nameAt; rw [if_pos (by omega)]
theorem name_word {p t : Int} {m : Nat} (h : 6 ≤ m) (h' : m < 20) : nameAt p t m = (2, 0, (m : Int)) := by
  unfold nameAt; rw [if_neg (by omega), if_pos (by omega)]
theorem name_proc {p t : Int} {m q i : Nat} (h : m = 20 + 264 * q + i) (hq : (q : Int) < p) (hi : i < 8) : nameAt p t m = (3, (q : Int), (i : Int)) := by
  unfold nameAt
  have e1 : ((m : Int) - 20) % 264 = i := by omega
  have e2 : ((m : Int) - 20) / 264 = q := by omega
  rw [if_neg (by omega), if_neg (by omega), if_pos (by omega), e1, e2, if_pos (by omega)]
theorem name_ring {p t : Int} {m q i : Nat} (h : m = 28 + 264 * q + i) (hq : (q : Int) < p) (hi : i < 256) : nameAt p t m = (4, (q : Int), (i : Int)) := by
  unfold nameAt
  have e1 : ((m : Int) - 20) % 264 = i + 8 := by omega
  have e2 : ((m : Int) - 20) / 264 = q := by omega
  rw [if_neg (by omega), if_neg (by omega), if_pos (by omega), e1, e2, if_neg (by omega)]
  simp
theorem name_thread {p t : Int} {m q i : Nat} (h : (m : Int) = 20 + 264 * p + 3 * q + i) (hp : 0 ≤ p) (hq : (q : Int) < t) (hi : i < 3) : nameAt p t m = (5, (q : Int), (i : Int)) := by
  unfold nameAt
  have e1 : ((m : Int) - 20 - 264 * p) % 3 = i := by omega
  have e2 : ((m : Int) - 20 - 264 * p) / 3 = q := by omega
  rw [if_neg (by omega), if_neg (by omega), if_neg (by omega), if_pos (by omega), e1, e2]
theorem name_g {p t : Int} {m q i : Nat} (h : (m : Int) = 20 + 264 * p + 3 * t + 2 * q + i) (hp : 0 ≤ p) (ht : 0 ≤ t) (hi : i < 2) : nameAt p t m = (6, (q : Int), (i : Int)) := by
  unfold nameAt
  have e1 : ((m : Int) - 20 - 264 * p - 3 * t) % 2 = i := by omega
  have e2 : ((m : Int) - 20 - 264 * p - 3 * t) / 2 = q := by omega
  rw [if_neg (by omega), if_neg (by omega), if_neg (by omega), if_neg (by omega), e1, e2]

theorem cellsN_get (p t : Int) : ∀ (m i j : Nat), i < m → j < 3 → (cellsN p t m)[i * 3 + j]? = (encN (nameAt p t i))[j]?
  | 0, i, j, h, _ => by omega
  | m + 1, i, j, h, hj => by
    have hl : (cellsN p t m).length = m * 3 := by
      have : ∀ m, (cellsN p t m).length = m * 3 := by
        intro m
        induction m with
        | zero => rfl
        | succ m ih => rw [cellsN_succ, List.length_append, ih]; simp [encN]; omega
      exact this m
    rw [cellsN_succ]
    by_cases hi : i < m
    · rw [List.getElem?_append_left (by omega)]
      exact cellsN_get p t m i j hi hj
    · obtain rfl : i = m := by omega
      rw [List.getElem?_append_right (by omega), hl, Nat.add_sub_cancel_left]
theorem NS.row {p t : Int} {W0 w : World} {B m : Nat} {v : Value} (h : NS p t W0 B w v m) : ∃ a cap, v = .slice a (namesL p t m).length cap ∧ RowOf encN 3 w a (namesL p t m) := by
  rw [namesL_length]
  rcases h.own.2 with ⟨rfl, rfl⟩ | ⟨g, cap, cur, rfl, _, hh, _, _, _, htake⟩
  · exact ⟨none, 0, rfl, fun i hi => by simp [namesL] at hi⟩
  · refine ⟨_, cap, rfl, fun i hi => ⟨_, rfl, fun j u hj => ?_⟩⟩
    rw [namesL_get] at hj
    rw [namesL_length] at hi
    have hj3 : j < 3 := by have := (List.getElem?_eq_some_iff.1 hj).1; simpa [encN] using this
    have e1 : (⟨g, 0, none⟩ : Addr).add (i * 3 + j) = ⟨g, i * 3 + j, none⟩ := by unfold Addr.add; split <;> simp_all
    have hB : Blk w g cur.toList 78 := by unfold Blk; simpa using hh
    rw [e1, hB.cell]
    rw [← cellsN_get p t m i j hi hj3, ← htake] at hj
    rw [List.getElem?_take] at hj
    split at hj
    · exact hj
    · cases hj

theorem names_walk (p t g : Int) (w : World) (hp : 1 ≤ p ∧ p ≤ 4) (ht : 1 ≤ t ∧ t ≤ 8) (hg : 1 ≤ g ∧ g ≤ 60) :
    Calls Try.prog 62 #[.agg #[.int .i64 p, .int .i64 t, .int .i64 g]] w fun e w' => ∃ a cap, ∃ m : Nat, (m : Int) = 20 + 264 * p + 3 * t + 2 * g ∧ e = .returned (.slice a (namesL p t m).length cap) ∧ RowOf encN 3 w' a (namesL p t m) ∧ Below w.heap.size w w' := by
  have HW : Hid (∃ W0 B, W0 = (w.alloc (.cells #[.int .i64 p, .int .i64 t, .int .i64 g] 34)) ∧ B = w.heap.size + 1) := ⟨_, _, rfl, rfl⟩
  go_enter Try.func62, Try.ntmps62
  go_wp2_with fail
  obtain ⟨W0, B, hW0, hB⟩ := HW.out
  have hBs : B = W0.heap.size := by rw [hW0, hB]; simp
  have H0 : NS p t W0 B W0 (.slice none 0 0) 0 := hBs ▸ names_first p t W0
  have HC : Hid (∀ w', Below B W0 w' → w'.cell? ⟨w.heap.size, 0, none⟩ = some (.int .i64 p) ∧ w'.cell? ⟨w.heap.size, 1, none⟩ = some (.int .i64 t) ∧ w'.cell? ⟨w.heap.size, 2, none⟩ = some (.int .i64 g)) := by
    intro w' hb
    have hb0 : Blk W0 w.heap.size [.int .i64 p, .int .i64 t, .int .i64 g] 34 := hW0 ▸ Blk.new w _ _
    have hb1 := hb0.below hb (by omega)
    exact ⟨hb1.cell 0, hb1.cell 1, hb1.cell 2⟩
  have HBW : Hid (∀ w', Below B W0 w' → Below w.heap.size w w') := by
    intro w' hb
    exact (hW0 ▸ below_one w _ : Below w.heap.size w W0).trans (hb.mono (by omega))
  rw [← hW0]
  clear hW0 hB hBs HW
  go_loopw [3, 4] (fun v i wr => ∃ k : Nat, k ≤ 6 ∧ i = .int .i64 k ∧ NS p t W0 B wr v k) (fun _ i _ => 6 - (intOf i).toNat)
  case atStart => exact ⟨0, by omega, rfl, H0⟩
  case round =>
    clear H0
    obtain ⟨k, hk, rfl, HN⟩ := hrel
    by_cases hk6 : k < 6
    · go_wp2_with (first | (at_builtin; refine app_run HN rfl _ _ rfl rfl rfl (name_lock hk6) (by omega) ?_; intro v' w1 HN1))
      go_roundw
      case rel => first | exact ⟨k + 1, by omega, by go_num, HN1⟩ | ((repeat apply Exists.intro); exact ⟨⟨k + 1, by omega, by go_num, HN1⟩, rfl⟩)
      case measure => simp [intOf]; omega
    · obtain rfl : k = 6 := by omega
      rw [show ((6 : Nat) : Int) = 6 from rfl]
      go_wp2_with fail
      go_loopw [3, 5] (fun v i wr => ∃ k : Nat, 6 ≤ k ∧ k ≤ 20 ∧ i = .int .i64 k ∧ NS p t W0 B wr v k) (fun _ i _ => 20 - (intOf i).toNat)
      case atStart => exact ⟨6, by omega, by omega, rfl, HN⟩
      case round =>
        clear HN
        obtain ⟨k, hk1, hk2, rfl, HN⟩ := hrel
        by_cases hkx : k < 20
        · go_wp2_with (first | (at_builtin; refine app_run HN rfl _ _ rfl rfl rfl (name_word hk1 hkx) (by omega) ?_; intro v' w1 HN1))
          go_roundw
          case rel => first | exact ⟨k + 1, by omega, by omega, by go_num, HN1⟩ | ((repeat apply Exists.intro); exact ⟨⟨k + 1, by omega, by omega, by go_num, HN1⟩, rfl⟩)
          case measure => simp [intOf]; omega
        · obtain rfl : k = 20 := by omega
          rw [show ((20 : Nat) : Int) = 20 from rfl]
          go_wp2_with fail
          go_loopw [3, 6] (fun v i wr => ∃ q : Nat, (q : Int) ≤ p ∧ i = .int .i64 q ∧ NS p t W0 B wr v (20 + 264 * q)) (fun _ i _ => p.toNat - (intOf i).toNat)
          case atStart => exact ⟨0, by omega, rfl, HN⟩
          case round =>
            clear HN
            obtain ⟨q, hqq, rfl, HN⟩ := hrel
            obtain ⟨c0, c1, c2⟩ := HC.out _ HN.low
            by_cases hq : (q : Int) < p
            · go_wp2_with fail
              clear c0 c1 c2
              go_loopw [3, 7] (fun v i wr => ∃ k : Nat, k ≤ 8 ∧ i = .int .i64 k ∧ NS p t W0 B wr v (20 + 264 * q + k)) (fun _ i _ => 8 - (intOf i).toNat)
              case atStart => exact ⟨0, by omega, rfl, HN⟩
              case round =>
                clear HN
                obtain ⟨k, hk, rfl, HN⟩ := hrel
                by_cases hkx : k < 8
                · go_wp2_with (first | (at_builtin; refine app_run HN rfl _ _ rfl rfl rfl (name_proc (by omega) hq (by omega)) (by omega) ?_; intro v' w1 HN1))
                  go_roundw
                  case rel => first | exact ⟨k + 1, by omega, by go_num, HN1⟩ | ((repeat apply Exists.intro); exact ⟨⟨k + 1, by omega, by go_num, HN1⟩, rfl⟩)
                  case measure => simp [intOf]; omega
                · obtain rfl : k = 8 := by omega
                  rw [show ((8 : Nat) : Int) = 8 from rfl]
                  go_wp2_with fail
                  replace HN : NS p t W0 B _ _ (28 + 264 * q) := (show 20 + 264 * q + 8 = 28 + 264 * q by omega) ▸ HN
                  go_loopw [3, 8] (fun v i wr => ∃ k : Nat, k ≤ 256 ∧ i = .int .i64 k ∧ NS p t W0 B wr v (28 + 264 * q + k)) (fun _ i _ => 256 - (intOf i).toNat)
                  case atStart => exact ⟨0, by omega, rfl, HN⟩
                  case round =>
                    clear HN
                    obtain ⟨k, hk, rfl, HN⟩ := hrel
                    by_cases hkx : k < 256
                    · go_wp2_with (first | (at_builtin; refine app_run HN rfl _ _ rfl rfl rfl (name_ring (by omega) hq (by omega)) (by omega) ?_; intro v' w1 HN1))
                      go_roundw
                      case rel => first | exact ⟨k + 1, by omega, by go_num, HN1⟩ | ((repeat apply Exists.intro); exact ⟨⟨k + 1, by omega, by go_num, HN1⟩, rfl⟩)
                      case measure => simp [intOf]; omega
                    · obtain rfl : k = 256 := by omega
                      rw [show ((256 : Nat) : Int) = 256 from rfl]
                      go_wp2_with fail
                      go_roundw
                      replace HN : NS p t W0 B _ _ (20 + 264 * (q + 1)) := (show 28 + 264 * q + 256 = 20 + 264 * (q + 1) by omega) ▸ HN
                      case rel => first | exact ⟨q + 1, by omega, by go_num, HN⟩ | ((repeat apply Exists.intro); exact ⟨⟨q + 1, by omega, by go_num, HN⟩, rfl⟩)
                      case measure => simp [intOf]; omega
                      
            · have hq' : (q : Int) = p := by omega
              have hq2 := hid hq'
              clear hq'
              go_wp2_with fail
              go_loopw [3, 9] (fun v i wr => ∃ r : Nat, (r : Int) ≤ t ∧ i = .int .i64 r ∧ NS p t W0 B wr v (20 + 264 * q + 3 * r)) (fun _ i _ => t.toNat - (intOf i).toNat)
              case atStart => exact ⟨0, by omega, rfl, HN⟩
              case round =>
                clear HN
                obtain ⟨r, hqr, rfl, HN⟩ := hrel
                obtain ⟨c0, c1, c2⟩ := HC.out _ HN.low
                by_cases hr : (r : Int) < t
                · go_wp2_with fail
                  clear c0 c1 c2
                  go_loopw [3, 10] (fun v i wr => ∃ k : Nat, k ≤ 3 ∧ i = .int .i64 k ∧ NS p t W0 B wr v (20 + 264 * q + 3 * r + k)) (fun _ i _ => 3 - (intOf i).toNat)
                  case atStart => exact ⟨0, by omega, rfl, HN⟩
                  case round =>
                    clear HN
                    obtain ⟨k, hk, rfl, HN⟩ := hrel
                    by_cases hkx : k < 3
                    · go_wp2_with (first | (at_builtin; refine app_run HN rfl _ _ rfl rfl rfl (name_thread (by omega) (by omega) hr (by omega)) (by omega) ?_; intro v' w1 HN1))
                      go_roundw
                      case rel => first | exact ⟨k + 1, by omega, by go_num, HN1⟩ | ((repeat apply Exists.intro); exact ⟨⟨k + 1, by omega, by go_num, HN1⟩, rfl⟩)
                      case measure => simp [intOf]; omega
                    · obtain rfl : k = 3 := by omega
                      rw [show ((3 : Nat) : Int) = 3 from rfl]
                      go_wp2_with fail
                      go_roundw
                      replace HN : NS p t W0 B _ _ (20 + 264 * q + 3 * (r + 1)) := (show 20 + 264 * q + 3 * r + 3 = 20 + 264 * q + 3 * (r + 1) by omega) ▸ HN
                      case rel => first | exact ⟨r + 1, by omega, by go_num, HN⟩ | ((repeat apply Exists.intro); exact ⟨⟨r + 1, by omega, by go_num, HN⟩, rfl⟩)
                      case measure => simp [intOf]; omega
                      
                · have hr' : (r : Int) = t := by omega
                  have hr2 := hid hr'
                  clear hr'
                  go_wp2_with fail
                  go_loopw [3, 11] (fun v i wr => ∃ s : Nat, (s : Int) ≤ g ∧ i = .int .i64 s ∧ NS p t W0 B wr v (20 + 264 * q + 3 * r + 2 * s)) (fun _ i _ => g.toNat - (intOf i).toNat)
                  case atStart => exact ⟨0, by omega, rfl, HN⟩
                  case round =>
                    clear HN
                    obtain ⟨s, hqs, rfl, HN⟩ := hrel
                    obtain ⟨c0, c1, c2⟩ := HC.out _ HN.low
                    by_cases hs : (s : Int) < g
                    · go_wp2_with fail
                      clear c0 c1 c2
                      go_loopw [3, 12] (fun v i wr => ∃ k : Nat, k ≤ 2 ∧ i = .int .i64 k ∧ NS p t W0 B wr v (20 + 264 * q + 3 * r + 2 * s + k)) (fun _ i _ => 2 - (intOf i).toNat)
                      case atStart => exact ⟨0, by omega, rfl, HN⟩
                      case round =>
                        clear HN
                        obtain ⟨k, hk, rfl, HN⟩ := hrel
                        by_cases hkx : k < 2
                        · go_wp2_with (first | (at_builtin; refine app_run HN rfl _ _ rfl rfl rfl (name_g (by omega) (by omega) (by omega) (by omega)) (by omega) ?_; intro v' w1 HN1))
                          go_roundw
                          case rel => first | exact ⟨k + 1, by omega, by go_num, HN1⟩ | ((repeat apply Exists.intro); exact ⟨⟨k + 1, by omega, by go_num, HN1⟩, rfl⟩)
                          case measure => simp [intOf]; omega
                        · obtain rfl : k = 2 := by omega
                          rw [show ((2 : Nat) : Int) = 2 from rfl]
                          go_wp2_with fail
                          go_roundw
                          replace HN : NS p t W0 B _ _ (20 + 264 * q + 3 * r + 2 * (s + 1)) := (show 20 + 264 * q + 3 * r + 2 * s + 2 = 20 + 264 * q + 3 * r + 2 * (s + 1) by omega) ▸ HN
                          case rel => first | exact ⟨s + 1, by omega, by go_num, HN⟩ | ((repeat apply Exists.intro); exact ⟨⟨s + 1, by omega, by go_num, HN⟩, rfl⟩)
                          case measure => simp [intOf]; omega
                          
                    · have hs' : (s : Int) = g := by omega
                      have hs2 := hid hs'
                      clear hs'
                      go_wp2_with fail
                      obtain ⟨a, cap, rfl, hrow⟩ := HN.row
                      go_ret
                      exact ⟨a, cap, _, by omega, rfl, hrow, HBW.out _ HN.low⟩

end Go.Proofs.Ytlchnmkmepippaa.Layout
