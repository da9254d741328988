/- The walk of LayoutAll. -/
import Derived.Test.YtlchnmkmepippaaLayoutAllB
set_option maxRecDepth 100000
set_option maxHeartbeats 8000000
set_option linter.unusedVariables false
set_option linter.unusedSimpArgs false
namespace Go.Proofs.Ytlchnmkmepippaa.Layout
open Go.RowKit Go.Proofs.Ytlchnmkmepippaa.TK Go.Proofs.Ytlchnmkmepippaa.Flag Go.Proofs.Ytlchnmkmepippaa.Read

theorem which_run' {A N F : Int} (l : Nat) (p t g : Int) (i : Nat) (hA : nameAt p t i = (A, N, F)) (w : World) (h : Lay w l p t g) (hp : p ≤ 4) (ht : t ≤ 8) (hg : g ≤ 60) (hi : (i : Int) < 20 + p * 264 + t * 3 + g * 2) :
    Calls Try.prog 63 #[.pointer (some ⟨l, 0, none⟩), .int .i64 i] w fun e w' => e = .returned (.tuple #[.int .i64 A, .int .i64 N, .int .i64 F]) ∧ Below w.heap.size w w' := by
  have := which_run l p t g i w h hp ht hg hi
  rw [hA] at this
  exact this
theorem at_run' {A N F : Int} (l : Nat) (p t g : Int) (i : Nat) (hA : nameAt p t i = (A, N, F)) (w : World) (h : Lay w l p t g) (hp : p ≤ 4) (ht : t ≤ 8) (hg : g ≤ 60) (hi : (i : Int) < 20 + p * 264 + t * 3 + g * 2) :
    Calls Try.prog 64 #[.pointer (some ⟨l, 0, none⟩), .agg #[.int .i64 A, .int .i64 N, .int .i64 F]] w fun e w' => e = .returned (.int .i64 i) ∧ Below w.heap.size w w' := by
  have := at_run l p t g i w h hp ht hg hi
  rw [hA] at this
  exact this

theorem all_walk (w : World) (cs : List Value) (hcs : AllL w [.base (.int .i64), .base (.int .i64), .base (.int .i64)] cs) :
    Calls Try.prog 12 #[.agg cs.toArray] w fun e w' => e = .returned (.bool true) ∧ Below w.heap.size w w' := by
  obtain ⟨p, t, g, rfl, hp, ht, hg⟩ := Read.three_ints hcs
  clear hcs hp ht hg
  by_cases hF : ¬ FewP p t g
  · have HF := hid hF
    clear hF
    go_enter Try.func12, Try.ntmps12
    go_wp2_with (first | (go_at_call 61; refine (few_no p t g _ HF.out).mono ?_; rintro e w1 ⟨rfl, hb⟩) | (go_at_call 23; refine (lay_awake _).mono ?_; rintro e w2 ⟨rfl, hb2⟩))
    go_ret
    exact ⟨rfl, Below.then_ (Below.then_ (below_one _ _) hb) hb2⟩
  replace hF := Classical.not_not.1 hF
  have HF := hid hF
  obtain ⟨hR, hp4, ht8, hg60⟩ := hF
  have HR := hid hR
  unfold Right at hR
  go_enter Try.func12, Try.ntmps12
  go_wp2_with fail
  refine (few_yes p t g _ HF.out).mono ?_
  rintro e w1 ⟨rfl, hb⟩
  have B1 := (Blk.new w [.int .i64 p, .int .i64 t, .int .i64 g] 34).quiet hb
  have HB := Below.then_ (below_one w _) hb
  clear hb
  have b0 := B1.cell 0
  have b1 := B1.cell 1
  have b2 := B1.cell 2
  simp only [List.getElem?_cons_zero, List.getElem?_cons_succ] at b0 b1 b2
  go_wp2_with fail
  refine (of_yes p t g _ HR.out).mono ?_
  rintro e w2 ⟨l, hl, rfl, HL, hb⟩
  have B2 := B1.quiet hb
  have HB2 := Below.then_ HB hb
  clear b0 b1 b2 B1 hb hl HB
  have b0 := B2.cell 0
  have b1 := B2.cell 1
  have b2 := B2.cell 2
  simp only [List.getElem?_cons_zero, List.getElem?_cons_succ] at b0 b1 b2
  go_wp2_with fail
  refine (names_walk p t g _ (by omega) (by omega) (by omega)).mono ?_
  rintro e w3 ⟨a, cap, m, hm, rfl, hrow, hb⟩
  have HL3 := HL.quiet hb
  have HB3 := Below.then_ HB2 hb
  clear b0 b1 b2 B2 hb HL HB2
  have hnl := namesL_length p t m
  have HN := hid (namesL_get p t m)
  obtain ⟨ns, hns⟩ : ∃ ns, ns = namesL p t m := ⟨_, rfl⟩
  rw [← hns] at hrow hnl HN ⊢
  clear hns
  have hlen : (ns.length : Int) = 20 + p * 264 + t * 3 + g * 2 := by omega
  have hlx : (20 + p * 264 + t * 3 + g * 2 : Int) = ns.length := hlen.symm
  clear hlen hnl hm
  have HLX := hid hlx
  go_wp2_with fail
  refine (len_run l p t g _ HL3).mono ?_
  rintro e w4 ⟨rfl, rfl⟩
  rw [hlx]
  clear hlx
  go_wp2_with fail
  go_loopw [6] (fun i wr => ∃ k : Nat, k ≤ ns.length ∧ i = .int .i64 k ∧ Lay wr l p t g ∧ RowOf encN 3 wr a ns ∧ Below w.heap.size w wr) (fun i _ => ns.length - (intOf i).toNat)
  case atStart => exact ⟨0, Nat.zero_le _, rfl, HL3, hrow, HB3⟩
  case round =>
    clear HL3 hrow HB3
    obtain ⟨k, hk, rfl, HL, hrow, HB⟩ := hrel
    have hlen := HLX.out
    by_cases hkx : k < ns.length
    · obtain ⟨⟨A, N, F⟩, hA⟩ : ∃ q : NameT, q = nameAt p t k := ⟨_, rfl⟩
      have HA := hid hA.symm
      obtain ⟨x, rfl, hx⟩ := hrow k hkx
      have hnk : ns[k] = (A, N, F) := (HN.out k hkx).trans hA.symm
      rw [hnk] at hx
      clear hA hnk
      have hki : (k : Int) < 20 + p * 264 + t * 3 + g * 2 := by omega
      have HX := hid hx
      clear hx hlen
      go_wp2_with fail
      refine (which_run' l p t g k HA.out _ HL (by omega) (by omega) (by omega) hki).mono ?_
      rintro e w5 ⟨rfl, hb⟩
      have HL5 := HL.quiet hb
      have HR5 := hrow.quiet hb
      have HB5 := Below.then_ HB hb
      have y0 := (hb.cell (p := x.add (k * 3 + 0)) (by simpa using cell_lt (HX.out 0 _ rfl))).trans (HX.out 0 _ rfl)
      have y1 := (hb.cell (p := x.add (k * 3 + 1)) (by simpa using cell_lt (HX.out 1 _ rfl))).trans (HX.out 1 _ rfl)
      have y2 := (hb.cell (p := x.add (k * 3 + 2)) (by simpa using cell_lt (HX.out 2 _ rfl))).trans (HX.out 2 _ rfl)
      rw [add_next] at y1 y2
      simp only [Nat.add_zero, Nat.zero_add] at y0 y1 y2
      clear hb HL hrow HB
      go_wp2_with fail
      have HY := hid (And.intro y0 (And.intro y1 y2))
      refine (at_run' l p t g k HA.out _ HL5 (by omega) (by omega) (by omega) hki).mono ?_
      rintro e w6 ⟨rfl, hb⟩
      have HL6 := HL5.quiet hb
      have HR6 := HR5.quiet hb
      have HB6 := Below.then_ HB5 hb
      have z0 := (hb.cell (cell_lt HY.out.1)).trans HY.out.1
      have z1 := (hb.cell (cell_lt HY.out.2.1)).trans HY.out.2.1
      have z2 := (hb.cell (cell_lt HY.out.2.2)).trans HY.out.2.2
      clear hb HL5 HR5 HB5 y0 y1 y2 HY
      go_wp2
      go_roundw
      case rel => first | exact ⟨k + 1, by omega, by go_num, HL6, HR6, HB6⟩ | ((repeat apply Exists.intro); exact ⟨⟨k + 1, by omega, by go_num, HL6, HR6, HB6⟩, rfl⟩)
      case measure => simp [intOf]; omega
    · obtain rfl : k = ns.length := by omega
      clear hkx hrow
      go_wp2_with fail
      refine (which_out l p t g _ _ HL (by omega)).mono ?_
      rintro e w5 ⟨rfl, rfl⟩
      go_wp2_with fail
      refine (which_out l p t g _ _ HL (by omega)).mono ?_
      rintro e w5 ⟨rfl, rfl⟩
      go_wp2_with fail
      refine (lay_awake _).mono ?_
      rintro e w6 ⟨rfl, hb⟩
      replace HB := Below.then_ HB hb
      clear hb
      go_wp2
      go_ret
      exact ⟨rfl, HB⟩
end Go.Proofs.Ytlchnmkmepippaa.Layout
