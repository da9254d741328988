/- The global queue: the example. -/
import Derived.Test.YtnmkfmaohflejaaTakeB
import Derived.Test.YtnmkfmaohflejaaMulti
import Derived.Test.YtnmkfmaohflejaaGs
import Derived.Test.YtnmkfmaohflejaaListQ
import Derived.Test.YtnmkfmaohflejaaIdlepD
set_option maxRecDepth 100000
set_option maxHeartbeats 4000000
set_option linter.unusedVariables false
set_option linter.unusedSimpArgs false
namespace Go.Proofs.Ytnmkfmaohflejaa.Globq
open Go.RowKit Go.Shelf Go.Proofs.Ytnmkfmaohflejaa.TK Go.Proofs.Ytnmkfmaohflejaa.Flag Go.Proofs.Ytnmkfmaohflejaa.Read Go.Proofs.Ytnmkfmaohflejaa.Grow Go.Proofs.Ytnmkfmaohflejaa.Words Go.Proofs.Ytnmkfmaohflejaa.Mem Go.Proofs.Ytnmkfmaohflejaa.Flow Go.Proofs.Ytnmkfmaohflejaa.Layout Go.Proofs.Ytnmkfmaohflejaa.Lock Go.Proofs.Ytnmkfmaohflejaa.Run Go.Proofs.Ytnmkfmaohflejaa.Sys Go.Proofs.Ytnmkfmaohflejaa.Mach Go.Proofs.Ytnmkfmaohflejaa.Doc Go.Proofs.Ytnmkfmaohflejaa.Ref05 Go.Proofs.Ytnmkfmaohflejaa.Subs Go.Proofs.Ytnmkfmaohflejaa.IWords Go.Proofs.Ytnmkfmaohflejaa.Gs
open Go.Proofs.Ytnmkfmaohflejaa.Ring (after after_clock)
theorem qp_keptX {lo l x : Nat} {P T G who : Int} {gs : List Int} {st : QpSt} {w w' : World} {Z : List Nat} (hA : (qpM lo l P T G who gs).at_ lo l x P T G who w st) (hk : Kept Z w w') (hx : x ∉ Z) (hZ : ∀ i ∈ Z, Not [1, 166, 3, 143] w i) : (qpM lo l P T G who gs).at_ lo l x P T G who w' st := by
  obtain ⟨⟨e, hp, hi⟩, hlo, hL, hok⟩ := hA
  refine ⟨⟨e, Pend.keptX hp hk hx (fun i hiz T hT => hZ i hiz T (by simp at hT; rcases hT with rfl | rfl <;> simp)), ⟨hi.1.keptS hk (fun i hiz cs hb => hZ i hiz 3 (by simp) cs hb), hi.2⟩⟩, hlo, hL.kept hk (fun h => hZ l h 143 (by simp) _ hL.1), hok⟩
/-- One of two goes on. -/
theorem qp_two {lo l x y m mg : Nat} {P T G who : Int} {gs gs' : List Int} {st st' : QpSt} {s : St} {w : World} (hA : (qpM lo l P T G who gs).at_ lo l x P T G who w st) (hB : (qpM lo l P T G who gs').at_ lo l y P T G who w st') (hxy : x ≠ y) (hM : MemAt w m mg s) (hc : s.clock < 1000000) (hbd : s.bad < 1000000) (hn : gs.length ≤ 1000) :
    Calls Try.prog 47 #[.pointer (some ⟨x, 0, none⟩), .pointer (some ⟨m, 0, none⟩)] w fun e w' => (∃ b, e = .returned (.bool b)) ∧ (qpM lo l P T G who gs).at_ lo l x P T G who w' (stepOf (qpY P T G gs) who st s).1 ∧ (qpM lo l P T G who gs').at_ lo l y P T G who w' st' ∧ MemAt w' m mg (stepOf (qpY P T G gs) who st s).2 ∧ Kept [x, m, mg] w w' := by
  obtain ⟨⟨e, hp, _⟩, _⟩ := id hA
  obtain ⟨cx, hbx⟩ := Pend.blk (n := qpOwn P T G gs st) hp
  obtain ⟨⟨e', hp', _⟩, _⟩ := id hB
  obtain ⟨cy, hby⟩ := Pend.blk (n := qpOwn P T G gs' st') hp'
  obtain ⟨_, _, bm, bg, _⟩ := hM.ex
  have hym := hM.neT hby (by show 133 ≠ 108; decide)
  have hyg := hM.neG hby (by show 133 ≠ 31; decide)
  have hZ : ∀ i ∈ [x, m, mg], Not [1, 166, 3, 143] w i := by
    intro i hi
    simp at hi
    rcases hi with rfl | rfl | rfl
    · exact not_of hbx (by show 133 ∉ _; decide)
    · exact not_of bm (by decide)
    · exact not_of bg (by decide)
  refine (m2_stepX qp_thru (qp_goes lo l x P T G who gs hn) (fun st e => ⟨_, rfl⟩) hA hM hc hbd).mono ?_
  rintro e w' ⟨rfl, h1, h2, h3⟩
  exact ⟨⟨_, rfl⟩, h1, qp_keptX hB h3 (by simp; omega) hZ, h2, h3⟩
def sQ : St := fresh (layW (lenOf 2 2 4) [])
def qa : St := (after (qpY 2 2 4 [2, 0]) 0 (.ln 0) sQ 9).2
def qb : St := (after (qpY 2 2 4 [1]) 0 (.ln 0) qa 9).2
def qt : TkSt × St := after (tkY 2 2 4 1 0) 0 .sz qb 30
theorem few224 : FewP 2 2 4 := by unfold FewP Right; omega
theorem qex_end : qt.1 = .fin 0 2 0 := by kernel_rfl
theorem qex_run : qlst qb 2 2 4 = ([2, 0, 1], true) ∧ gsl 4 (gsWs qt.2 2 1) = [0] ∧ (sQ.clock = 0 ∧ sQ.bad = 0) ∧ (qa.clock ≤ 100 ∧ qa.bad ≤ 100) ∧ (qb.clock ≤ 100 ∧ qb.bad ≤ 100) := by
  refine ⟨?_, ?_, ⟨?_, ?_⟩, ⟨?_, ?_⟩, ⟨?_, ?_⟩⟩ <;> decide +kernel
theorem lit3 (w : World) (a b c : Int) : RowOf (encI .i64) 1 (w.alloc (.cells #[.int .i64 a, .int .i64 b, .int .i64 c] 3)) (some ⟨w.heap.size, 0, none⟩) [a, b, c] := by
  have hnew := Blk.new w [.int .i64 a, .int .i64 b, .int .i64 c] 3
  intro i hi
  refine ⟨_, rfl, ?_⟩
  intro j v hv
  have hj : j = 0 := by
    have := (List.getElem?_eq_some_iff.1 hv).1
    simp [encI] at this
    exact this
  subst hj
  rw [show (⟨w.heap.size, 0, none⟩ : Addr).add (i * 1 + 0) = ⟨w.heap.size, i, none⟩ by unfold Addr.add; split <;> simp_all]
  have hi4 : i < 3 := hi
  have : i = 0 ∨ i = 1 ∨ i = 2 := by omega
  rcases this with rfl | rfl | rfl <;> exact (hnew.cell _).trans hv
theorem lit1Q (w : World) (a : Int) : RowOf (encI .i64) 1 (w.alloc (.cells #[.int .i64 a] 3)) (some ⟨w.heap.size, 0, none⟩) [a] := by
  have hnew := Blk.new w [.int .i64 a] 3
  intro i hi
  refine ⟨_, rfl, ?_⟩
  intro j v hv
  have hj : j = 0 := by
    have := (List.getElem?_eq_some_iff.1 hv).1
    simp [encI] at this
    exact this
  subst hj
  have hi0 : i = 0 := by simp at hi; omega
  subst hi0
  rw [show (⟨w.heap.size, 0, none⟩ : Addr).add (0 * 1 + 0) = ⟨w.heap.size, 0, none⟩ by unfold Addr.add; simp]
  exact (hnew.cell _).trans hv
theorem keptOwn_lowW {Own : List TypeId} {b lo m g : Nat} {W w w' : World} (hK : KeptOwn Own lo m g w w') (hb : Below b W w) (hm : b ≤ m) (hg : b ≤ g) (hlo : b ≤ lo) (hl : b ≤ w.heap.size) : Below b W w' := by
  obtain ⟨S, hK, hS⟩ := hK
  refine below_kept hb hK ?_ hl
  intro i hi
  rcases hS i hi with rfl | rfl | ⟨h, _⟩
  · exact hm
  · exact hg
  · omega
theorem keptOwn_row {Own : List TypeId} {lo m g : Nat} {w w' : World} {a : Option Addr} {xs : List Int} (hK : KeptOwn Own lo m g w w') (h : RowOf (encI .i64) 1 w a xs) (hS : ∀ x, a = some x → x.block ≠ m ∧ x.block ≠ g ∧ x.block < lo) : RowOf (encI .i64) 1 w' a xs := by
  obtain ⟨S, hK, hS2⟩ := hK
  refine Idlep.row_kept h hK ?_
  intro x hx hi
  obtain ⟨h1, h2, h3⟩ := hS x hx
  rcases hS2 _ hi with e | e | ⟨e, _⟩
  · exact h1 e
  · exact h2 e
  · omega
theorem awake_run (w : World) : Calls Try.prog 45 #[] w fun e w' => e = .returned (.bool true) ∧ Below w.heap.size w w' := by
  have HE := hid qex_run
  go_enter Try.func45, Try.ntmps45
  go_wp2_with fail
  refine (lay_yes 2 2 4 none 0 [] _ few224 (by simp) ?_ (by simp)).mono ?_
  · intro i hi; simp at hi
  rintro e w1 ⟨l, m, g, rm, rg, rfl, hL⟩
  have HQ := hid (show w.heap.size ≤ m ∧ w.heap.size ≤ g from ⟨hL.low5.2.1, hL.low5.2.2.1⟩)
  obtain ⟨sX, hsX⟩ : ∃ z, z = sQ := ⟨_, rfl⟩
  have HX := hid hsX
  have HC := hid (show sX.clock = 0 ∧ sX.bad = 0 by rw [hsX]; exact HE.out.2.2.1)
  obtain ⟨wa, hwa⟩ : ∃ z, z = w1.alloc (.cells #[.int .i64 2, .int .i64 0] 3) := ⟨_, rfl⟩
  have hba : Below w1.heap.size w1 wa := by rw [hwa]; exact below_one _ _
  have hra : RowOf (encI .i64) 1 wa (some ⟨w1.heap.size, 0, none⟩) [2, 0] := by rw [hwa]; exact Idlep.lit2 w1 2 0
  have HI := hid (show Lay wa l 2 2 4 ∧ MemAt wa m g sX ∧ Below w.heap.size w wa from ⟨hL.lay.quiet hba, by rw [hsX]; exact hL.mem.quiet hba, hL.low.trans (hba.mono hL.low.size)⟩)
  have HR := hid hra
  have HWA := hid hwa
  clear hL hba hra hwa hsX
  go_wp2_with fail
  rw [← HWA.out]
  refine (qp_made w.heap.size l 2 2 4 0 ⟨w1.heap.size, 0, none⟩ 2 [2, 0] wa (by simp) (by simp) HR.out HI.out.1 HI.out.2.2.size).mono ?_
  rintro e w2 ⟨rfl, hA, hb⟩
  obtain ⟨wb, hwb⟩ : ∃ z, z = w2.alloc (.cells #[.int .i64 1] 3) := ⟨_, rfl⟩
  have hbb : Below w2.heap.size w2 wb := by rw [hwb]; exact below_one _ _
  have hrb : RowOf (encI .i64) 1 wb (some ⟨w2.heap.size, 0, none⟩) [1] := by rw [hwb]; exact lit1Q w2 1
  have hA2 := SubOk.at_quiet (qp_sub w.heap.size l 2 2 4 0 [2, 0] (by simp)) hA hbb
  have hAlt : wa.heap.size + 2 < w2.heap.size := by
    obtain ⟨⟨e, hp, _⟩, _⟩ := hA
    obtain ⟨cx, hbx⟩ := Pend.blk (n := qpOwn 2 2 4 [2, 0] (.ln 0)) hp
    exact hbx.lt
  have HI := hid (show Lay wb l 2 2 4 ∧ MemAt wb m g sX ∧ Below w.heap.size w wb ∧ (qpS w.heap.size l 2 2 4 0 [2, 0]).at_ wb (wa.heap.size + 2) (.ln 0) from ⟨(HI.out.1.quiet hb).quiet hbb, (HI.out.2.1.quiet hb).quiet hbb, (HI.out.2.2.trans (hb.mono HI.out.2.2.size)).trans (hbb.mono (Nat.le_trans HI.out.2.2.size hb.size)), hA2⟩)
  have HR := hid hrb
  have HWB := hid hwb
  have HWL := hid hbb.size
  obtain ⟨x, hx⟩ : ∃ z, z = wa.heap.size + 2 := ⟨_, rfl⟩
  rw [← hx] at HI hAlt ⊢
  clear hA hb hwb hbb hrb hA2 HWA hx
  go_wp2_with fail
  rw [← HWB.out]
  refine (qp_made w.heap.size l 2 2 4 0 ⟨w2.heap.size, 0, none⟩ 1 [1] wb (by simp) (by simp) HR.out HI.out.1 HI.out.2.2.1.size).mono ?_
  rintro e w3 ⟨rfl, hB, hb⟩
  have hxy : x ≠ wb.heap.size + 2 := by have := HWL.out; omega
  obtain ⟨y, hy⟩ : ∃ z, z = wb.heap.size + 2 := ⟨_, rfl⟩
  rw [← hy] at hB hxy ⊢
  have HI := hid (show (qpM w.heap.size l 2 2 4 0 [2, 0]).at_ w.heap.size l x 2 2 4 0 w3 (after (qpY 2 2 4 [2, 0]) 0 (.ln 0) sX 0).1 ∧ (qpM w.heap.size l 2 2 4 0 [1]).at_ w.heap.size l y 2 2 4 0 w3 (.ln 0) ∧ MemAt w3 m g (after (qpY 2 2 4 [2, 0]) 0 (.ln 0) sX 0).2 ∧ Below w.heap.size w w3 from ⟨SubOk.at_quiet (qp_sub w.heap.size l 2 2 4 0 [2, 0] (by simp)) HI.out.2.2.2 hb, hB, HI.out.2.1.quiet hb, HI.out.2.2.1.trans (hb.mono HI.out.2.2.1.size)⟩)
  have HXY := hid hxy
  clear hB hb hy hxy HR HWB HWL hAlt
  go_wp2_with fail
  go_loopw [7] (fun i wr => ∃ j : Nat, j ≤ 9 ∧ i = .int .i64 (j : Int) ∧ (qpM w.heap.size l 2 2 4 0 [2, 0]).at_ w.heap.size l x 2 2 4 0 wr (after (qpY 2 2 4 [2, 0]) 0 (.ln 0) sX j).1 ∧ (qpM w.heap.size l 2 2 4 0 [1]).at_ w.heap.size l y 2 2 4 0 wr (.ln 0) ∧ MemAt wr m g (after (qpY 2 2 4 [2, 0]) 0 (.ln 0) sX j).2 ∧ Below w.heap.size w wr) (fun i _ => 9 - (intOf i).toNat)
  case atStart => exact ⟨0, by omega, rfl, HI.out⟩
  case round =>
    clear HI
    obtain ⟨j, hj, rfl, hI⟩ := hrel
    have HI := hid hI
    clear hI
    by_cases hlt2 : j < 9
    · have hltj : decide ((j : Int) < 9) = true := decide_eq_true (by omega)
      have hcl := after_clock (qpY 2 2 4 [2, 0]) 0 (.ln 0) sX j
      have hc0 := HC.out
      go_wp2_with fail
      refine (qp_two HI.out.1 HI.out.2.1 HXY.out HI.out.2.2.1 (by omega) (by omega) (by simp)).mono ?_
      rintro e w6 ⟨⟨bb, rfl⟩, hA6, hB6, hM6, hK6⟩
      have HI6 := hid (And.intro hA6 (And.intro hB6 (And.intro hM6 (HI.out.2.2.2.trans (hK6.below (by simp; exact ⟨HI.out.1.2.1, HQ.out.1, HQ.out.2⟩) HI.out.2.2.2.size)))))
      clear hA6 hB6 hM6 hK6 HI hcl hc0
      go_wp2_with fail
      go_roundw
      case rel => first | exact ⟨j + 1, by omega, by go_num, HI6.out⟩ | ((repeat apply Exists.intro); exact ⟨⟨j + 1, by omega, by go_num, HI6.out⟩, rfl⟩)
      case measure => simp [intOf]; omega
    · obtain rfl : j = 9 := by omega
      have hltj : decide ((9 : Int) < 9) = false := by decide
      have hB := HI.out.2.1
      have hM : MemAt wr m g qa := by have := HI.out.2.2.1; rw [HX.out] at this; exact this
      obtain ⟨sY, hsY⟩ : ∃ z, z = qa := ⟨_, rfl⟩
      rw [← hsY] at hM
      have HY := hid hsY
      have HD := hid (show sY.clock ≤ 100 ∧ sY.bad ≤ 100 by rw [hsY]; exact HE.out.2.2.2.1)
      have HI := hid (show (qpM w.heap.size l 2 2 4 0 [1]).at_ w.heap.size l y 2 2 4 0 wr (after (qpY 2 2 4 [1]) 0 (.ln 0) sY 0).1 ∧ MemAt wr m g (after (qpY 2 2 4 [1]) 0 (.ln 0) sY 0).2 ∧ Below w.heap.size w wr from ⟨hB, hM, HI.out.2.2.2⟩)
      clear hB hM hsY HX HC HXY
      go_wp2_with fail
      go_loopw [8] (fun i wr => ∃ j : Nat, j ≤ 9 ∧ i = .int .i64 (j : Int) ∧ (qpM w.heap.size l 2 2 4 0 [1]).at_ w.heap.size l y 2 2 4 0 wr (after (qpY 2 2 4 [1]) 0 (.ln 0) sY j).1 ∧ MemAt wr m g (after (qpY 2 2 4 [1]) 0 (.ln 0) sY j).2 ∧ Below w.heap.size w wr) (fun i _ => 9 - (intOf i).toNat)
      case atStart => exact ⟨0, by omega, rfl, HI.out⟩
      case round =>
        clear HI
        obtain ⟨j, hj, rfl, hI⟩ := hrel
        have HI := hid hI
        clear hI
        by_cases hlt3 : j < 9
        · have hltj3 : decide ((j : Int) < 9) = true := decide_eq_true (by omega)
          have hcl := after_clock (qpY 2 2 4 [1]) 0 (.ln 0) sY j
          have hc0 := HD.out
          go_wp2_with fail
          refine (m2_stepL qp_thru (qp_goes w.heap.size l y 2 2 4 0 [1] (by simp)) HI.out.1 HI.out.2.1 (by omega) (by omega)).mono ?_
          rintro e w6 ⟨⟨bb, rfl⟩, hA6, hM6, hK6⟩
          have HI6 := hid (And.intro hA6 (And.intro hM6 (keptOwn_low hK6 HI.out.2.2 HQ.out.1 HQ.out.2 HI.out.2.2.size)))
          clear hA6 hM6 hK6 HI hcl hc0
          go_wp2_with fail
          go_roundw
          case rel => first | exact ⟨j + 1, by omega, by go_num, HI6.out⟩ | ((repeat apply Exists.intro); exact ⟨⟨j + 1, by omega, by go_num, HI6.out⟩, rfl⟩)
          case measure => simp [intOf]; omega
        · obtain rfl : j = 9 := by omega
          have hltj3 : decide ((9 : Int) < 9) = false := by decide
          have hM : MemAt wr m g qb := by have := HI.out.2.1; rw [HY.out] at this; exact this
          obtain ⟨sZ, hsZ⟩ : ∃ z, z = qb := ⟨_, rfl⟩
          rw [← hsZ] at hM
          have HZ := hid hsZ
          have HD := hid (show (sZ.clock ≤ 100 ∧ sZ.bad ≤ 100) ∧ qlst sZ 2 2 4 = ([2, 0, 1], true) by rw [hsZ]; exact ⟨HE.out.2.2.2.2, HE.out.1⟩)
          have HI := hid (show Lay wr l 2 2 4 ∧ MemAt wr m g sZ ∧ Below w.heap.size w wr from ⟨HI.out.1.2.2.1, hM, HI.out.2.2⟩)
          have HLS := hid (glist_run l m g 2 2 4 sZ wr HI.out.1 HI.out.2.1)
          rw [HD.out.2] at HLS
          clear hM hsZ HY
          go_wp2_with fail
          refine HLS.out.mono ?_
          rintro e w7 ⟨a7, c7, rfl, hrow7, hb7, hfar⟩
          have hmg := hid (And.intro HI.out.2.1.ltm HI.out.2.1.ltg)
          have HFAR := hid (show ∀ x, a7 = some x → x.block ≠ m ∧ x.block ≠ g ∧ x.block < w7.heap.size from fun x hx => by
            have h1 := hfar x hx
            have h2 := hmg.out
            have h3 : x.block < w7.heap.size := by
              obtain ⟨y, hy, hc⟩ := hrow7 0 (by simp)
              rw [hx] at hy
              cases hy
              have := cell_lt (hc 0 _ rfl)
              simpa using this
            omega)
          have HI := hid (show Lay w7 l 2 2 4 ∧ MemAt w7 m g sZ ∧ Below w.heap.size w w7 ∧ RowOf (encI .i64) 1 w7 a7 [2, 0, 1] from ⟨HI.out.1.quiet hb7, HI.out.2.1.quiet hb7, Below.then_ HI.out.2.2 hb7, hrow7⟩)
          clear hrow7 hb7 HLS
          go_wp2_with fail
          obtain ⟨Z, hZ⟩ : ∃ z, z = w7.heap.size := ⟨_, rfl⟩
          have HZS := hid (show w.heap.size ≤ Z ∧ Z ≤ w7.heap.size by rw [hZ]; exact ⟨HI.out.2.2.1.size, Nat.le_refl _⟩)
          rw [← hZ] at HFAR
          refine (tk_made Z l 2 2 4 0 1 0 w7 HI.out.1 HZS.out.2).mono ?_
          rintro e w8 ⟨rfl, hA, hb⟩
          have HI := hid (show (tkM Z l 2 2 4 0 1 0).at_ Z l w7.heap.size 2 2 4 0 w8 (after (tkY 2 2 4 1 0) 0 .sz sZ 0).1 ∧ MemAt w8 m g (after (tkY 2 2 4 1 0) 0 .sz sZ 0).2 ∧ Below w.heap.size w w8 ∧ RowOf (encI .i64) 1 w8 a7 [2, 0, 1] from ⟨hA, HI.out.2.1.quiet hb, HI.out.2.2.1.trans (hb.mono HI.out.2.2.1.size), HI.out.2.2.2.quiet hb⟩)
          obtain ⟨x, hx⟩ : ∃ z, z = w7.heap.size := ⟨_, rfl⟩
          rw [← hx] at HI ⊢
          clear hA hb hx hZ hmg hfar
          go_wp2_with fail
          go_loopw [12] (fun i wr => ∃ j : Nat, j ≤ 30 ∧ i = .int .i64 (j : Int) ∧ (tkM Z l 2 2 4 0 1 0).at_ Z l x 2 2 4 0 wr (after (tkY 2 2 4 1 0) 0 .sz sZ j).1 ∧ MemAt wr m g (after (tkY 2 2 4 1 0) 0 .sz sZ j).2 ∧ Below w.heap.size w wr ∧ RowOf (encI .i64) 1 wr a7 [2, 0, 1]) (fun i _ => 30 - (intOf i).toNat)
          case atStart => exact ⟨0, by omega, rfl, HI.out⟩
          case round =>
            clear HI
            obtain ⟨j, hj, rfl, hI⟩ := hrel
            have HI := hid hI
            clear hI
            by_cases hlt4 : j < 30
            · have hltj4 : decide ((j : Int) < 30) = true := decide_eq_true (by omega)
              have hcl := after_clock (tkY 2 2 4 1 0) 0 .sz sZ j
              have hc0 := HD.out.1
              go_wp2_with fail
              refine (m2_stepL tk_thru (tk_goes Z l x 2 2 4 0 1 0 (by omega)) HI.out.1 HI.out.2.1 (by omega) (by omega)).mono ?_
              rintro e w6 ⟨⟨bb, rfl⟩, hA6, hM6, hK6⟩
              have HI6 := hid (And.intro hA6 (And.intro hM6 (And.intro (keptOwn_lowW hK6 HI.out.2.2.1 HQ.out.1 HQ.out.2 HZS.out.1 HI.out.2.2.1.size) (keptOwn_row hK6 HI.out.2.2.2 HFAR.out))))
              clear hA6 hM6 hK6 HI hcl hc0
              go_wp2_with fail
              go_roundw
              case rel => first | exact ⟨j + 1, by omega, by go_num, HI6.out⟩ | ((repeat apply Exists.intro); exact ⟨⟨j + 1, by omega, by go_num, HI6.out⟩, rfl⟩)
              case measure => simp [intOf]; omega
            · obtain rfl : j = 30 := by omega
              have hltj4 : decide ((30 : Int) < 30) = false := by decide
              have hA : (tkM Z l 2 2 4 0 1 0).at_ Z l x 2 2 4 0 wr (.fin 0 2 0) := by have := HI.out.1; rw [HZ.out] at this; rw [← qex_end]; exact this
              have hM : MemAt wr m g qt.2 := by have := HI.out.2.1; rw [HZ.out] at this; exact this
              obtain ⟨sE, hsE⟩ : ∃ z, z = qt.2 := ⟨_, rfl⟩
              rw [← hsE] at hM
              have HG := hid (show gsl 4 (gsWs sE 2 1) = [0] by rw [hsE]; exact HE.out.2.1)
              have HI := hid (And.intro hA (And.intro hM HI.out.2.2))
              have HGS := hid (gs_run l m g 2 2 4 1 sE wr HI.out.1.2.2.1 HI.out.2.1)
              rw [HG.out] at HGS
              obtain ⟨gr, hgr⟩ : ∃ z, z = gsr 4 (gsR0 sE 2 1) (gsWs sE 2 1) := ⟨_, rfl⟩
              rw [← hgr] at HGS
              clear hA hM hsE hgr HZ HD HE HG
              go_wp2_with fail
              refine HGS.out.mono ?_
              rintro e w9 ⟨a9, c9, rfl, hrow9, hb9⟩
              have HA := hid (SubOk.at_quiet (tk_sub Z l 2 2 4 0 1 0 (by omega)) HI.out.1 hb9)
              have HR7 := hid (HI.out.2.2.2.quiet hb9)
              have HR9 := hid hrow9
              have HLW := hid (Below.then_ HI.out.2.2.1 hb9)
              clear hrow9 hb9 HGS HI
              go_wp2_with (first | (go_at_call 53; refine (Idlem.same12_run a7 _ c7 _ [2, 0, 1] _ (HR7.out.quiet (below_one _ _)) (lit3 _ 2 0 1) (by simp)).mono ?_; rintro e w10 ⟨rfl, hb⟩; have hq := (below_one w9 (.cells #[.int .i64 2, .int .i64 0, .int .i64 1] 3)).trans (hb.mono (by simp)); have HR10 := hid (HR9.out.quiet hq); have HA10 := hid (SubOk.at_quiet (tk_sub Z l 2 2 4 0 1 0 (by omega)) HA.out hq); have HL10 := hid (Below.then_ HLW.out hq); clear hb hq HR7 HR9 HA HLW) | (go_at_call 93; refine (m2_doneL tk_thruD (tk_goes Z l x 2 2 4 0 1 0 (by omega)) HA10.out).mono ?_; rintro e w11 ⟨rfl, rfl⟩; rw [show ((tkM Z l 2 2 4 0 1 0).sys.want (.fin 0 2 0)).isNone = true from rfl]) | (go_at_call 94; refine (tk_g_fin HA10.out).mono ?_; rintro e w12 ⟨rfl, rfl⟩) | (go_at_call 53; refine (Idlem.same12_run a9 _ c9 _ [0] _ (HR10.out.quiet (below_one _ _)) (lit1Q _ 0) (by simp)).mono ?_; rintro e w13 ⟨rfl, hb⟩; replace HL10 := hid (Below.then_ HL10.out ((below_one w10 (.cells #[.int .i64 0] 3)).trans (hb.mono (by simp))))))
              go_ret
              exact ⟨rfl, HL10.out⟩
end Go.Proofs.Ytnmkfmaohflejaa.Globq
