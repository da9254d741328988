/- Goroutines of any number are put: the machine, the document, and whether they are known. -/
import Derived.Test.YtnmkfmaohflejaaGlobqE
import Derived.Test.YtnmkfmaohflejaaListQR
import Derived.Test.YtnmkfmaohflejaaBase4
set_option maxRecDepth 100000
set_option maxHeartbeats 4000000
set_option linter.unusedVariables false
set_option linter.unusedSimpArgs false
namespace Go.Proofs.Ytnmkfmaohflejaa.Globq
open Go.RowKit Go.Shelf Go.Proofs.Ytnmkfmaohflejaa.TK Go.Proofs.Ytnmkfmaohflejaa.Flag Go.Proofs.Ytnmkfmaohflejaa.Read Go.Proofs.Ytnmkfmaohflejaa.Grow Go.Proofs.Ytnmkfmaohflejaa.Words Go.Proofs.Ytnmkfmaohflejaa.Mem Go.Proofs.Ytnmkfmaohflejaa.Flow Go.Proofs.Ytnmkfmaohflejaa.Layout Go.Proofs.Ytnmkfmaohflejaa.Lock Go.Proofs.Ytnmkfmaohflejaa.Run Go.Proofs.Ytnmkfmaohflejaa.Sys Go.Proofs.Ytnmkfmaohflejaa.Mach Go.Proofs.Ytnmkfmaohflejaa.Doc Go.Proofs.Ytnmkfmaohflejaa.Ref05 Go.Proofs.Ytnmkfmaohflejaa.Subs Go.Proofs.Ytnmkfmaohflejaa.IWords
/-- Whatever is put: the machine. -/
theorem qp_any (lo l : Nat) (P T G who : Int) (a : Option Addr) (c0 : Nat) (gs : List Int) (w : World) (hn0 : a = none → c0 = 0) (hn : gs.length ≤ 1000) (hr : RowOf (encI .i64) 1 w a gs) (hL : Lay w l P T G) (hlo : lo ≤ w.heap.size) :
    Calls Try.prog 46 #[.pointer (some ⟨l, 0, none⟩), .int .i64 who, .slice a gs.length c0] w fun e w' => ∃ x, e = .returned (.pointer (some ⟨x, 0, none⟩)) ∧ (qpS lo l P T G who gs).at_ w' x (qpStart gs) ∧ Below w.heap.size w w' := by
  by_cases h0 : gs.length = 0
  · have HC := hid (iclone_any a c0 gs w hn0 (by omega) hr)
    have e0 : qpStart gs = .none := if_pos h0
    rw [e0]
    obtain rfl : gs = [] := List.length_eq_zero_iff.1 h0
    simp only [List.length_nil] at HC ⊢
    have HL := hid hL
    have H0 := hid hlo
    clear hr hL h0 hn hlo e0 hn0
    go_enter Try.func46, Try.ntmps46
    go_wp2_with fail
    refine HC.out.mono ?_
    rintro e w1 ⟨a', cap, rfl, hB, hc0, hb⟩
    have h0 : FlAt (w1.alloc (.cells (fl fl0 ++ puR l a' 0 cap 0 false).toArray 133)) w1.heap.size fl0 (puR l a' 0 cap 0 false) 133 := Blk.new w1 _ _
    have hq := below_one w1 (.cells (fl fl0 ++ puR l a' 0 cap 0 false).toArray 133)
    have HX := hid (And.intro ((HL.out.quiet hb).quiet hq) (And.intro (hB.quiet hq) (And.intro (hb.trans (hq.mono hb.size)) (And.intro (Nat.ne_of_lt (HL.out.quiet hb).1.lt) (And.intro h0 hc0)))))
    have HS := hid hb.size
    obtain ⟨x, hx⟩ : ∃ x, x = w1.heap.size := ⟨_, rfl⟩
    rw [← hx] at HX HS
    have HSX := hid (show w.heap.size ≤ x from HS.out)
    have HXX := hid hx
    clear hb hB hq h0 hc0 hx HS
    go_wp2_with fail
    rw [← HXX.out]
    refine (iof_run HX.out.2.2.2.2.1 who).mono ?_
    rintro e w2 ⟨rfl, hp, hK⟩
    have HY := hid (And.intro hp (And.intro (HX.out.1.kept hK (by simpa using HX.out.2.2.2.1)) (And.intro (row_kept2 HX.out.2.1 HX.out.2.2.2.2.1 hK) (HX.out.2.2.1.trans (hK.below (by simp; exact HSX.out) (by simp; exact Nat.le_succ_of_le (by rw [← HXX.out]; exact HSX.out)))))))
    have HC0 := hid HX.out.2.2.2.2.2
    clear hp hK HX
    go_wp2_with fail
    refine (links0_run x l P T G who a' cap _ HY.out.1).mono ?_
    rintro e w3 ⟨⟨r, rfl⟩, h3, h4⟩
    have hlx : l ∉ [x] := by
      have := Blk.lt (HL.out).1
      have := HSX.out
      simp
      omega
    have HZ := hid (show (qpS lo l P T G who []).at_ w3 x .none ∧ Below w.heap.size w w3 from ⟨⟨⟨(a', cap), h3, (row_kept1 HY.out.2.2.1 HY.out.1 h4).lower H0.out, HC0.out⟩, Nat.le_trans H0.out HSX.out, HY.out.2.1.kept h4 hlx, rfl⟩, HY.out.2.2.2.trans (h4.below (by simp; exact HSX.out) HY.out.2.2.2.size)⟩)
    clear h3 h4 HY
    go_wp2
    go_ret
    exact ⟨x, rfl, HZ.out⟩
  · obtain ⟨ad, ha, _⟩ := hr 0 (by omega)
    subst ha
    have e0 : qpStart gs = .ln 0 := if_neg h0
    rw [e0]
    refine (qp_made lo l P T G who ad c0 gs w (by omega) hn hr hL hlo).mono ?_
    rintro e w' ⟨rfl, h1, h2⟩
    exact ⟨_, rfl, h1, h2⟩
end Go.Proofs.Ytnmkfmaohflejaa.Globq
