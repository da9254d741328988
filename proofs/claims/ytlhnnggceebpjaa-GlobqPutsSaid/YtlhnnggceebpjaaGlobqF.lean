/- Goroutines of any number are put: the machine, the document, and whether they are known. -/
import Derived.Test.YtlhnnggceebpjaaGlobqE
import Derived.Test.YtlhnnggceebpjaaListQR
import Derived.Test.YtlhnnggceebpjaaBase4
set_option maxRecDepth 100000
set_option maxHeartbeats 4000000
set_option linter.unusedVariables false
set_option linter.unusedSimpArgs false
namespace Go.Proofs.Ytlhnnggceebpjaa.Globq
open Go.RowKit Go.Shelf Go.Proofs.Ytlhnnggceebpjaa.TK Go.Proofs.Ytlhnnggceebpjaa.Flag Go.Proofs.Ytlhnnggceebpjaa.Read Go.Proofs.Ytlhnnggceebpjaa.Grow Go.Proofs.Ytlhnnggceebpjaa.Words Go.Proofs.Ytlhnnggceebpjaa.Mem Go.Proofs.Ytlhnnggceebpjaa.Flow Go.Proofs.Ytlhnnggceebpjaa.Layout Go.Proofs.Ytlhnnggceebpjaa.Lock Go.Proofs.Ytlhnnggceebpjaa.Run Go.Proofs.Ytlhnnggceebpjaa.Sys Go.Proofs.Ytlhnnggceebpjaa.Mach Go.Proofs.Ytlhnnggceebpjaa.Doc Go.Proofs.Ytlhnnggceebpjaa.Ref05 Go.Proofs.Ytlhnnggceebpjaa.Subs Go.Proofs.Ytlhnnggceebpjaa.IWords
/-- Whatever is put: the machine. -/
theorem qp_any (lo l : Nat) (P T G who : Int) (a : Option Addr) (c0 : Nat) (gs : List Int) (w : World) (hn0 : a = none → c0 = 0) (hn : gs.length ≤ 1000) (hr : RowOf (encI .i64) 1 w a gs) (hL : Lay w l P T G) (hlo : lo ≤ w.heap.size) :
    Calls Try.prog 57 #[.pointer (some ⟨l, 0, none⟩), .int .i64 who, .slice a gs.length c0] w fun e w' => ∃ x, e = .returned (.pointer (some ⟨x, 0, none⟩)) ∧ (qpS lo l P T G who gs).at_ w' x (qpStart gs) ∧ Below w.heap.size w w' := by
  by_cases h0 : gs.length = 0
  · have HC := hid (iclone_any a c0 gs w hn0 (by omega) hr)
    have e0 : qpStart gs = .none := if_pos h0
    rw [e0]
    obtain rfl : gs = [] := List.length_eq_zero_iff.1 h0
    simp only [List.length_nil] at HC ⊢
    have HL := hid hL
    have H0 := hid hlo
    clear hr hL h0 hn hlo e0 hn0
    go_enter Try.func57, Try.ntmps57
    go_wp2_with fail
    refine HC.out.mono ?_
    rintro e w1 ⟨a', cap, rfl, hB, hc0, hb⟩
    have h0 : FlAt (w1.alloc (.cells (fl fl0 ++ puR l a' 0 cap 0 false).toArray 169)) w1.heap.size fl0 (puR l a' 0 cap 0 false) 169 := Blk.new w1 _ _
    have hq := below_one w1 (.cells (fl fl0 ++ puR l a' 0 cap 0 false).toArray 169)
    have HX := hid (And.intro ((HL.out.quiet hb).quiet hq) (And.intro (hB.quiet hq) (And.intro (hb.trans (hq.mono hb.size)) (And.intro (Nat.ne_of_lt (HL.out.quiet hb).1.lt) (And.intro h0 hc0)))))
    have HS := hid hb.size
    obtain ⟨x, hx⟩ : ∃ x, x = w1.heap.size := ⟨_, rfl⟩
    rw [← hx] at HX HS
    have HSX := hid (show w.heap.size ≤ x from HS.out)
    have HXX := hid hx
    clear hb hB hq h0 hc0 hx HS
    go_wp2_with fail
    rw [← HXX.out]
    refine (iof_run HX.out.2.2.2.2.1 who).mono ?_
    rintro e w2 ⟨rfl, hp, hK⟩
    have HY := hid (And.intro hp (And.intro (HX.out.1.kept hK (by simpa using HX.out.2.2.2.1)) (And.intro (row_kept2 HX.out.2.1 HX.out.2.2.2.2.1 hK) (HX.out.2.2.1.trans (hK.below (by simp; exact HSX.out) (by simp; exact Nat.le_succ_of_le (by rw [← HXX.out]; exact HSX.out)))))))
    have HC0 := hid HX.out.2.2.2.2.2
    clear hp hK HX
    go_wp2_with fail
    refine (links0_run x l P T G who a' cap _ HY.out.1).mono ?_
    rintro e w3 ⟨⟨r, rfl⟩, h3, h4⟩
    have hlx : l ∉ [x] := by
      have := Blk.lt (HL.out).1
      have := HSX.out
      simp
      omega
    have HZ := hid (show (qpS lo l P T G who []).at_ w3 x .none ∧ Below w.heap.size w w3 from ⟨⟨⟨(a', cap), h3, (row_kept1 HY.out.2.2.1 HY.out.1 h4).lower H0.out, HC0.out⟩, Nat.le_trans H0.out HSX.out, HY.out.2.1.kept h4 hlx, rfl⟩, HY.out.2.2.2.trans (h4.below (by simp; exact HSX.out) HY.out.2.2.2.size)⟩)
    clear h3 h4 HY
    go_wp2
    go_ret
    exact ⟨x, rfl, HZ.out⟩
  · obtain ⟨ad, ha, _⟩ := hr 0 (by omega)
    subst ha
    have e0 : qpStart gs = .ln 0 := if_neg h0
    rw [e0]
    refine (qp_made lo l P T G who ad c0 gs w (by omega) hn hr hL hlo).mono ?_
    rintro e w' ⟨rfl, h1, h2⟩
    exact ⟨_, rfl, h1, h2⟩
theorem rput13_nil2 (P T G : Int) (ga : Option Addr) (c : Nat) (B r : Nat) (v : Value) (a : RunSt) (w : World) (h : RunAt w B r v a) :
    Calls Try.prog 67 #[.pointer (some ⟨r, 0, none⟩), .agg #[.int .i64 P, .int .i64 T, .int .i64 G], .slice ga 0 c] w fun e w' => e = .returned (.slice none 0 0) ∧ Below w.heap.size w w' := by
  have hb := below_one w (.cells #[.int .i64 P, .int .i64 T, .int .i64 G] 30)
  have HB := hid hb
  clear h hb
  go_enter Try.func67, Try.ntmps67
  go_wp2_with fail
  go_loopw [7] (fun i wr => i = .int .i64 0 ∧ Below w.heap.size w wr) (fun i _ => 0)
  case atStart => exact ⟨rfl, HB.out⟩
  case round =>
    obtain ⟨rfl, hI⟩ := hrel
    have HI := hid hI
    clear hI HB
    go_wp2
    go_ret
    exact ⟨rfl, HI.out⟩
/-- The document's putting of whatever there is. -/
theorem rput13_any (P T G : Int) (gs : List Int) (ga : Option Addr) (c : Nat) (B r : Nat) (v : Value) (a : RunSt) (got : List Int) (s0 : QpSt) (w : World) (h : RunAt w B r v a) (hg : Fits got a) (ha : a.stop = false) (hs : s0 = qpStart gs) (hP : (0 ≤ P ∧ P ≤ 1000) ∧ (0 ≤ T ∧ T ≤ 1000) ∧ G ≤ 100000) (hn : gs.length ≤ 1000) (hr : RowOf (encI .i64) 1 w ga gs) (hne : ∀ x, gs ≠ [] → ga = some x → x.block ≠ r) :
    Calls Try.prog 67 #[.pointer (some ⟨r, 0, none⟩), .agg #[.int .i64 P, .int .i64 T, .int .i64 G], .slice ga gs.length c] w fun e w' => ∃ a' c' hl b s1, e = .returned (.slice a' (hl : List Int).length c') ∧ RunAt w' B r v b ∧ Kept [r] w w' ∧ Ran (qpY P T G gs) got s0 a s1 b ∧ Fits got b ∧ (b.stop = false → (qpY P T G gs).want s1 = none) ∧ qpH gs s1 = hl ∧ RowOf (encI .i64) 1 w' a' hl := by
  by_cases h0 : gs.length = 0
  · have e0 : qpStart gs = .none := if_pos h0
    rw [e0] at hs
    obtain rfl : gs = [] := List.length_eq_zero_iff.1 h0
    refine (rput13_nil2 P T G ga c B r v a w h).mono ?_
    rintro e w' ⟨rfl, hb⟩
    subst hs
    exact ⟨none, 0, [], a, .none, rfl, h.quiet hb, Kept.of_below hb _, .same _ _, hg, fun _ => rfl, rfl, fun i hi => absurd hi (by simp)⟩
  · obtain ⟨ad, hga, _⟩ := hr 0 (by omega)
    subst hga
    have e0 : qpStart gs = .ln 0 := if_neg h0
    rw [e0] at hs
    refine (rput13_run P T G gs ad c B r v a got s0 w h hg ha hs (by omega) hP hn hr (hne ad (fun e => h0 (by rw [e]; rfl)) rfl)).mono ?_
    rintro e w' ⟨held, b, s1, rfl, h1, h2, h3, h4, h5, h6⟩
    cases held with
    | true => exact ⟨some ad, c, gs, b, s1, rfl, h1, h2, h3, h4, fun hb => by rw [h5 hb]; rfl, by unfold qpH; rw [h6]; rfl, row_keptB hr h2 (by intro x hx; have := hne x (fun e => h0 (by rw [e]; rfl)) hx; simpa using this)⟩
    | false => exact ⟨none, 0, [], b, s1, rfl, h1, h2, h3, h4, fun hb => by rw [h5 hb]; rfl, by unfold qpH; rw [h6]; rfl, fun i hi => absurd hi (by simp)⟩
/-- Are all of them goroutines? -/
theorem gknown_run (P T G : Int) (ga : Option Addr) (c : Nat) (gs : List Int) (w : World) (hn : gs.length ≤ 1000) (hr : RowOf (encI .i64) 1 w ga gs) :
    Calls Try.prog 65 #[.agg #[.int .i64 P, .int .i64 T, .int .i64 G], .slice ga gs.length c] w fun e w' => e = .returned (.bool (decide (∀ x ∈ gs, 0 ≤ x ∧ x < G))) ∧ Below w.heap.size w w' := by
  have hb := below_one w (.cells #[.int .i64 P, .int .i64 T, .int .i64 G] 30)
  have hB := Blk.new w [.int .i64 P, .int .i64 T, .int .i64 G] 30
  obtain ⟨w0, hw0⟩ : ∃ z, z = w.alloc (.cells #[.int .i64 P, .int .i64 T, .int .i64 G] 30) := ⟨_, rfl⟩
  have hB : Blk w0 w.heap.size [.int .i64 P, .int .i64 T, .int .i64 G] 30 := by rw [hw0]; exact hB
  rw [← hw0] at hb
  have HB := hid (And.intro hb (And.intro hB (hr.quiet hb)))
  have HW := hid hw0
  have HN := hid hn
  obtain ⟨n, hnl⟩ : ∃ n, n = gs.length := ⟨_, rfl⟩
  rw [← hnl]
  have HNL := hid hnl
  clear hr hb hB hw0 hn hnl
  go_enter Try.func65, Try.ntmps65
  go_wp2_with fail
  rw [← HW.out]
  go_loopw [5] (fun i wr => ∃ k : Nat, k ≤ n ∧ i = .int .i64 (k : Int) ∧ (∀ x ∈ gs.take k, 0 ≤ x ∧ x < G) ∧ Below w0.heap.size w0 wr) (fun i _ => n - (intOf i).toNat)
  case atStart => exact ⟨0, Nat.zero_le _, rfl, by simp, Below.refl _ _⟩
  case round =>
    obtain ⟨k, hk, rfl, hall, hlow⟩ := hrel
    have hnl := HNL.out
    have hnn := HN.out
    by_cases hlt : k < n
    · have hlt' : decide ((k : Int) < (n : Int)) = true := decide_eq_true (by omega)
      have hBr := HB.out.2.1.quiet hlow
      have b2 := hBr.cell 2
      simp only [List.getElem?_cons_zero, List.getElem?_cons_succ] at b2
      obtain ⟨xa, rfl, hx1⟩ := (HB.out.2.2.quiet hlow) k (by omega)
      have c0 := hx1 0 _ rfl
      rw [Nat.mul_one, Nat.add_zero] at c0
      have k0 : (0 : Int) ≤ (k : Int) := by omega
      have k1 : (k : Int) < (n : Int) := by omega
      obtain ⟨v, hv⟩ : ∃ v, v = gs[k]'(by omega) := ⟨_, rfl⟩
      have htk : gs.take (k + 1) = gs.take k ++ [v] := by rw [hv]; exact List.take_succ_eq_append_getElem (by omega)
      have hmem : v ∈ gs := by rw [hv]; exact List.getElem_mem _
      rw [← hv] at c0
      have HTK := hid htk
      have HMEM := hid hmem
      have HALL := hid hall
      clear hv hx1 htk hmem hall
      by_cases h1 : v < 0
      · have d1 : decide (v < 0) = true := decide_eq_true h1
        have HR := hid (show decide (∀ x ∈ gs, 0 ≤ x ∧ x < G) = false from decide_eq_false (fun h => by have := (h v HMEM.out).1; omega))
        clear h1
        go_wp2_with fail
        go_quiet (fail)
        go_wp2
        go_ret
        exact ⟨by rw [HR.out] <;> rfl, HB.out.1.trans ((below_drewN hlow _).mono HB.out.1.size)⟩
      · have d1 : decide (v < 0) = false := decide_eq_false h1
        by_cases h2 : G ≤ v
        · have d2 : decide (G ≤ v) = true := decide_eq_true h2
          have HR := hid (show decide (∀ x ∈ gs, 0 ≤ x ∧ x < G) = false from decide_eq_false (fun h => by have := (h v HMEM.out).2; omega))
          clear h1 h2
          go_wp2_with fail
          go_quiet (fail)
          go_wp2
          go_ret
          exact ⟨by rw [HR.out] <;> rfl, HB.out.1.trans ((below_drewN hlow _).mono HB.out.1.size)⟩
        · have d2 : decide (G ≤ v) = false := decide_eq_false h2
          have HR := hid (show ∀ x ∈ gs.take (k + 1), 0 ≤ x ∧ x < G by
            rw [HTK.out]
            intro x hx
            rcases List.mem_append.1 hx with hx | hx
            · exact HALL.out x hx
            · simp at hx; subst hx; omega)
          clear h1 h2
          go_wp2_with fail
          go_quiet (fail)
          go_wp2_with fail
          go_roundw
          case rel => exact ⟨k + 1, by omega, by go_num, HR.out, below_drewN hlow _⟩
          case measure => simp [intOf]; omega
    · obtain rfl : k = n := by omega
      have hlt' : decide ((k : Int) < (k : Int)) = false := by simp
      have HR := hid (show decide (∀ x ∈ gs, 0 ≤ x ∧ x < G) = true from decide_eq_true (by rw [hnl, List.take_length] at hall; exact hall))
      clear hall hnl hnn
      go_wp2
      go_ret
      exact ⟨by rw [HR.out] <;> rfl, HB.out.1.trans (hlow.mono HB.out.1.size)⟩
end Go.Proofs.Ytlhnnggceebpjaa.Globq
