/- Contracts of a memory: swap, add, and what is asked of it. -/
import Derived.Test.YtokpgbocomhpiaaMemB
import Derived.Test.YtokpgbocomhpiaaGrow
set_option maxRecDepth 100000
set_option maxHeartbeats 4000000
set_option linter.unusedVariables false
set_option linter.unusedSimpArgs false
namespace Go.Proofs.Ytokpgbocomhpiaa.Mem
open Go.RowKit Go.Shelf Go.Proofs.Ytokpgbocomhpiaa.TK Go.Proofs.Ytokpgbocomhpiaa.Flag Go.Proofs.Ytokpgbocomhpiaa.Words

theorem mswap_run (m g : Nat) (s : St) (who at_ o x : Int) (w : World) (hx : 0 ≤ x ∧ x < 18446744073709551616) (hM : MemAt w m g s) (hc : s.clock < 1000000) (hb : s.bad < 1000000) :
    Calls Try.prog 153 #[.pointer (some ⟨m, 0, none⟩), .int .i64 who, .int .i64 at_, .int .u64 o, .int .u64 x] w fun e w' => e = .returned (.bool (decide ((s.acc 3 who at_ o x).2 = 1))) ∧ MemAt w' m g (s.acc 3 who at_ o x).1 ∧ Kept [m, g] w w' := by
  have hmw := hM.ltm
  have hgw := hM.ltg
  have HX := hid hx
  clear hx
  have hM2 : MemAt ((w.alloc (.cells #[.int .u64 o] 25)).alloc (.cells #[.int .u64 x] 25)) m g s := (hM.quiet (below_one _ _)).quiet (below_one _ _)
  have hB1 : Blk ((w.alloc (.cells #[.int .u64 o] 25)).alloc (.cells #[.int .u64 x] 25)) w.heap.size [.int .u64 o] 25 := (Blk.new w [.int .u64 o] 25).alloc _
  have hB2 : Blk ((w.alloc (.cells #[.int .u64 o] 25)).alloc (.cells #[.int .u64 x] 25)) (w.heap.size + 1) [.int .u64 x] 25 := Blk.new_at (w := w.alloc (.cells #[.int .u64 o] 25)) [.int .u64 x] _ (by simp)
  cases h : s.inr at_ with
  | true =>
    by_cases ho : s.word at_ = o
    · have HA := hid (show s.acc 3 who at_ o x = ({ s with ws := s.ws.set at_.toNat x, clock := s.clock + 1, last := ⟨3, who, at_, s.word at_, x, true⟩ }, 1) by unfold St.acc; rw [if_pos h]; simp [ho])
      have H := hid h
      have HO := hid ho
      clear h ho
      have hdec : decide (s.word at_ = o) = true := decide_eq_true HO.out
      have HD := hid hdec
      clear hdec
      go_enter Try.func153, Try.ntmps153
      go_wp2_with fail
      refine (does_in hM2 H.out enters_swap (nv := x) (d := true) (lb := #[.pointer (some ⟨w.heap.size, 0, none⟩), .pointer (some ⟨w.heap.size + 1, 0, none⟩)]) (fun w' hk => by
        have := swap1_run (s.word at_) o x _ _ w' (hB1.kept hk (by simp; omega)) (hB2.kept hk (by simp; omega))
        rw [if_pos HO.out, HD.out] at this; exact this)).mono ?_
      rintro e w1 ⟨⟨r, rfl⟩, hK, cap, spare, h1, h2, hcap⟩
      have c := h1.cell 8
      simp only [headOf, accCells, List.getElem?_cons_zero, List.getElem?_cons_succ] at c
      have hM1 : MemAt w1 m g (s.acc 3 who at_ o x).1 := acc_mem hM HX.out hc hb hcap (by rw [HA.out]; simp only [List.length_set]; exact h1) (by rw [HA.out]; exact h2)
      clear h1 h2 hM2 hB1 hB2
      go_wp2
      go_ret
      exact ⟨by rw [HA.out]; rfl, hM1, ((((Kept.refl [m, g] w).alloc _).alloc _).trans hK (by intro i hi; exact .inl hi))⟩
    · have HA := hid (show s.acc 3 who at_ o x = ({ s with clock := s.clock + 1, last := ⟨3, who, at_, s.word at_, x, false⟩ }, 0) by unfold St.acc; rw [if_pos h]; simp [ho])
      have HS := hid (set_word h)
      have H := hid h
      have HO := hid ho
      have HD := hid (decide_eq_false ho : decide (s.word at_ = o) = false)
      clear h ho
      go_enter Try.func153, Try.ntmps153
      go_wp2_with fail
      refine (does_in hM2 H.out enters_swap (nv := s.word at_) (d := false) (lb := #[.pointer (some ⟨w.heap.size, 0, none⟩), .pointer (some ⟨w.heap.size + 1, 0, none⟩)]) (fun w' hk => by
        have := swap1_run (s.word at_) o x _ _ w' (hB1.kept hk (by simp; omega)) (hB2.kept hk (by simp; omega))
        rw [if_neg HO.out, HD.out] at this; exact this)).mono ?_
      rintro e w1 ⟨⟨r, rfl⟩, hK, cap, spare, h1, h2, hcap⟩
      rw [HS.out] at h2
      have c := h1.cell 8
      simp only [headOf, accCells, List.getElem?_cons_zero, List.getElem?_cons_succ] at c
      have hM1 : MemAt w1 m g (s.acc 3 who at_ o x).1 := acc_mem hM HX.out hc hb hcap (by rw [HA.out]; exact h1) (by rw [HA.out]; exact h2)
      clear h1 h2 hM2 hB1 hB2
      go_wp2
      go_ret
      exact ⟨by rw [HA.out]; rfl, hM1, ((((Kept.refl [m, g] w).alloc _).alloc _).trans hK (by intro i hi; exact .inl hi))⟩
  | false =>
    have HA := hid (show s.acc 3 who at_ o x = ({ s with clock := s.clock + 1, bad := s.bad + 1, last := ⟨3, who, at_, 0, x, false⟩ }, 0) by unfold St.acc; rw [if_neg (by rw [h]; simp)]; simp)
    have H := hid (inr_not h)
    clear h
    go_enter Try.func153, Try.ntmps153
    go_wp2_with fail
    refine (does_bad m g s ⟨3, who, at_, 0, x, false⟩ _ _ hM2 H.out).mono ?_
    rintro e w1 ⟨⟨r, rfl⟩, hK, cap, spare, h1, h2, hcap⟩
    have c := h1.cell 8
    simp only [headOf, accCells, List.getElem?_cons_zero, List.getElem?_cons_succ] at c
    have hM1 : MemAt w1 m g (s.acc 3 who at_ o x).1 := acc_mem hM HX.out hc hb hcap (by rw [HA.out]; exact h1) (by rw [HA.out]; exact h2)
    clear h1 h2 hM2 hB1 hB2
    go_wp2
    go_ret
    exact ⟨by rw [HA.out]; rfl, hM1, ((((Kept.refl [m, g] w).alloc _).alloc _).trans hK (by intro i hi; exact .inl (by simp at hi; simp [hi])))⟩

theorem u64s_get_set (ws : List Int) (i : Nat) (v : Int) (h : i < ws.length) : (u64s (ws.set i v))[i]? = some (.int .u64 v) := by
  rw [u64s_get _ _ (by simpa using h)]; simp
theorem madd_run (m g : Nat) (s : St) (who at_ x : Int) (w : World) (hx : 0 ≤ x ∧ x < 18446744073709551616) (hM : MemAt w m g s) (hc : s.clock < 1000000) (hb : s.bad < 1000000) :
    Calls Try.prog 154 #[.pointer (some ⟨m, 0, none⟩), .int .i64 who, .int .i64 at_, .int .u64 x] w fun e w' => e = .returned (.int .u64 (s.acc 4 who at_ 0 x).2) ∧ MemAt w' m g (s.acc 4 who at_ 0 x).1 ∧ Kept [m, g] w w' := by
  have hmw := hM.ltm
  have hgw := hM.ltg
  have hne := hM.ne
  have HX := hid hx
  clear hx
  cases h : s.inr at_ with
  | true =>
    have HR := hid (word_range hM.wf at_)
    have HA := hid (show s.acc 4 who at_ 0 x = ({ s with ws := s.ws.set at_.toNat ((s.word at_ + x) % 4294967296), clock := s.clock + 1, last := ⟨4, who, at_, s.word at_, (s.word at_ + x) % 4294967296, true⟩ }, (s.word at_ + x) % 4294967296) by unfold St.acc; rw [if_pos h]; simp)
    have H := hid h
    clear h
    obtain ⟨a0, a1, a2, _⟩ := inr_spec H.out
    have HB1 := hid (show at_ < (s.ws.length : Int) by omega)
    clear a2
    obtain ⟨r0, hr0⟩ : ∃ r0, r0 = (s.word at_ + x) % 4294967296 := ⟨_, rfl⟩
    rw [← hr0] at HA
    have HR0 := hid hr0
    clear hr0
    go_enter Try.func154, Try.ntmps154
    go_wp2_with fail
    have hB := Blk.new w [.int .u64 x] 25
    refine (does_in (hM.quiet (below_one _ _)) H.out enters_add (nv := r0) (d := true) (lb := #[.pointer (some ⟨w.heap.size, 0, none⟩)]) (fun w' hk => by
      have := add1_run (s.word at_) x _ w' HR.out.1 HX.out.1 (hB.kept hk (by simp; omega))
      rw [← HR0.out] at this; exact this)).mono ?_
    rintro e w1 ⟨⟨r, rfl⟩, hK, cap, spare, h1, h2, hcap⟩
    have c := h1.cell 8
    have c0 := h1.cell 0
    have c7 := h1.cell 7
    have f7 := h1.frozen 7
    simp only [headOf, accCells, List.getElem?_cons_zero, List.getElem?_cons_succ] at c c0 c7
    have cg := ((h2.cell at_.toNat).trans (List.getElem?_append_left (by simp [u64s]; exact a1))).trans (u64s_get_set s.ws at_.toNat r0 a1)
    have b0 : 0 ≤ at_ := a0
    have b1 := HB1.out
    have hK2 : Kept [m, g] w (w1.setCell ⟨m, 7, none⟩ (.int .u64 r0)) := (((Kept.refl [m, g] w).alloc _).trans hK (by intro i hi; exact .inl hi)).set (.inl (by simp)) _
    have hM1 : MemAt (w1.setCell ⟨m, 7, none⟩ (.int .u64 r0)) m g (s.acc 4 who at_ 0 x).1 := acc_mem hM HX.out hc hb hcap (by rw [HA.out]; exact h1.set 7 (.int .u64 r0)) (by rw [HA.out]; exact h2.far (by simpa using Ne.symm hne) _)
    have HM1 := hid hM1
    have HK2 := hid hK2
    clear h1 h2 a0 a1 hM1 hK2 hM
    go_wp2
    go_ret
    exact ⟨by rw [HA.out]; rfl, HM1.out, HK2.out⟩
  | false =>
    have HA := hid (show s.acc 4 who at_ 0 x = ({ s with clock := s.clock + 1, bad := s.bad + 1, last := ⟨4, who, at_, 0, x, false⟩ }, 0) by unfold St.acc; rw [if_neg (by rw [h]; simp)]; simp)
    have H := hid (inr_not h)
    clear h
    go_enter Try.func154, Try.ntmps154
    go_wp2_with fail
    refine (does_bad m g s ⟨4, who, at_, 0, x, false⟩ _ _ (hM.quiet (below_one _ _)) H.out).mono ?_
    rintro e w1 ⟨⟨r, rfl⟩, hK, cap, spare, h1, h2, hcap⟩
    have c := h1.cell 8
    simp only [headOf, accCells, List.getElem?_cons_zero, List.getElem?_cons_succ] at c
    have hM1 : MemAt w1 m g (s.acc 4 who at_ 0 x).1 := acc_mem hM HX.out hc hb hcap (by rw [HA.out]; exact h1) (by rw [HA.out]; exact h2)
    clear h1 h2
    go_wp2
    go_ret
    exact ⟨by rw [HA.out]; rfl, hM1, (((Kept.refl [m, g] w).alloc _).trans hK (by intro i hi; exact .inl (by simp at hi; simp [hi])))⟩

/-- What is asked of it. -/
def St.peek (s : St) (at_ : Int) : Int × Bool := if s.inr at_ then (s.word at_, true) else (0, false)
theorem mpeek_run (m g : Nat) (s : St) (at_ : Int) (w : World) (hM : MemAt w m g s) :
    Calls Try.prog 42 #[.pointer (some ⟨m, 0, none⟩), .int .i64 at_] w fun e w' => e = .returned (.tuple #[.int .u64 (s.peek at_).1, .bool (s.peek at_).2]) ∧ w = w' := by
  obtain ⟨cap, spare, h1, h2, hcap⟩ := hM.ex
  have c0 := h1.cell 0
  simp only [headOf, List.getElem?_cons_zero, List.getElem?_cons_succ] at c0
  cases h : s.inr at_ with
  | true =>
    have HP := hid (show s.peek at_ = (s.word at_, true) by unfold St.peek; rw [if_pos h])
    obtain ⟨a0, a1, a2, a3⟩ := inr_spec h
    have cg := (h2.cell at_.toNat).trans (List.getElem?_append_left (by simp [u64s]; exact a1))
    rw [u64s_get _ _ a1] at cg
    rw [List.getElem?_eq_getElem a1] at a3
    injection a3 with a3
    rw [a3] at cg
    have d0 : decide (at_ < 0) = false := decide_eq_false (by omega)
    have d1 : decide ((s.ws.length : Int) ≤ at_) = false := decide_eq_false (by omega)
    have b1 : at_ < (s.ws.length : Int) := by omega
    clear h h1 h2 a2 a3 hM
    go_enter Try.func42, Try.ntmps42
    go_wp2
    go_ret2
    exact ⟨by rw [HP.out]; rfl, rfl⟩
  | false =>
    have HP := hid (show s.peek at_ = (0, false) by unfold St.peek; rw [if_neg (by rw [h]; simp)])
    have h' := inr_not h
    clear h h1 h2 hM
    by_cases d0 : at_ < 0
    · clear h'
      go_enter Try.func42, Try.ntmps42
      go_wp2
      go_ret2
      exact ⟨by rw [HP.out]; rfl, rfl⟩
    · have d1 : (s.ws.length : Int) ≤ at_ := by omega
      have d2 : decide (at_ < 0) = false := decide_eq_false d0
      clear h' d0
      go_enter Try.func42, Try.ntmps42
      go_wp2
      go_ret2
      exact ⟨by rw [HP.out]; rfl, rfl⟩
theorem mpeek_nil (at_ : Int) (w : World) :
    Calls Try.prog 42 #[.pointer none, .int .i64 at_] w fun e w' => e = .returned (.tuple #[.int .u64 0, .bool false]) ∧ w = w' := by
  go_enter Try.func42, Try.ntmps42
  go_wp2
  go_ret2
  exact ⟨rfl, rfl⟩
theorem mclock_run (m g : Nat) (s : St) (w : World) (hM : MemAt w m g s) :
    Calls Try.prog 35 #[.pointer (some ⟨m, 0, none⟩)] w fun e w' => e = .returned (.int .i64 s.clock) ∧ w = w' := by
  obtain ⟨cap, spare, h1, h2, hcap⟩ := hM.ex
  have c0 := h1.cell 1
  simp only [headOf, List.getElem?_cons_zero, List.getElem?_cons_succ] at c0
  clear h1 h2 hM
  go_enter Try.func35, Try.ntmps35
  go_wp2
  go_ret
  exact ⟨rfl, rfl⟩
theorem mbad_run (m g : Nat) (s : St) (w : World) (hM : MemAt w m g s) :
    Calls Try.prog 72 #[.pointer (some ⟨m, 0, none⟩)] w fun e w' => e = .returned (.int .i64 s.bad) ∧ w = w' := by
  obtain ⟨cap, spare, h1, h2, hcap⟩ := hM.ex
  have c0 := h1.cell 2
  simp only [headOf, List.getElem?_cons_zero, List.getElem?_cons_succ] at c0
  clear h1 h2 hM
  go_enter Try.func72, Try.ntmps72
  go_wp2
  go_ret
  exact ⟨rfl, rfl⟩
theorem mlast_run (m g : Nat) (s : St) (w : World) (hM : MemAt w m g s) :
    Calls Try.prog 159 #[.pointer (some ⟨m, 0, none⟩)] w fun e w' => e = .returned (.agg (accCells s.last).toArray) ∧ Below w.heap.size w w' := by
  obtain ⟨cap, spare, h1, h2, hcap⟩ := hM.ex
  have c3 := h1.cell 3
  have c4 := h1.cell 4
  have c5 := h1.cell 5
  have c6 := h1.cell 6
  have c7 := h1.cell 7
  have c8 := h1.cell 8
  simp only [headOf, accCells, List.getElem?_cons_zero, List.getElem?_cons_succ] at c3 c4 c5 c6 c7 c8
  have hlt := h1.lt
  clear h1 h2 hM
  go_enter Try.func159, Try.ntmps159
  go_wp2
  exact bodyPost_ret (v := .agg (accCells s.last).toArray) (by simp [results, Try.results159, go_sem, accCells]) rfl ⟨rfl, below_one _ _⟩
theorem mlast_nil (w : World) :
    Calls Try.prog 159 #[.pointer none] w fun e w' => e = .returned (.agg #[.int .i64 0, .int .i64 0, .int .i64 0, .int .u64 0, .int .u64 0, .bool false]) ∧ Below w.heap.size w w' := by
  go_enter Try.func159, Try.ntmps159
  go_wp2
  exact bodyPost_ret (v := .agg #[.int .i64 0, .int .i64 0, .int .i64 0, .int .u64 0, .int .u64 0, .bool false]) (by simp [results, Try.results159, go_sem]) rfl ⟨rfl, below_one _ _⟩
/-- All words, in a slice of the call's own. -/
theorem mwords_run (m g : Nat) (s : St) (w : World) (hM : MemAt w m g s) :
    Calls Try.prog 49 #[.pointer (some ⟨m, 0, none⟩)] w fun e w' => ∃ v b, e = .returned v ∧ w.heap.size ≤ b ∧ Holds w' v b s.ws ∧ Below w.heap.size w w' := by
  obtain ⟨cap, spare, h1, h2, hcap⟩ := hM.ex
  have c0 := h1.cell 0
  simp only [headOf, List.getElem?_cons_zero, List.getElem?_cons_succ] at c0
  have hlen := hM.len
  have HC := hid (show ∀ i (h : i < s.ws.length), w.cell? ((⟨g, 0, none⟩ : Addr).add i) = some (.int .u64 s.ws[i]) by
    intro i hi
    rw [show (⟨g, 0, none⟩ : Addr).add i = ⟨g, i, none⟩ by unfold Addr.add; split <;> simp_all]
    exact ((h2.cell i).trans (List.getElem?_append_left (by simpa [u64s] using hi))).trans (u64s_get s.ws i hi))
  clear h1 h2 hM
  go_enter Try.func49, Try.ntmps49
  go_wp2_with fail
  refine (clone_run ⟨g, 0, none⟩ cap s.ws _ (by omega) HC.out).mono ?_
  rintro e w1 ⟨v, b, rfl, hb, hh, hbl⟩
  go_wp2
  go_ret
  exact ⟨v, b, rfl, hb, hh, hbl⟩
theorem mof_run (ad : Addr) (c : Nat) (xs : List Int) (w : World) (hbig : xs.length ≤ 100000) (hwf : ∀ x ∈ xs, 0 ≤ x ∧ x < 18446744073709551616) (hc : ∀ i (h : i < xs.length), w.cell? (ad.add i) = some (.int .u64 xs[i])) :
    Calls Try.prog 135 #[.slice (some ad) xs.length c] w fun e w' => ∃ m g, e = .returned (.tuple #[.pointer (some ⟨m, 0, none⟩), .int .i64 0]) ∧ w.heap.size ≤ m ∧ w.heap.size ≤ g ∧ MemAt w' m g ⟨xs, 0, 0, ⟨0, 0, 0, 0, 0, false⟩⟩ ∧ Below w.heap.size w w' := by
  have HC := hid hc
  have HW := hid hwf
  have hd : decide ((262144 : Int) < (xs.length : Int)) = false := decide_eq_false (by omega)
  clear hc hwf
  go_enter Try.func135, Try.ntmps135
  go_wp2_with fail
  refine (clone_run ad c xs _ (by omega) HC.out).mono ?_
  rintro e w1 ⟨v, b, rfl, hb, ⟨cap, spare, rfl, hcap, hbb⟩, hbl⟩
  have hblt := hbb.lt
  go_wp2
  go_ret2
  refine ⟨w1.heap.size, b, rfl, hbl.size, hb, ⟨⟨cap, spare, ?_, hbb.alloc _, hcap⟩, by omega, HW.out, by simp only; omega, by simp, by simp⟩, hbl.alloc hbl.size _⟩
  exact Blk.new w1 (headOf b xs.length cap 0 0 ⟨0, 0, 0, 0, 0, false⟩) _
end Go.Proofs.Ytokpgbocomhpiaa.Mem
