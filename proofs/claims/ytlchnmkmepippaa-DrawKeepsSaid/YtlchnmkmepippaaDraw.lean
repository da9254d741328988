/- Contracts of the cursor. -/
import Derived.Test.YtlchnmkmepippaaWords
set_option maxRecDepth 100000
set_option maxHeartbeats 2000000
set_option linter.unusedVariables false
set_option linter.unusedSimpArgs false
namespace Go.Proofs.Ytlchnmkmepippaa.Draw
open Go.RowKit Go.Proofs.Ytlchnmkmepippaa.TK Go.Proofs.Ytlchnmkmepippaa.Flag Go.Proofs.Ytlchnmkmepippaa.Read Go.Proofs.Ytlchnmkmepippaa.Words

/-- A list's word at a place, nought beyond. -/
def wordAt (xs : List Int) (i : Int) : Int := if 0 ≤ i ∧ i < xs.length then xs.getD i.toNat 0 else 0
theorem wordAt_in (xs : List Int) (i : Nat) (h : i < xs.length) : wordAt xs i = xs[i] := by
  unfold wordAt
  rw [if_pos (by omega)]
  simp [List.getD, h]
theorem wordAt_out (xs : List Int) (i : Int) (h : i < 0 ∨ xs.length ≤ i) : wordAt xs i = 0 := if_neg (by omega)

/-- Clone, of whatever slice. -/
theorem clone_any (a : Option Addr) (c : Nat) (xs : List Int) (w : World) (hn : a = none → c = 0) (hbig : xs.length * 8 ≤ 140737488355328) (hr : RowOf (encI .u64) 1 w a xs) :
    Calls Try.prog 76 #[.slice a xs.length c] w fun e w' => ∃ a' cap, e = .returned (.slice a' xs.length cap) ∧ RowOf (encI .u64) 1 w' a' xs ∧ (∀ x, a' = some x → w.heap.size ≤ x.block ∧ x.block < w'.heap.size) ∧ Below w.heap.size w w' := by
  cases a with
  | none =>
    obtain rfl : c = 0 := hn rfl
    have hx : xs = [] := by
      cases xs with
      | nil => rfl
      | cons x xs => obtain ⟨_, h, _⟩ := hr 0 (by simp); cases h
    subst hx
    refine (clone_nil w).mono ?_
    rintro e w' ⟨rfl, rfl⟩
    exact ⟨none, 0, rfl, hr, (fun x h => by cases h), Below.refl _ _⟩
  | some ad =>
    refine (clone_run ad c xs w hbig (fun i hi => by obtain ⟨x, h, hc⟩ := hr.int_at hi; cases h; exact hc)).mono ?_
    rintro e w' ⟨v, g, rfl, hg, hh, hb⟩
    obtain ⟨cap, spare, rfl, hcap, hblk⟩ := hh
    refine ⟨some ⟨g, 0, none⟩, cap, rfl, fun i hi => ⟨_, rfl, fun j v hj => ?_⟩, (fun x h => by cases h; exact ⟨hg, hblk.lt⟩), hb⟩
    have hh' : Holds w' (.slice (some ⟨g, 0, none⟩) xs.length cap) g xs := ⟨cap, spare, rfl, hcap, hblk⟩
    match j, hj with
    | 0, hj =>
      simp only [encI, List.getElem?_cons_zero, Option.some.injEq] at hj
      subst hj
      have := hh'.cell i hi
      simpa [Addr.add] using (by
        have e1 : (⟨g, 0, none⟩ : Addr).add i = ⟨g, i, none⟩ := by unfold Addr.add; split <;> simp_all
        rw [Nat.mul_one, Nat.add_zero, e1]; exact this : w'.cell? ((⟨g, 0, none⟩ : Addr).add (i * 1 + 0)) = some (.int .u64 xs[i]))

/-- A cursor at block c: its list, where it is, how many were told. -/
structure Cur (w : World) (c : Nat) (a : Option Addr) (cap : Nat) (xs : List Int) (at_ told : Int) : Prop where
  blk : Blk w c [.slice a xs.length cap, .int .i64 at_, .int .i64 told] 100
  row : RowOf (encI .u64) 1 w a xs
  ne : ∀ x, a = some x → x.block ≠ c
theorem Cur.quiet {w w' : World} {c : Nat} {a : Option Addr} {cap : Nat} {xs : List Int} {at_ told : Int} (h : Cur w c a cap xs at_ told) (hb : Below w.heap.size w w') : Cur w' c a cap xs at_ told :=
  ⟨h.blk.quiet hb, h.row.quiet hb, h.ne⟩
theorem Cur.kept {w w' : World} {c : Nat} {a : Option Addr} {cap : Nat} {xs : List Int} {at_ told : Int} {S : List Nat} (h : Cur w c a cap xs at_ told) (hk : Kept S w w') (h1 : c ∉ S) (h2 : ∀ x, a = some x → x.block ∉ S) : Cur w' c a cap xs at_ told :=
  ⟨h.blk.kept hk h1, fun i hi => by
    obtain ⟨x, rfl, hc⟩ := h.row i hi
    exact ⟨x, rfl, fun j v hj => hk.cell (hc j v hj) (by simpa using h2 x rfl)⟩, h.ne⟩

theorem at_run (a : Option Addr) (c : Nat) (xs : List Int) (i : Int) (w : World) (hr : RowOf (encI .u64) 1 w a xs) :
    Calls Try.prog 77 #[.slice a xs.length c, .int .i64 i] w fun e w' => e = .returned (.int .u64 (wordAt xs i)) ∧ w = w' := by
  by_cases h : 0 ≤ i ∧ i < xs.length
  · obtain ⟨k, rfl⟩ : ∃ k : Nat, i = k := ⟨i.toNat, by omega⟩
    have hk : k < xs.length := by omega
    obtain ⟨x, rfl, hx⟩ := hr.int_at hk
    have HX := hid (wordAt_in xs k hk)
    clear hr h
    go_enter Try.func77, Try.ntmps77
    go_wp2
    go_ret
    exact ⟨ret_int HX.out.symm, rfl⟩
  · have HX := hid (wordAt_out xs i (by omega))
    by_cases h0 : i < 0
    · go_enter Try.func77, Try.ntmps77
      go_wp2
      go_ret
      exact ⟨ret_int HX.out.symm, rfl⟩
    · have h0' : 0 ≤ i := by omega
      have h1 : (xs.length : Int) ≤ i := by omega
      clear h
      go_enter Try.func77, Try.ntmps77
      go_wp2
      go_ret
      exact ⟨ret_int HX.out.symm, rfl⟩

theorem cnew_run (a : Option Addr) (c : Nat) (xs : List Int) (w : World) (hn : a = none → c = 0) (hbig : xs.length * 8 ≤ 140737488355328) (hr : RowOf (encI .u64) 1 w a xs) :
    Calls Try.prog 39 #[.slice a xs.length c] w fun e w' => ∃ b a' cap, e = .returned (.pointer (some ⟨b, 0, none⟩)) ∧ w.heap.size ≤ b ∧ Cur w' b a' cap xs 0 0 ∧ Below w.heap.size w w' ∧ (∀ x, a' = some x → w.heap.size ≤ x.block ∧ x.block < w'.heap.size) := by
  go_enter Try.func39, Try.ntmps39
  go_wp2_with (first | (go_at_call 76; refine (clone_any a c xs _ hn hbig hr).mono ?_; rintro e w1 ⟨a', cap, rfl, hr1, hlt, hb⟩))
  go_ret
  refine ⟨w1.heap.size, a', cap, rfl, hb.size, ⟨Blk.new w1 [.slice a' xs.length cap, .int .i64 0, .int .i64 0] _, hr1.quiet (below_one _ _), fun x hx => by have := hlt x hx; omega⟩, Below.then_ hb (below_one _ _), fun x hx => by have := hlt x hx; simp; omega⟩

theorem min_two (a b : Int) : (if a ≤ b then a else b) = min a b := by omega
theorem cnext_run (c : Nat) (a : Option Addr) (cap : Nat) (xs : List Int) (at_ told : Int) (w : World) (h : Cur w c a cap xs at_ told) (h0 : 0 ≤ at_) (h1 : at_ ≤ xs.length) (h2 : 0 ≤ told) (h3 : told ≤ 1000000) (h4 : xs.length ≤ 1000000) :
    Calls Try.prog 43 #[.pointer (some ⟨c, 0, none⟩)] w fun e w' => e = .returned (.int .u64 (wordAt xs at_)) ∧ Cur w' c a cap xs (min (at_ + 1) xs.length) (told + 1) ∧ Kept [c] w w' := by
  have hc0 := h.blk.cell 0
  have hc1 := h.blk.cell 1
  have hc2 := h.blk.cell 2
  have hf0 := h.blk.frozen 1
  have hf1 := h.blk.frozen 2
  simp only [List.getElem?_cons_zero, List.getElem?_cons_succ] at hc0 hc1 hc2
  have H := hid h
  have hr := h.row
  clear h
  go_enter Try.func43, Try.ntmps43
  go_wp2
  go_quiet ((go_at_call 77; exact quiet_same (at_run _ _ _ _ _ (hr.quiet (below_drewN (Below.refl _ _) _)))))
  go_wp2
  go_region
  obtain ⟨m, hm⟩ : ∃ m, m = (if (xs.length : Int) < at_ + 1 then (xs.length : Int) else at_ + 1) := ⟨_, rfl⟩
  rw [← hm]
  have hm' := hid (show m = min (at_ + 1) xs.length by rw [hm]; omega)
  clear hm
  go_wp2
  go_ret
  rw [← hm'.out]
  have hb := ((H.out.blk.drewN (nq + 1)).set 1 (.int .i64 m)).set 2 (.int .i64 (told + 1))
  refine ⟨rfl, ⟨hb, ?_, H.out.ne⟩, ((((Kept.refl [c] w).drewN _).set (.inl (by simp)) _).set (.inl (by simp)) _)⟩
  intro i hi
  obtain ⟨x, rfl, hc⟩ := H.out.row i hi
  exact ⟨x, rfl, fun j v hj => cell_set (cell_set (hc j v hj) (by simpa using H.out.ne x rfl)) (by simpa using H.out.ne x rfl)⟩
theorem cnext_nil (w : World) : Calls Try.prog 43 #[.pointer none] w fun e w' => e = .returned (.int .u64 0) ∧ w = w' := by
  go_enter Try.func43, Try.ntmps43
  go_wp2
  go_ret
  exact ⟨rfl, rfl⟩
theorem cbelow_no (p : Option Addr) (n : Int) (w : World) (h : n < 1) : Calls Try.prog 46 #[.pointer p, .int .i64 n] w fun e w' => e = .returned (.int .i64 0) ∧ w = w' := by
  have hd : decide (n < 1) = true := decide_eq_true h
  go_enter Try.func46, Try.ntmps46
  go_wp2
  go_ret
  exact ⟨rfl, rfl⟩
theorem u64_eq (x : Int) : IntKind.u64.wrap x = x % 18446744073709551616 := rfl
def remOf (z n : Int) : Int := wrap64 (z.tmod (IntKind.u64.wrap n))
theorem u64_pos (n : Int) (h : 1 ≤ n) (h' : n ≤ 9223372036854775807) : ¬ IntKind.u64.wrap n = 0 := by
  have hn : IntKind.u64.wrap n = n := by rw [u64_eq]; omega
  rw [hn]; omega
theorem rem_eq (z n : Int) (h0 : 0 ≤ z) (h : 1 ≤ n) (h' : n ≤ 9223372036854775807) : remOf z n = z % n := by
  have hn : IntKind.u64.wrap n = n := by rw [u64_eq]; omega
  have h1 := Int.emod_nonneg z (show n ≠ 0 by omega)
  have h2 := Int.emod_lt_of_pos z (show 0 < n by omega)
  unfold remOf
  rw [hn, Int.tmod_eq_emod_of_nonneg h0]
  unfold wrap64; omega
theorem cbelow_run (c : Nat) (a : Option Addr) (cap : Nat) (xs : List Int) (at_ told n : Int) (w : World) (h : Cur w c a cap xs at_ told) (h0 : 0 ≤ at_) (h1 : at_ ≤ xs.length) (h2 : 0 ≤ told) (h3 : told ≤ 1000000) (h4 : xs.length ≤ 1000000) (hn : 1 ≤ n) (hn' : n ≤ 9223372036854775807) :
    Calls Try.prog 46 #[.pointer (some ⟨c, 0, none⟩), .int .i64 n] w fun e w' => e = .returned (.int .i64 (remOf (wordAt xs at_) n)) ∧ Cur w' c a cap xs (min (at_ + 1) xs.length) (told + 1) ∧ Kept [c] w w' := by
  have hd : decide (n < 1) = false := decide_eq_false (by omega)
  have hz := u64_pos n hn hn'
  clear hn hn'
  go_enter Try.func46, Try.ntmps46
  go_wp2_with (first | (go_at_call 43; refine (cnext_run c a cap xs at_ told _ h h0 h1 h2 h3 h4).mono ?_; rintro e w' ⟨rfl, hC, hK⟩))
  go_ret
  exact ⟨rfl, hC, hK⟩
theorem cleft_run (c : Nat) (a : Option Addr) (cap : Nat) (xs : List Int) (at_ told : Int) (w : World) (h : Cur w c a cap xs at_ told) (h0 : 0 ≤ at_) (h1 : at_ ≤ xs.length) (h4 : xs.length ≤ 1000000) :
    Calls Try.prog 42 #[.pointer (some ⟨c, 0, none⟩)] w fun e w' => e = .returned (.int .i64 (xs.length - at_)) ∧ Below w.heap.size w w' := by
  have hc0 := h.blk.cell 0
  have hc1 := h.blk.cell 1
  simp only [List.getElem?_cons_zero, List.getElem?_cons_succ] at hc0 hc1
  clear h
  go_enter Try.func42, Try.ntmps42
  go_wp2
  repeat (go_quiet (fail); go_wp2)
  go_ret
  exact ⟨rfl, by first | exact Below.refl _ _ | exact below_drewN (Below.refl _ _) _⟩
theorem cleft_nil (w : World) : Calls Try.prog 42 #[.pointer none] w fun e w' => e = .returned (.int .i64 0) ∧ w = w' := by
  go_enter Try.func42, Try.ntmps42
  go_wp2
  go_ret
  exact ⟨rfl, rfl⟩
theorem ctold_run (c : Nat) (a : Option Addr) (cap : Nat) (xs : List Int) (at_ told : Int) (w : World) (h : Cur w c a cap xs at_ told) :
    Calls Try.prog 41 #[.pointer (some ⟨c, 0, none⟩)] w fun e w' => e = .returned (.int .i64 told) ∧ w = w' := by
  have hc2 := h.blk.cell 2
  simp only [List.getElem?_cons_zero, List.getElem?_cons_succ] at hc2
  clear h
  go_enter Try.func41, Try.ntmps41
  go_wp2
  go_ret
  exact ⟨rfl, rfl⟩
theorem ctold_nil (w : World) : Calls Try.prog 41 #[.pointer none] w fun e w' => e = .returned (.int .i64 0) ∧ w = w' := by
  go_enter Try.func41, Try.ntmps41
  go_wp2
  go_ret
  exact ⟨rfl, rfl⟩

def peekOf (xs : List Int) (at_ i : Int) : Int := if i < 0 then 0 else wordAt xs (at_ + i)
theorem cpeek_run (c : Nat) (a : Option Addr) (cap : Nat) (xs : List Int) (at_ told i : Int) (w : World) (h : Cur w c a cap xs at_ told) (h0 : 0 ≤ at_) (h1 : at_ ≤ xs.length) (h4 : xs.length ≤ 1000000) :
    Calls Try.prog 47 #[.pointer (some ⟨c, 0, none⟩), .int .i64 i] w fun e w' => e = .returned (.int .u64 (peekOf xs at_ i)) ∧ Below w.heap.size w w' := by
  have hc0 := h.blk.cell 0
  have hc1 := h.blk.cell 1
  simp only [List.getElem?_cons_zero, List.getElem?_cons_succ] at hc0 hc1
  by_cases hi : i < 0
  · have HX := hid (show peekOf xs at_ i = 0 from if_pos hi)
    go_enter Try.func47, Try.ntmps47
    go_wp2
    go_ret
    exact ⟨ret_int HX.out.symm, Below.refl _ _⟩
  · have hi' : 0 ≤ i := by omega
    by_cases hl : (xs.length : Int) - at_ ≤ i
    · have HX := hid (show peekOf xs at_ i = 0 by unfold peekOf; rw [if_neg hi]; exact wordAt_out _ _ (by omega))
      have hB : Below w.heap.size w w := Below.refl _ _
      have HB := hid hB
      clear hB
      go_enter Try.func47, Try.ntmps47
      go_wp2_with (first | (go_at_call 42; refine (cleft_run c a cap xs at_ told _ h h0 h1 h4).mono ?_; rintro e w' ⟨rfl, hb⟩))
      go_ret
      exact ⟨ret_int HX.out.symm, hb⟩
    · have hl' : i < (xs.length : Int) - at_ := by omega
      have HX := hid (show peekOf xs at_ i = wordAt xs (at_ + i) from if_neg hi)
      go_enter Try.func47, Try.ntmps47
      go_wp2_with (first | (go_at_call 42; refine (cleft_run c a cap xs at_ told _ h h0 h1 h4).mono ?_; rintro e w1 ⟨rfl, hb⟩; have h2 := h.quiet hb; have hr := h2.row; have d0 := h2.blk.cell 0; have d1 := h2.blk.cell 1; simp only [List.getElem?_cons_zero, List.getElem?_cons_succ] at d0 d1))
      have q1 : IntKind.i64.wrap (at_ + i) = at_ + i := wrap_id (by omega)
      go_quiet ((go_at_call 77; exact quiet_same (at_run _ _ _ _ _ (hr.quiet (below_drewN (Below.refl _ _) _)))))
      go_wp2
      go_ret
      exact ⟨ret_int HX.out.symm, below_drewN hb _⟩
theorem cpeek_nil (i : Int) (w : World) : Calls Try.prog 47 #[.pointer none, .int .i64 i] w fun e w' => e = .returned (.int .u64 0) ∧ w = w' := by
  go_enter Try.func47, Try.ntmps47
  go_wp2
  go_ret
  exact ⟨rfl, rfl⟩
theorem cskip_nil (i : Int) (w : World) : Calls Try.prog 40 #[.pointer none, .int .i64 i] w fun e w' => e = .returned (.int .i64 1) ∧ w = w' := by
  go_enter Try.func40, Try.ntmps40
  go_wp2
  go_ret
  exact ⟨rfl, rfl⟩
theorem cskip_no (c : Nat) (a : Option Addr) (cap : Nat) (xs : List Int) (at_ told n : Int) (w : World) (h : Cur w c a cap xs at_ told) (h0 : 0 ≤ at_) (h1 : at_ ≤ xs.length) (h4 : xs.length ≤ 1000000) (hn : n < 0 ∨ (xs.length : Int) - at_ < n) :
    Calls Try.prog 40 #[.pointer (some ⟨c, 0, none⟩), .int .i64 n] w fun e w' => e = .returned (.int .i64 5) ∧ Below w.heap.size w w' := by
  by_cases hi : n < 0
  · clear hn
    go_enter Try.func40, Try.ntmps40
    go_wp2
    go_ret
    exact ⟨rfl, Below.refl _ _⟩
  · have hi' : 0 ≤ n := by omega
    have hl : (xs.length : Int) - at_ < n := by omega
    clear hn hi
    go_enter Try.func40, Try.ntmps40
    go_wp2_with (first | (go_at_call 42; refine (cleft_run c a cap xs at_ told _ h h0 h1 h4).mono ?_; rintro e w1 ⟨rfl, hb⟩))
    go_ret
    exact ⟨rfl, hb⟩
theorem cskip_yes (c : Nat) (a : Option Addr) (cap : Nat) (xs : List Int) (at_ told n : Int) (w : World) (h : Cur w c a cap xs at_ told) (h0 : 0 ≤ at_) (h1 : at_ ≤ xs.length) (h2 : 0 ≤ told) (h3 : told ≤ 1000000) (h4 : xs.length ≤ 1000000) (hn : 0 ≤ n) (hn' : n ≤ (xs.length : Int) - at_) :
    Calls Try.prog 40 #[.pointer (some ⟨c, 0, none⟩), .int .i64 n] w fun e w' => e = .returned (.int .i64 0) ∧ Cur w' c a cap xs (at_ + n) (told + n) ∧ Kept [c] w w' := by
  go_enter Try.func40, Try.ntmps40
  go_wp2_with (first | (go_at_call 42; refine (cleft_run c a cap xs at_ told _ h h0 h1 h4).mono ?_; rintro e w1 ⟨rfl, hb⟩; have H2 := hid (h.quiet hb); have d1 := H2.out.blk.cell 1; have d2 := H2.out.blk.cell 2; have f1 := H2.out.blk.frozen 1; have f2 := H2.out.blk.frozen 2; simp only [List.getElem?_cons_zero, List.getElem?_cons_succ] at d1 d2))
  go_ret
  have hB := (H2.out.blk.set 1 (.int .i64 (at_ + n))).set 2 (.int .i64 (told + n))
  refine ⟨rfl, ⟨hB, ?_, h.ne⟩, (((Kept.of_below hb [c]).set (.inl (by simp)) _).set (.inl (by simp)) _)⟩
  intro i hi
  obtain ⟨x, rfl, hc⟩ := H2.out.row i hi
  exact ⟨x, rfl, fun j v hj => cell_set (cell_set (hc j v hj) (by simpa using h.ne x rfl)) (by simpa using h.ne x rfl)⟩
end Go.Proofs.Ytlchnmkmepippaa.Draw
