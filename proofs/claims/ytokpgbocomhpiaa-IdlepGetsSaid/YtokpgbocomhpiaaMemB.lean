/- Contracts of a memory: load, store, swap, add, and what is asked of it. -/
import Derived.Test.YtokpgbocomhpiaaMem
import Derived.Shelf.Abstract
set_option maxRecDepth 100000
set_option maxHeartbeats 4000000
set_option linter.unusedVariables false
set_option linter.unusedSimpArgs false
namespace Go.Proofs.Ytokpgbocomhpiaa.Mem
open Go.RowKit Go.Shelf Go.Proofs.Ytokpgbocomhpiaa.TK Go.Proofs.Ytokpgbocomhpiaa.Flag Go.Proofs.Ytokpgbocomhpiaa.Words

/-- An access of a kind (others than 2, 3, 4: a load): the state behind it, and what is answered. -/
def St.inr (s : St) (at_ : Int) : Bool := decide (0 ≤ at_ ∧ at_ < s.ws.length)
def St.word (s : St) (at_ : Int) : Int := s.ws.getD at_.toNat 0
def St.acc (s : St) (kind who at_ old w : Int) : St × Int :=
  if s.inr at_ then
    if kind = 2 then ({ s with ws := s.ws.set at_.toNat w, clock := s.clock + 1, last := ⟨2, who, at_, s.word at_, w, true⟩ }, 0)
    else if kind = 3 then
      if s.word at_ = old then ({ s with ws := s.ws.set at_.toNat w, clock := s.clock + 1, last := ⟨3, who, at_, s.word at_, w, true⟩ }, 1)
      else ({ s with clock := s.clock + 1, last := ⟨3, who, at_, s.word at_, w, false⟩ }, 0)
    else if kind = 4 then ({ s with ws := s.ws.set at_.toNat ((s.word at_ + w) % 4294967296), clock := s.clock + 1, last := ⟨4, who, at_, s.word at_, (s.word at_ + w) % 4294967296, true⟩ }, (s.word at_ + w) % 4294967296)
    else ({ s with clock := s.clock + 1, last := ⟨1, who, at_, s.word at_, 0, true⟩ }, s.word at_)
  else ({ s with clock := s.clock + 1, bad := s.bad + 1, last := ⟨if kind = 2 then 2 else if kind = 3 then 3 else if kind = 4 then 4 else 1, who, at_, 0, if kind = 2 ∨ kind = 3 ∨ kind = 4 then w else 0, false⟩ }, 0)
theorem inr_spec {s : St} {at_ : Int} (h : s.inr at_ = true) : 0 ≤ at_ ∧ at_.toNat < s.ws.length ∧ at_ = at_.toNat ∧ s.ws[at_.toNat]? = some (s.word at_) := by
  unfold St.inr at h
  have h' := of_decide_eq_true h
  have hl : at_.toNat < s.ws.length := by omega
  refine ⟨by omega, hl, by omega, ?_⟩
  unfold St.word
  rw [List.getD_eq_getElem?_getD, List.getElem?_eq_getElem hl]; rfl
theorem inr_not {s : St} {at_ : Int} (h : s.inr at_ = false) : at_ < 0 ∨ (s.ws.length : Int) ≤ at_ := by
  unfold St.inr at h
  have h' := of_decide_eq_false h
  omega
theorem word_range {s : St} (hw : ∀ x ∈ s.ws, 0 ≤ x ∧ x < 18446744073709551616) (at_ : Int) : 0 ≤ s.word at_ ∧ s.word at_ < 18446744073709551616 := by
  unfold St.word
  rw [List.getD_eq_getElem?_getD]
  cases h : s.ws[at_.toNat]? with
  | none => simp
  | some x => exact hw x (List.mem_of_getElem? h)
theorem set_word {s : St} {at_ : Int} (h : s.inr at_ = true) : s.ws.set at_.toNat (s.word at_) = s.ws := by
  obtain ⟨_, hl, _, hg⟩ := inr_spec h
  rw [List.getElem?_eq_getElem hl] at hg
  have : s.word at_ = s.ws[at_.toNat] := by simpa using hg.symm
  rw [this, List.set_getElem_self]
theorem wf_set {ws : List Int} (hw : ∀ x ∈ ws, 0 ≤ x ∧ x < 18446744073709551616) (i : Nat) {v : Int} (hv : 0 ≤ v ∧ v < 18446744073709551616) : ∀ x ∈ ws.set i v, 0 ≤ x ∧ x < 18446744073709551616 := by
  intro x hx
  rcases List.mem_or_eq_of_mem_set hx with h | h
  · exact hw x h
  · rw [h]; exact hv
theorem acc_len (s : St) (kind who at_ old w : Int) : (s.acc kind who at_ old w).1.ws.length = s.ws.length := by
  unfold St.acc
  split
  · split
    · simp
    · split
      · split <;> simp
      · split <;> simp
  · rfl
theorem acc_clock (s : St) (kind who at_ old w : Int) : (s.acc kind who at_ old w).1.clock = s.clock + 1 ∧ s.bad ≤ (s.acc kind who at_ old w).1.bad ∧ (s.acc kind who at_ old w).1.bad ≤ s.bad + 1 := by
  unfold St.acc
  (repeat' split) <;> (refine ⟨rfl, ?_, ?_⟩ <;> dsimp only <;> omega)
theorem acc_wf {s : St} (hw : ∀ x ∈ s.ws, 0 ≤ x ∧ x < 18446744073709551616) (kind who at_ old : Int) {w : Int} (h : 0 ≤ w ∧ w < 18446744073709551616) : (∀ x ∈ (s.acc kind who at_ old w).1.ws, 0 ≤ x ∧ x < 18446744073709551616) ∧ 0 ≤ (s.acc kind who at_ old w).2 ∧ (s.acc kind who at_ old w).2 < 18446744073709551616 := by
  have hr := word_range hw at_
  unfold St.acc
  split
  · split
    · exact ⟨wf_set hw _ h, by simp⟩
    · split
      · split
        · exact ⟨wf_set hw _ h, by simp⟩
        · exact ⟨hw, by simp⟩
      · split
        · exact ⟨wf_set hw _ (by omega), by simp only; omega⟩
        · exact ⟨hw, hr⟩
  · exact ⟨hw, by simp⟩
theorem mem_of {w w' : World} {m g : Nat} {s s' : St} {cap : Nat} {spare : List Value} (hM : MemAt w m g s) (h1 : Blk w' m (headOf g s'.ws.length cap s'.clock s'.bad s'.last) 164) (h2 : Blk w' g (u64s s'.ws ++ spare) 25) (hl : s'.ws.length = s.ws.length) (hcap : s.ws.length ≤ cap)
    (hw : ∀ x ∈ s'.ws, 0 ≤ x ∧ x < 18446744073709551616) (hc : s'.clock = s.clock + 1) (hc' : s.clock < 1000000) (hb : s.bad ≤ s'.bad ∧ s'.bad ≤ s.bad + 1) (hb' : s.bad < 1000000) : MemAt w' m g s' :=
  ⟨⟨cap, spare, h1, h2, by omega⟩, hM.ne, hw, by have := hM.len; omega, by have := hM.clock; omega, by have := hM.bad; omega⟩
theorem acc_mem {w w' : World} {m g : Nat} {s : St} {cap : Nat} {spare : List Value} {kind who at_ old nw : Int} (hM : MemAt w m g s) (hnw : 0 ≤ nw ∧ nw < 18446744073709551616) (hc : s.clock < 1000000) (hb : s.bad < 1000000) (hcap : s.ws.length ≤ cap)
    (h1 : Blk w' m (headOf g s.ws.length cap (s.acc kind who at_ old nw).1.clock (s.acc kind who at_ old nw).1.bad (s.acc kind who at_ old nw).1.last) 164) (h2 : Blk w' g (u64s (s.acc kind who at_ old nw).1.ws ++ spare) 25) : MemAt w' m g (s.acc kind who at_ old nw).1 := by
  have hk := acc_clock s kind who at_ old nw
  exact mem_of hM (by rw [acc_len]; exact h1) h2 (acc_len _ _ _ _ _ _) hcap (acc_wf hM.wf kind who at_ old hnw).1 hk.1 hc hk.2 hb

theorem load1_run (v : Int) (w : World) : Calls Try.prog 209 #[.int .u64 v] w fun e w' => e = .returned (.tuple #[.int .u64 v, .bool true]) ∧ w = w' := by
  go_enter Try.func209, Try.ntmps209
  go_wp2
  go_ret2
  exact ⟨rfl, rfl⟩
theorem store1_run (v x : Int) (b : Nat) (w : World) (hb : Blk w b [.int .u64 x] 25) : Calls Try.prog 206 #[.int .u64 v, .pointer (some ⟨b, 0, none⟩)] w fun e w' => e = .returned (.tuple #[.int .u64 x, .bool true]) ∧ w = w' := by
  have c := hb.cell 0
  simp only [List.getElem?_cons_zero] at c
  go_enter Try.func206, Try.ntmps206
  go_wp2
  go_ret2
  exact ⟨rfl, rfl⟩
theorem swap1_run (v o x : Int) (b1 b2 : Nat) (w : World) (hb1 : Blk w b1 [.int .u64 o] 25) (hb2 : Blk w b2 [.int .u64 x] 25) : Calls Try.prog 207 #[.int .u64 v, .pointer (some ⟨b1, 0, none⟩), .pointer (some ⟨b2, 0, none⟩)] w fun e w' => e = .returned (.tuple #[.int .u64 (if v = o then x else v), .bool (decide (v = o))]) ∧ w = w' := by
  have c := hb1.cell 0
  have c2 := hb2.cell 0
  simp only [List.getElem?_cons_zero] at c c2
  by_cases h : v = o
  · have hd : (v != o) = false := by simp [h]
    have HX := hid h
    rw [if_pos h, decide_eq_true h]
    clear h
    go_enter Try.func207, Try.ntmps207
    go_wp2
    go_ret2
    exact ⟨rfl, rfl⟩
  · have hd : (v != o) = true := by simp [h]
    rw [if_neg h, decide_eq_false h]
    clear h
    go_enter Try.func207, Try.ntmps207
    go_wp2
    go_ret2
    exact ⟨rfl, rfl⟩
theorem add_mod (v x : Int) (hv : 0 ≤ v) (hx : 0 ≤ x) : (IntKind.u64.wrap (v.tmod 4294967296 + x.tmod 4294967296)).tmod 4294967296 = (v + x) % 4294967296 := by
  rw [Int.tmod_eq_emod_of_nonneg hv, Int.tmod_eq_emod_of_nonneg hx]
  have : IntKind.u64.wrap (v % 4294967296 + x % 4294967296) = (v % 4294967296 + x % 4294967296) % 18446744073709551616 := rfl
  rw [this, Int.tmod_eq_emod_of_nonneg (by omega)]
  omega
theorem ret_tup {a b : Int} {c : Bool} (h : a = b) : Ending.returned (.tuple #[.int .u64 a, .bool c]) = .returned (.tuple #[.int .u64 b, .bool c]) := by rw [h]
theorem add1_run (v x : Int) (b : Nat) (w : World) (hv : 0 ≤ v) (hx : 0 ≤ x) (hb : Blk w b [.int .u64 x] 25) : Calls Try.prog 208 #[.int .u64 v, .pointer (some ⟨b, 0, none⟩)] w fun e w' => e = .returned (.tuple #[.int .u64 ((v + x) % 4294967296), .bool true]) ∧ w = w' := by
  have c := hb.cell 0
  simp only [List.getElem?_cons_zero] at c
  go_enter Try.func208, Try.ntmps208
  go_wp2
  go_ret2
  exact ⟨ret_tup (by omega), rfl⟩

theorem enters_load : ∀ args w, (callFunc 209 args).run Try.prog w = .ok (.enter 209 args) w := enters_of Try.func209 (by kernel_rfl) rfl
theorem enters_store : ∀ args w, (callFunc 206 args).run Try.prog w = .ok (.enter 206 args) w := enters_of Try.func206 (by kernel_rfl) rfl
theorem enters_swap : ∀ args w, (callFunc 207 args).run Try.prog w = .ok (.enter 207 args) w := enters_of Try.func207 (by kernel_rfl) rfl
theorem enters_add : ∀ args w, (callFunc 208 args).run Try.prog w = .ok (.enter 208 args) w := enters_of Try.func208 (by kernel_rfl) rfl

/-- What an access at one of the memory's own functions leaves, as a law on the state. -/
theorem does_in {kind who at_ nw nv : Int} {d : Bool} {f : Nat} {lb : Array Value} {m g : Nat} {s : St} {w : World} (hM : MemAt w m g s) (h : s.inr at_ = true)
    (eg : ∀ args w, (callFunc f args).run Try.prog w = .ok (.enter f args) w)
    (hdo : ∀ w', Kept [m, g] w w' → Calls Try.prog f (#[.int .u64 (s.word at_)] ++ lb) w' fun e w'' => e = .returned (.tuple #[.int .u64 nv, .bool d]) ∧ w' = w'') :
    Calls Try.prog 205 #[.pointer (some ⟨m, 0, none⟩), .agg #[.int .i64 kind, .int .i64 who, .int .i64 at_, .int .u64 0, .int .u64 nw, .bool false], .func (.func f) #[] lb] w fun e w' => (∃ r, e = .returned r) ∧ Kept [m, g] w w' ∧
      ∃ cap spare, Blk w' m (headOf g s.ws.length cap (s.clock + 1) s.bad ⟨kind, who, at_, s.word at_, nw, d⟩) 164 ∧ Blk w' g (u64s (s.ws.set at_.toNat nv) ++ spare) 25 ∧ s.ws.length ≤ cap :=
  does_run m g at_.toNat s ⟨kind, who, at_, 0, nw, false⟩ f lb nv (s.word at_) d w rfl hM (inr_spec h).2.1 (inr_spec h).2.2.1 eg hdo
theorem mload_run (m g : Nat) (s : St) (who at_ : Int) (w : World) (hM : MemAt w m g s) (hc : s.clock < 1000000) (hb : s.bad < 1000000) :
    Calls Try.prog 155 #[.pointer (some ⟨m, 0, none⟩), .int .i64 who, .int .i64 at_] w fun e w' => e = .returned (.int .u64 (s.acc 1 who at_ 0 0).2) ∧ MemAt w' m g (s.acc 1 who at_ 0 0).1 ∧ Kept [m, g] w w' := by
  cases h : s.inr at_ with
  | true =>
    have HA := hid (show s.acc 1 who at_ 0 0 = ({ s with clock := s.clock + 1, last := ⟨1, who, at_, s.word at_, 0, true⟩ }, s.word at_) by unfold St.acc; rw [if_pos h]; simp)
    have HS := hid (set_word h)
    have H := hid h
    clear h
    go_enter Try.func155, Try.ntmps155
    go_wp2_with fail
    refine (does_in hM H.out enters_load (nv := s.word at_) (d := true) (lb := #[]) (fun w' _ => load1_run _ _)).mono ?_
    rintro e w1 ⟨⟨r, rfl⟩, hK, cap, spare, h1, h2, hcap⟩
    rw [HS.out] at h2
    have c := h1.cell 6
    simp only [headOf, accCells, List.getElem?_cons_zero, List.getElem?_cons_succ] at c
    have hM1 : MemAt w1 m g (s.acc 1 who at_ 0 0).1 := acc_mem hM (by omega) hc hb hcap (by rw [HA.out]; exact h1) (by rw [HA.out]; exact h2)
    clear h1 h2
    go_wp2
    go_ret
    exact ⟨by rw [HA.out]; rfl, hM1, hK⟩
  | false =>
    have HA := hid (show s.acc 1 who at_ 0 0 = ({ s with clock := s.clock + 1, bad := s.bad + 1, last := ⟨1, who, at_, 0, 0, false⟩ }, 0) by unfold St.acc; rw [if_neg (by rw [h]; simp)]; simp)
    have H := hid (inr_not h)
    clear h
    go_enter Try.func155, Try.ntmps155
    go_wp2_with fail
    refine (does_bad m g s ⟨1, who, at_, 0, 0, false⟩ _ _ hM H.out).mono ?_
    rintro e w1 ⟨⟨r, rfl⟩, hK, cap, spare, h1, h2, hcap⟩
    have c := h1.cell 6
    simp only [headOf, accCells, List.getElem?_cons_zero, List.getElem?_cons_succ] at c
    have hM1 : MemAt w1 m g (s.acc 1 who at_ 0 0).1 := acc_mem hM (by omega) hc hb hcap (by rw [HA.out]; exact h1) (by rw [HA.out]; exact h2)
    clear h1 h2
    go_wp2
    go_ret
    exact ⟨by rw [HA.out]; rfl, hM1, hK.mono (by simp)⟩
theorem mload_nil (who at_ : Int) (w : World) : Calls Try.prog 155 #[.pointer none, .int .i64 who, .int .i64 at_] w fun e w' => e = .returned (.int .u64 0) ∧ w = w' := by
  go_enter Try.func155, Try.ntmps155
  go_wp2
  go_ret
  exact ⟨rfl, rfl⟩

theorem mstore_run (m g : Nat) (s : St) (who at_ x : Int) (w : World) (hx : 0 ≤ x ∧ x < 18446744073709551616) (hM : MemAt w m g s) (hc : s.clock < 1000000) (hb : s.bad < 1000000) :
    Calls Try.prog 151 #[.pointer (some ⟨m, 0, none⟩), .int .i64 who, .int .i64 at_, .int .u64 x] w fun e w' => e = .returned (.tuple #[]) ∧ MemAt w' m g (s.acc 2 who at_ 0 x).1 ∧ Kept [m, g] w w' := by
  have hmw := hM.ltm
  have hgw := hM.ltg
  have HX := hid hx
  clear hx
  cases h : s.inr at_ with
  | true =>
    have HA := hid (show s.acc 2 who at_ 0 x = ({ s with ws := s.ws.set at_.toNat x, clock := s.clock + 1, last := ⟨2, who, at_, s.word at_, x, true⟩ }, 0) by unfold St.acc; rw [if_pos h]; simp)
    have H := hid h
    clear h
    go_enter Try.func151, Try.ntmps151
    go_wp2_with fail
    have hB := Blk.new w [.int .u64 x] 25
    refine (does_in (hM.quiet (below_one _ _)) H.out enters_store (nv := x) (d := true) (lb := #[.pointer (some ⟨w.heap.size, 0, none⟩)]) (fun w' hk => store1_run _ _ _ _ (hB.kept hk (by simp; omega)))).mono ?_
    rintro e w1 ⟨⟨r, rfl⟩, hK, cap, spare, h1, h2, hcap⟩
    have hM1 : MemAt w1 m g (s.acc 2 who at_ 0 x).1 := acc_mem hM HX.out hc hb hcap (by rw [HA.out]; simp only [List.length_set]; exact h1) (by rw [HA.out]; exact h2)
    clear h1 h2
    go_wp2
    go_returns
    exact ⟨rfl, hM1, (((Kept.refl [m, g] w).alloc _).trans hK (by intro i hi; exact .inl hi))⟩
  | false =>
    have HA := hid (show s.acc 2 who at_ 0 x = ({ s with clock := s.clock + 1, bad := s.bad + 1, last := ⟨2, who, at_, 0, x, false⟩ }, 0) by unfold St.acc; rw [if_neg (by rw [h]; simp)]; simp)
    have H := hid (inr_not h)
    clear h
    go_enter Try.func151, Try.ntmps151
    go_wp2_with fail
    refine (does_bad m g s ⟨2, who, at_, 0, x, false⟩ _ _ (hM.quiet (below_one _ _)) H.out).mono ?_
    rintro e w1 ⟨⟨r, rfl⟩, hK, cap, spare, h1, h2, hcap⟩
    have hM1 : MemAt w1 m g (s.acc 2 who at_ 0 x).1 := acc_mem hM HX.out hc hb hcap (by rw [HA.out]; exact h1) (by rw [HA.out]; exact h2)
    clear h1 h2
    go_wp2
    go_returns
    exact ⟨rfl, hM1, (((Kept.refl [m, g] w).alloc _).trans hK (by intro i hi; exact .inl (by simp at hi; simp [hi])))⟩
end Go.Proofs.Ytokpgbocomhpiaa.Mem
