/- The document's memory: its accesses. -/
import Derived.Test.YtokpgbocomhpiaaMemC
import Derived.Deep.DeepCutAuto
set_option maxRecDepth 100000
set_option maxHeartbeats 4000000
set_option linter.unusedVariables false
set_option linter.unusedSimpArgs false
namespace Go.Proofs.Ytokpgbocomhpiaa.Mem
open Go.RowKit Go.Shelf Go.Proofs.Ytokpgbocomhpiaa.TK Go.Proofs.Ytokpgbocomhpiaa.Flag Go.Proofs.Ytokpgbocomhpiaa.Words

/-- The document's memory at block m, its words in block g. -/
structure RMemAt (w : World) (m g : Nat) (s : St) : Prop where
  ex : ∃ cap spare, Blk w m (headOf g s.ws.length cap s.clock s.bad s.last) 77 ∧ Blk w g (u64s s.ws ++ spare) 25 ∧ s.ws.length ≤ cap
  ne : m ≠ g
  wf : ∀ x ∈ s.ws, 0 ≤ x ∧ x < 18446744073709551616
  len : s.ws.length ≤ 1000000
  clock : 0 ≤ s.clock ∧ s.clock ≤ 1000000
  bad : 0 ≤ s.bad ∧ s.bad ≤ 1000000
theorem RMemAt.kept {w w' : World} {m g : Nat} {s : St} {S : List Nat} (h : RMemAt w m g s) (hk : Kept S w w') (h1 : m ∉ S) (h2 : g ∉ S) : RMemAt w' m g s := by
  obtain ⟨cap, spare, a, b, c⟩ := h.ex
  exact ⟨⟨cap, spare, a.kept hk h1, b.kept hk h2, c⟩, h.ne, h.wf, h.len, h.clock, h.bad⟩
theorem RMemAt.quiet {w w' : World} {m g : Nat} {s : St} (h : RMemAt w m g s) (hb : Below w.heap.size w w') : RMemAt w' m g s := h.kept (Kept.of_below hb []) (by simp) (by simp)
theorem RMemAt.ltm {w : World} {m g : Nat} {s : St} (h : RMemAt w m g s) : m < w.heap.size := by obtain ⟨_, _, a, _, _⟩ := h.ex; exact a.lt
theorem RMemAt.ltg {w : World} {m g : Nat} {s : St} (h : RMemAt w m g s) : g < w.heap.size := by obtain ⟨_, _, _, a, _⟩ := h.ex; exact a.lt
theorem racc_mem {w w' : World} {m g : Nat} {s : St} {cap : Nat} {spare : List Value} {kind who at_ old nw : Int} (hM : RMemAt w m g s) (hnw : 0 ≤ nw ∧ nw < 18446744073709551616) (hc : s.clock < 1000000) (hb : s.bad < 1000000) (hcap : s.ws.length ≤ cap)
    (h1 : Blk w' m (headOf g s.ws.length cap (s.acc kind who at_ old nw).1.clock (s.acc kind who at_ old nw).1.bad (s.acc kind who at_ old nw).1.last) 77) (h2 : Blk w' g (u64s (s.acc kind who at_ old nw).1.ws ++ spare) 25) : RMemAt w' m g (s.acc kind who at_ old nw).1 := by
  have hk := acc_clock s kind who at_ old nw
  have hl := acc_len s kind who at_ old nw
  exact ⟨⟨cap, spare, by rw [hl]; exact h1, h2, by omega⟩, hM.ne, (acc_wf hM.wf kind who at_ old hnw).1, by have := hM.len; omega, by have := hM.clock; omega, by have := hM.bad; omega⟩
/-- Out of range. -/
theorem rdo_bad (m g : Nat) (s : St) (kind who at_ old x : Int) (w : World) (hk : kind = 1 ∨ kind = 2 ∨ kind = 3 ∨ kind = 4) (h : s.inr at_ = false) (hx : 0 ≤ x ∧ x < 18446744073709551616) (hM : RMemAt w m g s) (hc : s.clock < 1000000) (hb : s.bad < 1000000) :
    Calls Try.prog 152 #[.pointer (some ⟨m, 0, none⟩), .int .i64 kind, .int .i64 who, .int .i64 at_, .int .u64 old, .int .u64 x] w fun e w' => e = .returned (.int .u64 (s.acc kind who at_ old x).2) ∧ RMemAt w' m g (s.acc kind who at_ old x).1 ∧ Kept [m, g] w w' := by
  have HX := hid hx
  have HA := hid (show s.acc kind who at_ old x = ({ s with clock := s.clock + 1, bad := s.bad + 1, last := ⟨kind, who, at_, 0, if kind = 1 then 0 else x, false⟩ }, 0) by
    unfold St.acc; rw [if_neg (by rw [h]; simp)]
    rcases hk with rfl | rfl | rfl | rfl <;> simp)
  have h' := inr_not h
  clear h hx
  (obtain ⟨cap, spare, hm, hg, hcap⟩ := hM.ex); (have hne := hM.ne); (have hne' : g ≠ m := Ne.symm hne); (have hcl := hM.clock); (have hbd := hM.bad); (have hln := hM.len); (have c0 := hm.cell 0); (have c1 := hm.cell 1); (have c2 := hm.cell 2); (have c3 := hm.cell 3); (have c4 := hm.cell 4); (have c5 := hm.cell 5); (have c6 := hm.cell 6); (have c7 := hm.cell 7); (have c8 := hm.cell 8); (have hf := hm.frozen); (simp only [headOf, accCells, List.getElem?_cons_zero, List.getElem?_cons_succ] at c0 c1 c2 c3 c4 c5 c6 c7 c8); (have HM := hid hM); (clear hM)
  by_cases k1 : kind = 1
  · subst k1
    clear hk
    by_cases d0 : at_ < 0
    · clear h'
      go_enter Try.func152, Try.ntmps152
      go_wp2
      go_ret
      exact ⟨by rw [HA.out]; rfl, racc_mem HM.out HX.out hc hb hcap (by rw [HA.out]; exact ((((((((hm.set 1 _).set 3 _).set 4 _).set 5 _).set 6 _).set 7 _).set 8 _).set 7 _).set 2 _) (by rw [HA.out]; exact ((((((((hg.far hne' _).far hne' _).far hne' _).far hne' _).far hne' _).far hne' _).far hne' _).far hne' _).far hne' _), (((((((((Kept.refl _ _).set (.inl (by simp)) _).set (.inl (by simp)) _).set (.inl (by simp)) _).set (.inl (by simp)) _).set (.inl (by simp)) _).set (.inl (by simp)) _).set (.inl (by simp)) _).set (.inl (by simp)) _).set (.inl (by simp)) _⟩
    · have d1 : (s.ws.length : Int) ≤ at_ := by omega
      have d2 : decide (at_ < 0) = false := decide_eq_false d0
      clear h' d0
      go_enter Try.func152, Try.ntmps152
      go_wp2
      go_ret
      exact ⟨by rw [HA.out]; rfl, racc_mem HM.out HX.out hc hb hcap (by rw [HA.out]; exact ((((((((hm.set 1 _).set 3 _).set 4 _).set 5 _).set 6 _).set 7 _).set 8 _).set 7 _).set 2 _) (by rw [HA.out]; exact ((((((((hg.far hne' _).far hne' _).far hne' _).far hne' _).far hne' _).far hne' _).far hne' _).far hne' _).far hne' _), (((((((((Kept.refl _ _).set (.inl (by simp)) _).set (.inl (by simp)) _).set (.inl (by simp)) _).set (.inl (by simp)) _).set (.inl (by simp)) _).set (.inl (by simp)) _).set (.inl (by simp)) _).set (.inl (by simp)) _).set (.inl (by simp)) _⟩
  · have kd : ((kind : Int) == 1) = false := by simp [k1]
    have HK := hid k1
    clear hk k1
    by_cases d0 : at_ < 0
    · clear h'
      go_enter Try.func152, Try.ntmps152
      go_wp2
      go_ret
      exact ⟨by rw [HA.out]; rfl, racc_mem HM.out HX.out hc hb hcap (by rw [HA.out, if_neg HK.out]; exact (((((((hm.set 1 _).set 3 _).set 4 _).set 5 _).set 6 _).set 7 _).set 8 _).set 2 _) (by rw [HA.out]; exact (((((((hg.far hne' _).far hne' _).far hne' _).far hne' _).far hne' _).far hne' _).far hne' _).far hne' _), ((((((((Kept.refl _ _).set (.inl (by simp)) _).set (.inl (by simp)) _).set (.inl (by simp)) _).set (.inl (by simp)) _).set (.inl (by simp)) _).set (.inl (by simp)) _).set (.inl (by simp)) _).set (.inl (by simp)) _⟩
    · have d1 : (s.ws.length : Int) ≤ at_ := by omega
      have d2 : decide (at_ < 0) = false := decide_eq_false d0
      clear h' d0
      go_enter Try.func152, Try.ntmps152
      go_wp2
      go_ret
      exact ⟨by rw [HA.out]; rfl, racc_mem HM.out HX.out hc hb hcap (by rw [HA.out, if_neg HK.out]; exact (((((((hm.set 1 _).set 3 _).set 4 _).set 5 _).set 6 _).set 7 _).set 8 _).set 2 _) (by rw [HA.out]; exact (((((((hg.far hne' _).far hne' _).far hne' _).far hne' _).far hne' _).far hne' _).far hne' _).far hne' _), ((((((((Kept.refl _ _).set (.inl (by simp)) _).set (.inl (by simp)) _).set (.inl (by simp)) _).set (.inl (by simp)) _).set (.inl (by simp)) _).set (.inl (by simp)) _).set (.inl (by simp)) _).set (.inl (by simp)) _⟩

theorem rdo_load (m g : Nat) (s : St) (who at_ old x : Int) (w : World) (h : s.inr at_ = true) (hx : 0 ≤ x ∧ x < 18446744073709551616) (hM : RMemAt w m g s) (hc : s.clock < 1000000) (hb : s.bad < 1000000) :
    Calls Try.prog 152 #[.pointer (some ⟨m, 0, none⟩), .int .i64 1, .int .i64 who, .int .i64 at_, .int .u64 old, .int .u64 x] w fun e w' => e = .returned (.int .u64 (s.acc 1 who at_ old x).2) ∧ RMemAt w' m g (s.acc 1 who at_ old x).1 ∧ Kept [m, g] w w' := by
  have HA := hid (show s.acc 1 who at_ old x = ({ s with clock := s.clock + 1, last := ⟨1, who, at_, s.word at_, 0, true⟩ }, s.word at_) by unfold St.acc; rw [if_pos h]; simp)
  (have HX := hid hx); (have hs := hid (inr_spec h)); (have H := hid h); (obtain ⟨b0, b1⟩ := (show 0 ≤ at_ ∧ at_ < (s.ws.length : Int) by have h2 := inr_spec h; omega)); (clear h hx); (obtain ⟨cap, spare, hm, hg, hcap⟩ := hM.ex); (have hne := hM.ne); (have hne' : g ≠ m := Ne.symm hne); (have hcl := hM.clock); (have hbd := hM.bad); (have hln := hM.len); (have c0 := hm.cell 0); (have c1 := hm.cell 1); (have c2 := hm.cell 2); (have c3 := hm.cell 3); (have c4 := hm.cell 4); (have c5 := hm.cell 5); (have c6 := hm.cell 6); (have c7 := hm.cell 7); (have c8 := hm.cell 8); (have hf := hm.frozen); (simp only [headOf, accCells, List.getElem?_cons_zero, List.getElem?_cons_succ] at c0 c1 c2 c3 c4 c5 c6 c7 c8); (have HM := hid hM); (clear hM); (have cg := ((hg.cell at_.toNat).trans (List.getElem?_append_left (by rw [u64s_length]; exact hs.out.2.1)))); (rw [u64s_get _ _ hs.out.2.1] at cg); (have hw0 : s.ws[at_.toNat]'(hs.out.2.1) = s.word at_ := by have := hs.out.2.2.2; rw [List.getElem?_eq_getElem hs.out.2.1] at this; simpa using this); (rw [hw0] at cg); (have hfg := hg.frozen at_.toNat); (have d0 : decide (at_ < 0) = false := decide_eq_false (by omega)); (have d1 : decide ((s.ws.length : Int) ≤ at_) = false := decide_eq_false (by omega)); (clear hw0); (obtain ⟨v, hv⟩ : ∃ v, v = s.word at_ := ⟨_, rfl⟩); (rw [← hv] at cg); (have HV := hid hv); (clear hv)
  rw [← HV.out] at HA
  go_enter Try.func152, Try.ntmps152
  go_wp2
  go_ret
  have B := ((((((((((hm.set 1 (.int .i64 (s.clock + 1))).set 3 (.int .i64 1)).set 4 (.int .i64 who)).set 5 (.int .i64 at_)).set 6 (.int .u64 0)).set 7 (.int .u64 x)).set 8 (.bool false)).set 7 (.int .u64 0)).set 6 (.int .u64 v)).set 8 (.bool true))
  have G := ((((((((((hg.far (p := ⟨m, 1, none⟩) hne' (.int .i64 (s.clock + 1))).far (p := ⟨m, 3, none⟩) hne' (.int .i64 1)).far (p := ⟨m, 4, none⟩) hne' (.int .i64 who)).far (p := ⟨m, 5, none⟩) hne' (.int .i64 at_)).far (p := ⟨m, 6, none⟩) hne' (.int .u64 0)).far (p := ⟨m, 7, none⟩) hne' (.int .u64 x)).far (p := ⟨m, 8, none⟩) hne' (.bool false)).far (p := ⟨m, 7, none⟩) hne' (.int .u64 0)).far (p := ⟨m, 6, none⟩) hne' (.int .u64 v)).far (p := ⟨m, 8, none⟩) hne' (.bool true))
  have K := ((((((((((((((((((((Kept.refl [m, g] w).set (p := ⟨m, 1, none⟩) (.inl (by simp)) (.int .i64 (s.clock + 1)))).set (p := ⟨m, 3, none⟩) (.inl (by simp)) (.int .i64 1))).set (p := ⟨m, 4, none⟩) (.inl (by simp)) (.int .i64 who))).set (p := ⟨m, 5, none⟩) (.inl (by simp)) (.int .i64 at_))).set (p := ⟨m, 6, none⟩) (.inl (by simp)) (.int .u64 0))).set (p := ⟨m, 7, none⟩) (.inl (by simp)) (.int .u64 x))).set (p := ⟨m, 8, none⟩) (.inl (by simp)) (.bool false))).set (p := ⟨m, 7, none⟩) (.inl (by simp)) (.int .u64 0))).set (p := ⟨m, 6, none⟩) (.inl (by simp)) (.int .u64 v))).set (p := ⟨m, 8, none⟩) (.inl (by simp)) (.bool true))
  exact ⟨by rw [HA.out]; rfl, racc_mem HM.out HX.out hc hb hcap (by rw [HA.out]; exact B) (by rw [HA.out]; exact G), K⟩
theorem rdo_store (m g : Nat) (s : St) (who at_ old x : Int) (w : World) (h : s.inr at_ = true) (hx : 0 ≤ x ∧ x < 18446744073709551616) (hM : RMemAt w m g s) (hc : s.clock < 1000000) (hb : s.bad < 1000000) :
    Calls Try.prog 152 #[.pointer (some ⟨m, 0, none⟩), .int .i64 2, .int .i64 who, .int .i64 at_, .int .u64 old, .int .u64 x] w fun e w' => e = .returned (.int .u64 (s.acc 2 who at_ old x).2) ∧ RMemAt w' m g (s.acc 2 who at_ old x).1 ∧ Kept [m, g] w w' := by
  have HA := hid (show s.acc 2 who at_ old x = ({ s with ws := s.ws.set at_.toNat x, clock := s.clock + 1, last := ⟨2, who, at_, s.word at_, x, true⟩ }, 0) by unfold St.acc; rw [if_pos h]; simp)
  (have HX := hid hx); (have hs := hid (inr_spec h)); (have H := hid h); (obtain ⟨b0, b1⟩ := (show 0 ≤ at_ ∧ at_ < (s.ws.length : Int) by have h2 := inr_spec h; omega)); (clear h hx); (obtain ⟨cap, spare, hm, hg, hcap⟩ := hM.ex); (have hne := hM.ne); (have hne' : g ≠ m := Ne.symm hne); (have hcl := hM.clock); (have hbd := hM.bad); (have hln := hM.len); (have c0 := hm.cell 0); (have c1 := hm.cell 1); (have c2 := hm.cell 2); (have c3 := hm.cell 3); (have c4 := hm.cell 4); (have c5 := hm.cell 5); (have c6 := hm.cell 6); (have c7 := hm.cell 7); (have c8 := hm.cell 8); (have hf := hm.frozen); (simp only [headOf, accCells, List.getElem?_cons_zero, List.getElem?_cons_succ] at c0 c1 c2 c3 c4 c5 c6 c7 c8); (have HM := hid hM); (clear hM); (have cg := ((hg.cell at_.toNat).trans (List.getElem?_append_left (by rw [u64s_length]; exact hs.out.2.1)))); (rw [u64s_get _ _ hs.out.2.1] at cg); (have hw0 : s.ws[at_.toNat]'(hs.out.2.1) = s.word at_ := by have := hs.out.2.2.2; rw [List.getElem?_eq_getElem hs.out.2.1] at this; simpa using this); (rw [hw0] at cg); (have hfg := hg.frozen at_.toNat); (have d0 : decide (at_ < 0) = false := decide_eq_false (by omega)); (have d1 : decide ((s.ws.length : Int) ≤ at_) = false := decide_eq_false (by omega)); (clear hw0); (obtain ⟨v, hv⟩ : ∃ v, v = s.word at_ := ⟨_, rfl⟩); (rw [← hv] at cg); (have HV := hid hv); (clear hv)
  rw [← HV.out] at HA
  go_enter Try.func152, Try.ntmps152
  go_upto_region 17 with fail
  have B := (((((((((hm.set 1 (.int .i64 (s.clock + 1))).set 3 (.int .i64 2)).set 4 (.int .i64 who)).set 5 (.int .i64 at_)).set 6 (.int .u64 0)).set 7 (.int .u64 x)).set 8 (.bool false)).set 6 (.int .u64 v)).set 8 (.bool true))
  have G := (((((((((hg.far (p := ⟨m, 1, none⟩) hne' (.int .i64 (s.clock + 1))).far (p := ⟨m, 3, none⟩) hne' (.int .i64 2)).far (p := ⟨m, 4, none⟩) hne' (.int .i64 who)).far (p := ⟨m, 5, none⟩) hne' (.int .i64 at_)).far (p := ⟨m, 6, none⟩) hne' (.int .u64 0)).far (p := ⟨m, 7, none⟩) hne' (.int .u64 x)).far (p := ⟨m, 8, none⟩) hne' (.bool false)).far (p := ⟨m, 6, none⟩) hne' (.int .u64 v)).far (p := ⟨m, 8, none⟩) hne' (.bool true))
  have K := ((((((((((((((((((Kept.refl [m, g] w).set (p := ⟨m, 1, none⟩) (.inl (by simp)) (.int .i64 (s.clock + 1)))).set (p := ⟨m, 3, none⟩) (.inl (by simp)) (.int .i64 2))).set (p := ⟨m, 4, none⟩) (.inl (by simp)) (.int .i64 who))).set (p := ⟨m, 5, none⟩) (.inl (by simp)) (.int .i64 at_))).set (p := ⟨m, 6, none⟩) (.inl (by simp)) (.int .u64 0))).set (p := ⟨m, 7, none⟩) (.inl (by simp)) (.int .u64 x))).set (p := ⟨m, 8, none⟩) (.inl (by simp)) (.bool false))).set (p := ⟨m, 6, none⟩) (.inl (by simp)) (.int .u64 v))).set (p := ⟨m, 8, none⟩) (.inl (by simp)) (.bool true))
  obtain ⟨W1, hW1⟩ : ∃ W1, W1 = (((((((((w.setCell ⟨m, 1, none⟩ (.int .i64 (s.clock + 1))).setCell ⟨m, 3, none⟩ (.int .i64 2)).setCell ⟨m, 4, none⟩ (.int .i64 who)).setCell ⟨m, 5, none⟩ (.int .i64 at_)).setCell ⟨m, 6, none⟩ (.int .u64 0)).setCell ⟨m, 7, none⟩ (.int .u64 x)).setCell ⟨m, 8, none⟩ (.bool false)).setCell ⟨m, 6, none⟩ (.int .u64 v)).setCell ⟨m, 8, none⟩ (.bool true)) := ⟨_, rfl⟩
  rw [← hW1] at B G K ⊢
  clear hW1 c0 c1 c2 c3 c4 c5 c6 c7 c8 hf hm hg cg hfg
  have c0 := B.cell 0
  have c8 := B.cell 8
  simp only [headOf, accCells, List.set_cons_zero, List.set_cons_succ, List.getElem?_cons_zero, List.getElem?_cons_succ] at c0 c8
  have cg := ((G.cell at_.toNat).trans (List.getElem?_append_left (by rw [u64s_length]; exact hs.out.2.1))).trans (u64s_get _ _ hs.out.2.1)
  have fg := G.frozen at_.toNat
  go_wp2
  go_ret
  have B2 := B.far (p := ⟨g, at_.toNat, none⟩) hne (.int .u64 x)
  have G2 := G.set at_.toNat (.int .u64 x)
  rw [u64s_set' _ _ _ _ hs.out.2.1] at G2
  exact ⟨by rw [HA.out]; rfl, racc_mem HM.out HX.out hc hb hcap (by rw [HA.out]; exact B2) (by rw [HA.out]; exact G2), K.set (.inl (by simp)) _⟩
theorem rdo_swap (m g : Nat) (s : St) (who at_ old x : Int) (w : World) (h : s.inr at_ = true) (hx : 0 ≤ x ∧ x < 18446744073709551616) (hM : RMemAt w m g s) (hc : s.clock < 1000000) (hb : s.bad < 1000000) :
    Calls Try.prog 152 #[.pointer (some ⟨m, 0, none⟩), .int .i64 3, .int .i64 who, .int .i64 at_, .int .u64 old, .int .u64 x] w fun e w' => e = .returned (.int .u64 (s.acc 3 who at_ old x).2) ∧ RMemAt w' m g (s.acc 3 who at_ old x).1 ∧ Kept [m, g] w w' := by
  by_cases ho : s.word at_ = old
  · have HA := hid (show s.acc 3 who at_ old x = ({ s with ws := s.ws.set at_.toNat x, clock := s.clock + 1, last := ⟨3, who, at_, s.word at_, x, true⟩ }, 1) by unfold St.acc; rw [if_pos h]; simp [ho])
    have ho' : ((s.word at_ : Int) == old) = true := by simpa using ho
    clear ho
    (have HX := hid hx); (have hs := hid (inr_spec h)); (have H := hid h); (obtain ⟨b0, b1⟩ := (show 0 ≤ at_ ∧ at_ < (s.ws.length : Int) by have h2 := inr_spec h; omega)); (clear h hx); (obtain ⟨cap, spare, hm, hg, hcap⟩ := hM.ex); (have hne := hM.ne); (have hne' : g ≠ m := Ne.symm hne); (have hcl := hM.clock); (have hbd := hM.bad); (have hln := hM.len); (have c0 := hm.cell 0); (have c1 := hm.cell 1); (have c2 := hm.cell 2); (have c3 := hm.cell 3); (have c4 := hm.cell 4); (have c5 := hm.cell 5); (have c6 := hm.cell 6); (have c7 := hm.cell 7); (have c8 := hm.cell 8); (have hf := hm.frozen); (simp only [headOf, accCells, List.getElem?_cons_zero, List.getElem?_cons_succ] at c0 c1 c2 c3 c4 c5 c6 c7 c8); (have HM := hid hM); (clear hM); (have cg := ((hg.cell at_.toNat).trans (List.getElem?_append_left (by rw [u64s_length]; exact hs.out.2.1)))); (rw [u64s_get _ _ hs.out.2.1] at cg); (have hw0 : s.ws[at_.toNat]'(hs.out.2.1) = s.word at_ := by have := hs.out.2.2.2; rw [List.getElem?_eq_getElem hs.out.2.1] at this; simpa using this); (rw [hw0] at cg); (have hfg := hg.frozen at_.toNat); (have d0 : decide (at_ < 0) = false := decide_eq_false (by omega)); (have d1 : decide ((s.ws.length : Int) ≤ at_) = false := decide_eq_false (by omega)); (clear hw0); (obtain ⟨v, hv⟩ : ∃ v, v = s.word at_ := ⟨_, rfl⟩); (rw [← hv] at cg); (have HV := hid hv); (clear hv)
    rw [← HV.out] at HA ho'
    go_enter Try.func152, Try.ntmps152
    go_upto_region 17 with fail
    have B := (((((((((hm.set 1 (.int .i64 (s.clock + 1))).set 3 (.int .i64 3)).set 4 (.int .i64 who)).set 5 (.int .i64 at_)).set 6 (.int .u64 0)).set 7 (.int .u64 x)).set 8 (.bool false)).set 6 (.int .u64 v)).set 8 (.bool true))
    have G := (((((((((hg.far (p := ⟨m, 1, none⟩) hne' (.int .i64 (s.clock + 1))).far (p := ⟨m, 3, none⟩) hne' (.int .i64 3)).far (p := ⟨m, 4, none⟩) hne' (.int .i64 who)).far (p := ⟨m, 5, none⟩) hne' (.int .i64 at_)).far (p := ⟨m, 6, none⟩) hne' (.int .u64 0)).far (p := ⟨m, 7, none⟩) hne' (.int .u64 x)).far (p := ⟨m, 8, none⟩) hne' (.bool false)).far (p := ⟨m, 6, none⟩) hne' (.int .u64 v)).far (p := ⟨m, 8, none⟩) hne' (.bool true))
    have K := ((((((((((((((((((Kept.refl [m, g] w).set (p := ⟨m, 1, none⟩) (.inl (by simp)) (.int .i64 (s.clock + 1)))).set (p := ⟨m, 3, none⟩) (.inl (by simp)) (.int .i64 3))).set (p := ⟨m, 4, none⟩) (.inl (by simp)) (.int .i64 who))).set (p := ⟨m, 5, none⟩) (.inl (by simp)) (.int .i64 at_))).set (p := ⟨m, 6, none⟩) (.inl (by simp)) (.int .u64 0))).set (p := ⟨m, 7, none⟩) (.inl (by simp)) (.int .u64 x))).set (p := ⟨m, 8, none⟩) (.inl (by simp)) (.bool false))).set (p := ⟨m, 6, none⟩) (.inl (by simp)) (.int .u64 v))).set (p := ⟨m, 8, none⟩) (.inl (by simp)) (.bool true))
    obtain ⟨W1, hW1⟩ : ∃ W1, W1 = (((((((((w.setCell ⟨m, 1, none⟩ (.int .i64 (s.clock + 1))).setCell ⟨m, 3, none⟩ (.int .i64 3)).setCell ⟨m, 4, none⟩ (.int .i64 who)).setCell ⟨m, 5, none⟩ (.int .i64 at_)).setCell ⟨m, 6, none⟩ (.int .u64 0)).setCell ⟨m, 7, none⟩ (.int .u64 x)).setCell ⟨m, 8, none⟩ (.bool false)).setCell ⟨m, 6, none⟩ (.int .u64 v)).setCell ⟨m, 8, none⟩ (.bool true)) := ⟨_, rfl⟩
    rw [← hW1] at B G K ⊢
    clear hW1 c0 c1 c2 c3 c4 c5 c6 c7 c8 hf hm hg cg hfg
    have c0 := B.cell 0
    have c8 := B.cell 8
    simp only [headOf, accCells, List.set_cons_zero, List.set_cons_succ, List.getElem?_cons_zero, List.getElem?_cons_succ] at c0 c8
    have cg := ((G.cell at_.toNat).trans (List.getElem?_append_left (by rw [u64s_length]; exact hs.out.2.1))).trans (u64s_get _ _ hs.out.2.1)
    have fg := G.frozen at_.toNat
    go_wp2
    go_ret
    have B2 := B.far (p := ⟨g, at_.toNat, none⟩) hne (.int .u64 x)
    have G2 := G.set at_.toNat (.int .u64 x)
    rw [u64s_set' _ _ _ _ hs.out.2.1] at G2
    exact ⟨by rw [HA.out]; rfl, racc_mem HM.out HX.out hc hb hcap (by rw [HA.out]; exact B2) (by rw [HA.out]; exact G2), K.set (.inl (by simp)) _⟩
  · have HA := hid (show s.acc 3 who at_ old x = ({ s with clock := s.clock + 1, last := ⟨3, who, at_, s.word at_, x, false⟩ }, 0) by unfold St.acc; rw [if_pos h]; simp [ho])
    have ho' : ((s.word at_ : Int) == old) = false := by simpa using ho
    clear ho
    (have HX := hid hx); (have hs := hid (inr_spec h)); (have H := hid h); (obtain ⟨b0, b1⟩ := (show 0 ≤ at_ ∧ at_ < (s.ws.length : Int) by have h2 := inr_spec h; omega)); (clear h hx); (obtain ⟨cap, spare, hm, hg, hcap⟩ := hM.ex); (have hne := hM.ne); (have hne' : g ≠ m := Ne.symm hne); (have hcl := hM.clock); (have hbd := hM.bad); (have hln := hM.len); (have c0 := hm.cell 0); (have c1 := hm.cell 1); (have c2 := hm.cell 2); (have c3 := hm.cell 3); (have c4 := hm.cell 4); (have c5 := hm.cell 5); (have c6 := hm.cell 6); (have c7 := hm.cell 7); (have c8 := hm.cell 8); (have hf := hm.frozen); (simp only [headOf, accCells, List.getElem?_cons_zero, List.getElem?_cons_succ] at c0 c1 c2 c3 c4 c5 c6 c7 c8); (have HM := hid hM); (clear hM); (have cg := ((hg.cell at_.toNat).trans (List.getElem?_append_left (by rw [u64s_length]; exact hs.out.2.1)))); (rw [u64s_get _ _ hs.out.2.1] at cg); (have hw0 : s.ws[at_.toNat]'(hs.out.2.1) = s.word at_ := by have := hs.out.2.2.2; rw [List.getElem?_eq_getElem hs.out.2.1] at this; simpa using this); (rw [hw0] at cg); (have hfg := hg.frozen at_.toNat); (have d0 : decide (at_ < 0) = false := decide_eq_false (by omega)); (have d1 : decide ((s.ws.length : Int) ≤ at_) = false := decide_eq_false (by omega)); (clear hw0); (obtain ⟨v, hv⟩ : ∃ v, v = s.word at_ := ⟨_, rfl⟩); (rw [← hv] at cg); (have HV := hid hv); (clear hv)
    rw [← HV.out] at HA ho'
    go_enter Try.func152, Try.ntmps152
    go_upto_region 17 with fail
    have B := (((((((((hm.set 1 (.int .i64 (s.clock + 1))).set 3 (.int .i64 3)).set 4 (.int .i64 who)).set 5 (.int .i64 at_)).set 6 (.int .u64 0)).set 7 (.int .u64 x)).set 8 (.bool false)).set 6 (.int .u64 v)).set 8 (.bool false))
    have G := (((((((((hg.far (p := ⟨m, 1, none⟩) hne' (.int .i64 (s.clock + 1))).far (p := ⟨m, 3, none⟩) hne' (.int .i64 3)).far (p := ⟨m, 4, none⟩) hne' (.int .i64 who)).far (p := ⟨m, 5, none⟩) hne' (.int .i64 at_)).far (p := ⟨m, 6, none⟩) hne' (.int .u64 0)).far (p := ⟨m, 7, none⟩) hne' (.int .u64 x)).far (p := ⟨m, 8, none⟩) hne' (.bool false)).far (p := ⟨m, 6, none⟩) hne' (.int .u64 v)).far (p := ⟨m, 8, none⟩) hne' (.bool false))
    have K := ((((((((((((((((((Kept.refl [m, g] w).set (p := ⟨m, 1, none⟩) (.inl (by simp)) (.int .i64 (s.clock + 1)))).set (p := ⟨m, 3, none⟩) (.inl (by simp)) (.int .i64 3))).set (p := ⟨m, 4, none⟩) (.inl (by simp)) (.int .i64 who))).set (p := ⟨m, 5, none⟩) (.inl (by simp)) (.int .i64 at_))).set (p := ⟨m, 6, none⟩) (.inl (by simp)) (.int .u64 0))).set (p := ⟨m, 7, none⟩) (.inl (by simp)) (.int .u64 x))).set (p := ⟨m, 8, none⟩) (.inl (by simp)) (.bool false))).set (p := ⟨m, 6, none⟩) (.inl (by simp)) (.int .u64 v))).set (p := ⟨m, 8, none⟩) (.inl (by simp)) (.bool false))
    obtain ⟨W1, hW1⟩ : ∃ W1, W1 = (((((((((w.setCell ⟨m, 1, none⟩ (.int .i64 (s.clock + 1))).setCell ⟨m, 3, none⟩ (.int .i64 3)).setCell ⟨m, 4, none⟩ (.int .i64 who)).setCell ⟨m, 5, none⟩ (.int .i64 at_)).setCell ⟨m, 6, none⟩ (.int .u64 0)).setCell ⟨m, 7, none⟩ (.int .u64 x)).setCell ⟨m, 8, none⟩ (.bool false)).setCell ⟨m, 6, none⟩ (.int .u64 v)).setCell ⟨m, 8, none⟩ (.bool false)) := ⟨_, rfl⟩
    rw [← hW1] at B G K ⊢
    clear hW1 c0 c1 c2 c3 c4 c5 c6 c7 c8 hf hm hg cg hfg
    have c0 := B.cell 0
    have c8 := B.cell 8
    simp only [headOf, accCells, List.set_cons_zero, List.set_cons_succ, List.getElem?_cons_zero, List.getElem?_cons_succ] at c0 c8
    go_wp2
    go_ret
    exact ⟨by rw [HA.out]; rfl, racc_mem HM.out HX.out hc hb hcap (by rw [HA.out]; exact B) (by rw [HA.out]; exact G), K⟩
theorem rdo_add (m g : Nat) (s : St) (who at_ old x : Int) (w : World) (h : s.inr at_ = true) (hx : 0 ≤ x ∧ x < 18446744073709551616) (hM : RMemAt w m g s) (hc : s.clock < 1000000) (hb : s.bad < 1000000) :
    Calls Try.prog 152 #[.pointer (some ⟨m, 0, none⟩), .int .i64 4, .int .i64 who, .int .i64 at_, .int .u64 old, .int .u64 x] w fun e w' => e = .returned (.int .u64 (s.acc 4 who at_ old x).2) ∧ RMemAt w' m g (s.acc 4 who at_ old x).1 ∧ Kept [m, g] w w' := by
  have HA := hid (show s.acc 4 who at_ old x = ({ s with ws := s.ws.set at_.toNat ((s.word at_ + x) % 4294967296), clock := s.clock + 1, last := ⟨4, who, at_, s.word at_, (s.word at_ + x) % 4294967296, true⟩ }, (s.word at_ + x) % 4294967296) by unfold St.acc; rw [if_pos h]; simp)
  have hwr := word_range hM.wf at_
  obtain ⟨r0, hr0⟩ : ∃ r0, r0 = (s.word at_ + x) % 4294967296 := ⟨_, rfl⟩
  rw [← hr0] at HA
  have hadd : (IntKind.u64.wrap (s.word at_ + x)).tmod 4294967296 = r0 := by
    have : IntKind.u64.wrap (s.word at_ + x) = (s.word at_ + x) % 18446744073709551616 := rfl
    rw [this, Int.tmod_eq_emod_of_nonneg (by omega), hr0]; omega
  clear hr0 hwr
  (have HX := hid hx); (have hs := hid (inr_spec h)); (have H := hid h); (obtain ⟨b0, b1⟩ := (show 0 ≤ at_ ∧ at_ < (s.ws.length : Int) by have h2 := inr_spec h; omega)); (clear h hx); (obtain ⟨cap, spare, hm, hg, hcap⟩ := hM.ex); (have hne := hM.ne); (have hne' : g ≠ m := Ne.symm hne); (have hcl := hM.clock); (have hbd := hM.bad); (have hln := hM.len); (have c0 := hm.cell 0); (have c1 := hm.cell 1); (have c2 := hm.cell 2); (have c3 := hm.cell 3); (have c4 := hm.cell 4); (have c5 := hm.cell 5); (have c6 := hm.cell 6); (have c7 := hm.cell 7); (have c8 := hm.cell 8); (have hf := hm.frozen); (simp only [headOf, accCells, List.getElem?_cons_zero, List.getElem?_cons_succ] at c0 c1 c2 c3 c4 c5 c6 c7 c8); (have HM := hid hM); (clear hM); (have cg := ((hg.cell at_.toNat).trans (List.getElem?_append_left (by rw [u64s_length]; exact hs.out.2.1)))); (rw [u64s_get _ _ hs.out.2.1] at cg); (have hw0 : s.ws[at_.toNat]'(hs.out.2.1) = s.word at_ := by have := hs.out.2.2.2; rw [List.getElem?_eq_getElem hs.out.2.1] at this; simpa using this); (rw [hw0] at cg); (have hfg := hg.frozen at_.toNat); (have d0 : decide (at_ < 0) = false := decide_eq_false (by omega)); (have d1 : decide ((s.ws.length : Int) ≤ at_) = false := decide_eq_false (by omega)); (clear hw0); (obtain ⟨v, hv⟩ : ∃ v, v = s.word at_ := ⟨_, rfl⟩); (rw [← hv] at cg); (have HV := hid hv); (clear hv)
  rw [← HV.out] at HA hadd
  go_enter Try.func152, Try.ntmps152
  go_wp2
  go_ret
  have B := (((((((((((hm.set 1 (.int .i64 (s.clock + 1))).set 3 (.int .i64 4)).set 4 (.int .i64 who)).set 5 (.int .i64 at_)).set 6 (.int .u64 0)).set 7 (.int .u64 x)).set 8 (.bool false)).set 6 (.int .u64 v)).set 8 (.bool true)).far (p := ⟨g, at_.toNat, none⟩) hne (.int .u64 r0)).set 7 (.int .u64 r0))
  have G := (((((((((((hg.far (p := ⟨m, 1, none⟩) hne' (.int .i64 (s.clock + 1))).far (p := ⟨m, 3, none⟩) hne' (.int .i64 4)).far (p := ⟨m, 4, none⟩) hne' (.int .i64 who)).far (p := ⟨m, 5, none⟩) hne' (.int .i64 at_)).far (p := ⟨m, 6, none⟩) hne' (.int .u64 0)).far (p := ⟨m, 7, none⟩) hne' (.int .u64 x)).far (p := ⟨m, 8, none⟩) hne' (.bool false)).far (p := ⟨m, 6, none⟩) hne' (.int .u64 v)).far (p := ⟨m, 8, none⟩) hne' (.bool true)).set at_.toNat (.int .u64 r0)).far (p := ⟨m, 7, none⟩) hne' (.int .u64 r0))
  have K := ((((((((((((((((((((((Kept.refl [m, g] w).set (p := ⟨m, 1, none⟩) (.inl (by simp)) (.int .i64 (s.clock + 1)))).set (p := ⟨m, 3, none⟩) (.inl (by simp)) (.int .i64 4))).set (p := ⟨m, 4, none⟩) (.inl (by simp)) (.int .i64 who))).set (p := ⟨m, 5, none⟩) (.inl (by simp)) (.int .i64 at_))).set (p := ⟨m, 6, none⟩) (.inl (by simp)) (.int .u64 0))).set (p := ⟨m, 7, none⟩) (.inl (by simp)) (.int .u64 x))).set (p := ⟨m, 8, none⟩) (.inl (by simp)) (.bool false))).set (p := ⟨m, 6, none⟩) (.inl (by simp)) (.int .u64 v))).set (p := ⟨m, 8, none⟩) (.inl (by simp)) (.bool true))).set (p := ⟨g, at_.toNat, none⟩) (.inl (by simp)) (.int .u64 r0))).set (p := ⟨m, 7, none⟩) (.inl (by simp)) (.int .u64 r0))
  rw [u64s_set' _ _ _ _ hs.out.2.1] at G
  exact ⟨by rw [HA.out]; rfl, racc_mem HM.out HX.out hc hb hcap (by rw [HA.out]; exact B) (by rw [HA.out]; exact G), K⟩
/-- An access of the document's memory. -/
theorem rdo_run (m g : Nat) (s : St) (kind who at_ old x : Int) (w : World) (hk : kind = 1 ∨ kind = 2 ∨ kind = 3 ∨ kind = 4) (hx : 0 ≤ x ∧ x < 18446744073709551616) (hM : RMemAt w m g s) (hc : s.clock < 1000000) (hb : s.bad < 1000000) :
    Calls Try.prog 152 #[.pointer (some ⟨m, 0, none⟩), .int .i64 kind, .int .i64 who, .int .i64 at_, .int .u64 old, .int .u64 x] w fun e w' => e = .returned (.int .u64 (s.acc kind who at_ old x).2) ∧ RMemAt w' m g (s.acc kind who at_ old x).1 ∧ Kept [m, g] w w' := by
  cases h : s.inr at_ with
  | false => exact rdo_bad m g s kind who at_ old x w hk h hx hM hc hb
  | true =>
    rcases hk with rfl | rfl | rfl | rfl
    · exact rdo_load m g s who at_ old x w h hx hM hc hb
    · exact rdo_store m g s who at_ old x w h hx hM hc hb
    · exact rdo_swap m g s who at_ old x w h hx hM hc hb
    · exact rdo_add m g s who at_ old x w h hx hM hc hb
theorem rpeek_run (m g : Nat) (s : St) (at_ : Int) (w : World) (hM : RMemAt w m g s) :
    Calls Try.prog 52 #[.pointer (some ⟨m, 0, none⟩), .int .i64 at_] w fun e w' => e = .returned (.tuple #[.int .u64 (s.peek at_).1, .bool (s.peek at_).2]) ∧ w = w' := by
  obtain ⟨cap, spare, h1, h2, hcap⟩ := hM.ex
  have c0 := h1.cell 0
  simp only [headOf, List.getElem?_cons_zero, List.getElem?_cons_succ] at c0
  cases h : s.inr at_ with
  | true =>
    have HP := hid (show s.peek at_ = (s.word at_, true) by unfold St.peek; rw [if_pos h])
    obtain ⟨a0, a1, a2, a3⟩ := inr_spec h
    have cg := (h2.cell at_.toNat).trans (List.getElem?_append_left (by simp [u64s]; exact a1))
    rw [u64s_get _ _ a1] at cg
    rw [List.getElem?_eq_getElem a1] at a3
    injection a3 with a3
    rw [a3] at cg
    have d0 : decide (at_ < 0) = false := decide_eq_false (by omega)
    have d1 : decide ((s.ws.length : Int) ≤ at_) = false := decide_eq_false (by omega)
    have b1 : at_ < (s.ws.length : Int) := by omega
    clear h h1 h2 a2 a3 hM
    go_enter Try.func52, Try.ntmps52
    go_wp2
    go_ret2
    exact ⟨by rw [HP.out]; rfl, rfl⟩
  | false =>
    have HP := hid (show s.peek at_ = (0, false) by unfold St.peek; rw [if_neg (by rw [h]; simp)])
    have h' := inr_not h
    clear h h1 h2 hM
    by_cases d0 : at_ < 0
    · clear h'
      go_enter Try.func52, Try.ntmps52
      go_wp2
      go_ret2
      exact ⟨by rw [HP.out]; rfl, rfl⟩
    · have d1 : (s.ws.length : Int) ≤ at_ := by omega
      have d2 : decide (at_ < 0) = false := decide_eq_false d0
      clear h' d0
      go_enter Try.func52, Try.ntmps52
      go_wp2
      go_ret2
      exact ⟨by rw [HP.out]; rfl, rfl⟩
end Go.Proofs.Ytokpgbocomhpiaa.Mem
