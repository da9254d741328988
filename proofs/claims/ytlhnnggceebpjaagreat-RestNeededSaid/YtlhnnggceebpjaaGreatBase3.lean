/- Texts of mine, laid into one: Ref, Run, Lay, Ground, LockC, LockD, RunB, Alike. -/
import Derived.Test.YtlhnnggceebpjaaGreatBase2
import Derived.Deep.DeepCutAuto
import Derived.Test.YtlhnnggceebpjaaGreatBase1
import Derived.Deep.RegionHeld3
import Derived.Deep.AppendLies
import Derived.Deep.RegionLaw
import Derived.RangeFuncBox
import Derived.Maps.AppendAt
section
/- The document's memory: its accesses. -/
set_option maxRecDepth 100000
set_option maxHeartbeats 4000000
set_option linter.unusedVariables false
set_option linter.unusedSimpArgs false
namespace Go.Proofs.YtlhnnggceebpjaaGreat.Mem
open Go.RowKit Go.Shelf Go.Proofs.YtlhnnggceebpjaaGreat.TK Go.Proofs.YtlhnnggceebpjaaGreat.Flag Go.Proofs.YtlhnnggceebpjaaGreat.Words

/-- The document's memory at block m, its words in block g. -/
structure RMemAt (w : World) (m g : Nat) (s : St) : Prop where
  ex : ∃ cap spare, Blk w m (headOf g s.ws.length cap s.clock s.bad s.last) 64 ∧ Blk w g (u64s s.ws ++ spare) 25 ∧ s.ws.length ≤ cap
  ne : m ≠ g
  wf : ∀ x ∈ s.ws, 0 ≤ x ∧ x < 18446744073709551616
  len : s.ws.length ≤ 1000000
  clock : 0 ≤ s.clock ∧ s.clock ≤ 1000000
  bad : 0 ≤ s.bad ∧ s.bad ≤ 1000000
theorem RMemAt.kept {w w' : World} {m g : Nat} {s : St} {S : List Nat} (h : RMemAt w m g s) (hk : Kept S w w') (h1 : m ∉ S) (h2 : g ∉ S) : RMemAt w' m g s := by
  obtain ⟨cap, spare, a, b, c⟩ := h.ex
  exact ⟨⟨cap, spare, a.kept hk h1, b.kept hk h2, c⟩, h.ne, h.wf, h.len, h.clock, h.bad⟩
theorem RMemAt.quiet {w w' : World} {m g : Nat} {s : St} (h : RMemAt w m g s) (hb : Below w.heap.size w w') : RMemAt w' m g s := h.kept (Kept.of_below hb []) (by simp) (by simp)
theorem RMemAt.ltm {w : World} {m g : Nat} {s : St} (h : RMemAt w m g s) : m < w.heap.size := by obtain ⟨_, _, a, _, _⟩ := h.ex; exact a.lt
theorem RMemAt.ltg {w : World} {m g : Nat} {s : St} (h : RMemAt w m g s) : g < w.heap.size := by obtain ⟨_, _, _, a, _⟩ := h.ex; exact a.lt
theorem racc_mem {w w' : World} {m g : Nat} {s : St} {cap : Nat} {spare : List Value} {kind who at_ old nw : Int} (hM : RMemAt w m g s) (hnw : 0 ≤ nw ∧ nw < 18446744073709551616) (hc : s.clock < 1000000) (hb : s.bad < 1000000) (hcap : s.ws.length ≤ cap)
    (h1 : Blk w' m (headOf g s.ws.length cap (s.acc kind who at_ old nw).1.clock (s.acc kind who at_ old nw).1.bad (s.acc kind who at_ old nw).1.last) 64) (h2 : Blk w' g (u64s (s.acc kind who at_ old nw).1.ws ++ spare) 25) : RMemAt w' m g (s.acc kind who at_ old nw).1 := by
  have hk := acc_clock s kind who at_ old nw
  have hl := acc_len s kind who at_ old nw
  exact ⟨⟨cap, spare, by rw [hl]; exact h1, h2, by omega⟩, hM.ne, (acc_wf hM.wf kind who at_ old hnw).1, by have := hM.len; omega, by have := hM.clock; omega, by have := hM.bad; omega⟩
/-- Out of range. -/
theorem rdo_bad (m g : Nat) (s : St) (kind who at_ old x : Int) (w : World) (hk : kind = 1 ∨ kind = 2 ∨ kind = 3 ∨ kind = 4) (h : s.inr at_ = false) (hx : 0 ≤ x ∧ x < 18446744073709551616) (hM : RMemAt w m g s) (hc : s.clock < 1000000) (hb : s.bad < 1000000) :
    Calls Tryz.prog 136 #[.pointer (some ⟨m, 0, none⟩), .int .i64 kind, .int .i64 who, .int .i64 at_, .int .u64 old, .int .u64 x] w fun e w' => e = .returned (.int .u64 (s.acc kind who at_ old x).2) ∧ RMemAt w' m g (s.acc kind who at_ old x).1 ∧ Kept [m, g] w w' := by
  have HX := hid hx
  have HA := hid (show s.acc kind who at_ old x = ({ s with clock := s.clock + 1, bad := s.bad + 1, last := ⟨kind, who, at_, 0, if kind = 1 then 0 else x, false⟩ }, 0) by
    unfold St.acc; rw [if_neg (by rw [h]; simp)]
    rcases hk with rfl | rfl | rfl | rfl <;> simp)
  have h' := inr_not h
  clear h hx
  (obtain ⟨cap, spare, hm, hg, hcap⟩ := hM.ex); (have hne := hM.ne); (have hne' : g ≠ m := Ne.symm hne); (have hcl := hM.clock); (have hbd := hM.bad); (have hln := hM.len); (have c0 := hm.cell 0); (have c1 := hm.cell 1); (have c2 := hm.cell 2); (have c3 := hm.cell 3); (have c4 := hm.cell 4); (have c5 := hm.cell 5); (have c6 := hm.cell 6); (have c7 := hm.cell 7); (have c8 := hm.cell 8); (have hf := hm.frozen); (simp only [headOf, accCells, List.getElem?_cons_zero, List.getElem?_cons_succ] at c0 c1 c2 c3 c4 c5 c6 c7 c8); (have HM := hid hM); (clear hM)
  by_cases k1 : kind = 1
  · subst k1
    clear hk
    by_cases d0 : at_ < 0
    · clear h'
      go_enter Tryz.func136, Tryz.ntmps136
      go_wp2
      go_ret
      exact ⟨by rw [HA.out]; rfl, racc_mem HM.out HX.out hc hb hcap (by rw [HA.out]; exact ((((((((hm.set 1 _).set 3 _).set 4 _).set 5 _).set 6 _).set 7 _).set 8 _).set 7 _).set 2 _) (by rw [HA.out]; exact ((((((((hg.far hne' _).far hne' _).far hne' _).far hne' _).far hne' _).far hne' _).far hne' _).far hne' _).far hne' _), (((((((((Kept.refl _ _).set (.inl (by simp)) _).set (.inl (by simp)) _).set (.inl (by simp)) _).set (.inl (by simp)) _).set (.inl (by simp)) _).set (.inl (by simp)) _).set (.inl (by simp)) _).set (.inl (by simp)) _).set (.inl (by simp)) _⟩
    · have d1 : (s.ws.length : Int) ≤ at_ := by omega
      have d2 : decide (at_ < 0) = false := decide_eq_false d0
      clear h' d0
      go_enter Tryz.func136, Tryz.ntmps136
      go_wp2
      go_ret
      exact ⟨by rw [HA.out]; rfl, racc_mem HM.out HX.out hc hb hcap (by rw [HA.out]; exact ((((((((hm.set 1 _).set 3 _).set 4 _).set 5 _).set 6 _).set 7 _).set 8 _).set 7 _).set 2 _) (by rw [HA.out]; exact ((((((((hg.far hne' _).far hne' _).far hne' _).far hne' _).far hne' _).far hne' _).far hne' _).far hne' _).far hne' _), (((((((((Kept.refl _ _).set (.inl (by simp)) _).set (.inl (by simp)) _).set (.inl (by simp)) _).set (.inl (by simp)) _).set (.inl (by simp)) _).set (.inl (by simp)) _).set (.inl (by simp)) _).set (.inl (by simp)) _).set (.inl (by simp)) _⟩
  · have kd : ((kind : Int) == 1) = false := by simp [k1]
    have HK := hid k1
    clear hk k1
    by_cases d0 : at_ < 0
    · clear h'
      go_enter Tryz.func136, Tryz.ntmps136
      go_wp2
      go_ret
      exact ⟨by rw [HA.out]; rfl, racc_mem HM.out HX.out hc hb hcap (by rw [HA.out, if_neg HK.out]; exact (((((((hm.set 1 _).set 3 _).set 4 _).set 5 _).set 6 _).set 7 _).set 8 _).set 2 _) (by rw [HA.out]; exact (((((((hg.far hne' _).far hne' _).far hne' _).far hne' _).far hne' _).far hne' _).far hne' _).far hne' _), ((((((((Kept.refl _ _).set (.inl (by simp)) _).set (.inl (by simp)) _).set (.inl (by simp)) _).set (.inl (by simp)) _).set (.inl (by simp)) _).set (.inl (by simp)) _).set (.inl (by simp)) _).set (.inl (by simp)) _⟩
    · have d1 : (s.ws.length : Int) ≤ at_ := by omega
      have d2 : decide (at_ < 0) = false := decide_eq_false d0
      clear h' d0
      go_enter Tryz.func136, Tryz.ntmps136
      go_wp2
      go_ret
      exact ⟨by rw [HA.out]; rfl, racc_mem HM.out HX.out hc hb hcap (by rw [HA.out, if_neg HK.out]; exact (((((((hm.set 1 _).set 3 _).set 4 _).set 5 _).set 6 _).set 7 _).set 8 _).set 2 _) (by rw [HA.out]; exact (((((((hg.far hne' _).far hne' _).far hne' _).far hne' _).far hne' _).far hne' _).far hne' _).far hne' _), ((((((((Kept.refl _ _).set (.inl (by simp)) _).set (.inl (by simp)) _).set (.inl (by simp)) _).set (.inl (by simp)) _).set (.inl (by simp)) _).set (.inl (by simp)) _).set (.inl (by simp)) _).set (.inl (by simp)) _⟩

theorem rdo_load (m g : Nat) (s : St) (who at_ old x : Int) (w : World) (h : s.inr at_ = true) (hx : 0 ≤ x ∧ x < 18446744073709551616) (hM : RMemAt w m g s) (hc : s.clock < 1000000) (hb : s.bad < 1000000) :
    Calls Tryz.prog 136 #[.pointer (some ⟨m, 0, none⟩), .int .i64 1, .int .i64 who, .int .i64 at_, .int .u64 old, .int .u64 x] w fun e w' => e = .returned (.int .u64 (s.acc 1 who at_ old x).2) ∧ RMemAt w' m g (s.acc 1 who at_ old x).1 ∧ Kept [m, g] w w' := by
  have HA := hid (show s.acc 1 who at_ old x = ({ s with clock := s.clock + 1, last := ⟨1, who, at_, s.word at_, 0, true⟩ }, s.word at_) by unfold St.acc; rw [if_pos h]; simp)
  (have HX := hid hx); (have hs := hid (inr_spec h)); (have H := hid h); (obtain ⟨b0, b1⟩ := (show 0 ≤ at_ ∧ at_ < (s.ws.length : Int) by have h2 := inr_spec h; omega)); (clear h hx); (obtain ⟨cap, spare, hm, hg, hcap⟩ := hM.ex); (have hne := hM.ne); (have hne' : g ≠ m := Ne.symm hne); (have hcl := hM.clock); (have hbd := hM.bad); (have hln := hM.len); (have c0 := hm.cell 0); (have c1 := hm.cell 1); (have c2 := hm.cell 2); (have c3 := hm.cell 3); (have c4 := hm.cell 4); (have c5 := hm.cell 5); (have c6 := hm.cell 6); (have c7 := hm.cell 7); (have c8 := hm.cell 8); (have hf := hm.frozen); (simp only [headOf, accCells, List.getElem?_cons_zero, List.getElem?_cons_succ] at c0 c1 c2 c3 c4 c5 c6 c7 c8); (have HM := hid hM); (clear hM); (have cg := ((hg.cell at_.toNat).trans (List.getElem?_append_left (by rw [u64s_length]; exact hs.out.2.1)))); (rw [u64s_get _ _ hs.out.2.1] at cg); (have hw0 : s.ws[at_.toNat]'(hs.out.2.1) = s.word at_ := by have := hs.out.2.2.2; rw [List.getElem?_eq_getElem hs.out.2.1] at this; simpa using this); (rw [hw0] at cg); (have hfg := hg.frozen at_.toNat); (have d0 : decide (at_ < 0) = false := decide_eq_false (by omega)); (have d1 : decide ((s.ws.length : Int) ≤ at_) = false := decide_eq_false (by omega)); (clear hw0); (obtain ⟨v, hv⟩ : ∃ v, v = s.word at_ := ⟨_, rfl⟩); (rw [← hv] at cg); (have HV := hid hv); (clear hv)
  rw [← HV.out] at HA
  go_enter Tryz.func136, Tryz.ntmps136
  go_wp2
  go_ret
  have B := ((((((((((hm.set 1 (.int .i64 (s.clock + 1))).set 3 (.int .i64 1)).set 4 (.int .i64 who)).set 5 (.int .i64 at_)).set 6 (.int .u64 0)).set 7 (.int .u64 x)).set 8 (.bool false)).set 7 (.int .u64 0)).set 6 (.int .u64 v)).set 8 (.bool true))
  have G := ((((((((((hg.far (p := ⟨m, 1, none⟩) hne' (.int .i64 (s.clock + 1))).far (p := ⟨m, 3, none⟩) hne' (.int .i64 1)).far (p := ⟨m, 4, none⟩) hne' (.int .i64 who)).far (p := ⟨m, 5, none⟩) hne' (.int .i64 at_)).far (p := ⟨m, 6, none⟩) hne' (.int .u64 0)).far (p := ⟨m, 7, none⟩) hne' (.int .u64 x)).far (p := ⟨m, 8, none⟩) hne' (.bool false)).far (p := ⟨m, 7, none⟩) hne' (.int .u64 0)).far (p := ⟨m, 6, none⟩) hne' (.int .u64 v)).far (p := ⟨m, 8, none⟩) hne' (.bool true))
  have K := ((((((((((((((((((((Kept.refl [m, g] w).set (p := ⟨m, 1, none⟩) (.inl (by simp)) (.int .i64 (s.clock + 1)))).set (p := ⟨m, 3, none⟩) (.inl (by simp)) (.int .i64 1))).set (p := ⟨m, 4, none⟩) (.inl (by simp)) (.int .i64 who))).set (p := ⟨m, 5, none⟩) (.inl (by simp)) (.int .i64 at_))).set (p := ⟨m, 6, none⟩) (.inl (by simp)) (.int .u64 0))).set (p := ⟨m, 7, none⟩) (.inl (by simp)) (.int .u64 x))).set (p := ⟨m, 8, none⟩) (.inl (by simp)) (.bool false))).set (p := ⟨m, 7, none⟩) (.inl (by simp)) (.int .u64 0))).set (p := ⟨m, 6, none⟩) (.inl (by simp)) (.int .u64 v))).set (p := ⟨m, 8, none⟩) (.inl (by simp)) (.bool true))
  exact ⟨by rw [HA.out]; rfl, racc_mem HM.out HX.out hc hb hcap (by rw [HA.out]; exact B) (by rw [HA.out]; exact G), K⟩
theorem rdo_store (m g : Nat) (s : St) (who at_ old x : Int) (w : World) (h : s.inr at_ = true) (hx : 0 ≤ x ∧ x < 18446744073709551616) (hM : RMemAt w m g s) (hc : s.clock < 1000000) (hb : s.bad < 1000000) :
    Calls Tryz.prog 136 #[.pointer (some ⟨m, 0, none⟩), .int .i64 2, .int .i64 who, .int .i64 at_, .int .u64 old, .int .u64 x] w fun e w' => e = .returned (.int .u64 (s.acc 2 who at_ old x).2) ∧ RMemAt w' m g (s.acc 2 who at_ old x).1 ∧ Kept [m, g] w w' := by
  have HA := hid (show s.acc 2 who at_ old x = ({ s with ws := s.ws.set at_.toNat x, clock := s.clock + 1, last := ⟨2, who, at_, s.word at_, x, true⟩ }, 0) by unfold St.acc; rw [if_pos h]; simp)
  (have HX := hid hx); (have hs := hid (inr_spec h)); (have H := hid h); (obtain ⟨b0, b1⟩ := (show 0 ≤ at_ ∧ at_ < (s.ws.length : Int) by have h2 := inr_spec h; omega)); (clear h hx); (obtain ⟨cap, spare, hm, hg, hcap⟩ := hM.ex); (have hne := hM.ne); (have hne' : g ≠ m := Ne.symm hne); (have hcl := hM.clock); (have hbd := hM.bad); (have hln := hM.len); (have c0 := hm.cell 0); (have c1 := hm.cell 1); (have c2 := hm.cell 2); (have c3 := hm.cell 3); (have c4 := hm.cell 4); (have c5 := hm.cell 5); (have c6 := hm.cell 6); (have c7 := hm.cell 7); (have c8 := hm.cell 8); (have hf := hm.frozen); (simp only [headOf, accCells, List.getElem?_cons_zero, List.getElem?_cons_succ] at c0 c1 c2 c3 c4 c5 c6 c7 c8); (have HM := hid hM); (clear hM); (have cg := ((hg.cell at_.toNat).trans (List.getElem?_append_left (by rw [u64s_length]; exact hs.out.2.1)))); (rw [u64s_get _ _ hs.out.2.1] at cg); (have hw0 : s.ws[at_.toNat]'(hs.out.2.1) = s.word at_ := by have := hs.out.2.2.2; rw [List.getElem?_eq_getElem hs.out.2.1] at this; simpa using this); (rw [hw0] at cg); (have hfg := hg.frozen at_.toNat); (have d0 : decide (at_ < 0) = false := decide_eq_false (by omega)); (have d1 : decide ((s.ws.length : Int) ≤ at_) = false := decide_eq_false (by omega)); (clear hw0); (obtain ⟨v, hv⟩ : ∃ v, v = s.word at_ := ⟨_, rfl⟩); (rw [← hv] at cg); (have HV := hid hv); (clear hv)
  rw [← HV.out] at HA
  go_enter Tryz.func136, Tryz.ntmps136
  go_upto_region 17 with fail
  have B := (((((((((hm.set 1 (.int .i64 (s.clock + 1))).set 3 (.int .i64 2)).set 4 (.int .i64 who)).set 5 (.int .i64 at_)).set 6 (.int .u64 0)).set 7 (.int .u64 x)).set 8 (.bool false)).set 6 (.int .u64 v)).set 8 (.bool true))
  have G := (((((((((hg.far (p := ⟨m, 1, none⟩) hne' (.int .i64 (s.clock + 1))).far (p := ⟨m, 3, none⟩) hne' (.int .i64 2)).far (p := ⟨m, 4, none⟩) hne' (.int .i64 who)).far (p := ⟨m, 5, none⟩) hne' (.int .i64 at_)).far (p := ⟨m, 6, none⟩) hne' (.int .u64 0)).far (p := ⟨m, 7, none⟩) hne' (.int .u64 x)).far (p := ⟨m, 8, none⟩) hne' (.bool false)).far (p := ⟨m, 6, none⟩) hne' (.int .u64 v)).far (p := ⟨m, 8, none⟩) hne' (.bool true))
  have K := ((((((((((((((((((Kept.refl [m, g] w).set (p := ⟨m, 1, none⟩) (.inl (by simp)) (.int .i64 (s.clock + 1)))).set (p := ⟨m, 3, none⟩) (.inl (by simp)) (.int .i64 2))).set (p := ⟨m, 4, none⟩) (.inl (by simp)) (.int .i64 who))).set (p := ⟨m, 5, none⟩) (.inl (by simp)) (.int .i64 at_))).set (p := ⟨m, 6, none⟩) (.inl (by simp)) (.int .u64 0))).set (p := ⟨m, 7, none⟩) (.inl (by simp)) (.int .u64 x))).set (p := ⟨m, 8, none⟩) (.inl (by simp)) (.bool false))).set (p := ⟨m, 6, none⟩) (.inl (by simp)) (.int .u64 v))).set (p := ⟨m, 8, none⟩) (.inl (by simp)) (.bool true))
  obtain ⟨W1, hW1⟩ : ∃ W1, W1 = (((((((((w.setCell ⟨m, 1, none⟩ (.int .i64 (s.clock + 1))).setCell ⟨m, 3, none⟩ (.int .i64 2)).setCell ⟨m, 4, none⟩ (.int .i64 who)).setCell ⟨m, 5, none⟩ (.int .i64 at_)).setCell ⟨m, 6, none⟩ (.int .u64 0)).setCell ⟨m, 7, none⟩ (.int .u64 x)).setCell ⟨m, 8, none⟩ (.bool false)).setCell ⟨m, 6, none⟩ (.int .u64 v)).setCell ⟨m, 8, none⟩ (.bool true)) := ⟨_, rfl⟩
  rw [← hW1] at B G K ⊢
  clear hW1 c0 c1 c2 c3 c4 c5 c6 c7 c8 hf hm hg cg hfg
  have c0 := B.cell 0
  have c8 := B.cell 8
  simp only [headOf, accCells, List.set_cons_zero, List.set_cons_succ, List.getElem?_cons_zero, List.getElem?_cons_succ] at c0 c8
  have cg := ((G.cell at_.toNat).trans (List.getElem?_append_left (by rw [u64s_length]; exact hs.out.2.1))).trans (u64s_get _ _ hs.out.2.1)
  have fg := G.frozen at_.toNat
  go_wp2
  go_ret
  have B2 := B.far (p := ⟨g, at_.toNat, none⟩) hne (.int .u64 x)
  have G2 := G.set at_.toNat (.int .u64 x)
  rw [u64s_set' _ _ _ _ hs.out.2.1] at G2
  exact ⟨by rw [HA.out]; rfl, racc_mem HM.out HX.out hc hb hcap (by rw [HA.out]; exact B2) (by rw [HA.out]; exact G2), K.set (.inl (by simp)) _⟩
theorem rdo_swap (m g : Nat) (s : St) (who at_ old x : Int) (w : World) (h : s.inr at_ = true) (hx : 0 ≤ x ∧ x < 18446744073709551616) (hM : RMemAt w m g s) (hc : s.clock < 1000000) (hb : s.bad < 1000000) :
    Calls Tryz.prog 136 #[.pointer (some ⟨m, 0, none⟩), .int .i64 3, .int .i64 who, .int .i64 at_, .int .u64 old, .int .u64 x] w fun e w' => e = .returned (.int .u64 (s.acc 3 who at_ old x).2) ∧ RMemAt w' m g (s.acc 3 who at_ old x).1 ∧ Kept [m, g] w w' := by
  by_cases ho : s.word at_ = old
  · have HA := hid (show s.acc 3 who at_ old x = ({ s with ws := s.ws.set at_.toNat x, clock := s.clock + 1, last := ⟨3, who, at_, s.word at_, x, true⟩ }, 1) by unfold St.acc; rw [if_pos h]; simp [ho])
    have ho' : ((s.word at_ : Int) == old) = true := by simpa using ho
    clear ho
    (have HX := hid hx); (have hs := hid (inr_spec h)); (have H := hid h); (obtain ⟨b0, b1⟩ := (show 0 ≤ at_ ∧ at_ < (s.ws.length : Int) by have h2 := inr_spec h; omega)); (clear h hx); (obtain ⟨cap, spare, hm, hg, hcap⟩ := hM.ex); (have hne := hM.ne); (have hne' : g ≠ m := Ne.symm hne); (have hcl := hM.clock); (have hbd := hM.bad); (have hln := hM.len); (have c0 := hm.cell 0); (have c1 := hm.cell 1); (have c2 := hm.cell 2); (have c3 := hm.cell 3); (have c4 := hm.cell 4); (have c5 := hm.cell 5); (have c6 := hm.cell 6); (have c7 := hm.cell 7); (have c8 := hm.cell 8); (have hf := hm.frozen); (simp only [headOf, accCells, List.getElem?_cons_zero, List.getElem?_cons_succ] at c0 c1 c2 c3 c4 c5 c6 c7 c8); (have HM := hid hM); (clear hM); (have cg := ((hg.cell at_.toNat).trans (List.getElem?_append_left (by rw [u64s_length]; exact hs.out.2.1)))); (rw [u64s_get _ _ hs.out.2.1] at cg); (have hw0 : s.ws[at_.toNat]'(hs.out.2.1) = s.word at_ := by have := hs.out.2.2.2; rw [List.getElem?_eq_getElem hs.out.2.1] at this; simpa using this); (rw [hw0] at cg); (have hfg := hg.frozen at_.toNat); (have d0 : decide (at_ < 0) = false := decide_eq_false (by omega)); (have d1 : decide ((s.ws.length : Int) ≤ at_) = false := decide_eq_false (by omega)); (clear hw0); (obtain ⟨v, hv⟩ : ∃ v, v = s.word at_ := ⟨_, rfl⟩); (rw [← hv] at cg); (have HV := hid hv); (clear hv)
    rw [← HV.out] at HA ho'
    go_enter Tryz.func136, Tryz.ntmps136
    go_upto_region 17 with fail
    have B := (((((((((hm.set 1 (.int .i64 (s.clock + 1))).set 3 (.int .i64 3)).set 4 (.int .i64 who)).set 5 (.int .i64 at_)).set 6 (.int .u64 0)).set 7 (.int .u64 x)).set 8 (.bool false)).set 6 (.int .u64 v)).set 8 (.bool true))
    have G := (((((((((hg.far (p := ⟨m, 1, none⟩) hne' (.int .i64 (s.clock + 1))).far (p := ⟨m, 3, none⟩) hne' (.int .i64 3)).far (p := ⟨m, 4, none⟩) hne' (.int .i64 who)).far (p := ⟨m, 5, none⟩) hne' (.int .i64 at_)).far (p := ⟨m, 6, none⟩) hne' (.int .u64 0)).far (p := ⟨m, 7, none⟩) hne' (.int .u64 x)).far (p := ⟨m, 8, none⟩) hne' (.bool false)).far (p := ⟨m, 6, none⟩) hne' (.int .u64 v)).far (p := ⟨m, 8, none⟩) hne' (.bool true))
    have K := ((((((((((((((((((Kept.refl [m, g] w).set (p := ⟨m, 1, none⟩) (.inl (by simp)) (.int .i64 (s.clock + 1)))).set (p := ⟨m, 3, none⟩) (.inl (by simp)) (.int .i64 3))).set (p := ⟨m, 4, none⟩) (.inl (by simp)) (.int .i64 who))).set (p := ⟨m, 5, none⟩) (.inl (by simp)) (.int .i64 at_))).set (p := ⟨m, 6, none⟩) (.inl (by simp)) (.int .u64 0))).set (p := ⟨m, 7, none⟩) (.inl (by simp)) (.int .u64 x))).set (p := ⟨m, 8, none⟩) (.inl (by simp)) (.bool false))).set (p := ⟨m, 6, none⟩) (.inl (by simp)) (.int .u64 v))).set (p := ⟨m, 8, none⟩) (.inl (by simp)) (.bool true))
    obtain ⟨W1, hW1⟩ : ∃ W1, W1 = (((((((((w.setCell ⟨m, 1, none⟩ (.int .i64 (s.clock + 1))).setCell ⟨m, 3, none⟩ (.int .i64 3)).setCell ⟨m, 4, none⟩ (.int .i64 who)).setCell ⟨m, 5, none⟩ (.int .i64 at_)).setCell ⟨m, 6, none⟩ (.int .u64 0)).setCell ⟨m, 7, none⟩ (.int .u64 x)).setCell ⟨m, 8, none⟩ (.bool false)).setCell ⟨m, 6, none⟩ (.int .u64 v)).setCell ⟨m, 8, none⟩ (.bool true)) := ⟨_, rfl⟩
    rw [← hW1] at B G K ⊢
    clear hW1 c0 c1 c2 c3 c4 c5 c6 c7 c8 hf hm hg cg hfg
    have c0 := B.cell 0
    have c8 := B.cell 8
    simp only [headOf, accCells, List.set_cons_zero, List.set_cons_succ, List.getElem?_cons_zero, List.getElem?_cons_succ] at c0 c8
    have cg := ((G.cell at_.toNat).trans (List.getElem?_append_left (by rw [u64s_length]; exact hs.out.2.1))).trans (u64s_get _ _ hs.out.2.1)
    have fg := G.frozen at_.toNat
    go_wp2
    go_ret
    have B2 := B.far (p := ⟨g, at_.toNat, none⟩) hne (.int .u64 x)
    have G2 := G.set at_.toNat (.int .u64 x)
    rw [u64s_set' _ _ _ _ hs.out.2.1] at G2
    exact ⟨by rw [HA.out]; rfl, racc_mem HM.out HX.out hc hb hcap (by rw [HA.out]; exact B2) (by rw [HA.out]; exact G2), K.set (.inl (by simp)) _⟩
  · have HA := hid (show s.acc 3 who at_ old x = ({ s with clock := s.clock + 1, last := ⟨3, who, at_, s.word at_, x, false⟩ }, 0) by unfold St.acc; rw [if_pos h]; simp [ho])
    have ho' : ((s.word at_ : Int) == old) = false := by simpa using ho
    clear ho
    (have HX := hid hx); (have hs := hid (inr_spec h)); (have H := hid h); (obtain ⟨b0, b1⟩ := (show 0 ≤ at_ ∧ at_ < (s.ws.length : Int) by have h2 := inr_spec h; omega)); (clear h hx); (obtain ⟨cap, spare, hm, hg, hcap⟩ := hM.ex); (have hne := hM.ne); (have hne' : g ≠ m := Ne.symm hne); (have hcl := hM.clock); (have hbd := hM.bad); (have hln := hM.len); (have c0 := hm.cell 0); (have c1 := hm.cell 1); (have c2 := hm.cell 2); (have c3 := hm.cell 3); (have c4 := hm.cell 4); (have c5 := hm.cell 5); (have c6 := hm.cell 6); (have c7 := hm.cell 7); (have c8 := hm.cell 8); (have hf := hm.frozen); (simp only [headOf, accCells, List.getElem?_cons_zero, List.getElem?_cons_succ] at c0 c1 c2 c3 c4 c5 c6 c7 c8); (have HM := hid hM); (clear hM); (have cg := ((hg.cell at_.toNat).trans (List.getElem?_append_left (by rw [u64s_length]; exact hs.out.2.1)))); (rw [u64s_get _ _ hs.out.2.1] at cg); (have hw0 : s.ws[at_.toNat]'(hs.out.2.1) = s.word at_ := by have := hs.out.2.2.2; rw [List.getElem?_eq_getElem hs.out.2.1] at this; simpa using this); (rw [hw0] at cg); (have hfg := hg.frozen at_.toNat); (have d0 : decide (at_ < 0) = false := decide_eq_false (by omega)); (have d1 : decide ((s.ws.length : Int) ≤ at_) = false := decide_eq_false (by omega)); (clear hw0); (obtain ⟨v, hv⟩ : ∃ v, v = s.word at_ := ⟨_, rfl⟩); (rw [← hv] at cg); (have HV := hid hv); (clear hv)
    rw [← HV.out] at HA ho'
    go_enter Tryz.func136, Tryz.ntmps136
    go_upto_region 17 with fail
    have B := (((((((((hm.set 1 (.int .i64 (s.clock + 1))).set 3 (.int .i64 3)).set 4 (.int .i64 who)).set 5 (.int .i64 at_)).set 6 (.int .u64 0)).set 7 (.int .u64 x)).set 8 (.bool false)).set 6 (.int .u64 v)).set 8 (.bool false))
    have G := (((((((((hg.far (p := ⟨m, 1, none⟩) hne' (.int .i64 (s.clock + 1))).far (p := ⟨m, 3, none⟩) hne' (.int .i64 3)).far (p := ⟨m, 4, none⟩) hne' (.int .i64 who)).far (p := ⟨m, 5, none⟩) hne' (.int .i64 at_)).far (p := ⟨m, 6, none⟩) hne' (.int .u64 0)).far (p := ⟨m, 7, none⟩) hne' (.int .u64 x)).far (p := ⟨m, 8, none⟩) hne' (.bool false)).far (p := ⟨m, 6, none⟩) hne' (.int .u64 v)).far (p := ⟨m, 8, none⟩) hne' (.bool false))
    have K := ((((((((((((((((((Kept.refl [m, g] w).set (p := ⟨m, 1, none⟩) (.inl (by simp)) (.int .i64 (s.clock + 1)))).set (p := ⟨m, 3, none⟩) (.inl (by simp)) (.int .i64 3))).set (p := ⟨m, 4, none⟩) (.inl (by simp)) (.int .i64 who))).set (p := ⟨m, 5, none⟩) (.inl (by simp)) (.int .i64 at_))).set (p := ⟨m, 6, none⟩) (.inl (by simp)) (.int .u64 0))).set (p := ⟨m, 7, none⟩) (.inl (by simp)) (.int .u64 x))).set (p := ⟨m, 8, none⟩) (.inl (by simp)) (.bool false))).set (p := ⟨m, 6, none⟩) (.inl (by simp)) (.int .u64 v))).set (p := ⟨m, 8, none⟩) (.inl (by simp)) (.bool false))
    obtain ⟨W1, hW1⟩ : ∃ W1, W1 = (((((((((w.setCell ⟨m, 1, none⟩ (.int .i64 (s.clock + 1))).setCell ⟨m, 3, none⟩ (.int .i64 3)).setCell ⟨m, 4, none⟩ (.int .i64 who)).setCell ⟨m, 5, none⟩ (.int .i64 at_)).setCell ⟨m, 6, none⟩ (.int .u64 0)).setCell ⟨m, 7, none⟩ (.int .u64 x)).setCell ⟨m, 8, none⟩ (.bool false)).setCell ⟨m, 6, none⟩ (.int .u64 v)).setCell ⟨m, 8, none⟩ (.bool false)) := ⟨_, rfl⟩
    rw [← hW1] at B G K ⊢
    clear hW1 c0 c1 c2 c3 c4 c5 c6 c7 c8 hf hm hg cg hfg
    have c0 := B.cell 0
    have c8 := B.cell 8
    simp only [headOf, accCells, List.set_cons_zero, List.set_cons_succ, List.getElem?_cons_zero, List.getElem?_cons_succ] at c0 c8
    go_wp2
    go_ret
    exact ⟨by rw [HA.out]; rfl, racc_mem HM.out HX.out hc hb hcap (by rw [HA.out]; exact B) (by rw [HA.out]; exact G), K⟩
theorem rdo_add (m g : Nat) (s : St) (who at_ old x : Int) (w : World) (h : s.inr at_ = true) (hx : 0 ≤ x ∧ x < 18446744073709551616) (hM : RMemAt w m g s) (hc : s.clock < 1000000) (hb : s.bad < 1000000) :
    Calls Tryz.prog 136 #[.pointer (some ⟨m, 0, none⟩), .int .i64 4, .int .i64 who, .int .i64 at_, .int .u64 old, .int .u64 x] w fun e w' => e = .returned (.int .u64 (s.acc 4 who at_ old x).2) ∧ RMemAt w' m g (s.acc 4 who at_ old x).1 ∧ Kept [m, g] w w' := by
  have HA := hid (show s.acc 4 who at_ old x = ({ s with ws := s.ws.set at_.toNat ((s.word at_ + x) % 4294967296), clock := s.clock + 1, last := ⟨4, who, at_, s.word at_, (s.word at_ + x) % 4294967296, true⟩ }, (s.word at_ + x) % 4294967296) by unfold St.acc; rw [if_pos h]; simp)
  have hwr := word_range hM.wf at_
  obtain ⟨r0, hr0⟩ : ∃ r0, r0 = (s.word at_ + x) % 4294967296 := ⟨_, rfl⟩
  rw [← hr0] at HA
  have hadd : (IntKind.u64.wrap (s.word at_ + x)).tmod 4294967296 = r0 := by
    have : IntKind.u64.wrap (s.word at_ + x) = (s.word at_ + x) % 18446744073709551616 := rfl
    rw [this, Int.tmod_eq_emod_of_nonneg (by omega), hr0]; omega
  clear hr0 hwr
  (have HX := hid hx); (have hs := hid (inr_spec h)); (have H := hid h); (obtain ⟨b0, b1⟩ := (show 0 ≤ at_ ∧ at_ < (s.ws.length : Int) by have h2 := inr_spec h; omega)); (clear h hx); (obtain ⟨cap, spare, hm, hg, hcap⟩ := hM.ex); (have hne := hM.ne); (have hne' : g ≠ m := Ne.symm hne); (have hcl := hM.clock); (have hbd := hM.bad); (have hln := hM.len); (have c0 := hm.cell 0); (have c1 := hm.cell 1); (have c2 := hm.cell 2); (have c3 := hm.cell 3); (have c4 := hm.cell 4); (have c5 := hm.cell 5); (have c6 := hm.cell 6); (have c7 := hm.cell 7); (have c8 := hm.cell 8); (have hf := hm.frozen); (simp only [headOf, accCells, List.getElem?_cons_zero, List.getElem?_cons_succ] at c0 c1 c2 c3 c4 c5 c6 c7 c8); (have HM := hid hM); (clear hM); (have cg := ((hg.cell at_.toNat).trans (List.getElem?_append_left (by rw [u64s_length]; exact hs.out.2.1)))); (rw [u64s_get _ _ hs.out.2.1] at cg); (have hw0 : s.ws[at_.toNat]'(hs.out.2.1) = s.word at_ := by have := hs.out.2.2.2; rw [List.getElem?_eq_getElem hs.out.2.1] at this; simpa using this); (rw [hw0] at cg); (have hfg := hg.frozen at_.toNat); (have d0 : decide (at_ < 0) = false := decide_eq_false (by omega)); (have d1 : decide ((s.ws.length : Int) ≤ at_) = false := decide_eq_false (by omega)); (clear hw0); (obtain ⟨v, hv⟩ : ∃ v, v = s.word at_ := ⟨_, rfl⟩); (rw [← hv] at cg); (have HV := hid hv); (clear hv)
  rw [← HV.out] at HA hadd
  go_enter Tryz.func136, Tryz.ntmps136
  go_wp2
  go_ret
  have B := (((((((((((hm.set 1 (.int .i64 (s.clock + 1))).set 3 (.int .i64 4)).set 4 (.int .i64 who)).set 5 (.int .i64 at_)).set 6 (.int .u64 0)).set 7 (.int .u64 x)).set 8 (.bool false)).set 6 (.int .u64 v)).set 8 (.bool true)).far (p := ⟨g, at_.toNat, none⟩) hne (.int .u64 r0)).set 7 (.int .u64 r0))
  have G := (((((((((((hg.far (p := ⟨m, 1, none⟩) hne' (.int .i64 (s.clock + 1))).far (p := ⟨m, 3, none⟩) hne' (.int .i64 4)).far (p := ⟨m, 4, none⟩) hne' (.int .i64 who)).far (p := ⟨m, 5, none⟩) hne' (.int .i64 at_)).far (p := ⟨m, 6, none⟩) hne' (.int .u64 0)).far (p := ⟨m, 7, none⟩) hne' (.int .u64 x)).far (p := ⟨m, 8, none⟩) hne' (.bool false)).far (p := ⟨m, 6, none⟩) hne' (.int .u64 v)).far (p := ⟨m, 8, none⟩) hne' (.bool true)).set at_.toNat (.int .u64 r0)).far (p := ⟨m, 7, none⟩) hne' (.int .u64 r0))
  have K := ((((((((((((((((((((((Kept.refl [m, g] w).set (p := ⟨m, 1, none⟩) (.inl (by simp)) (.int .i64 (s.clock + 1)))).set (p := ⟨m, 3, none⟩) (.inl (by simp)) (.int .i64 4))).set (p := ⟨m, 4, none⟩) (.inl (by simp)) (.int .i64 who))).set (p := ⟨m, 5, none⟩) (.inl (by simp)) (.int .i64 at_))).set (p := ⟨m, 6, none⟩) (.inl (by simp)) (.int .u64 0))).set (p := ⟨m, 7, none⟩) (.inl (by simp)) (.int .u64 x))).set (p := ⟨m, 8, none⟩) (.inl (by simp)) (.bool false))).set (p := ⟨m, 6, none⟩) (.inl (by simp)) (.int .u64 v))).set (p := ⟨m, 8, none⟩) (.inl (by simp)) (.bool true))).set (p := ⟨g, at_.toNat, none⟩) (.inl (by simp)) (.int .u64 r0))).set (p := ⟨m, 7, none⟩) (.inl (by simp)) (.int .u64 r0))
  rw [u64s_set' _ _ _ _ hs.out.2.1] at G
  exact ⟨by rw [HA.out]; rfl, racc_mem HM.out HX.out hc hb hcap (by rw [HA.out]; exact B) (by rw [HA.out]; exact G), K⟩
/-- An access of the document's memory. -/
theorem rdo_run (m g : Nat) (s : St) (kind who at_ old x : Int) (w : World) (hk : kind = 1 ∨ kind = 2 ∨ kind = 3 ∨ kind = 4) (hx : 0 ≤ x ∧ x < 18446744073709551616) (hM : RMemAt w m g s) (hc : s.clock < 1000000) (hb : s.bad < 1000000) :
    Calls Tryz.prog 136 #[.pointer (some ⟨m, 0, none⟩), .int .i64 kind, .int .i64 who, .int .i64 at_, .int .u64 old, .int .u64 x] w fun e w' => e = .returned (.int .u64 (s.acc kind who at_ old x).2) ∧ RMemAt w' m g (s.acc kind who at_ old x).1 ∧ Kept [m, g] w w' := by
  cases h : s.inr at_ with
  | false => exact rdo_bad m g s kind who at_ old x w hk h hx hM hc hb
  | true =>
    rcases hk with rfl | rfl | rfl | rfl
    · exact rdo_load m g s who at_ old x w h hx hM hc hb
    · exact rdo_store m g s who at_ old x w h hx hM hc hb
    · exact rdo_swap m g s who at_ old x w h hx hM hc hb
    · exact rdo_add m g s who at_ old x w h hx hM hc hb
theorem rpeek_run (m g : Nat) (s : St) (at_ : Int) (w : World) (hM : RMemAt w m g s) :
    Calls Tryz.prog 40 #[.pointer (some ⟨m, 0, none⟩), .int .i64 at_] w fun e w' => e = .returned (.tuple #[.int .u64 (s.peek at_).1, .bool (s.peek at_).2]) ∧ w = w' := by
  obtain ⟨cap, spare, h1, h2, hcap⟩ := hM.ex
  have c0 := h1.cell 0
  simp only [headOf, List.getElem?_cons_zero, List.getElem?_cons_succ] at c0
  cases h : s.inr at_ with
  | true =>
    have HP := hid (show s.peek at_ = (s.word at_, true) by unfold St.peek; rw [if_pos h])
    obtain ⟨a0, a1, a2, a3⟩ := inr_spec h
    have cg := (h2.cell at_.toNat).trans (List.getElem?_append_left (by simp [u64s]; exact a1))
    rw [u64s_get _ _ a1] at cg
    rw [List.getElem?_eq_getElem a1] at a3
    injection a3 with a3
    rw [a3] at cg
    have d0 : decide (at_ < 0) = false := decide_eq_false (by omega)
    have d1 : decide ((s.ws.length : Int) ≤ at_) = false := decide_eq_false (by omega)
    have b1 : at_ < (s.ws.length : Int) := by omega
    clear h h1 h2 a2 a3 hM
    go_enter Tryz.func40, Tryz.ntmps40
    go_wp2
    go_ret2
    exact ⟨by rw [HP.out]; rfl, rfl⟩
  | false =>
    have HP := hid (show s.peek at_ = (0, false) by unfold St.peek; rw [if_neg (by rw [h]; simp)])
    have h' := inr_not h
    clear h h1 h2 hM
    by_cases d0 : at_ < 0
    · clear h'
      go_enter Tryz.func40, Tryz.ntmps40
      go_wp2
      go_ret2
      exact ⟨by rw [HP.out]; rfl, rfl⟩
    · have d1 : (s.ws.length : Int) ≤ at_ := by omega
      have d2 : decide (at_ < 0) = false := decide_eq_false d0
      clear h' d0
      go_enter Tryz.func40, Tryz.ntmps40
      go_wp2
      go_ret2
      exact ⟨by rw [HP.out]; rfl, rfl⟩
end Go.Proofs.YtlhnnggceebpjaaGreat.Mem
end

section
/- The document's runs of a routine: what its accesses answered, and where it stops. -/
set_option maxRecDepth 100000
set_option maxHeartbeats 4000000
set_option linter.unusedVariables false
set_option linter.unusedSimpArgs false
namespace Go.Proofs.YtlhnnggceebpjaaGreat.Run
open Go.RowKit Go.Shelf Go.Proofs.YtlhnnggceebpjaaGreat.TK Go.Proofs.YtlhnnggceebpjaaGreat.Flag Go.Proofs.YtlhnnggceebpjaaGreat.Read Go.Proofs.YtlhnnggceebpjaaGreat.Grow Go.Proofs.YtlhnnggceebpjaaGreat.Words Go.Proofs.YtlhnnggceebpjaaGreat.Mem

theorem Grow.keptB {α : Type} {w w' : World} {B : Nat} {T : TypeId} {size : Nat} {enc : α → List Value} {v : Value} {xs : List α} {S : List Nat} (h : Grow w B T size enc v xs) (hk : Kept S w w') (hS : ∀ i ∈ S, v.ownBlock ≠ some i) : Grow w' B T size enc v xs := by
  refine ⟨h.1, ?_⟩
  rcases h.2 with h2 | ⟨g, cap, cur, hv, hg, hh, h3⟩
  · exact .inl h2
  · refine .inr ⟨g, cap, cur, hv, hg, ?_, h3⟩
    rw [hk.block g (lt_of_block hh) (fun hm => hS g hm (by rw [hv]; rfl))]
    exact hh
theorem own_type {α : Type} {w : World} {B : Nat} {T : TypeId} {size : Nat} {enc : α → List Value} {v : Value} {xs : List α} {r : Nat} {cs : List Value} {T' : TypeId} (h : Grow w B T size enc v xs) (hb : Blk w r cs T') (hT : T ≠ T') : v.ownBlock ≠ some r := by
  intro e
  rcases h.2 with ⟨hv, _⟩ | ⟨g, cap, cur, hv, hg, hh, h3⟩
  · rw [hv] at e; cases e
  · rw [hv] at e
    simp [Value.ownBlock] at e
    subst e
    unfold Blk at hb
    rw [hh] at hb
    injection hb with hb
    injection hb with _ h2
    exact hT h2
theorem own_low {α : Type} {w : World} {B : Nat} {T : TypeId} {size : Nat} {enc : α → List Value} {v : Value} {xs : List α} {r : Nat} (h : Grow w B T size enc v xs) (hr : r < B) : v.ownBlock ≠ some r := fun e => by have := own_le h r e; omega
theorem info64' : Elem Tryz.prog 25 (.int .u64 0) 1 8 := by unfold Elem; kernel_rfl
theorem encI_len (x : Int) : (encI .u64 x).length = 1 := rfl
theorem encI_one (x : Int) : ∀ u ∈ encI .u64 x, u.oneCell' = true := by intro u hu; simp [encI] at hu; subst hu; rfl

structure RunSt where
  got : List Int
  used : Nat
  stop : Bool
  want : Acc
  sleep : Bool
def runCells (v : Value) (st : RunSt) : List Value := v :: .int .i64 (st.used : Int) :: .bool st.stop :: .int .i64 st.want.kind :: .int .i64 st.want.who :: .int .i64 st.want.at_ :: .int .u64 st.want.old :: .int .u64 st.want.new :: .bool st.want.done :: [.bool st.sleep]
structure RunAt (w : World) (B r : Nat) (v : Value) (st : RunSt) : Prop where
  blk : Blk w r (runCells v st) 56
  grow : Grow w B 25 1 (encI .u64) v st.got
  le : st.used ≤ st.got.length
  len : st.got.length ≤ 100000
theorem RunAt.kept {w w' : World} {B r : Nat} {v : Value} {st : RunSt} {S : List Nat} (h : RunAt w B r v st) (hk : Kept S w w') (hr : r ∉ S) (hS : ∀ i ∈ S, v.ownBlock ≠ some i) : RunAt w' B r v st :=
  ⟨h.blk.kept hk hr, Grow.keptB h.grow hk hS, h.le, h.len⟩
theorem RunAt.quiet {w w' : World} {B r : Nat} {v : Value} {st : RunSt} (h : RunAt w B r v st) (hb : Below w.heap.size w w') : RunAt w' B r v st := h.kept (Kept.of_below hb []) (by simp) (by simp)
def RunSt.dox (st : RunSt) (A : Acc) : RunSt × Int :=
  if st.stop then (st, 0) else if st.used < st.got.length then ({ st with used := st.used + 1 }, st.got.getD st.used 0) else ({ st with stop := true, want := A }, 0)
theorem dox_got (st : RunSt) (A : Acc) : (st.dox A).1.got = st.got := by unfold RunSt.dox; split; rfl; split <;> rfl
theorem dox_le (st : RunSt) (A : Acc) (h : st.used ≤ st.got.length) : (st.dox A).1.used ≤ (st.dox A).1.got.length := by
  unfold RunSt.dox; split
  · exact h
  · split
    · simp only; omega
    · exact h
theorem rundo_run (B r : Nat) (v : Value) (st : RunSt) (A : Acc) (w : World) (h : RunAt w B r v st) :
    Calls Tryz.prog 211 #[.pointer (some ⟨r, 0, none⟩), .agg #[.int .i64 A.kind, .int .i64 A.who, .int .i64 A.at_, .int .u64 A.old, .int .u64 A.new, .bool A.done]] w fun e w' => e = .returned (.int .u64 (st.dox A).2) ∧ RunAt w' B r v (st.dox A).1 ∧ Kept [r] w w' := by
  have hG := h.grow
  have hT := own_type hG h.blk (by decide)
  have hlt := h.blk.lt
  have hle := h.le
  have hlen := h.len
  obtain ⟨a, cap, rfl, hrow, _, _⟩ := hG.row encI_len
  have H := hid h
  have c0 := h.blk.cell 0
  have c1 := h.blk.cell 1
  have c2 := h.blk.cell 2
  have c3 := h.blk.cell 3
  have c4 := h.blk.cell 4
  have c5 := h.blk.cell 5
  have c6 := h.blk.cell 6
  have c7 := h.blk.cell 7
  have c8 := h.blk.cell 8
  have hf := h.blk.frozen
  simp only [runCells, List.getElem?_cons_zero, List.getElem?_cons_succ] at c0 c1 c2 c3 c4 c5 c6 c7 c8
  have HT := hid hT
  clear h hG hT
  cases hs : st.stop with
  | true =>
    have HD := hid (show st.dox A = (st, 0) by unfold RunSt.dox; rw [if_pos hs])
    rw [hs] at c2
    clear hs hrow
    go_enter Tryz.func211, Tryz.ntmps211
    go_wp2
    go_ret
    exact ⟨by rw [HD.out]; rfl, by rw [HD.out]; exact H.out.quiet (below_one _ _), (Kept.refl _ _).alloc _⟩
  | false =>
    rw [hs] at c2
    by_cases hu : st.used < st.got.length
    · have HD := hid (show st.dox A = ({ st with used := st.used + 1 }, st.got.getD st.used 0) by unfold RunSt.dox; rw [if_neg (by rw [hs]; simp), if_pos hu])
      obtain ⟨x, rfl, hx⟩ := hrow st.used hu
      have hx0 := hx 0 _ rfl
      rw [Nat.mul_one, Nat.add_zero] at hx0
      have HV := hid (show st.got.getD st.used 0 = st.got[st.used] by rw [List.getD_eq_getElem?_getD, List.getElem?_eq_getElem hu]; rfl)
      have hxb : x.block ≠ r := fun e => HT.out (by
        obtain ⟨cap', hcap'⟩ : ∃ c, c = cap := ⟨_, rfl⟩
        rcases H.out.grow.2 with ⟨hv, _⟩ | ⟨g, cap2, cur, hv, _⟩
        · cases hv
        · cases hv; simp [Value.ownBlock]; exact e)
      obtain ⟨val, hvd⟩ : ∃ val, st.got[st.used] = val := ⟨_, rfl⟩
      rw [hvd] at hx0
      have HL := hid (HV.out.trans hvd)
      have HB := hid (show RunAt (((w.alloc (.cells #[.int .i64 A.kind, .int .i64 A.who, .int .i64 A.at_, .int .u64 A.old, .int .u64 A.new, .bool A.done] 54))).setCell ⟨r, 1, none⟩ (.int .i64 ((st.used : Int) + 1))) B r (.slice (some x) st.got.length cap) { st with used := st.used + 1 } from
        ⟨(H.out.blk.alloc _).set 1 (.int .i64 ((st.used : Int) + 1)), Grow.keptB (S := [r]) H.out.grow (((Kept.refl _ _).alloc _).set (.inl (by simp)) _) (by intro i hi; simp at hi; subst hi; exact HT.out), hu, hlen⟩)
      obtain ⟨u, hud⟩ : ∃ u, u = st.used := ⟨_, rfl⟩
      obtain ⟨n, hnd⟩ : ∃ n, n = st.got.length := ⟨_, rfl⟩
      have HU := hid hud
      have HN := hid hnd
      clear hvd hx
      rw [← hud] at hle hu hx0 c1 HB
      rw [← hnd] at hle hlen hu c0 HB ⊢
      have u0 : (0 : Int) ≤ (u : Int) := by omega
      have u1 : (u : Int) < (n : Int) := by omega
      have hw1 : IntKind.i64.wrap ((u : Int) + 1 - 1) = (u : Int) := by rw [IntKind.wrap_i64]; omega
      have hxl : x.block < w.heap.size := by simpa using cell_lt hx0
      clear hs hrow hud hnd
      go_enter Tryz.func211, Tryz.ntmps211
      go_wp2_with fail
      go_quiet (fail)
      go_wp2_with fail
      obtain ⟨W5, hW5⟩ : ∃ W5, W5 = (((w.alloc (.cells #[.int .i64 A.kind, .int .i64 A.who, .int .i64 A.at_, .int .u64 A.old, .int .u64 A.new, .bool A.done] 54)).drewN nq).setCell ⟨r, 1, none⟩ (.int .i64 ((u : Int) + 1))) := ⟨_, rfl⟩
      have B5 : RunAt W5 B r (.slice (some x) n cap) { st with used := u + 1 } := by
        rw [hW5]
        have h5 := HB.out
        exact ⟨h5.blk, h5.grow, h5.le, h5.len⟩
      have K5 : Kept [r] w W5 := by rw [hW5]; exact (((Kept.refl _ _).alloc _).drewN _).set (.inl (by simp)) _
      have x5 : W5.cell? (x.add u) = some (.int .u64 val) := K5.cell hx0 (by simpa using hxb)
      rw [← hW5]
      clear hW5 c0 c1 c2 c3 c4 c5 c6 c7 c8 hf hx0 HB H
      have c0 := B5.blk.cell 0
      have c1 := B5.blk.cell 1
      simp only [runCells, List.getElem?_cons_zero, List.getElem?_cons_succ, Int.natCast_add, Int.natCast_one] at c0 c1
      have HB5 := hid B5
      clear B5
      go_quiet (fail)
      go_wp2
      go_ret
      exact ⟨by rw [HD.out]; exact congrArg (fun z => Ending.returned (.int .u64 z)) HL.out.symm, by rw [HD.out, ← HU.out]; exact HB5.out.quiet (below_drewN (Below.refl _ _) _), K5.drewN _⟩
    · have HD := hid (show st.dox A = ({ st with stop := true, want := A }, 0) by unfold RunSt.dox; rw [if_neg (by rw [hs]; simp), if_neg hu])
      have hd : decide ((st.used : Int) < (st.got.length : Int)) = false := decide_eq_false (by omega)
      clear hs hrow
      go_enter Tryz.func211, Tryz.ntmps211
      go_wp2_with fail
      go_quiet (fail)
      go_wp2
      go_ret
      refine ⟨by rw [HD.out]; rfl, ?_, ?_⟩
      · rw [HD.out]
        have hk : Kept [r] w ((((((((w.alloc (.cells #[.int .i64 A.kind, .int .i64 A.who, .int .i64 A.at_, .int .u64 A.old, .int .u64 A.new, .bool A.done] 54)).drewN nq).setCell ⟨r, 2, none⟩ (.bool true)).setCell ⟨r, 3, none⟩ (.int .i64 A.kind)).setCell ⟨r, 4, none⟩ (.int .i64 A.who)).setCell ⟨r, 5, none⟩ (.int .i64 A.at_)).setCell ⟨r, 6, none⟩ (.int .u64 A.old)).setCell ⟨r, 7, none⟩ (.int .u64 A.new)) := ((((((((Kept.refl _ _).alloc _).drewN _).set (.inl (by simp)) _).set (.inl (by simp)) _).set (.inl (by simp)) _).set (.inl (by simp)) _).set (.inl (by simp)) _).set (.inl (by simp)) _
        have hb := ((((((((H.out.blk.alloc (.cells #[.int .i64 A.kind, .int .i64 A.who, .int .i64 A.at_, .int .u64 A.old, .int .u64 A.new, .bool A.done] 54)).drewN nq).set 2 (.bool true)).set 3 (.int .i64 A.kind)).set 4 (.int .i64 A.who)).set 5 (.int .i64 A.at_)).set 6 (.int .u64 A.old)).set 7 (.int .u64 A.new)).set 8 (.bool A.done)
        exact ⟨hb, Grow.keptB (S := [r]) H.out.grow (hk.set (p := ⟨r, 8, none⟩) (.inl (by simp)) (.bool A.done)) (by intro i hi; simp at hi; subst hi; exact HT.out), H.out.le, H.out.len⟩
      · exact (((((((((Kept.refl _ _).alloc _).drewN _).set (.inl (by simp)) _).set (.inl (by simp)) _).set (.inl (by simp)) _).set (.inl (by simp)) _).set (.inl (by simp)) _).set (.inl (by simp)) _).set (.inl (by simp)) _
end Go.Proofs.YtlhnnggceebpjaaGreat.Run
end

section
/- A ground's memory, and the document's, as they are laid. -/
set_option maxRecDepth 100000
set_option maxHeartbeats 4000000
set_option linter.unusedVariables false
set_option linter.unusedSimpArgs false
namespace Go.Proofs.YtlhnnggceebpjaaGreat.Run
open Go.RowKit Go.Shelf Go.Proofs.YtlhnnggceebpjaaGreat.TK Go.Proofs.YtlhnnggceebpjaaGreat.Flag Go.Proofs.YtlhnnggceebpjaaGreat.Read Go.Proofs.YtlhnnggceebpjaaGreat.Grow Go.Proofs.YtlhnnggceebpjaaGreat.Words Go.Proofs.YtlhnnggceebpjaaGreat.Mem Go.Proofs.YtlhnnggceebpjaaGreat.Layout

theorem rnew_run (ad : Addr) (c : Nat) (xs : List Int) (w : World) (hlen : xs.length ≤ 100000) (hpos : 0 < xs.length) (hwf : ∀ x ∈ xs, 0 ≤ x ∧ x < 18446744073709551616) (hc : ∀ i (h : i < xs.length), w.cell? (ad.add i) = some (.int .u64 xs[i])) :
    Calls Tryz.prog 122 #[.slice (some ad) xs.length c] w fun e w' => ∃ m g, e = .returned (.pointer (some ⟨m, 0, none⟩)) ∧ w.heap.size ≤ m ∧ w.heap.size ≤ g ∧ RMemAt w' m g ⟨xs, 0, 0, ⟨0, 0, 0, 0, 0, false⟩⟩ ∧ Below w.heap.size w w' := by
  obtain ⟨i0, hi0, hz0, hz1, hz2⟩ := info_parts info64'
  have HC := hid hc
  have HW := hid hwf
  have had : ad.block < w.heap.size := by have := cell_lt (hc 0 hpos); simpa using this
  obtain ⟨n, hn⟩ : ∃ n, n = xs.length := ⟨_, rfl⟩
  rw [← hn] at hlen hpos ⊢
  have HN := hid hn
  clear hc hwf hn
  go_enter Tryz.func122, Tryz.ntmps122
  go_wp2_with fail
  go_loopw [4] (fun i wr => ∃ (k : Nat) (v : Value), k ≤ n ∧ i = .int .i64 (k : Int) ∧ Blk wr w.heap.size (v :: .int .i64 0 :: .int .i64 0 :: accCells ⟨0, 0, 0, 0, 0, false⟩) 64 ∧ Grow wr (w.heap.size + 1) 25 1 (encI .u64) v (xs.take k) ∧ Below w.heap.size w wr) (fun i _ => n - (intOf i).toNat)
  case atStart => exact ⟨0, .slice none 0 0, Nat.zero_le _, rfl, Blk.new w (.slice none 0 0 :: .int .i64 0 :: .int .i64 0 :: accCells ⟨0, 0, 0, 0, 0, false⟩) _, Grow.nil _ _ _ _ _, below_one _ _⟩
  case round =>
    obtain ⟨k, v, hk, rfl, hB, hG, hlow⟩ := hrel
    have hlt := hB.lt
    by_cases hkn : k < n
    · have hkx : k < xs.length := by rw [← HN.out]; exact hkn
      have cx0 := HC.out k hkx
      have cx := hlow.cell (p := ad.add k) (by simpa using had) |>.trans cx0
      have HT := hid (List.take_succ_eq_append_getElem hkx)
      obtain ⟨y, hy⟩ : ∃ y, xs[k] = y := ⟨_, rfl⟩
      rw [hy] at cx cx0 HT
      clear hy
      have c0 := hB.cell 0
      have f0 := hB.frozen 0
      simp only [List.getElem?_cons_zero] at c0
      have hl : (xs.take k).length = k := by rw [List.length_take]; omega
      obtain ⟨L, hL⟩ : ∃ L, L = xs.take k := ⟨_, rfl⟩
      rw [← hL] at hG HT hl
      have HL := hid hl
      have hll : L.length ≤ 100000 := by omega
      clear hL hl
      have k0 : (0 : Int) ≤ (k : Int) := by omega
      have k1 : (k : Int) < (n : Int) := by omega
      go_wp2_with fail
      have hne := own_low hG (r := w.heap.size) (by omega)
      have hcells := hB
      go_region_law ((refine step_append_lies _ (by rfl) _ _ _ (by rfl) (w.heap.size + 1) 25 i0 _ 1 8 Tryz.underlying47 hi0 hz0 hz1 hz2 rfl (by omega) v L.length (L.flatMap (encI .u64)) (by rfl) ((World.ownsRow.alloc hG _).drew) ⟨wr.heap.size, 0, none⟩ 1 1 [.int .u64 y] (by rfl) (by rfl) (World.news_of_block (cs := #[.int .u64 y]) (t := 25) (fr := (0, 0)) (heap_alloc_new wr _)) (by simp [Value.oneCell']) (by omega) (by unfold maxLen; omega) (by omega) (by simp; omega) (wr.heap.size + 1) (by simp) ?_; intro gg cp w1 hown1 hgrow hat hlt1; have hb1 : Blk w1 w.heap.size (v :: .int .i64 0 :: .int .i64 0 :: accCells ⟨0, 0, 0, 0, 0, false⟩) 64 := (hgrow.block w.heap.size (by simp; omega) (Ne.symm hne)).trans (hB.alloc _); have f1 := hb1.frozen 0; have d0 := hb1.cell 0; simp only [List.getElem?_cons_zero] at d0; have hl1 : Below w.heap.size w w1 := ((hlow.alloc hlow.size _).drew).grown hgrow (by simp; omega) (fun j e => by have := own_le hG j e; omega)))
      all_goals
        have hb2 : Blk (w1.setCell ⟨w.heap.size, 0, none⟩ (.slice (some ⟨gg, 0, none⟩) (L.length + 1) cp)) w.heap.size (.slice (some ⟨gg, 0, none⟩) (L.length + 1) cp :: .int .i64 0 :: .int .i64 0 :: accCells ⟨0, 0, 0, 0, 0, false⟩) 64 := hb1.set 0 _
        have hown2 := hown1.kept (grownBy_setCell' w1 w.heap.size (.slice (some ⟨gg, 0, none⟩) (L.length + 1) cp)) (.inr (fun e => by have := own_le hown1 w.heap.size (by simpa using e); omega))
        have hG2 : Grow (w1.setCell ⟨w.heap.size, 0, none⟩ (.slice (some ⟨gg, 0, none⟩) (L.length + 1) cp)) (w.heap.size + 1) 25 1 (encI .u64) (.slice (some ⟨gg, 0, none⟩) (L.length + 1) cp) (xs.take (k + 1)) := by
          rw [HT.out]; unfold Grow; rw [List.length_append, List.flatMap_append]; simpa [encI] using hown2
        have hl2 := hl1.setCell (p := ⟨w.heap.size, 0, none⟩) (Nat.le_refl _) (.slice (some ⟨gg, 0, none⟩) (L.length + 1) cp)
        have HP := hid (And.intro hb2 (And.intro hG2 hl2))
        clear hb2 hown2 hG2 hl2 hown1 hgrow hat hb1 f1 d0 hl1 hlt1 hB hG hlow
        go_wp2
        go_roundw
        case rel => exact ⟨k + 1, _, by omega, by go_num, HP.out.1, HP.out.2.1, HP.out.2.2⟩
        case measure => simp only [intOf]; omega
    · obtain rfl : k = n := by omega
      have HP := hid (And.intro hB (And.intro hG hlow))
      clear hB hG hlow
      go_wp2
      go_ret
      obtain ⟨hB, hG, hlow⟩ := HP.out
      rw [List.take_of_length_le (by rw [← HN.out]; exact Nat.le_refl _)] at hG
      rcases hG.2 with ⟨_, h0⟩ | ⟨g, cap, cur, hv, hg, hh, hcap, hmax, hsz, htake⟩
      · rw [← HN.out] at h0; omega
      · subst hv
        refine ⟨w.heap.size, g, rfl, Nat.le_refl _, by omega, ⟨⟨cap, cur.toList.drop xs.length, hB, ?_, hcap⟩, by omega, HW.out, by rw [← HN.out]; omega, by simp, by simp⟩, hlow⟩
        have e : ∀ zs : List Int, zs.flatMap (encI .u64) = u64s zs := by
          intro zs; induction zs with
          | nil => rfl
          | cons z zs ih => rw [List.flatMap_cons, ih]; rfl
        have e2 : u64s xs ++ cur.toList.drop xs.length = cur.toList := by
          rw [← e, ← htake, Nat.mul_one, List.take_append_drop]
        unfold Blk
        rw [e2]
        simpa using hh
end Go.Proofs.YtlhnnggceebpjaaGreat.Run
end

section
/- A ground, as it is laid. -/
set_option maxRecDepth 100000
set_option maxHeartbeats 4000000
set_option linter.unusedVariables false
set_option linter.unusedSimpArgs false
namespace Go.Proofs.YtlhnnggceebpjaaGreat.Layout
open Go.RowKit Go.Proofs.YtlhnnggceebpjaaGreat.TK
/-- Configs that statements go through. -/
def FewP (p t g : Int) : Prop := Right p t g ∧ p ≤ 4 ∧ t ≤ 8 ∧ g ≤ 60
instance (p t g : Int) : Decidable (FewP p t g) := by unfold FewP; infer_instance
theorem few_yes (p t g : Int) (w : World) (h : FewP p t g) :
    Calls Tryz.prog 118 #[.agg #[.int .i64 p, .int .i64 t, .int .i64 g]] w fun e w' => e = .returned (.bool true) ∧ Below w.heap.size w w' := by
  obtain ⟨hR, h1, h2, h3⟩ := h
  have hd : decide (Right p t g) = true := decide_eq_true hR
  clear hR
  go_enter Tryz.func118, Tryz.ntmps118
  go_wp2_with (first | (go_at_call 199; refine (rright_run _ _ _ _).mono ?_; rintro e w2 ⟨rfl, hb2⟩; have hB := ((Blk.new w [.int .i64 p, .int .i64 t, .int .i64 g] 23).quiet hb2); have b0 := hB.cell 0; have b1 := hB.cell 1; have b2 := hB.cell 2; simp only [List.getElem?_cons_zero, List.getElem?_cons_succ] at b0 b1 b2; clear hB))
  go_ret
  exact ⟨rfl, Below.then_ (below_one _ _) hb2⟩
theorem few_no (p t g : Int) (w : World) (h : ¬ FewP p t g) :
    Calls Tryz.prog 118 #[.agg #[.int .i64 p, .int .i64 t, .int .i64 g]] w fun e w' => e = .returned (.bool false) ∧ Below w.heap.size w w' := by
  by_cases hR : Right p t g
  · have hd : decide (Right p t g) = true := decide_eq_true hR
    have h' : ¬ (p ≤ 4 ∧ t ≤ 8 ∧ g ≤ 60) := fun x => h ⟨hR, x⟩
    rcases (show decide (p ≤ 4) = false ∨ (decide (p ≤ 4) = true ∧ decide (t ≤ 8) = false) ∨ (decide (p ≤ 4) = true ∧ decide (t ≤ 8) = true ∧ decide (g ≤ 60) = false) by simp only [decide_eq_false_iff_not, decide_eq_true_eq]; omega) with h1 | ⟨h1, h2⟩ | ⟨h1, h2, h3⟩
    all_goals (clear hR h h')
    all_goals go_enter Tryz.func118, Tryz.ntmps118
    all_goals go_wp2_with (first | (go_at_call 199; refine (rright_run _ _ _ _).mono ?_; rintro e w2 ⟨rfl, hb2⟩; have hB := ((Blk.new w [.int .i64 p, .int .i64 t, .int .i64 g] 23).quiet hb2); have b0 := hB.cell 0; have b1 := hB.cell 1; have b2 := hB.cell 2; simp only [List.getElem?_cons_zero, List.getElem?_cons_succ] at b0 b1 b2; clear hB))
    all_goals (go_ret; exact ⟨rfl, Below.then_ (below_one _ _) hb2⟩)
  · have hd : decide (Right p t g) = false := decide_eq_false hR
    clear hR h
    go_enter Tryz.func118, Tryz.ntmps118
    go_wp2_with (first | (go_at_call 199; refine (rright_run _ _ _ _).mono ?_; rintro e w2 ⟨rfl, hb2⟩))
    go_ret
    exact ⟨rfl, Below.then_ (below_one _ _) hb2⟩
theorem rlen_run (p t g : Int) (w : World) (h : Right p t g) :
    Calls Tryz.prog 119 #[.agg #[.int .i64 p, .int .i64 t, .int .i64 g]] w fun e w' => e = .returned (.int .i64 (20 + p * 264 + t * 3 + g * 2)) ∧ Below w.heap.size w w' := by
  unfold Right at h
  go_enter Tryz.func119, Tryz.ntmps119
  go_wp2
  go_ret
  exact ⟨ret_int (by omega), below_one _ _⟩


end Go.Proofs.YtlhnnggceebpjaaGreat.Layout
namespace Go.Proofs.YtlhnnggceebpjaaGreat.Run
open Go.RowKit Go.Shelf Go.Proofs.YtlhnnggceebpjaaGreat.TK Go.Proofs.YtlhnnggceebpjaaGreat.Flag Go.Proofs.YtlhnnggceebpjaaGreat.Read Go.Proofs.YtlhnnggceebpjaaGreat.Grow Go.Proofs.YtlhnnggceebpjaaGreat.Words Go.Proofs.YtlhnnggceebpjaaGreat.Mem Go.Proofs.YtlhnnggceebpjaaGreat.Layout

/-- The words of a ground. -/
abbrev PutT := Int × Int
def encP (q : PutT) : List Value := [.int .i64 q.1, .int .u64 q.2]
def putW (ws : List Int) (q : PutT) : List Int := if 0 ≤ q.1 ∧ q.1 < ws.length then ws.set q.1.toNat q.2 else ws
def layTo (n : Nat) (puts : List PutT) (k : Nat) : List Int := (puts.take k).foldl putW (List.replicate n 0)
def layW (n : Nat) (puts : List PutT) : List Int := layTo n puts puts.length
theorem putW_len (ws : List Int) (q : PutT) : (putW ws q).length = ws.length := by unfold putW; split <;> simp
theorem layTo_len (n : Nat) (puts : List PutT) (k : Nat) : (layTo n puts k).length = n := by
  unfold layTo
  have : ∀ (l : List PutT) (ws : List Int), (l.foldl putW ws).length = ws.length := by
    intro l; induction l with
    | nil => intro ws; rfl
    | cons q l ih => intro ws; rw [List.foldl_cons, ih, putW_len]
  rw [this]; simp
theorem layTo_succ (n : Nat) (puts : List PutT) (k : Nat) (h : k < puts.length) : layTo n puts (k + 1) = putW (layTo n puts k) puts[k] := by
  unfold layTo; rw [List.take_succ_eq_append_getElem h, List.foldl_append]; rfl
theorem layW_wf (n : Nat) (puts : List PutT) (h : ∀ q ∈ puts, 0 ≤ q.2 ∧ q.2 < 18446744073709551616) : ∀ x ∈ layW n puts, 0 ≤ x ∧ x < 18446744073709551616 := by
  unfold layW layTo
  rw [List.take_length]
  have : ∀ (l : List PutT) (ws : List Int), (∀ q ∈ l, 0 ≤ q.2 ∧ q.2 < 18446744073709551616) → (∀ x ∈ ws, 0 ≤ x ∧ x < 18446744073709551616) → ∀ x ∈ l.foldl putW ws, 0 ≤ x ∧ x < 18446744073709551616 := by
    intro l; induction l with
    | nil => intro ws _ hw; exact hw
    | cons q l ih =>
      intro ws hl hw
      rw [List.foldl_cons]
      refine ih _ (fun r hr => hl r (List.mem_cons_of_mem _ hr)) ?_
      unfold putW; split
      · exact wf_set hw _ (hl q List.mem_cons_self)
      · exact hw
  refine this puts _ h (fun x hx => ?_)
  rw [(List.mem_replicate.1 hx).2]; omega
theorem made_zero (n : Nat) : (madeCells #[Value.int .u64 0] n).toList = u64s (List.replicate n 0) := by
  have h : (madeCells #[Value.int .u64 0] n) = Array.replicate n (Value.int .u64 0) := by
    unfold madeCells
    apply Array.ext
    · simp
    · intro i h1 h2
      simp [Nat.mod_one]
  rw [h]
  simp [u64s]
theorem u64s_set (ys : List Int) (spare : List Value) (k : Nat) (x : Int) (hk : k < ys.length) : (u64s ys ++ spare).set k (.int .u64 x) = u64s (ys.set k x) ++ spare := by
  rw [List.set_append_left _ _ (by simpa [u64s] using hk)]
  simp [u64s, List.map_set]
/-- The cells of a slice that the call itself made: whatever they are, each can be written. -/
def Room (w : World) (G n : Nat) : Prop := ∃ cs : List Value, n ≤ cs.length ∧ Blk w G cs 25
theorem Room.cell {w : World} {G n : Nat} (h : Room w G n) {i : Nat} (hi : i < n) : (∃ v, w.cell? ⟨G, i, none⟩ = some v) ∧ w.frozen? ⟨G, i, none⟩ = false := by
  obtain ⟨cs, hn, hb⟩ := h
  exact ⟨⟨cs[i]'(by omega), (hb.cell i).trans (List.getElem?_eq_getElem (by omega))⟩, hb.frozen i⟩
theorem Room.set {w : World} {G n : Nat} (h : Room w G n) (i : Nat) (v : Value) : Room (w.setCell ⟨G, i, none⟩ v) G n := by
  obtain ⟨cs, hn, hb⟩ := h
  exact ⟨cs.set i v, by simpa using hn, hb.set i v⟩
/-- What the last loop's test knows. -/
def cntOf : List Bool → Int
  | [true] => 1
  | _ => 0
def lenOf (p t g : Int) : Nat := (20 + p * 264 + t * 3 + g * 2).toNat
def fresh (ws : List Int) : St := ⟨ws, 0, 0, ⟨0, 0, 0, 0, 0, false⟩⟩

theorem lay_no (p t g : Int) (a : Option Addr) (n c : Nat) (w : World) (h : ¬ FewP p t g ∨ 400 < n) :
    Calls Tryz.prog 20 #[.agg #[.int .i64 p, .int .i64 t, .int .i64 g, .slice a n c]] w fun e w' => e = .returned (.tuple #[.pointer none, .pointer none, .pointer none, .bool false]) ∧ Below w.heap.size w w' := by
  by_cases hf : FewP p t g
  · have hn : decide ((400 : Int) < (n : Int)) = true := decide_eq_true (by rcases h with h | h; exact absurd hf h; omega)
    have HF := hid hf
    clear h hf
    go_enter Tryz.func20, Tryz.ntmps20
    go_wp2_with fail
    refine (few_yes _ _ _ _ HF.out).mono ?_
    rintro e w1 ⟨rfl, hb⟩
    have hB := (Blk.new w [.int .i64 p, .int .i64 t, .int .i64 g, .slice a n c] 30).quiet hb
    have b3 := hB.cell 3
    simp only [List.getElem?_cons_zero, List.getElem?_cons_succ] at b3
    have hlow := Below.then_ (below_one w (.cells #[.int .i64 p, .int .i64 t, .int .i64 g, .slice a n c] 30)) hb
    clear hB hb
    go_wp2
    exact bodyPost_ret (v := .tuple #[.pointer none, .pointer none, .pointer none, .bool false]) (by simp [results, Tryz.results20, go_sem]) rfl ⟨rfl, hlow⟩
  · have HF := hid hf
    clear h hf
    go_enter Tryz.func20, Tryz.ntmps20
    go_wp2_with fail
    refine (few_no _ _ _ _ HF.out).mono ?_
    rintro e w1 ⟨rfl, hb⟩
    have hlow := Below.then_ (below_one w (.cells #[.int .i64 p, .int .i64 t, .int .i64 g, .slice a n c] 30)) hb
    clear hb
    go_wp2
    exact bodyPost_ret (v := .tuple #[.pointer none, .pointer none, .pointer none, .bool false]) (by simp [results, Tryz.results20, go_sem]) rfl ⟨rfl, hlow⟩

/-- What a ground is laid to. -/
structure Laid (w w' : World) (l m g rm rg : Nat) (p t gs : Int) (ws : List Int) : Prop where
  lay : Lay w' l p t gs
  mem : MemAt w' m g (fresh ws)
  rmem : RMemAt w' rm rg (fresh ws)
  low : Below w.heap.size w w'
  low5 : w.heap.size ≤ l ∧ w.heap.size ≤ m ∧ w.heap.size ≤ g ∧ w.heap.size ≤ rm ∧ w.heap.size ≤ rg
  ord : l < m ∧ l < g ∧ m < rm ∧ m < rg ∧ g < rm ∧ g < rg
theorem lay_yes (p t gs : Int) (a : Option Addr) (c : Nat) (puts : List PutT) (w : World) (h : FewP p t gs) (hn : puts.length ≤ 400) (hr : RowOf encP 2 w a puts) (hwf : ∀ q ∈ puts, 0 ≤ q.2 ∧ q.2 < 18446744073709551616) :
    Calls Tryz.prog 20 #[.agg #[.int .i64 p, .int .i64 t, .int .i64 gs, .slice a puts.length c]] w fun e w' => ∃ l m g rm rg, e = .returned (.tuple #[.pointer (some ⟨l, 0, none⟩), .pointer (some ⟨m, 0, none⟩), .pointer (some ⟨rm, 0, none⟩), .bool true]) ∧ Laid w w' l m g rm rg p t gs (layW (lenOf p t gs) puts) := by
  have hR : Right p t gs := h.1
  have hR' := hR
  unfold Right at hR'
  have hN : (20 + p * 264 + t * 3 + gs * 2) = ((lenOf p t gs : Nat) : Int) := by unfold lenOf; omega
  obtain ⟨N, hNd⟩ : ∃ N, N = lenOf p t gs := ⟨_, rfl⟩
  have hN1 : 20 ≤ N ∧ N ≤ 100000 := by rw [hNd]; unfold lenOf; obtain ⟨_, q1, q2, q3⟩ := h; omega
  rw [← hNd] at hN ⊢
  have HF := hid h
  have HR := hid hR
  have HN := hid hN
  have HP := hid hr
  have HW := hid (layW_wf N puts hwf)
  obtain ⟨i0, hi, hz0, hz1, hz2⟩ := info_parts info64
  have hd4 : decide ((400 : Int) < (puts.length : Int)) = false := decide_eq_false (by omega)
  clear h hR hR' hN hNd hr hwf
  go_enter Tryz.func20, Tryz.ntmps20
  go_wp2_with fail
  refine (few_yes _ _ _ _ HF.out).mono ?_
  rintro e w1 ⟨rfl, hb⟩
  have hB1 := (Blk.new w [.int .i64 p, .int .i64 t, .int .i64 gs, .slice a puts.length c] 30).quiet hb
  have hlow1 := Below.then_ (below_one w (.cells #[.int .i64 p, .int .i64 t, .int .i64 gs, .slice a puts.length c] 30)) hb
  clear hb
  have b0 := hB1.cell 0
  have b1 := hB1.cell 1
  have b2 := hB1.cell 2
  have b3 := hB1.cell 3
  simp only [List.getElem?_cons_zero, List.getElem?_cons_succ] at b0 b1 b2 b3
  go_wp2_with fail
  refine (rlen_run _ _ _ _ HR.out).mono ?_
  rintro e w2 ⟨rfl, hb⟩
  rw [HN.out]
  have hB2 := hB1.quiet hb
  have hlow2 := Below.then_ hlow1 hb
  clear hb hB1 hlow1 b0 b1 b2 b3
  have b3 := hB2.cell 3
  simp only [List.getElem?_cons_zero, List.getElem?_cons_succ] at b3
  go_wp2_with (first | (at_make; refine wpList_make_full _ rfl _ _ 47 rfl w2.heap.size 25 i0 (.int .u64 0) 1 Tryz.underlying47 hi hz0 hz1 .i64 .i64 N N N rfl rfl rfl rfl (by rw [hz2]; omega) (by unfold maxLen; omega) (by first | exact Nat.le_refl _ | simp) ?_))
  intro w3 hown hgrow
  rw [made_zero] at hown
  obtain ⟨g0, _, cap0, spare, he, _, hG3⟩ := of_own (n := N) (xs := List.replicate N 0) (by simp) hown (by simp)
  obtain ⟨rfl, _⟩ : w2.heap.size = g0 ∧ True := by simp at he; exact ⟨he.1, trivial⟩
  have hl3 : Below w2.heap.size w2 w3 := (Below.refl _ w2).grown hgrow (Nat.le_refl _) (by simp)
  have hB3 := hB2.quiet hl3
  have hlow3 := Below.then_ hlow2 hl3
  have hH : w.heap.size < w2.heap.size := hB2.lt
  clear he hown hgrow hB2 hl3 b3 hlow2
  have b3 := hB3.cell 3
  simp only [List.getElem?_cons_zero, List.getElem?_cons_succ] at b3
  go_wp2_with fail
  go_loopw [7] (fun i wr => ∃ k : Nat, k ≤ puts.length ∧ i = .int .i64 (k : Int) ∧ Blk wr w.heap.size [.int .i64 p, .int .i64 t, .int .i64 gs, .slice a puts.length c] 30 ∧ Blk wr w2.heap.size (u64s (layTo N puts k) ++ spare) 25 ∧ Below w.heap.size w wr) (fun i _ => puts.length - (intOf i).toNat)
  case atStart => exact ⟨0, Nat.zero_le _, rfl, hB3, hG3, hlow3⟩
  case round =>
    clear hB3 hG3 hlow3 b3
    obtain ⟨k, hk, rfl, hB, hG, hlow⟩ := hrel
    have b3 := hB.cell 3
    have hlL := layTo_len N puts k
    simp only [List.getElem?_cons_zero, List.getElem?_cons_succ] at b3
    by_cases hkn : k < puts.length
    · obtain ⟨x, rfl, hx⟩ := HP.out.quiet hlow k hkn
      have hx0 := hx 0 _ rfl
      have hx1 := hx 1 _ rfl
      have HS := hid (layTo_succ N puts k hkn)
      obtain ⟨⟨pa, pw⟩, hq⟩ : ∃ q : PutT, puts[k] = q := ⟨_, rfl⟩
      rw [hq] at hx0 hx1 HS
      rw [add_next] at hx1
      simp only [Nat.add_zero, Nat.zero_add] at hx0 hx1
      clear hq hx
      have hxb : x.block < w.heap.size := by
        obtain ⟨x', hx', hx2⟩ := HP.out k hkn
        cases hx'
        simpa using cell_lt (hx2 0 _ rfl)
      obtain ⟨L, hL⟩ : ∃ L, L = layTo N puts k := ⟨_, rfl⟩
      rw [← hL] at hG hlL HS
      clear hL
      have k0 : (0 : Int) ≤ (k : Int) := by omega
      have k1 : (k : Int) < (puts.length : Int) := by omega
      by_cases hin : 0 ≤ pa ∧ pa < (L.length : Int)
      · have HQ := hid (show putW L (pa, pw) = L.set pa.toNat pw from if_pos hin)
        obtain ⟨q0, q1⟩ := hin
        have q2 : pa < (N : Int) := by omega
        have q3 : pa.toNat < L.length := by omega
        go_wp2_with fail
        have hI : Blk wr.drew w.heap.size [.int .i64 p, .int .i64 t, .int .i64 gs, .slice (some x) puts.length c] 30 ∧ Blk wr.drew w2.heap.size (u64s L ++ spare) 25 ∧ Below w.heap.size w wr.drew ∧ wr.drew.cell? (x.add (k * 2)) = some (.int .i64 pa) ∧ wr.drew.cell? ⟨x.block, (x.add (k * 2)).off + 1, none⟩ = some (.int .u64 pw) := ⟨hB, hG, hlow.drew, hx0, hx1⟩
        refine wp_region_T 14 (fun w' => Blk w' w.heap.size [.int .i64 p, .int .i64 t, .int .i64 gs, .slice (some x) puts.length c] 30 ∧ Blk w' w2.heap.size (u64s L ++ spare) 25 ∧ Below w.heap.size w w' ∧ w'.cell? (x.add (k * 2)) = some (.int .i64 pa) ∧ w'.cell? ⟨x.block, (x.add (k * 2)).off + 1, none⟩ = some (.int .u64 pw))
          (fun w' => Blk w' w.heap.size [.int .i64 p, .int .i64 t, .int .i64 gs, .slice (some x) puts.length c] 30 ∧ Blk w' w2.heap.size (u64s (L.set pa.toNat pw) ++ spare) 25 ∧ Below w.heap.size w w') (by kernel_rfl) (by kernel_rfl) rfl (by kernel_rfl) hI ?_
        clear hB hG hlow hx0 hx1 b3 hI
        repeat (first | (apply walkD_pure; rfl; rfl; (intro _; go_simp; first | done | rfl); (intro K hK; go_simp; refine hK _ ?_; clear hK K)) | (apply walkD_skip; rfl; rfl; (intro K hK; go_simp; refine hK _ ?_; clear hK K)) | (apply walkD_read1 [false] (by kernel_rfl); rfl; rfl; (intro w' hD; have y0 := Blk.cell hD.1 3; have y1 := hD.2.2.2.1; have y2 := hD.2.2.2.2; simp only [List.getElem?_cons_zero, List.getElem?_cons_succ] at y0; go_simp; rfl); (intro K hK; go_simp; refine hK _ ?_; clear hK K)))
        apply walkD_turn1 (v := undef) [false] (by kernel_rfl); rfl
        · intro w' hD
          have y0 := (Blk.cell hD.2.1 pa.toNat).trans (List.getElem?_append_left (by rw [u64s_length]; exact q3))
          rw [u64s_get L _ q3] at y0
          have y1 := Blk.frozen hD.2.1 pa.toNat
          unfold Go.Proofs.YtlhnnggceebpjaaGreat.Flag.opAt
          go_simp
          refine ⟨⟨Blk.far hD.1 (by simp; omega) _, ?_, hD.2.2.1.setCell (by simp; omega) _⟩, rfl⟩
          have := Blk.set hD.2.1 pa.toNat (.int .u64 pw)
          rwa [u64s_set' _ _ _ _ q3] at this
        (intro K hK; go_simp; refine hK _ ?_; clear hK K)
        repeat (first | (apply walkD_pure; rfl; rfl; (intro _; go_simp; first | done | rfl); (intro K hK; go_simp; refine hK _ ?_; clear hK K)) | (apply walkD_skip; rfl; rfl; (intro K hK; go_simp; refine hK _ ?_; clear hK K)))
        rintro w' ⟨hB', hG', hlow'⟩
        rw [← HQ.out, ← HS.out] at hG'
        go_wp2
        go_roundw
        case rel => first | exact ⟨k + 1, by omega, by go_num, hB', hG', hlow'⟩ | ((repeat apply Exists.intro); exact ⟨⟨k + 1, by omega, by go_num, hB', hG', hlow'⟩, rfl⟩)
        case measure => simp only [intOf]; omega
      · have HQ := hid (show putW L (pa, pw) = L from if_neg hin)
        by_cases q0 : 0 ≤ pa
        · have q1 : (N : Int) ≤ pa := by omega
          rw [← HQ.out, ← HS.out] at hG
          clear hin
          go_wp2
          go_roundw
          case rel => first | exact ⟨k + 1, by omega, by go_num, hB, hG, hlow⟩ | ((repeat apply Exists.intro); exact ⟨⟨k + 1, by omega, by go_num, hB, hG, hlow⟩, rfl⟩)
          case measure => simp only [intOf]; omega
        · have q1 : pa < 0 := by omega
          have q2 : decide (0 ≤ pa) = false := decide_eq_false q0
          rw [← HQ.out, ← HS.out] at hG
          clear hin q0
          go_wp2
          go_roundw
          case rel => first | exact ⟨k + 1, by omega, by go_num, hB, hG, hlow⟩ | ((repeat apply Exists.intro); exact ⟨⟨k + 1, by omega, by go_num, hB, hG, hlow⟩, rfl⟩)
          case measure => simp only [intOf]; omega
    · obtain rfl : k = puts.length := by omega
      have hG' : Blk wr w2.heap.size (u64s (layW N puts) ++ spare) 25 := hG
      obtain ⟨L, hL⟩ : ∃ L, L = layW N puts := ⟨_, rfl⟩
      have hLl : L.length = N := by rw [hL]; exact layTo_len N puts _
      rw [← hL] at hG' HW
      have HL := hid hL
      have b0 := hB.cell 0
      have b1 := hB.cell 1
      have b2 := hB.cell 2
      simp only [List.getElem?_cons_zero, List.getElem?_cons_succ] at b0 b1 b2
      have hlt : w2.heap.size < wr.heap.size := hG.lt
      clear hL hG hkn hlL
      go_wp2_with fail
      refine (of_yes _ _ _ _ HR.out).mono ?_
      rintro e w4 ⟨l, hl0, rfl, hLay, hb⟩
      have hG4 := hG'.quiet hb
      have hlow4 := Below.then_ hlow hb
      have hll4 := hLay.1.lt
      clear hb hG' hlow b0 b1 b2 b3 hB
      have hcells : ∀ i (h : i < L.length), w4.cell? ((⟨w2.heap.size, 0, none⟩ : Addr).add i) = some (.int .u64 L[i]) := by
        intro i hi
        rw [show (⟨w2.heap.size, 0, none⟩ : Addr).add i = ⟨w2.heap.size, i, none⟩ by unfold Addr.add; split <;> simp_all]
        exact ((hG4.cell i).trans (List.getElem?_append_left (by rw [u64s_length]; exact hi))).trans (u64s_get L i hi)
      have HC := hid hcells
      have HLL := hid hLl
      have HNl := hid hN1
      clear hcells hLl hG4 hN1
      go_wp2_with fail
      rw [← HLL.out]
      refine (mof_run ⟨w2.heap.size, 0, none⟩ _ L _ (by have := HLL.out; have := HNl.out; omega) HW.out HC.out).mono ?_
      rintro e w5 ⟨m, g, rfl, hm0, hg0, hM, hb⟩
      have hLay5 := hLay.quiet hb
      have hlow5 := Below.then_ hlow4 hb
      have HC5 := hid (show ∀ i (h : i < L.length), w5.cell? ((⟨w2.heap.size, 0, none⟩ : Addr).add i) = some (.int .u64 L[i]) by
        intro i hi
        rw [hb.cell (by simp; have := hb.size; omega)]; exact HC.out i hi)
      clear hb hLay HC
      go_wp2_with fail
      refine (rnew_run ⟨w2.heap.size, 0, none⟩ _ L _ (by have := HLL.out; have := HNl.out; omega) (by have := HLL.out; have := HNl.out; omega) HW.out HC5.out).mono ?_
      rintro e w6 ⟨rm, rg, rfl, hrm, hrg, hRM, hb⟩
      have hLay6 := hLay5.quiet hb
      have hM6 := hM.quiet hb
      have hlow6 := Below.then_ hlow5 hb
      have HFIN := hid (show Laid w w6 l m g rm rg p t gs L from ⟨hLay6, hM6, hRM, hlow6, by have := hM.ltm; have := hM.ltg; have := hlow4.size; omega, by have := hM.ltm; have := hM.ltg; omega⟩)
      clear hb hLay5 hM hlow5 hLay6 hM6 hRM hlow6 HC5
      go_wp2
      exact bodyPost_ret (v := .tuple #[.pointer (some ⟨l, 0, none⟩), .pointer (some ⟨m, 0, none⟩), .pointer (some ⟨rm, 0, none⟩), .bool true]) (by simp [results, Tryz.results20, go_sem]) rfl ⟨l, m, g, rm, rg, rfl, HL.out ▸ HFIN.out⟩
end Go.Proofs.YtlhnnggceebpjaaGreat.Run
end

section
/- Acquiring a lock: what is called from outside. -/
set_option maxRecDepth 100000
set_option maxHeartbeats 4000000
set_option linter.unusedVariables false
set_option linter.unusedSimpArgs false
namespace Go.Proofs.YtlhnnggceebpjaaGreat.Lock
open Go.RowKit Go.Shelf Go.Proofs.YtlhnnggceebpjaaGreat.TK Go.Proofs.YtlhnnggceebpjaaGreat.Flag Go.Proofs.YtlhnnggceebpjaaGreat.Words Go.Proofs.YtlhnnggceebpjaaGreat.Mem Go.Proofs.YtlhnnggceebpjaaGreat.Flow Go.Proofs.YtlhnnggceebpjaaGreat.Layout
theorem astep_nil (m : Option Addr) (w : World) : Calls Tryz.prog 429 #[.pointer none, .pointer m] w fun e w' => e = .returned (.bool true) ∧ w = w' := by
  go_enter Tryz.func429, Tryz.ntmps429
  go_wp2
  go_ret
  exact ⟨rfl, rfl⟩
theorem rlstep_nil (m : Option Addr) (w : World) : Calls Tryz.prog 450 #[.pointer none, .pointer m] w fun e w' => e = .returned (.bool true) ∧ w = w' := by
  go_enter Tryz.func450, Tryz.ntmps450
  go_wp2
  go_ret
  exact ⟨rfl, rfl⟩
theorem astep_run (x l m g : Nat) (k who : Int) (st : AcqSt) (s : St) (w : World) (hA : AcqAt w x l k who st) (hM : MemAt w m g s) (hw : 0 ≤ who ∧ who ≤ 1000) (hc : s.clock < 1000000) (hbd : s.bad < 1000000) :
    Calls Tryz.prog 429 #[.pointer (some ⟨x, 0, none⟩), .pointer (some ⟨m, 0, none⟩)] w fun e w' => e = .returned (.bool (st.step k who s).1.over) ∧ AcqAt w' x l k who (st.step k who s).1 ∧ MemAt w' m g (st.step k who s).2 ∧ Kept [x, m, g] w w' := by
  have H := hid (acq_fstep x l m g k who st s w hA hM hw hc hbd)
  generalize st.step k who s = r at H ⊢
  clear hA hM
  go_enter Tryz.func429, Tryz.ntmps429
  go_wp2_with fail
  refine H.out.mono ?_
  rintro e w1 ⟨rfl, h1, h2, h3⟩
  go_wp2
  go_ret
  exact ⟨rfl, h1, h2, h3⟩
end Go.Proofs.YtlhnnggceebpjaaGreat.Lock
end

section
/- The locks' example. -/
set_option maxRecDepth 100000
set_option maxHeartbeats 4000000
set_option linter.unusedVariables false
set_option linter.unusedSimpArgs false
namespace Go.Proofs.YtlhnnggceebpjaaGreat.Lock
open Go.RowKit Go.Shelf Go.Proofs.YtlhnnggceebpjaaGreat.TK Go.Proofs.YtlhnnggceebpjaaGreat.Flag Go.Proofs.YtlhnnggceebpjaaGreat.Words Go.Proofs.YtlhnnggceebpjaaGreat.Mem Go.Proofs.YtlhnnggceebpjaaGreat.Flow Go.Proofs.YtlhnnggceebpjaaGreat.Layout Go.Proofs.YtlhnnggceebpjaaGreat.Run
def s0 : St := fresh (layW (lenOf 1 2 1) [])
theorem few121 : FewP 1 2 1 := by unfold FewP Right; omega
theorem ex_run : (AcqSt.ask.step 1 1 s0).1.over = false ∧ ((AcqSt.ask.step 1 1 s0).1.step 1 1 (AcqSt.ask.step 1 1 s0).2).1.over = false
    ∧ (((AcqSt.ask.step 1 1 s0).1.step 1 1 (AcqSt.ask.step 1 1 s0).2).1.step 1 1 ((AcqSt.ask.step 1 1 s0).1.step 1 1 (AcqSt.ask.step 1 1 s0).2).2).1.over = true
    ∧ (((AcqSt.ask.step 1 1 s0).1.step 1 1 (AcqSt.ask.step 1 1 s0).2).1.step 1 1 ((AcqSt.ask.step 1 1 s0).1.step 1 1 (AcqSt.ask.step 1 1 s0).2).2).2.peek 5 = (2, true)
    ∧ s0.clock = 0 ∧ s0.bad = 0 ∧ (AcqSt.ask.step 1 1 s0).2.clock = 1 ∧ (AcqSt.ask.step 1 1 s0).2.bad = 0 ∧ ((AcqSt.ask.step 1 1 s0).1.step 1 1 (AcqSt.ask.step 1 1 s0).2).2.clock = 2 ∧ ((AcqSt.ask.step 1 1 s0).1.step 1 1 (AcqSt.ask.step 1 1 s0).2).2.bad = 0 := by
  refine ⟨?_, ?_, ?_, ?_, ?_, ?_, ?_, ?_, ?_, ?_⟩ <;> decide +kernel
end Go.Proofs.YtlhnnggceebpjaaGreat.Lock
end

section
/- The document's runs: its accesses by name, and a turn. -/
set_option maxRecDepth 100000
set_option maxHeartbeats 4000000
set_option linter.unusedVariables false
set_option linter.unusedSimpArgs false
namespace Go.Proofs.YtlhnnggceebpjaaGreat.Grow
open Go.RowKit Go.Proofs.YtlhnnggceebpjaaGreat.TK Go.Proofs.YtlhnnggceebpjaaGreat.Read
variable {α : Type} {P : Program}
theorem kept_grown {w w' : World} {row : Option Nat} (h : w.grownBy w' row) : Kept row.toList w w' :=
  ⟨h.os, h.tape, h.output, h.size, fun k hk hn => h.block k hk (by intro e; exact hn (by rw [← e]; simp))⟩
/-- As app_one; what is kept told to the block. -/
theorem app_oneK {w : World} {B : Nat} {T S : TypeId} {z : Value} {size bytes : Nat} {enc : α → List Value} {v : Value} {xs : List α} (x : α) {U : TypeId} {cs : Array Value}
    (hG : Grow w B T size enc v xs) (hE : Elem P T z size bytes) (hS : P.underlying S = some (.slice T)) (hzs : z.cells.size = size) (hsz : 0 < size) (hbz : bytes ≤ 1000)
    {ops : Array Oper} {rest : List Oper} {o : Oper} {a : Act} {Q : Exit → Act → World → Prop}
    (hgd : o.guard = none) (s x' : Operand) (ho : o.op = .call { callee := .builtin .append, args := #[s, x'], argTypes := #[S, S] }) (hs : a.eval s = v) (hx : a.eval x' = .slice (some ⟨w.heap.size, 0, none⟩) 1 1)
    (hc : cs.toList = enc x) (hl : (enc x).length = size) (h1 : ∀ u ∈ enc x, u.oneCell' = true) (hm : xs.length ≤ 1000000) (hB : B ≤ w.heap.size)
    (h : ∀ v' w', Grow w' B T size enc v' (xs ++ [x]) → Kept v.ownBlock.toList w w' → wpList P ops Q rest (a.put o.dst v') w') :
    wpList P ops Q (o :: rest) a (w.alloc (.cells cs U)) := by
  obtain ⟨i0, hi, hz0, hz1, hz2⟩ := info_parts hE
  have hb1 : (xs.length + 1) * bytes ≤ 1000001 * 1000 := Nat.mul_le_mul (by omega) hbz
  refine wpList_append_own _ hgd s x' S ho B T i0 _ size bytes hS hi hz0 hz1 hz2 hzs hsz v xs.length (xs.flatMap enc) hs (World.ownsRow.alloc hG _) ⟨w.heap.size, 0, none⟩ 1 1 (enc x) hx (by rw [hl, Nat.one_mul]) ?_ h1 (by unfold maxLen; omega) (by omega) (by simp; omega) ?_
  · intro j u hj
    have hb : Blk (w.alloc (.cells cs U)) w.heap.size cs.toList U := by
      have := Blk.new w cs.toList U
      simpa using this
    have e1 : (⟨w.heap.size, 0, none⟩ : Addr).add j = ⟨w.heap.size, j, none⟩ := by unfold Addr.add; split <;> simp_all
    rw [e1, hb.cell j, hc]
    exact hj
  · intro v' w' hown hgrow _
    refine h v' w' ?_ (((Kept.refl _ w).alloc _).trans (kept_grown hgrow) (by intro i hi; exact .inl hi))
    unfold Grow
    rw [List.length_append, List.flatMap_append]
    simpa using hown
end Go.Proofs.YtlhnnggceebpjaaGreat.Grow
namespace Go.Proofs.YtlhnnggceebpjaaGreat.Run
open Go.RowKit Go.Shelf Go.Proofs.YtlhnnggceebpjaaGreat.TK Go.Proofs.YtlhnnggceebpjaaGreat.Flag Go.Proofs.YtlhnnggceebpjaaGreat.Read Go.Proofs.YtlhnnggceebpjaaGreat.Grow Go.Proofs.YtlhnnggceebpjaaGreat.Words Go.Proofs.YtlhnnggceebpjaaGreat.Mem
theorem runload_run (B r : Nat) (v : Value) (st : RunSt) (at_ : Int) (w : World) (h : RunAt w B r v st) :
    Calls Tryz.prog 144 #[.pointer (some ⟨r, 0, none⟩), .int .i64 at_] w fun e w' => e = .returned (.int .u64 (st.dox ⟨1, 0, at_, 0, 0, false⟩).2) ∧ RunAt w' B r v (st.dox ⟨1, 0, at_, 0, 0, false⟩).1 ∧ Kept [r] w w' := by
  go_enter Tryz.func144, Tryz.ntmps144
  go_wp2_with fail
  refine (rundo_run B r v st ⟨1, 0, at_, 0, 0, false⟩ w h).mono ?_
  rintro e w1 ⟨rfl, h1, h2⟩
  go_wp2
  go_ret
  exact ⟨rfl, h1, h2⟩
theorem runadd_run (B r : Nat) (v : Value) (st : RunSt) (at_ x : Int) (w : World) (h : RunAt w B r v st) :
    Calls Tryz.prog 139 #[.pointer (some ⟨r, 0, none⟩), .int .i64 at_, .int .u64 x] w fun e w' => e = .returned (.int .u64 (st.dox ⟨4, 0, at_, 0, x, false⟩).2) ∧ RunAt w' B r v (st.dox ⟨4, 0, at_, 0, x, false⟩).1 ∧ Kept [r] w w' := by
  go_enter Tryz.func139, Tryz.ntmps139
  go_wp2_with fail
  refine (rundo_run B r v st ⟨4, 0, at_, 0, x, false⟩ w h).mono ?_
  rintro e w1 ⟨rfl, h1, h2⟩
  go_wp2
  go_ret
  exact ⟨rfl, h1, h2⟩
theorem runstore_run (B r : Nat) (v : Value) (st : RunSt) (at_ x : Int) (w : World) (h : RunAt w B r v st) :
    Calls Tryz.prog 140 #[.pointer (some ⟨r, 0, none⟩), .int .i64 at_, .int .u64 x] w fun e w' => e = .returned (.tuple #[]) ∧ RunAt w' B r v (st.dox ⟨2, 0, at_, 0, x, false⟩).1 ∧ Kept [r] w w' := by
  go_enter Tryz.func140, Tryz.ntmps140
  go_wp2_with fail
  refine (rundo_run B r v st ⟨2, 0, at_, 0, x, false⟩ w h).mono ?_
  rintro e w1 ⟨rfl, h1, h2⟩
  go_wp2
  go_returns
  exact ⟨rfl, h1, h2⟩
theorem runswap_run (B r : Nat) (v : Value) (st : RunSt) (at_ o x : Int) (w : World) (h : RunAt w B r v st) :
    Calls Tryz.prog 152 #[.pointer (some ⟨r, 0, none⟩), .int .i64 at_, .int .u64 o, .int .u64 x] w fun e w' => e = .returned (.bool ((st.dox ⟨3, 0, at_, o, x, false⟩).2 == 1)) ∧ RunAt w' B r v (st.dox ⟨3, 0, at_, o, x, false⟩).1 ∧ Kept [r] w w' := by
  go_enter Tryz.func152, Tryz.ntmps152
  go_wp2_with fail
  refine (rundo_run B r v st ⟨3, 0, at_, o, x, false⟩ w h).mono ?_
  rintro e w1 ⟨rfl, h1, h2⟩
  go_wp2
  go_ret
  exact ⟨rfl, h1, h2⟩
/-- A turn does something. -/
def RunSt.turns (st : RunSt) (s : St) : Bool := st.stop && !(st.sleep && decide ((s.peek st.want.at_).1 = 0))
theorem turn_no (B r rm rg : Nat) (v : Value) (st : RunSt) (s : St) (who : Int) (w : World) (h : Grow w B 25 1 (encI .u64) v st.got) (hR : RMemAt w rm rg s) (ht : st.turns s = false) :
    Calls Tryz.prog 34 #[.pointer (some ⟨rm, 0, none⟩), .agg (runCells v st).toArray, .int .i64 who] w fun e w' => e = .returned v ∧ Below w.heap.size w w' := by
  obtain ⟨got, used, stop, want, sleep⟩ := st
  simp only [runCells] at h ⊢
  unfold RunSt.turns at ht
  simp only at ht
  have hRb := hR.quiet (below_one w (.cells (runCells v ⟨got, used, stop, want, sleep⟩).toArray 56))
  simp only [runCells] at hRb
  have hRb := hid hRb
  obtain ⟨a, cap, rfl, _, _, _⟩ := h.row encI_len
  clear h hR
  cases stop with
  | false =>
    clear hRb
    go_enter Tryz.func34, Tryz.ntmps34
    go_wp2
    go_ret
    exact ⟨rfl, below_one _ _⟩
  | true =>
    have hsl : sleep = true ∧ (s.peek want.at_).1 = 0 := by simpa using ht
    obtain ⟨rfl, hz0⟩ := hsl
    obtain ⟨pk, hpk⟩ : ∃ pk, pk = s.peek want.at_ := ⟨_, rfl⟩
    rw [← hpk] at hz0
    have hz : ((pk.1 : Int) == 0) = true := by simp [hz0]
    have HP := hid hpk
    clear ht hz0 hpk
    go_enter Tryz.func34, Tryz.ntmps34
    go_wp2_with fail
    refine (rpeek_run rm rg s _ _ hRb.out).mono ?_
    rintro e w1 ⟨rfl, rfl⟩
    rw [← HP.out]
    go_wp2
    go_ret
    exact ⟨rfl, below_one _ _⟩
theorem turn_yes (B r rm rg : Nat) (v : Value) (st : RunSt) (s : St) (who : Int) (w : World) (h : Grow w B 25 1 (encI .u64) v st.got) (hR : RMemAt w rm rg s) (ht : st.turns s = true) (hlen : st.got.length ≤ 100000)
    (hk : st.want.kind = 1 ∨ st.want.kind = 2 ∨ st.want.kind = 3 ∨ st.want.kind = 4) (hx : 0 ≤ st.want.new ∧ st.want.new < 18446744073709551616) (hc : s.clock < 1000000) (hb : s.bad < 1000000) (hB : B ≤ w.heap.size) (h1 : rm < B) (h2 : rg < B) :
    Calls Tryz.prog 34 #[.pointer (some ⟨rm, 0, none⟩), .agg (runCells v st).toArray, .int .i64 who] w fun e w' => ∃ v', e = .returned v' ∧ Grow w' B 25 1 (encI .u64) v' (st.got ++ [(s.acc st.want.kind who st.want.at_ st.want.old st.want.new).2]) ∧ RMemAt w' rm rg (s.acc st.want.kind who st.want.at_ st.want.old st.want.new).1 ∧ Kept ([rm, rg] ++ v.ownBlock.toList) w w' := by
  obtain ⟨got, used, stop, want, sleep⟩ := st
  simp only [runCells] at h hk hx hlen ⊢
  unfold RunSt.turns at ht
  simp only [Bool.and_eq_true] at ht
  obtain ⟨rfl, ht⟩ := ht
  have hRb := hR.quiet (below_one w (.cells (runCells v ⟨got, used, true, want, sleep⟩).toArray 56))
  have hGb := h.quiet (below_one w (.cells (runCells v ⟨got, used, true, want, sleep⟩).toArray 56))
  simp only [runCells] at hRb hGb
  have hRb := hid hRb
  have hGb := hid hGb
  have hnm : ∀ i ∈ [rm, rg], v.ownBlock ≠ some i := by
    intro i hi
    simp at hi
    rcases hi with rfl | rfl
    · exact own_low h h1
    · exact own_low h h2
  have HNM := hid hnm
  obtain ⟨a, cap, rfl, _, _, _⟩ := h.row encI_len
  have HK := hid hk
  have HX := hid hx
  have HC := hid hc
  have HBD := hid hb
  have HBS := hid hB
  have HL := hid hlen
  clear h hR hk hx hc hb hB hlen hnm h1 h2
  cases sleep with
  | false =>
    clear ht
    go_enter Tryz.func34, Tryz.ntmps34
    go_wp2_with fail
    refine (rdo_run rm rg s _ who _ _ _ _ HK.out HX.out hRb.out HC.out HBD.out).mono ?_
    rintro e w1 ⟨rfl, hR1, hK1⟩
    have hG1 := Grow.keptB hGb.out hK1 HNM.out
    have hk1 : Kept [rm, rg] w w1 := ((Kept.refl _ _).alloc _).trans hK1 (by intro i hi; exact .inl hi)
    have hs1 := Nat.le_trans HBS.out hk1.size
    clear hGb hRb hK1
    go_wp2_with (first | (at_builtin; refine app_oneK (T := 25) _ hG1 info64' Tryz.underlying47 rfl (by decide) (by omega) rfl _ _ rfl rfl rfl rfl (encI_len _) (encI_one _) (by have := HL.out; omega) hs1 ?_; intro v' w2 hG2 hk2; obtain ⟨a2, c2, rfl, _, _, _⟩ := hG2.row encI_len; have HG2 := hid hG2; clear hG2))
    go_ret
    refine ⟨.slice a2 _ c2, rfl, by have := HG2.out; simpa using this, hR1.kept hk2 ?_ ?_, (Kept.mono (S' := [rm, rg] ++ (Value.slice a got.length cap).ownBlock.toList) hk1 (by intro i hi; exact .inl (List.mem_append_left _ hi))).trans hk2 (by intro i hi; exact .inl (List.mem_append_right _ hi))⟩
    · have := HNM.out rm (by simp); simpa [eq_comm] using this
    · have := HNM.out rg (by simp); simpa [eq_comm] using this
  | true =>
    obtain ⟨pk, hpk⟩ : ∃ pk, pk = s.peek want.at_ := ⟨_, rfl⟩
    rw [← hpk] at ht
    have hz : ((pk.1 : Int) == 0) = false := by simpa using ht
    have HP := hid hpk
    clear ht hpk
    go_enter Tryz.func34, Tryz.ntmps34
    go_wp2_with fail
    refine (rpeek_run rm rg s _ _ hRb.out).mono ?_
    rintro e w1 ⟨rfl, rfl⟩
    rw [← HP.out]
    go_wp2_with fail
    refine (rdo_run rm rg s _ who _ _ _ _ HK.out HX.out hRb.out HC.out HBD.out).mono ?_
    rintro e w1 ⟨rfl, hR1, hK1⟩
    have hG1 := Grow.keptB hGb.out hK1 HNM.out
    have hk1 : Kept [rm, rg] w w1 := ((Kept.refl _ _).alloc _).trans hK1 (by intro i hi; exact .inl hi)
    have hs1 := Nat.le_trans HBS.out hk1.size
    clear hGb hRb hK1
    go_wp2_with (first | (at_builtin; refine app_oneK (T := 25) _ hG1 info64' Tryz.underlying47 rfl (by decide) (by omega) rfl _ _ rfl rfl rfl rfl (encI_len _) (encI_one _) (by have := HL.out; omega) hs1 ?_; intro v' w2 hG2 hk2; obtain ⟨a2, c2, rfl, _, _, _⟩ := hG2.row encI_len; have HG2 := hid hG2; clear hG2))
    go_ret
    refine ⟨.slice a2 _ c2, rfl, by have := HG2.out; simpa using this, hR1.kept hk2 ?_ ?_, (Kept.mono (S' := [rm, rg] ++ (Value.slice a got.length cap).ownBlock.toList) hk1 (by intro i hi; exact .inl (List.mem_append_left _ hi))).trans hk2 (by intro i hi; exact .inl (List.mem_append_right _ hi))⟩
    · have := HNM.out rm (by simp); simpa [eq_comm] using this
    · have := HNM.out rg (by simp); simpa [eq_comm] using this
end Go.Proofs.YtlhnnggceebpjaaGreat.Run
end

section
/- The program's memory beside the document's. -/
set_option maxRecDepth 100000
set_option maxHeartbeats 4000000
set_option linter.unusedVariables false
set_option linter.unusedSimpArgs false
namespace Go.Proofs.YtlhnnggceebpjaaGreat.Run
open Go.RowKit Go.Shelf Go.Proofs.YtlhnnggceebpjaaGreat.TK Go.Proofs.YtlhnnggceebpjaaGreat.Flag Go.Proofs.YtlhnnggceebpjaaGreat.Read Go.Proofs.YtlhnnggceebpjaaGreat.Grow Go.Proofs.YtlhnnggceebpjaaGreat.Words Go.Proofs.YtlhnnggceebpjaaGreat.Mem
/-- Words in a row. -/
def RowAt (w : World) (ad : Addr) (xs : List Int) : Prop := ∀ i (h : i < xs.length), w.cell? (ad.add i) = some (.int .u64 xs[i])
theorem RowAt.quiet {w w' : World} {ad : Addr} {xs : List Int} (h : RowAt w ad xs) (hb : Below w.heap.size w w') : RowAt w' ad xs := fun i hi => by rw [hb.cell (by simpa using cell_lt (h i hi))]; exact h i hi
theorem same_run (a b : Addr) (ca cb : Nat) (xs : List Int) (w : World) (ha : RowAt w a xs) (hb : RowAt w b xs) (hl : xs.length ≤ 1000000) :
    Calls Tryz.prog 37 #[.slice (some a) xs.length ca, .slice (some b) xs.length cb] w fun e w' => e = .returned (.bool true) ∧ Below w.heap.size w w' := by
  have HA := hid ha
  have HB := hid hb
  clear ha hb
  go_enter Tryz.func37, Tryz.ntmps37
  go_wp2_with fail
  go_loopw [5] (fun i wr => ∃ k : Nat, k ≤ xs.length ∧ i = .int .i64 (k : Int) ∧ Below w.heap.size w wr) (fun i _ => xs.length - (intOf i).toNat)
  case atStart => exact ⟨0, Nat.zero_le _, rfl, Below.refl _ _⟩
  case round =>
    obtain ⟨k, hk, rfl, hlow⟩ := hrel
    by_cases hlt : k < xs.length
    · have c1 := (HA.out.quiet hlow) k hlt
      have c2 := (HB.out.quiet hlow) k hlt
      have hlt' : decide ((k : Int) < (xs.length : Int)) = true := decide_eq_true (by omega)
      obtain ⟨v, hv⟩ : ∃ v, v = xs[k] := ⟨_, rfl⟩
      rw [← hv] at c1 c2
      clear hv
      obtain ⟨n, hn⟩ : ∃ n, n = xs.length := ⟨_, rfl⟩
      have HN := hid hn
      rw [← hn] at hl hk hlt hlt' ⊢
      clear hn
      have k0 : (0 : Int) ≤ (k : Int) := by omega
      have k1 : (k : Int) < (n : Int) := by omega
      go_wp2_with fail
      go_quiet (fail)
      go_wp2_with fail
      go_roundw
      case rel => exact ⟨k + 1, by omega, by go_num, below_drewN hlow _⟩
      case measure => simp [intOf]; omega
    · have hlt' : decide ((k : Int) < (xs.length : Int)) = false := decide_eq_false (by omega)
      go_wp2
      go_ret
      exact ⟨rfl, hlow⟩
theorem acc2_old (s : St) (who at_ o x : Int) : s.acc 2 who at_ o x = s.acc 2 who at_ 0 x := by unfold St.acc; simp
theorem acc4_old (s : St) (who at_ o x : Int) : s.acc 4 who at_ o x = s.acc 4 who at_ 0 x := by unfold St.acc; simp
/-- An access as the law gives one. -/
structure ActT where
  kind : Int
  who : Int
  at_ : Int
  old : Int
  new : Int
def ActT.on (a : ActT) (s : St) : St := if a.kind = 2 then (s.acc 2 a.who a.at_ 0 a.new).1 else if a.kind = 3 then (s.acc 3 a.who a.at_ a.old a.new).1 else if a.kind = 4 then (s.acc 4 a.who a.at_ 0 a.new).1 else (s.acc 1 a.who a.at_ 0 0).1
/-- Two memories beside one another. -/
structure Both (w : World) (m g rm rg : Nat) (s : St) : Prop where
  mem : MemAt w m g s
  rmem : RMemAt w rm rg s
  n1 : m ≠ rg
  n2 : g ≠ rg
theorem Both.neR {w : World} {m g rm rg : Nat} {s : St} (h : Both w m g rm rg s) : m ≠ rm ∧ g ≠ rm := by
  obtain ⟨_, _, a, b, _⟩ := h.mem.ex
  obtain ⟨_, _, c, d, _⟩ := h.rmem.ex
  exact ⟨Blk.ne a c (by decide), Blk.ne b c (by decide)⟩
theorem Both.quiet {w w' : World} {m g rm rg : Nat} {s : St} (h : Both w m g rm rg s) (hb : Below w.heap.size w w') : Both w' m g rm rg s := ⟨h.mem.quiet hb, h.rmem.quiet hb, h.n1, h.n2⟩
theorem do_run (m g rm rg : Nat) (s : St) (a : ActT) (w : World) (h : Both w m g rm rg s) (hx : 0 ≤ a.new ∧ a.new < 18446744073709551616) (hc : s.clock < 1000000) (hb : s.bad < 1000000) :
    Calls Tryz.prog 30 #[.pointer (some ⟨m, 0, none⟩), .pointer (some ⟨rm, 0, none⟩), .agg #[.int .i64 a.kind, .int .i64 a.who, .int .i64 a.at_, .int .u64 a.old, .int .u64 a.new]] w fun e w' => (∃ r, e = .returned r) ∧ Both w' m g rm rg (a.on s) ∧ Kept [m, g, rm, rg] w w' := by
  obtain ⟨q1, q2⟩ := h.neR
  have q3 := h.n1
  have q4 := h.n2
  have h0 := hid (h.quiet (below_one w (.cells #[.int .i64 a.kind, .int .i64 a.who, .int .i64 a.at_, .int .u64 a.old, .int .u64 a.new] 49)))
  have hB := Blk.new w [.int .i64 a.kind, .int .i64 a.who, .int .i64 a.at_, .int .u64 a.old, .int .u64 a.new] 49
  have hn1 : w.heap.size ≠ m := fun e => by have := h.mem.ltm; omega
  have hn2 : w.heap.size ≠ g := fun e => by have := h.mem.ltg; omega
  obtain ⟨kind, who, at_, old, new⟩ := a
  simp only at hx h0 hB ⊢
  have HX := hid hx
  have HC := hid hc
  have HBD := hid hb
  have HH := hid h
  clear h hx hc hb
  have fin : ∀ (s' : St) (w1 w2 : World), Kept [m, g] (w.alloc (.cells #[.int .i64 kind, .int .i64 who, .int .i64 at_, .int .u64 old, .int .u64 new] 49)) w1 → MemAt w1 m g s' → Kept [rm, rg] w1 w2 → RMemAt w2 rm rg s' → Both w2 m g rm rg s' ∧ Kept [m, g, rm, rg] w w2 := by
    intro s' w1 w2 k1 m1 k2 m2
    exact ⟨⟨m1.kept k2 (by simp [q1, q3]) (by simp [q2, q4]), m2, q3, q4⟩, (((Kept.refl [m, g, rm, rg] w).alloc _).trans k1 (by intro i hi; simp at hi; rcases hi with rfl | rfl <;> exact .inl (by simp))).trans k2 (by intro i hi; simp at hi; rcases hi with rfl | rfl <;> exact .inl (by simp))⟩
  have FIN := hid fin
  clear fin
  have rk : ∀ w1 : World, Kept [m, g] (w.alloc (.cells #[.int .i64 kind, .int .i64 who, .int .i64 at_, .int .u64 old, .int .u64 new] 49)) w1 → RMemAt w1 rm rg s ∧ Blk w1 w.heap.size [.int .i64 kind, .int .i64 who, .int .i64 at_, .int .u64 old, .int .u64 new] 49 := fun w1 k1 => ⟨h0.out.rmem.kept k1 (by simp [q1.symm, q2.symm]) (by simp [q3.symm, q4.symm]), hB.kept k1 (by simp [hn1, hn2])⟩
  have RK := hid rk
  clear rk hB
  by_cases k2 : kind = 2
  · subst k2
    have HO := hid (show ActT.on ⟨2, who, at_, old, new⟩ s = (s.acc 2 who at_ 0 new).1 by unfold ActT.on; simp)
    rw [HO.out]
    go_enter Tryz.func30, Tryz.ntmps30
    go_wp2_with fail
    refine (mstore_run m g s who at_ new _ HX.out h0.out.mem HC.out HBD.out).mono ?_
    rintro e w1 ⟨rfl, hM1, hK1⟩
    obtain ⟨hR1, hB1⟩ := RK.out w1 hK1
    have y0 := hB1.cell 0
    have y1 := hB1.cell 1
    have y2 := hB1.cell 2
    have y3 := hB1.cell 3
    have y4 := hB1.cell 4
    simp only [List.getElem?_cons_zero, List.getElem?_cons_succ] at y0 y1 y2 y3 y4
    clear hB1
    go_wp2_with fail
    refine (rdo_run rm rg s 2 who at_ 0 new w1 (by omega) HX.out hR1 HC.out HBD.out).mono ?_
    rintro e w2 ⟨rfl, hR2, hK2⟩
    obtain ⟨f1, f2⟩ := FIN.out _ w1 w2 hK1 hM1 hK2 hR2
    clear hM1 hK1 hR1 hR2 hK2 y0 y1 y2 y3 y4
    go_wp2
    go_ret
    exact ⟨⟨_, rfl⟩, f1, f2⟩
  by_cases k3 : kind = 3
  · subst k3
    have HO := hid (show ActT.on ⟨3, who, at_, old, new⟩ s = (s.acc 3 who at_ old new).1 by unfold ActT.on; simp)
    rw [HO.out]
    clear k2
    go_enter Tryz.func30, Tryz.ntmps30
    go_wp2_with fail
    refine (mswap_run m g s who at_ old new _ HX.out h0.out.mem HC.out HBD.out).mono ?_
    rintro e w1 ⟨rfl, hM1, hK1⟩
    obtain ⟨hR1, hB1⟩ := RK.out w1 hK1
    have y0 := hB1.cell 0
    have y1 := hB1.cell 1
    have y2 := hB1.cell 2
    have y3 := hB1.cell 3
    have y4 := hB1.cell 4
    simp only [List.getElem?_cons_zero, List.getElem?_cons_succ] at y0 y1 y2 y3 y4
    clear hB1
    go_wp2_with fail
    refine (rdo_run rm rg s 3 who at_ old new w1 (by omega) HX.out hR1 HC.out HBD.out).mono ?_
    rintro e w2 ⟨rfl, hR2, hK2⟩
    obtain ⟨f1, f2⟩ := FIN.out _ w1 w2 hK1 hM1 hK2 hR2
    clear hM1 hK1 hR1 hR2 hK2 y0 y1 y2 y3 y4
    go_wp2
    go_ret
    exact ⟨⟨_, rfl⟩, f1, f2⟩
  by_cases k4 : kind = 4
  · subst k4
    have HO := hid (show ActT.on ⟨4, who, at_, old, new⟩ s = (s.acc 4 who at_ 0 new).1 by unfold ActT.on; simp)
    rw [HO.out]
    clear k2 k3
    go_enter Tryz.func30, Tryz.ntmps30
    go_wp2_with fail
    refine (madd_run m g s who at_ new _ HX.out h0.out.mem HC.out HBD.out).mono ?_
    rintro e w1 ⟨rfl, hM1, hK1⟩
    obtain ⟨hR1, hB1⟩ := RK.out w1 hK1
    have y0 := hB1.cell 0
    have y1 := hB1.cell 1
    have y2 := hB1.cell 2
    have y3 := hB1.cell 3
    have y4 := hB1.cell 4
    simp only [List.getElem?_cons_zero, List.getElem?_cons_succ] at y0 y1 y2 y3 y4
    clear hB1
    go_wp2_with fail
    refine (rdo_run rm rg s 4 who at_ 0 new w1 (by omega) HX.out hR1 HC.out HBD.out).mono ?_
    rintro e w2 ⟨rfl, hR2, hK2⟩
    obtain ⟨f1, f2⟩ := FIN.out _ w1 w2 hK1 hM1 hK2 hR2
    clear hM1 hK1 hR1 hR2 hK2 y0 y1 y2 y3 y4
    go_wp2
    go_ret
    exact ⟨⟨_, rfl⟩, f1, f2⟩
  have HO := hid (show ActT.on ⟨kind, who, at_, old, new⟩ s = (s.acc 1 who at_ 0 0).1 by unfold ActT.on; simp [k2, k3, k4])
  rw [HO.out]
  have d2 : ((kind : Int) == 2) = false := by simp [k2]
  have d3 : ((kind : Int) == 3) = false := by simp [k3]
  have d4 : ((kind : Int) == 4) = false := by simp [k4]
  clear k2 k3 k4
  go_enter Tryz.func30, Tryz.ntmps30
  go_wp2_with fail
  refine (mload_run m g s who at_ _ h0.out.mem HC.out HBD.out).mono ?_
  rintro e w1 ⟨rfl, hM1, hK1⟩
  obtain ⟨hR1, hB1⟩ := RK.out w1 hK1
  have y0 := hB1.cell 0
  have y1 := hB1.cell 1
  have y2 := hB1.cell 2
  have y3 := hB1.cell 3
  have y4 := hB1.cell 4
  simp only [List.getElem?_cons_zero, List.getElem?_cons_succ] at y0 y1 y2 y3 y4
  clear hB1
  go_wp2_with fail
  refine (rdo_run rm rg s 1 who at_ 0 0 w1 (by omega) (by omega) hR1 HC.out HBD.out).mono ?_
  rintro e w2 ⟨rfl, hR2, hK2⟩
  obtain ⟨f1, f2⟩ := FIN.out _ w1 w2 hK1 hM1 hK2 hR2
  clear hM1 hK1 hR1 hR2 hK2 y0 y1 y2 y3 y4
  go_wp2
  go_ret
  exact ⟨⟨_, rfl⟩, f1, f2⟩
theorem acc_eq (a b c d e : Int) (f : Bool) (w : World) : (binOp .eql 54 (.agg #[.int .i64 a, .int .i64 b, .int .i64 c, .int .u64 d, .int .u64 e, .bool f]) (.agg #[.int .i64 a, .int .i64 b, .int .i64 c, .int .u64 d, .int .u64 e, .bool f])).run Tryz.prog w = .ok (.bool true) w := by
  simp [go_sem]
theorem alike_run (m g rm rg : Nat) (s : St) (w : World) (h : Both w m g rm rg s) :
    Calls Tryz.prog 36 #[.pointer (some ⟨m, 0, none⟩), .pointer (some ⟨rm, 0, none⟩)] w fun e w' => e = .returned (.bool true) ∧ Below w.heap.size w w' := by
  obtain ⟨cap, spare, h1, h2, hcap⟩ := h.rmem.ex
  have c1 := h1.cell 1
  have c2 := h1.cell 2
  have c3 := h1.cell 3
  have c4 := h1.cell 4
  have c5 := h1.cell 5
  have c6 := h1.cell 6
  have c7 := h1.cell 7
  have c8 := h1.cell 8
  simp only [headOf, accCells, List.getElem?_cons_zero, List.getElem?_cons_succ] at c1 c2 c3 c4 c5 c6 c7 c8
  have HH := hid h
  clear h h1 h2 hcap
  obtain ⟨⟨lk, lw, la, lo, ln, ld⟩, hlast⟩ : ∃ la, la = s.last := ⟨_, rfl⟩
  rw [← hlast] at c3 c4 c5 c6 c7 c8
  have HLA := hid hlast
  clear hlast
  obtain ⟨ck, hck⟩ : ∃ ck, ck = s.clock := ⟨_, rfl⟩
  obtain ⟨bd, hbd⟩ : ∃ bd, bd = s.bad := ⟨_, rfl⟩
  rw [← hck] at c1
  rw [← hbd] at c2
  have HCK := hid hck
  have HBD := hid hbd
  clear hck hbd
  obtain ⟨pk, hpk⟩ : ∃ pk, pk = s.peek la := ⟨_, rfl⟩
  have HP := hid hpk
  clear hpk
  simp only at c3 c4 c5 c6 c7 c8
  go_enter Tryz.func36, Tryz.ntmps36
  go_wp2_with fail
  refine (mpeek_run m g s la w HH.out.mem).mono ?_
  rintro e w1 ⟨rfl, rfl⟩
  rw [← HP.out]
  go_wp2_with fail
  refine (rpeek_run rm rg s la w HH.out.rmem).mono ?_
  rintro e w1 ⟨rfl, rfl⟩
  rw [← HP.out]
  go_wp2_with fail
  have HD : Both w.drew m g rm rg s := HH.out.quiet (below_drewN (Below.refl _ w) 1)
  have HB0 : Below w.heap.size w w.drew := (Below.refl _ w).drew
  have hrl : rm < w.drew.heap.size := cell_lt c1
  have hq : ∀ w : World, (binOp .eql 54 (.agg #[.int .i64 lk, .int .i64 lw, .int .i64 la, .int .u64 lo, .int .u64 ln, .bool ld]) (.agg #[.int .i64 lk, .int .i64 lw, .int .i64 la, .int .u64 lo, .int .u64 ln, .bool ld])).run Tryz.prog w = .ok (.bool true) w := acc_eq lk lw la lo ln ld
  go_region_held3 (fun w' => w'.cell? ⟨rm, 1, none⟩ = some (.int .i64 ck) ∧ w'.cell? ⟨rm, 2, none⟩ = some (.int .i64 bd) ∧ w'.cell? ⟨rm, 3, none⟩ = some (.int .i64 lk) ∧ w'.cell? ⟨rm, 4, none⟩ = some (.int .i64 lw) ∧ w'.cell? ⟨rm, 5, none⟩ = some (.int .i64 la) ∧ w'.cell? ⟨rm, 6, none⟩ = some (.int .u64 lo) ∧ w'.cell? ⟨rm, 7, none⟩ = some (.int .u64 ln) ∧ w'.cell? ⟨rm, 8, none⟩ = some (.bool ld)) (first | exact ⟨e1, e2, e3, e4, e5, e6, e7, e8⟩ | exact ⟨c1, c2, c3, c4, c5, c6, c7, c8⟩) (first | (go_at_call 88; ((with_reducible refine (mclock_run m g s _ HD.mem).mono ?_); rintro e wx ⟨rfl, rfl⟩); rw [← HCK.out]) | (go_at_call 68; ((with_reducible refine (mbad_run m g s _ HD.mem).mono ?_); rintro e wx ⟨rfl, rfl⟩); rw [← HBD.out]) | (go_at_call 141; ((with_reducible refine (mlast_run m g s _ HD.mem).mono ?_); rintro e wx ⟨rfl, hb⟩); rw [← HLA.out]; simp only [accCells]; have e1 := (hb.cell (p := ⟨rm, 1, none⟩) hrl).trans c1; have e2 := (hb.cell (p := ⟨rm, 2, none⟩) hrl).trans c2; have e3 := (hb.cell (p := ⟨rm, 3, none⟩) hrl).trans c3; have e4 := (hb.cell (p := ⟨rm, 4, none⟩) hrl).trans c4; have e5 := (hb.cell (p := ⟨rm, 5, none⟩) hrl).trans c5; have e6 := (hb.cell (p := ⟨rm, 6, none⟩) hrl).trans c6; have e7 := (hb.cell (p := ⟨rm, 7, none⟩) hrl).trans c7; have e8 := (hb.cell (p := ⟨rm, 8, none⟩) hrl).trans c8; replace HB0 := Below.then_ HB0 hb; clear hb))
  all_goals go_wp2
  all_goals go_ret
  all_goals exact ⟨rfl, HB0⟩
end Go.Proofs.YtlhnnggceebpjaaGreat.Run
end
