/- Contracts of a flow: its access, and a step, over whatever follows. -/
import Derived.Test.YtokpgbocomhpiaaFlow
import Derived.WideLaws
set_option maxRecDepth 100000
set_option maxHeartbeats 4000000
set_option linter.unusedVariables false
set_option linter.unusedSimpArgs false
namespace Go.Proofs.Ytokpgbocomhpiaa.Flow
open Go.RowKit Go.Shelf Go.Proofs.Ytokpgbocomhpiaa.TK Go.Proofs.Ytokpgbocomhpiaa.Flag Go.Proofs.Ytokpgbocomhpiaa.Words Go.Proofs.Ytokpgbocomhpiaa.Mem

/-- It is asleep: it waits at a word that was 0, and is. -/
def Fl.sleeps (f : Fl) (s : St) : Bool := decide (f.kind = 5) && f.asleep && decide ((s.peek f.at_).1 = 0)
theorem fasleep_nil (m : Option Addr) (w : World) : Calls Try.prog 142 #[.pointer none, .pointer m] w fun e w' => e = .returned (.bool false) ∧ w = w' := by
  go_enter Try.func142, Try.ntmps142
  go_wp2
  go_ret
  exact ⟨rfl, rfl⟩
theorem fasleep_run (x m g : Nat) (f : Fl) (rest : List Value) (T : TypeId) (s : St) (w : World) (hb : FlAt w x f rest T) (hs : f.sub = .nilIface) (hM : MemAt w m g s) :
    Calls Try.prog 142 #[.pointer (some ⟨x, 0, none⟩), .pointer (some ⟨m, 0, none⟩)] w fun e w' => e = .returned (.bool (f.sleeps s)) ∧ w = w' := by
  obtain ⟨c0, c1, c2, c3, c4, c5, c6, c7, c8⟩ := hb.cells
  rw [hs] at c7
  have hta : ∀ w : World, (Instr.typeAssert .nilIface 141 221 true).run Try.prog w = .ok (.tuple #[.nilIface, .bool false]) w := fun w => by kernel_rfl
  clear hb hs
  obtain ⟨pk, hpk⟩ : ∃ pk, pk = s.peek f.at_ := ⟨_, rfl⟩
  have HS : Hid (f.sleeps s = (decide (f.kind = 5) && f.asleep && decide (pk.1 = 0))) := by unfold Hid Fl.sleeps; rw [hpk]
  have HP := hid hpk
  clear hpk
  obtain ⟨a, hasl⟩ : ∃ a, a = f.asleep := ⟨_, rfl⟩
  obtain ⟨k, hkd⟩ : ∃ k, k = f.kind := ⟨_, rfl⟩
  rw [← hasl] at c6 HS
  rw [← hkd] at c1 HS
  clear hasl hkd
  by_cases hk : k = 5
  · have hd : ((k : Int) == 5) = true := by simp [hk]
    have HK := hid (decide_eq_true hk)
    clear hk
    cases a with
    | false =>
      go_enter Try.func142, Try.ntmps142
      go_wp2_with fail
      refine (mpeek_run m g s _ _ hM).mono ?_
      rintro e w1 ⟨rfl, rfl⟩
      go_wp2
      go_ret
      exact ⟨by rw [HS.out]; simp, rfl⟩
    | true =>
      by_cases hz : pk.1 = 0
      · have hz' : ((pk.1 : Int) == 0) = true := by simp [hz]
        have HZ := hid (decide_eq_true hz)
        clear hz
        go_enter Try.func142, Try.ntmps142
        go_wp2_with fail
        refine (mpeek_run m g s _ _ hM).mono ?_
        rintro e w1 ⟨rfl, rfl⟩
        rw [← HP.out]
        go_wp2
        go_ret
        exact ⟨by rw [HS.out, HK.out, HZ.out]; rfl, rfl⟩
      · have hz' : ((pk.1 : Int) == 0) = false := by simp [hz]
        have HZ := hid (decide_eq_false hz)
        clear hz
        go_enter Try.func142, Try.ntmps142
        go_wp2_with fail
        refine (mpeek_run m g s _ _ hM).mono ?_
        rintro e w1 ⟨rfl, rfl⟩
        rw [← HP.out]
        go_wp2
        go_ret
        exact ⟨by rw [HS.out, HK.out, HZ.out]; rfl, rfl⟩
  · have hd : ((k : Int) == 5) = false := by simp [hk]
    have HK := hid (decide_eq_false hk)
    clear hk
    go_enter Try.func142, Try.ntmps142
    go_wp2_with fail
    refine (mpeek_run m g s _ _ hM).mono ?_
    rintro e w1 ⟨rfl, rfl⟩
    go_wp2
    go_ret
    exact ⟨by rw [HS.out, HK.out]; simp, rfl⟩

theorem acc5 (s : St) (k who at_ o x : Int) (h2 : k ≠ 2) (h3 : k ≠ 3) (h4 : k ≠ 4) : s.acc k who at_ o x = s.acc 1 who at_ 0 0 := by
  unfold St.acc; simp [h2, h3, h4]
theorem acc2_ans (s : St) (who at_ o x : Int) : (s.acc 2 who at_ o x).2 = 0 := by
  unfold St.acc; split <;> simp
theorem acc3_ans (s : St) (who at_ o x : Int) : (s.acc 3 who at_ o x).2 = if (s.acc 3 who at_ o x).2 = 1 then 1 else 0 := by
  unfold St.acc; split
  · simp; split <;> simp
  · simp
theorem fdoes_run (x m g : Nat) (f : Fl) (rest : List Value) (T : TypeId) (s : St) (w : World) (hb : FlAt w x f rest T) (hM : MemAt w m g s) (hnw : 0 ≤ f.nw ∧ f.nw < 18446744073709551616) (hc : s.clock < 1000000) (hbd : s.bad < 1000000) :
    Calls Try.prog 231 #[.pointer (some ⟨x, 0, none⟩), .pointer (some ⟨m, 0, none⟩)] w fun e w' => e = .returned (.int .u64 (s.acc f.kind f.who f.at_ f.old f.nw).2) ∧ MemAt w' m g (s.acc f.kind f.who f.at_ f.old f.nw).1 ∧ Kept [m, g] w w' := by
  obtain ⟨who, kind, at_, old, nw, th, asl, sub, af⟩ := f
  simp only at hnw ⊢
  have HN := hid hnw
  have I0 : FlAt w.drew x ⟨who, kind, at_, old, nw, th, asl, sub, af⟩ rest T ∧ MemAt w.drew m g s ∧ Kept [m, g] w w.drew := ⟨hb, hM.quiet (below_drewN (Below.refl _ _) 1), (Kept.refl _ _).drew⟩
  obtain ⟨c0, c1, c2, c3, c4, c5, c6, c7, c8⟩ := hb.cells
  simp only at c0 c1 c2 c3 c4
  clear hb hM hnw
  by_cases k2 : kind = 2
  · subst k2
    go_enter Try.func231, Try.ntmps231
    go_wp2_with fail
    refine wp_region_T 13 (fun w' => FlAt w' x ⟨who, 2, at_, old, nw, th, asl, sub, af⟩ rest T ∧ MemAt w' m g s ∧ Kept [m, g] w w') (fun w' => MemAt w' m g (s.acc 2 who at_ old nw).1 ∧ Kept [m, g] w w') (by kernel_rfl) (by kernel_rfl) rfl (by kernel_rfl) I0 ?_
    repeat (first | (apply walkD_pure; rfl; rfl; (intro _; go_simp; first | done | rfl); (intro K hK; go_simp; refine hK _ ?_; clear hK K)) | (apply walkD_skip; rfl; rfl; (intro K hK; go_simp; refine hK _ ?_; clear hK K)) | (apply walkD_read1 [false] (by kernel_rfl); rfl; rfl; (intro w' hD; obtain ⟨y0, y1, y2, y3, y4, _⟩ := FlAt.cells hD.1; simp only at y0 y1 y2 y3 y4; go_simp; rfl); (intro K hK; go_simp; refine hK _ ?_; clear hK K)) | (apply walkD_call1 [false] (by kernel_rfl); rfl; (intro _; go_simp; first | rfl | exact ⟨rfl, rfl⟩); (intro w' hD; refine (mstore_run m g s who at_ nw _ HN.out hD.2.1 hc hbd).mono ?_; rintro e w2 ⟨rfl, hM2, hK⟩; exact ⟨rfl, hM2, hD.2.2.trans hK (by intro i hi; exact .inl hi)⟩); (intro K hK; go_simp; refine hK _ ?_; clear hK K)))
    intro w1 hR
    go_wp2
    go_ret
    exact ⟨ret_int (acc2_ans _ _ _ _ _).symm, hR⟩
  · by_cases k3 : kind = 3
    · subst k3
      obtain ⟨d, hd⟩ : ∃ d, d = decide ((s.acc 3 who at_ old nw).2 = 1) := ⟨_, rfl⟩
      have HD := hid hd
      have HA := hid (acc3_ans s who at_ old nw)
      clear hd k2
      go_enter Try.func231, Try.ntmps231
      go_wp2_with fail
      refine wp_region_T 17 (fun w' => FlAt w' x ⟨who, 3, at_, old, nw, th, asl, sub, af⟩ rest T ∧ MemAt w' m g s ∧ Kept [m, g] w w') (fun w' => MemAt w' m g (s.acc 3 who at_ old nw).1 ∧ Kept [m, g] w w') (by kernel_rfl) (by kernel_rfl) rfl (by kernel_rfl) I0 ?_
      repeat (first | (apply walkD_pure; rfl; rfl; (intro _; go_simp; first | done | rfl); (intro K hK; go_simp; refine hK _ ?_; clear hK K)) | (apply walkD_skip; rfl; rfl; (intro K hK; go_simp; refine hK _ ?_; clear hK K)) | (apply walkD_read1 [false] (by kernel_rfl); rfl; rfl; (intro w' hD; obtain ⟨y0, y1, y2, y3, y4, _⟩ := FlAt.cells hD.1; simp only at y0 y1 y2 y3 y4; go_simp; rfl); (intro K hK; go_simp; refine hK _ ?_; clear hK K)) | (apply walkD_call1 [false] (by kernel_rfl); rfl; (intro _; go_simp; first | rfl | exact ⟨rfl, rfl⟩); (intro w' hD; refine (mswap_run m g s who at_ old nw _ HN.out hD.2.1 hc hbd).mono ?_; rintro e w2 ⟨rfl, hM2, hK⟩; rw [← HD.out]; exact ⟨rfl, hM2, hD.2.2.trans hK (by intro i hi; exact .inl hi)⟩); (intro K hK; go_simp; refine hK _ ?_; clear hK K)))
      intro w1 hR
      cases d with
      | true =>
        go_wp2
        go_ret
        exact ⟨ret_int (by have h := HA.out; rw [if_pos (of_decide_eq_true HD.out.symm)] at h; exact h.symm), hR⟩
      | false =>
        go_wp2
        go_ret
        exact ⟨ret_int (by have h := HA.out; rw [if_neg (of_decide_eq_false HD.out.symm)] at h; exact h.symm), hR⟩
    · by_cases k4 : kind = 4
      · subst k4
        clear k2 k3
        go_enter Try.func231, Try.ntmps231
        go_wp2_with fail
        refine wp_region_T 13 (fun w' => FlAt w' x ⟨who, 4, at_, old, nw, th, asl, sub, af⟩ rest T ∧ MemAt w' m g s ∧ Kept [m, g] w w') (fun w' => MemAt w' m g (s.acc 4 who at_ old nw).1 ∧ Kept [m, g] w w') (by kernel_rfl) (by kernel_rfl) rfl (by kernel_rfl) I0 ?_
        repeat (first | (apply walkD_pure; rfl; rfl; (intro _; go_simp; first | done | rfl); (intro K hK; go_simp; refine hK _ ?_; clear hK K)) | (apply walkD_skip; rfl; rfl; (intro K hK; go_simp; refine hK _ ?_; clear hK K)) | (apply walkD_read1 [false] (by kernel_rfl); rfl; rfl; (intro w' hD; obtain ⟨y0, y1, y2, y3, y4, _⟩ := FlAt.cells hD.1; simp only at y0 y1 y2 y3 y4; go_simp; rfl); (intro K hK; go_simp; refine hK _ ?_; clear hK K)) | (apply walkD_call1 [false] (by kernel_rfl); rfl; (intro _; go_simp; first | rfl | exact ⟨rfl, rfl⟩); (intro w' hD; refine (madd_run m g s who at_ nw _ HN.out hD.2.1 hc hbd).mono ?_; rintro e w2 ⟨rfl, hM2, hK⟩; exact ⟨rfl, hM2, hD.2.2.trans hK (by intro i hi; exact .inl hi)⟩); (intro K hK; go_simp; refine hK _ ?_; clear hK K)))
        intro w1 hR
        go_wp2
        go_ret
        exact ⟨rfl, hR⟩
      · have d2 : ((kind : Int) == 2) = false := by simp [k2]
        have d3 : ((kind : Int) == 3) = false := by simp [k3]
        have d4 : ((kind : Int) == 4) = false := by simp [k4]
        rw [acc5 s kind who at_ old nw k2 k3 k4]
        clear k2 k3 k4
        go_enter Try.func231, Try.ntmps231
        go_wp2_with fail
        refine wp_region_T 9 (fun w' => FlAt w' x ⟨who, kind, at_, old, nw, th, asl, sub, af⟩ rest T ∧ MemAt w' m g s ∧ Kept [m, g] w w') (fun w' => MemAt w' m g (s.acc 1 who at_ 0 0).1 ∧ Kept [m, g] w w') (by kernel_rfl) (by kernel_rfl) rfl (by kernel_rfl) I0 ?_
        repeat (first | (apply walkD_pure; rfl; rfl; (intro _; go_simp; first | done | rfl); (intro K hK; go_simp; refine hK _ ?_; clear hK K)) | (apply walkD_skip; rfl; rfl; (intro K hK; go_simp; refine hK _ ?_; clear hK K)) | (apply walkD_read1 [false] (by kernel_rfl); rfl; rfl; (intro w' hD; obtain ⟨y0, y1, y2, y3, y4, _⟩ := FlAt.cells hD.1; simp only at y0 y1 y2 y3 y4; go_simp; rfl); (intro K hK; go_simp; refine hK _ ?_; clear hK K)) | (apply walkD_call1 [false] (by kernel_rfl); rfl; (intro _; go_simp; first | rfl | exact ⟨rfl, rfl⟩); (intro w' hD; refine (mload_run m g s who at_ _ hD.2.1 hc hbd).mono ?_; rintro e w2 ⟨rfl, hM2, hK⟩; exact ⟨rfl, hM2, hD.2.2.trans hK (by intro i hi; exact .inl hi)⟩); (intro K hK; go_simp; refine hK _ ?_; clear hK K)))
        intro w1 hR
        go_wp2
        go_ret
        exact ⟨rfl, hR⟩

/-- The flow as what follows an access finds it. -/
def Fl.cleared (f : Fl) : Fl := { f with kind := 0, th := .nilFunc, asleep := false }
/-- An access that sleeps on. -/
theorem fone_sleeps (x m g : Nat) (f : Fl) (rest : List Value) (T : TypeId) (s : St) (w : World) (hb : FlAt w x f rest T) (hM : MemAt w m g s) (hxm : x ≠ m) (hxg : x ≠ g) (hnw : 0 ≤ f.nw ∧ f.nw < 18446744073709551616) (hc : s.clock < 1000000) (hbd : s.bad < 1000000)
    (hk : f.kind = 5) (hz : (s.acc f.kind f.who f.at_ f.old f.nw).2 = 0) :
    Calls Try.prog 196 #[.pointer (some ⟨x, 0, none⟩), .pointer (some ⟨m, 0, none⟩)] w fun e w' => e = .returned (.tuple #[]) ∧ FlAt w' x { f with asleep := true } rest T ∧ MemAt w' m g (s.acc f.kind f.who f.at_ f.old f.nw).1 ∧ Kept [x, m, g] w w' := by
  have HK := hid hk
  have HZ := hid hz
  clear hk hz
  go_enter Try.func196, Try.ntmps196
  go_wp2_with fail
  refine (fdoes_run x m g f rest T s _ hb hM hnw hc hbd).mono ?_
  rintro e w1 ⟨rfl, hM1, hK1⟩
  rw [HZ.out]
  have hb1 := hb.kept hK1 (by simp; omega)
  obtain ⟨c0, c1, c2, c3, c4, c5, c6, c7, c8⟩ := hb1.cells
  rw [HK.out] at c1
  have hf := Blk.frozen hb1
  have hb2 : FlAt (w1.setCell ⟨x, 6, none⟩ (.bool true)) x { f with asleep := true } rest T := Blk.set hb1 6 (.bool true)
  have hM2 : MemAt (w1.setCell ⟨x, 6, none⟩ (.bool true)) m g (s.acc f.kind f.who f.at_ f.old f.nw).1 := hM1.kept (S := [x]) ((Kept.refl [x] w1).set (.inl (by simp)) _) (by simp; omega) (by simp; omega)
  clear hb hb1 hM hM1
  go_wp2
  go_returns
  exact ⟨rfl, hb2, hM2, (hK1.mono (by intro i hi; exact .inl (List.mem_cons_of_mem _ hi))).set (.inl (by simp)) _⟩
end Go.Proofs.Ytokpgbocomhpiaa.Flow
