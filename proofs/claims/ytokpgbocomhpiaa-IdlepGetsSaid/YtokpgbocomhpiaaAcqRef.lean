/- The document's acquire. -/
import Derived.Test.YtokpgbocomhpiaaLockRef
set_option maxRecDepth 100000
set_option maxHeartbeats 4000000
set_option linter.unusedVariables false
set_option linter.unusedSimpArgs false
namespace Go.Proofs.Ytokpgbocomhpiaa.Run
open Go.RowKit Go.Shelf Go.Proofs.Ytokpgbocomhpiaa.TK Go.Proofs.Ytokpgbocomhpiaa.Flag Go.Proofs.Ytokpgbocomhpiaa.Read Go.Proofs.Ytokpgbocomhpiaa.Grow Go.Proofs.Ytokpgbocomhpiaa.Words Go.Proofs.Ytokpgbocomhpiaa.Mem Go.Proofs.Ytokpgbocomhpiaa.Layout Go.Proofs.Ytokpgbocomhpiaa.Lock
/-- A run that goes on. -/
def at_ (got : List Int) (u : Nat) : RunSt := ⟨got, u, false, ⟨0, 0, 0, 0, 0, false⟩, false⟩
def stopAt (got : List Int) (A : Acc) : RunSt := ⟨got, got.length, true, A, false⟩
theorem dox_on (got : List Int) (u : Nat) (A : Acc) (h : u < got.length) : (at_ got u).dox A = (at_ got (u + 1), got[u]) := by
  unfold RunSt.dox at_
  simp [h, List.getD_eq_getElem?_getD]
theorem dox_end (got : List Int) (A : Acc) : (at_ got got.length).dox A = (stopAt got A, 0) := by
  unfold RunSt.dox at_ stopAt
  simp
theorem dox_stop (got : List Int) (A C : Acc) : (stopAt got A).dox C = (stopAt got A, 0) := by
  unfold RunSt.dox stopAt
  simp
/-- The turn that the document tells of an answer. -/
theorem turn_wrap2 (a : Int) (h : 0 ≤ a ∧ a < 18446744073709551616) : (IntKind.u64.wrap (a + 4294967295)).tmod 4294967296 = turnOf a ∧ IntKind.u64.wrap (a + 4294967295) % 4294967296 = turnOf a := by
  have e : 0 ≤ IntKind.u64.wrap (a + 4294967295) := by rw [IntKind.wrap_u64]; omega
  have e2 : IntKind.u64.wrap (a + 4294967295) % 4294967296 = turnOf a := by rw [IntKind.wrap_u64]; unfold turnOf; omega
  exact ⟨by rw [Int.tmod_eq_emod_of_nonneg e]; exact e2, e2⟩
theorem racq_none (B r : Nat) (v : Value) (k who : Int) (w : World) (h : RunAt w B r v (at_ [] 0)) (hk : 0 ≤ k ∧ k ≤ 1) :
    Calls Try.prog 45 #[.pointer (some ⟨r, 0, none⟩), .int .i64 k, .int .i64 who] w fun e w' => (∃ z, e = .returned (.int .u64 z)) ∧ RunAt w' B r v (stopAt [] ⟨4, 0, 3 * k, 0, 1, false⟩) ∧ Kept [r] w w' := by
  have HH := hid h
  clear h
  go_enter Try.func45, Try.ntmps45
  go_wp2_with fail
  refine (runadd_run B r v _ _ 1 w HH.out).mono ?_
  rintro e w1 ⟨rfl, h1, h2⟩
  rw [show (at_ [] 0).dox ⟨4, 0, 3 * k, 0, 1, false⟩ = (stopAt [] ⟨4, 0, 3 * k, 0, 1, false⟩, 0) from dox_end [] _] at h1 ⊢
  have c2 := h1.blk.cell 2
  simp only [runCells, stopAt, List.getElem?_cons_zero, List.getElem?_cons_succ] at c2
  have H1 := hid h1
  clear h1 HH
  go_wp2_with fail
  go_loopw [] (fun wr => wr = w1) (fun _ => 0)
  case atStart => rfl
  case round =>
    subst hrel
    go_wp2
    go_ret
    exact ⟨⟨_, rfl⟩, H1.out, h2⟩
def acqEnd (k who : Int) (got tail : List Int) : RunSt :=
  match tail with
  | [] => stopAt got ⟨1, 0, 3 * k + 1, 0, 0, false⟩
  | [_] => stopAt got ⟨2, 0, 3 * k + 2, 0, who + 1, false⟩
  | _ => at_ got got.length
/-- What is left of a run. -/
def leftOf (N r : Nat) (w : World) : Nat :=
  (match w.cell? ⟨r, 1, none⟩ with | some (.int _ n) => N - n.toNat | _ => 0) + (match w.cell? ⟨r, 2, none⟩ with | some (.bool true) => 0 | _ => 1)
theorem racq_run (B r : Nat) (v : Value) (k who t0 : Int) (ls tail : List Int) (w : World) (h : RunAt w B r v (at_ (t0 :: (ls ++ tail)) 0)) (hk : 0 ≤ k ∧ k ≤ 1) (hw : 0 ≤ who ∧ who ≤ 1000) (ht : 0 ≤ t0 ∧ t0 < 18446744073709551616)
    (hne : ∀ x ∈ ls, x ≠ turnOf t0) (htl : tail = [] ∨ tail = [turnOf t0] ∨ ∃ z, tail = [turnOf t0, z]) :
    Calls Try.prog 45 #[.pointer (some ⟨r, 0, none⟩), .int .i64 k, .int .i64 who] w fun e w' => e = .returned (.int .u64 (turnOf t0)) ∧ RunAt w' B r v (acqEnd k who (t0 :: (ls ++ tail)) tail) ∧ Kept [r] w w' := by
  obtain ⟨e1, e2⟩ := turn_wrap2 t0 ht
  obtain ⟨tn, htn⟩ : ∃ tn, tn = turnOf t0 := ⟨_, rfl⟩
  rw [← htn] at e1 e2 hne htl ⊢
  obtain ⟨tw, htw⟩ : ∃ tw, tw = IntKind.u64.wrap (t0 + 4294967295) := ⟨_, rfl⟩
  have hw0 : 0 ≤ tw ∧ tw < 18446744073709551616 := by rw [htw, IntKind.wrap_u64]; omega
  have hwr := htw.symm
  rw [← htw] at e1 e2
  have n1 : IntKind.u64.wrap who = who := by rw [IntKind.wrap_u64]; omega
  have n2 : IntKind.u64.wrap (who + 1) = who + 1 := by rw [IntKind.wrap_u64]; omega
  obtain ⟨got, hg⟩ : ∃ got, got = t0 :: (ls ++ tail) := ⟨_, rfl⟩
  have hlg : got.length = 1 + ls.length + tail.length := by rw [hg]; simp; omega
  have hg0 : 0 < got.length := by omega
  have hat : ∀ j (hj : j < ls.length) (h' : 1 + j < got.length), got[1 + j] = ls[j] := by
    intro j hj h'
    subst hg
    simp only [Nat.add_comm 1 j, List.getElem_cons_succ]
    rw [List.getElem_append_left hj]
  have htr : ∀ (x : Int) (r' : List Int) (h' : 1 + ls.length < got.length), tail = x :: r' → got[1 + ls.length] = x := by
    intro x r' h' e
    subst e
    subst hg
    simp only [Nat.add_comm 1 ls.length, List.getElem_cons_succ]
    rw [List.getElem_append_right (Nat.le_refl _)]
    simp
  have hz : got[0] = t0 := by subst hg; rfl
  rw [← hg] at h ⊢
  have HH := hid h
  have HNE := hid hne
  have HTL := hid htl
  have HAT := hid hat
  have HTR := hid htr
  clear h hne htl hat htr hg htn htw
  go_enter Try.func45, Try.ntmps45
  go_wp2_with fail
  refine (runadd_run B r v _ _ 1 w HH.out).mono ?_
  rintro e w1 ⟨rfl, h1, h2⟩
  rw [dox_on got 0 _ hg0] at h1 ⊢
  simp only [hz] at h1 ⊢
  have H1 := hid h1
  have hB1 := h1.blk.cell 2
  clear h1 HH hz
  go_wp2_with fail
  go_loopw [] (fun wr => Kept [r] w wr ∧ ((∃ j, j ≤ ls.length ∧ RunAt wr B r v (at_ got (1 + j))) ∨ (tail = [] ∧ RunAt wr B r v (stopAt got ⟨1, 0, 3 * k + 1, 0, 0, false⟩)))) (leftOf got.length r)
  case atStart => exact ⟨h2, .inl ⟨0, Nat.zero_le _, H1.out⟩⟩
  case round =>
    obtain ⟨hK, ⟨j, hj, hR⟩ | ⟨htl, hR⟩⟩ := hrel
    · have c1 := hR.blk.cell 1
      have c2 := hR.blk.cell 2
      simp only [runCells, at_, List.getElem?_cons_zero, List.getElem?_cons_succ] at c1 c2
      have HR := hid hR
      have hm : leftOf got.length r wr = got.length - (1 + j) + 1 := by
        unfold leftOf
        rw [c1, c2]
        simp
        omega
      clear hR
      by_cases hlt : j < ls.length
      · have hgl : 1 + j < got.length := by omega
        have hv := HAT.out j hlt hgl
        have hne := HNE.out ls[j] (List.getElem_mem hlt)
        rw [← hv] at hne
        have hd := dox_on got (1 + j) ⟨1, 0, 3 * k + 1, 0, 0, false⟩ hgl
        obtain ⟨val, hval⟩ : ∃ val, val = got[1 + j] := ⟨_, rfl⟩
        rw [← hval] at hd hne
        have hq : ((val : Int) == tn) = false := by simpa using hne
        have HD := hid hd
        clear hv hne hd hval
        go_wp2_with fail
        refine (runload_run B r v _ _ wr HR.out).mono ?_
        rintro e w3 ⟨rfl, h3, hk3⟩
        rw [HD.out] at h3 ⊢
        have d1 := h3.blk.cell 1
        have d2 := h3.blk.cell 2
        simp only [runCells, at_, List.getElem?_cons_zero, List.getElem?_cons_succ] at d1 d2
        have H3 := hid h3
        clear h3 c1 c2 HR
        go_wp2_with fail
        go_roundw
        case rel => exact ⟨hK.trans hk3 (by intro i hi; exact .inl hi), .inl ⟨j + 1, by omega, H3.out⟩⟩
        case measure =>
          rw [hm]
          unfold leftOf
          rw [d1, d2]
          simp
          omega
      · obtain rfl : j = ls.length := by omega
        rcases HTL.out with h | h | ⟨z, h⟩
        · subst h
          simp only [List.length_nil, Nat.add_zero] at hlg
          have hd := dox_end got ⟨1, 0, 3 * k + 1, 0, 0, false⟩
          rw [hlg] at hd
          have HD := hid hd
          clear hd
          by_cases hz : (0 : Int) = tn
          · have hq : ((0 : Int) == tn) = true := by simpa using hz
            go_wp2_with fail
            refine (runload_run B r v _ _ wr HR.out).mono ?_
            rintro e w3 ⟨rfl, h3, hk3⟩
            rw [HD.out] at h3 ⊢
            have d1 := h3.blk.cell 1
            have d2 := h3.blk.cell 2
            simp only [runCells, stopAt, List.getElem?_cons_zero, List.getElem?_cons_succ] at d1 d2
            have H3 := hid h3
            clear h3 c1 c2 HR
            go_wp2_with fail
            go_roundw
            case rel => exact ⟨hK.trans hk3 (by intro i hi; exact .inl hi), .inr ⟨by first | trivial | rfl, H3.out⟩⟩
            case measure =>
              rw [hm]
              unfold leftOf
              rw [d1, d2]
              simp
          · have hq : ((0 : Int) == tn) = false := by simpa using hz
            go_wp2_with fail
            refine (runload_run B r v _ _ wr HR.out).mono ?_
            rintro e w3 ⟨rfl, h3, hk3⟩
            rw [HD.out] at h3 ⊢
            have d1 := h3.blk.cell 1
            have d2 := h3.blk.cell 2
            simp only [runCells, stopAt, List.getElem?_cons_zero, List.getElem?_cons_succ] at d1 d2
            have H3 := hid h3
            clear h3 c1 c2 HR
            go_wp2_with fail
            go_roundw
            case rel => exact ⟨hK.trans hk3 (by intro i hi; exact .inl hi), .inr ⟨by first | trivial | rfl, H3.out⟩⟩
            case measure =>
              rw [hm]
              unfold leftOf
              rw [d1, d2]
              simp
        · subst h
          simp only [List.length_singleton] at hlg
          have hgl : 1 + ls.length < got.length := by omega
          have hv := HTR.out tn [] hgl rfl
          have hd := dox_on got (1 + ls.length) ⟨1, 0, 3 * k + 1, 0, 0, false⟩ hgl
          rw [hv] at hd
          have hd2 := dox_end got ⟨2, 0, 3 * k + 2, 0, who + 1, false⟩
          rw [hlg] at hd2
          have HD := hid hd
          have HD2 := hid hd2
          clear hd hd2 hv
          go_wp2_with fail
          refine (runload_run B r v _ _ wr HR.out).mono ?_
          rintro e w3 ⟨rfl, h3, hk3⟩
          rw [HD.out] at h3 ⊢
          have d2 := h3.blk.cell 2
          simp only [runCells, at_, List.getElem?_cons_zero, List.getElem?_cons_succ] at d2
          have H3 := hid h3
          clear h3 c1 c2 HR
          go_wp2_with fail
          refine (runstore_run B r v _ _ (who + 1) w3 H3.out).mono ?_
          rintro e w4 ⟨rfl, h4, hk4⟩
          have H4 := hid h4
          clear h4
          go_wp2
          go_ret
          exact ⟨rfl, by have := H4.out; rw [HD2.out] at this; exact this, (hK.trans hk3 (by intro i hi; exact .inl hi)).trans hk4 (by intro i hi; exact .inl hi)⟩
        · subst h
          simp only [List.length_cons, List.length_nil] at hlg
          have hgl : 1 + ls.length < got.length := by omega
          have hv := HTR.out tn [z] hgl rfl
          have hd := dox_on got (1 + ls.length) ⟨1, 0, 3 * k + 1, 0, 0, false⟩ hgl
          rw [hv] at hd
          have hd2 := dox_on got (1 + ls.length + 1) ⟨2, 0, 3 * k + 2, 0, who + 1, false⟩ (by omega)
          have HD := hid hd
          have HD2 := hid hd2
          have hfin : got.length = 1 + ls.length + 1 + 1 := by omega
          clear hd hd2 hv
          go_wp2_with fail
          refine (runload_run B r v _ _ wr HR.out).mono ?_
          rintro e w3 ⟨rfl, h3, hk3⟩
          rw [HD.out] at h3 ⊢
          have d2 := h3.blk.cell 2
          simp only [runCells, at_, List.getElem?_cons_zero, List.getElem?_cons_succ] at d2
          have H3 := hid h3
          clear h3 c1 c2 HR
          go_wp2_with fail
          refine (runstore_run B r v _ _ (who + 1) w3 H3.out).mono ?_
          rintro e w4 ⟨rfl, h4, hk4⟩
          have H4 := hid h4
          have HFIN := hid hfin
          clear h4 hfin
          go_wp2
          go_ret
          exact ⟨rfl, by have := H4.out; rw [HD2.out] at this; unfold acqEnd; rw [HFIN.out]; exact this, (hK.trans hk3 (by intro i hi; exact .inl hi)).trans hk4 (by intro i hi; exact .inl hi)⟩
    · have c2 := hR.blk.cell 2
      simp only [runCells, stopAt, List.getElem?_cons_zero, List.getElem?_cons_succ] at c2
      subst htl
      have HR := hid hR
      clear hR
      go_wp2
      go_ret
      exact ⟨rfl, HR.out, hK⟩
end Go.Proofs.Ytokpgbocomhpiaa.Run
