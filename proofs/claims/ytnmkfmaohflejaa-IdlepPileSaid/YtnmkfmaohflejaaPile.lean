/- Processors on the list, the last one on top: what a put and a get do to them: the plain law. -/
import Derived.Test.YtnmkfmaohflejaaChain
import Derived.Test.YtnmkfmaohflejaaListP
set_option maxRecDepth 100000
set_option maxHeartbeats 4000000
set_option linter.unusedVariables false
set_option linter.unusedSimpArgs false
namespace Go.Proofs.Ytnmkfmaohflejaa.Idlep
open Go.RowKit Go.Shelf Go.Proofs.Ytnmkfmaohflejaa.TK Go.Proofs.Ytnmkfmaohflejaa.Words Go.Proofs.Ytnmkfmaohflejaa.Mem Go.Proofs.Ytnmkfmaohflejaa.Layout Go.Proofs.Ytnmkfmaohflejaa.Run Go.Proofs.Ytnmkfmaohflejaa.Sys Go.Proofs.Ytnmkfmaohflejaa.Mach Go.Proofs.Ytnmkfmaohflejaa.Ref05 Go.Proofs.Ytnmkfmaohflejaa.Road Go.Proofs.Ytnmkfmaohflejaa.Chain Go.Proofs.Ytnmkfmaohflejaa.Bits Go.Proofs.Ytnmkfmaohflejaa.MapL
open Go.Proofs.Ytnmkfmaohflejaa.Ring (after after_clock)
/-- The mask of up to four. -/
def mk4 (l : List Int) : Int := (if (0 : Int) ∈ l then 1 else 0) + (if (1 : Int) ∈ l then 2 else 0) + (if (2 : Int) ∈ l then 4 else 0) + (if (3 : Int) ∈ l then 8 else 0)
theorem mk4_range (l : List Int) : 0 ≤ mk4 l ∧ mk4 l < 16 := by unfold mk4; split <;> split <;> split <;> split <;> omega
theorem four {p : Int} (h : 0 ≤ p ∧ p < 4) : p = 0 ∨ p = 1 ∨ p = 2 ∨ p = 3 := by omega
theorem mk4_has (l : List Int) {p : Int} (h : 0 ≤ p ∧ p < 4) : hasB (mk4 l) p = decide (p ∈ l) := by
  have b0 : bitOf 0 = 1 := by decide
  have b1 : bitOf 1 = 2 := by decide
  have b2 : bitOf 2 = 4 := by decide
  have b3 : bitOf 3 = 8 := by decide
  unfold hasB mk4
  rcases four h with rfl | rfl | rfl | rfl
  · rw [b0]
    by_cases h0 : (0 : Int) ∈ l <;> simp only [h0, if_true, if_false] <;> split <;> split <;> split <;> decide
  · rw [b1]
    by_cases h0 : (1 : Int) ∈ l <;> simp only [h0, if_true, if_false] <;> split <;> split <;> split <;> decide
  · rw [b2]
    by_cases h0 : (2 : Int) ∈ l <;> simp only [h0, if_true, if_false] <;> split <;> split <;> split <;> decide
  · rw [b3]
    by_cases h0 : (3 : Int) ∈ l <;> simp only [h0, if_true, if_false] <;> split <;> split <;> split <;> decide
theorem mk4_add (l : List Int) {p : Int} (h : 0 ≤ p ∧ p < 4) (hn : p ∉ l) : mk4 (l ++ [p]) = mk4 l + bitOf p := by
  have b0 : bitOf 0 = 1 := by decide
  have b1 : bitOf 1 = 2 := by decide
  have b2 : bitOf 2 = 4 := by decide
  have b3 : bitOf 3 = 8 := by decide
  unfold mk4
  rcases four h with rfl | rfl | rfl | rfl
  · rw [b0]; simp [hn]; omega
  · rw [b1]; simp [hn]; omega
  · rw [b2]; simp [hn]; omega
  · rw [b3]; simp [hn]
/-- What the words say of those that lie there, the last one on top. -/
def Pile (P : Int) (f : Int → Int) (pile : List Int) : Prop := Chain (fun p => f (pr P p 7)) (f 9) pile.reverse ∧ f 10 = (pile.length : Int) ∧ f 19 = mk4 pile ∧ pile.Nodup ∧ ∀ p ∈ pile, 0 ≤ p ∧ p < P
theorem pile_start (P : Int) : Pile P (laid []) [] := ⟨rfl, rfl, rfl, by simp, by simp⟩
theorem pile_len {P : Int} {f : Int → Int} {pile : List Int} (h : Pile P f pile) (hP : 0 ≤ P) : (pile.length : Int) ≤ P := by
  have := pigeon P.toNat pile h.2.2.2.1 (fun t ht => by have := h.2.2.2.2 t ht; omega)
  omega
theorem pile_list {P T : Int} {n : Nat} {f : Int → Int} {pile : List Int} {s : St} (h : Pile P f pile) (hs : Is s n f) (hP : 1 ≤ P ∧ P ≤ 4) (hn : 20 + 264 * P ≤ (n : Int)) : plst s P T = (pile.reverse, true) := by
  have hl := pile_len h (by omega)
  obtain ⟨h1, h2, h3, h4, h5⟩ := h
  unfold plst
  rw [show wordN 9 = 9 by decide, hs.peek (by omega) (by omega)]
  have hp : ∀ t ∈ pile.reverse, prd s P t = (f (pr P t 7), true) := by
    intro t ht
    have ht := h5 t (by simpa using ht)
    have e := pr_eq (P := P) (p := t) (f := 7) ht (by omega)
    unfold prd
    rw [hs.peek (by omega) (by omega)]
  have := wlk_chain (prd s P) pile.reverse (f 9) [] (P.toNat + 1) (h1.congr (fun t ht => by rw [hp t ht])) (fun t ht => by
    have h6 := h5 t (by simpa using ht)
    exact ⟨by rw [hp t ht], by omega, by omega⟩) (by rw [List.nil_append]; exact (List.reverse_perm pile).nodup_iff.2 h4) (by simp; omega)
  simpa using this
theorem pile_put (P p : Int) (n : Nat) (hP : 1 ≤ P ∧ P ≤ 4) (hp : 0 ≤ p ∧ p < P) (hn : 20 + 264 * P ≤ (n : Int)) (f : Int → Int) (pile : List Int) (h : Pile P f pile) (hno : p ∉ pile) :
    ∃ f', Road.Road (ppM 0 P p).sys n .a f 6 .done f' ∧ Pile P f' (pile ++ [p]) := by
  have hl := pile_len h (by omega)
  obtain ⟨h1, h2, h3, h4, h5⟩ := h
  have ep := pr_eq (P := P) (p := p) (f := 7) hp (by omega)
  have hsb : setB (mk4 pile) p = mk4 (pile ++ [p]) := by
    unfold setB
    rw [mk4_has pile (by omega), mk4_add pile (by omega) hno]
    simp [hno]
  have hu : u1 p = p + 1 := u1_of (by omega)
  obtain ⟨a, ha⟩ : ∃ a, a = f 9 := ⟨_, rfl⟩
  rw [← ha] at h1
  refine ⟨upd (upd (upd (upd f 19 (mk4 (pile ++ [p]))) (pr P p 7) a) 9 (p + 1)) 10 ((pile.length : Int) + 1), ?_, ?_, ?_, ?_, ?_, ?_⟩
  · refine rd_load 19 (mk4 pile) rfl (by omega) (by omega) h3 (st1 := .b (mk4 pile)) rfl ?_
    refine rd_store 19 (mk4 (pile ++ [p])) (by show some (Wnt.mk 2 19 0 (setB (mk4 pile) p) false) = _; rw [hsb]) (by omega) (by omega) (st1 := .c) rfl ?_
    refine rd_load 9 a rfl (by omega) (by omega) (by rw [upd_other (by omega), ha]) (st1 := .d a) rfl ?_
    refine rd_store (pr P p 7) a rfl (by omega) (by omega) (st1 := .e) rfl ?_
    refine rd_store 9 (p + 1) (by show some (Wnt.mk 2 9 0 (u1 p) false) = _; rw [hu]) (by omega) (by omega) (st1 := .f) rfl ?_
    exact rd_add 10 1 (pile.length : Int) ((pile.length : Int) + 1) rfl (by omega) (by omega) (by rw [upd_other (by omega), upd_other (by omega), upd_other (by omega), h2]) (by omega) (st1 := .done) rfl (.nil _ _)
  · rw [List.reverse_append]
    refine ⟨by (simp only [upd]; (repeat (first | rw [if_pos (by omega)] | rw [if_neg (by omega)])); first | rfl | assumption | omega), ?_⟩
    show Chain _ (upd (upd (upd (upd f 19 _) (pr P p 7) a) 9 (p + 1)) 10 _ (pr P p 7)) pile.reverse
    rw [upd_other (by omega), upd_other (by omega), upd_same]
    refine h1.congr ?_
    intro u hu
    have hu := List.mem_reverse.1 hu
    have hu2 := h5 u hu
    have eu := pr_eq (P := P) (p := u) (f := 7) hu2 (by omega)
    have hne : u ≠ p := fun e => hno (e ▸ hu)
    show upd (upd (upd (upd f 19 _) _ a) 9 _) 10 _ _ = _
    rw [upd_other (by omega), upd_other (by omega), upd_other (by omega), upd_other (by omega)]
  · rw [upd_same]; simp
  · rw [upd_other (by omega), upd_other (by omega), upd_other (by omega), upd_same]
  · rw [List.nodup_append]
    exact ⟨h4, by simp, by intro x hx b hb e; simp at hb; subst hb; subst e; exact hno hx⟩
  · intro u hu
    rcases List.mem_append.1 hu with hu | hu
    · exact h5 u hu
    · simp at hu; omega
theorem pile_get0 (P : Int) (n : Nat) (hn : 20 ≤ (n : Int)) (f : Int → Int) (h : Pile P f []) : Road.Road (pgM 0 P).sys n .h f 1 .none f :=
  rd_load 9 0 rfl (by omega) (by omega) h.1 (st1 := .none) rfl (.nil _ _)
theorem pile_get1 (P t : Int) (n : Nat) (hP : 1 ≤ P ∧ P ≤ 4) (hn : 20 + 264 * P ≤ (n : Int)) (f : Int → Int) (pile : List Int) (h : Pile P f (pile ++ [t])) :
    ∃ f' b, Road.Road (pgM 0 P).sys n .h f 6 (.got (t + 1) b) f' ∧ (PgSt.got (t + 1) b).p = t ∧ Pile P f' pile := by
  have hl := pile_len h (by omega)
  obtain ⟨h1, h2, h3, h4, h5⟩ := h
  have ht := h5 t (by simp)
  have et := pr_eq (P := P) (p := t) (f := 7) ht (by omega)
  have hno : MapL.nOf (t + 1) = t := Chain.nOf_one ⟨by omega, by omega⟩
  rw [List.reverse_append] at h1
  have f9 : f 9 = t + 1 := h1.1
  obtain ⟨b, hb⟩ : ∃ b, b = f (pr P t 7) := ⟨_, rfl⟩
  have hc : Chain (fun p => f (pr P p 7)) b pile.reverse := by rw [hb]; exact h1.2
  have hnt : t ∉ pile := fun hm => (List.nodup_append.1 h4).2.2 t hm t (by simp) rfl
  have hl2 : ((pile ++ [t]).length : Int) = pile.length + 1 := by simp
  have hdb : delB (mk4 (pile ++ [t])) t = mk4 pile := by
    unfold delB
    rw [mk4_has _ (by omega), mk4_add pile (by omega) hnt]
    simp
  refine ⟨upd (upd (upd f 19 (mk4 pile)) 9 b) 10 (pile.length : Int), b, ?_, hno, ?_, ?_, ?_, ?_, ?_⟩
  · refine rd_load 9 (t + 1) rfl (by omega) (by omega) f9 (st1 := .b (t + 1)) (by show (if t + 1 = 0 then _ else _) = _; rw [if_neg (by omega)]) ?_
    refine rd_load (pr P t 7) b (by show some (Wnt.mk 1 (pr P (MapL.nOf (t + 1)) 7) 0 0 false) = _; rw [hno]) (by omega) (by omega) hb.symm (st1 := .c (t + 1) b) rfl ?_
    refine rd_load 19 (mk4 (pile ++ [t])) rfl (by omega) (by omega) h3 (st1 := .d (t + 1) b (mk4 (pile ++ [t]))) rfl ?_
    refine rd_store 19 (mk4 pile) (by show some (Wnt.mk 2 19 0 (delB (mk4 (pile ++ [t])) (MapL.nOf (t + 1))) false) = _; rw [hno, hdb]) (by omega) (by omega) (st1 := .e (t + 1) b) rfl ?_
    refine rd_store 9 b rfl (by omega) (by omega) (st1 := .f (t + 1) b) rfl ?_
    exact rd_add 10 4294967295 (pile.length + 1 : Int) (pile.length : Int) rfl (by omega) (by omega) (by rw [upd_other (by omega), upd_other (by omega), h2, hl2]) (by omega) (st1 := .got (t + 1) b) rfl (.nil _ _)
  · show Chain _ (upd (upd (upd f 19 _) 9 b) 10 _ 9) pile.reverse
    rw [show upd (upd (upd f 19 (mk4 pile)) 9 b) 10 (pile.length : Int) 9 = b by (simp only [upd]; (repeat (first | rw [if_pos (by omega)] | rw [if_neg (by omega)])); first | rfl | assumption | omega)]
    refine hc.congr ?_
    intro u hu
    have hu := List.mem_reverse.1 hu
    have hu2 := h5 u (by simp [hu])
    have eu := pr_eq (P := P) (p := u) (f := 7) hu2 (by omega)
    show upd (upd (upd f 19 _) 9 _) 10 _ _ = _
    rw [upd_other (by omega), upd_other (by omega), upd_other (by omega)]
  · rw [upd_same]
  · rw [upd_other (by omega), upd_other (by omega), upd_same]
  · exact (List.nodup_append.1 h4).1
  · intro u hu
    exact h5 u (by simp [hu])
end Go.Proofs.Ytnmkfmaohflejaa.Idlep
