/- Threads that are had and those on the list: what a get and a put do to them: the plain law. -/
import Derived.Test.YtnmkfmaohflejaaChain
import Derived.Test.YtnmkfmaohflejaaListM
set_option maxRecDepth 100000
set_option maxHeartbeats 4000000
set_option linter.unusedVariables false
set_option linter.unusedSimpArgs false
namespace Go.Proofs.Ytnmkfmaohflejaa.Idlem
open Go.RowKit Go.Shelf Go.Proofs.Ytnmkfmaohflejaa.TK Go.Proofs.Ytnmkfmaohflejaa.Words Go.Proofs.Ytnmkfmaohflejaa.Mem Go.Proofs.Ytnmkfmaohflejaa.Layout Go.Proofs.Ytnmkfmaohflejaa.Run Go.Proofs.Ytnmkfmaohflejaa.Sys Go.Proofs.Ytnmkfmaohflejaa.Mach Go.Proofs.Ytnmkfmaohflejaa.Ref05 Go.Proofs.Ytnmkfmaohflejaa.Road Go.Proofs.Ytnmkfmaohflejaa.Chain
open Go.Proofs.Ytnmkfmaohflejaa.Ring (after after_clock)
/-- What the words say of those who are had. -/
def Many (P T : Int) (f : Int → Int) (had : List Int) : Prop := ∃ pile : List Int, Chain (fun t => f (th P T t 2)) (f 11) pile ∧ f 12 = (pile.length : Int) ∧ f 15 = ((pile.length + had.length : Nat) : Int) ∧ f 15 ≤ T ∧ (pile ++ had).Nodup ∧ ∀ t ∈ pile ++ had, 0 ≤ t ∧ t < f 15
theorem many_len {P T : Int} {f : Int → Int} {had : List Int} (h : Many P T f had) : (had.length : Int) ≤ T := by
  obtain ⟨pile, _, _, h3, h4, _⟩ := h
  omega
theorem many_in {P T : Int} {f : Int → Int} {had : List Int} (h : Many P T f had) : ∀ t ∈ had, 0 ≤ t ∧ t < T := by
  obtain ⟨pile, _, _, h3, h4, _, h6⟩ := h
  intro t ht
  have := h6 t (by simp [ht])
  omega
theorem many_spare {P T : Int} {n : Nat} {f : Int → Int} {had : List Int} {s : St} (h : Many P T f had) (hT : T ≤ 1000) (hs : Is s n f) (hn : 20 ≤ n) : spareOf T s = T - had.length := by
  have hl := many_len h
  obtain ⟨pile, _, h2, h3, h4, _⟩ := h
  unfold spareOf
  rw [w12, w15, hs.peek (by omega) (by omega), hs.peek (by omega) (by omega)]
  simp only
  rw [if_neg (by omega)]
  omega
theorem many_start (P T : Int) (hT : 0 ≤ T) : Many P T (laid []) [] := ⟨[], rfl, rfl, rfl, hT, by simp, by simp⟩
theorem many_get (P T : Int) (n : Nat) (hP : 1 ≤ P) (hT : T ≤ 1000) (hn : 20 + 264 * P + 3 * T ≤ (n : Int)) (f : Int → Int) (had : List Int) (h : Many P T f had) :
    ∃ k st f', k ≤ 4 ∧ Road.Road (mgM 0 P T).sys n .h f k st f' ∧ (mgM 0 P T).sys.want st = none ∧ ((st.t = -1 ∧ (had.length : Int) = T ∧ Many P T f' had) ∨ (0 ≤ st.t ∧ st.t < T ∧ (had.length : Int) < T ∧ st.t ∉ had ∧ Many P T f' (had ++ [st.t]))) := by
  obtain ⟨pile, h1, h2, h3, h4, h5, h6⟩ := h
  cases pile with
  | nil =>
    have f11 : f 11 = 0 := h1
    have f15 : f 15 = (had.length : Int) := by rw [h3]; simp
    by_cases hl : (had.length : Int) < T
    · obtain ⟨v, hv⟩ : ∃ v, v = (had.length : Int) := ⟨_, rfl⟩
      rw [← hv] at f15 hl
      have hno : nOf (v + 1) = v := Chain.nOf_one ⟨by omega, by omega⟩
      refine ⟨3, .got (v + 1), upd f 15 (v + 1), by omega, ?_, rfl, .inr ⟨?_, ?_, by omega, ?_, [], ?_, ?_, ?_, ?_, ?_, ?_⟩⟩
      · refine rd_load 11 0 rfl (by omega) (by omega) f11 (st1 := .more) rfl ?_
        refine rd_load 15 v rfl (by omega) (by omega) f15 (st1 := .mk (v + 1)) (by show (if v < T then _ else _) = _; rw [if_pos hl]) ?_
        exact rd_store 15 (v + 1) rfl (by omega) (by omega) (st1 := .got (v + 1)) rfl (.nil _ _)
      · show 0 ≤ nOf (v + 1); omega
      · show nOf (v + 1) < T; omega
      · show nOf (v + 1) ∉ had
        rw [hno]
        intro hm
        have := h6 v (by simp [hm])
        omega
      · show upd f 15 (v + 1) 11 = 0
        (simp only [upd]; (repeat (first | rw [if_pos (by omega)] | rw [if_neg (by omega)])); first | rfl | assumption | omega)
      · show upd f 15 (v + 1) 12 = 0
        rw [upd_other (by omega), h2]; rfl
      · rw [upd_same]; simp; omega
      · rw [upd_same]; omega
      · show ([] ++ (had ++ [nOf (v + 1)])).Nodup
        rw [hno, List.nil_append, List.nodup_append]
        refine ⟨h5, by simp, ?_⟩
        intro a ha b hb e
        simp at hb
        have := h6 a (by simp [ha])
        omega
      · intro t ht
        rw [upd_same]
        have ht : t ∈ had ++ [nOf (v + 1)] := ht
        rw [hno] at ht
        rcases List.mem_append.1 ht with ht | ht
        · have := h6 t (by simp [ht]); omega
        · simp at ht; omega
    · refine ⟨2, .none, f, by omega, ?_, rfl, .inl ⟨rfl, by omega, [], h1, h2, h3, h4, h5, h6⟩⟩
      refine rd_load 11 0 rfl (by omega) (by omega) f11 (st1 := .more) rfl ?_
      exact rd_load 15 (had.length : Int) rfl (by omega) (by omega) f15 (st1 := .none) (by show (if (had.length : Int) < T then _ else _) = _; rw [if_neg hl]) (.nil _ _)
  | cons t r =>
    have ht := h6 t (by simp)
    have f11 : f 11 = t + 1 := h1.1
    have hno : nOf (t + 1) = t := Chain.nOf_one ⟨by omega, by omega⟩
    obtain ⟨b, hb⟩ : ∃ b, b = f (th P T t 2) := ⟨_, rfl⟩
    have hc : Chain (fun t => f (th P T t 2)) b r := by rw [hb]; exact h1.2
    have et := th_eq (P := P) (T := T) (t := t) (f := 2) (by omega) (by omega)
    have hl : (((t :: r).length : Nat) : Int) = r.length + 1 := by simp
    refine ⟨4, .got (t + 1), upd (upd f 11 b) 12 (r.length : Int), by omega, ?_, rfl, .inr ⟨?_, ?_, ?_, ?_, r, ?_, ?_, ?_, ?_, ?_, ?_⟩⟩
    · refine rd_load 11 (t + 1) rfl (by omega) (by omega) f11 (st1 := .sec (t + 1)) (by show (if t + 1 = 0 then _ else _) = _; rw [if_neg (by omega)]) ?_
      refine rd_load (th P T t 2) b (by show (Nx.load (th P T (nOf (t + 1)) 2) 117).want = _; rw [hno]; rfl) (by omega) (by omega) hb.symm (st1 := .mid (t + 1) b) rfl ?_
      refine rd_store 11 b rfl (by omega) (by omega) (st1 := .inc (t + 1)) rfl ?_
      exact rd_add 12 4294967295 (r.length + 1 : Int) (r.length : Int) rfl (by omega) (by omega) (by rw [upd_other (by omega), h2, hl]) (by omega) (st1 := .got (t + 1)) rfl (.nil _ _)
    · show 0 ≤ nOf (t + 1); omega
    · show nOf (t + 1) < T; omega
    · simp at h3; omega
    · show nOf (t + 1) ∉ had
      rw [hno]
      intro hm
      exact (List.nodup_append.1 h5).2.2 t (by simp) t hm rfl
    · show Chain _ (upd (upd f 11 b) 12 _ 11) r
      rw [show upd (upd f 11 b) 12 (r.length : Int) 11 = b by (simp only [upd]; (repeat (first | rw [if_pos (by omega)] | rw [if_neg (by omega)])); first | rfl | assumption | omega)]
      refine hc.congr ?_
      intro u hu
      have := h6 u (by simp [hu])
      have eu := th_eq (P := P) (T := T) (t := u) (f := 2) (by omega) (by omega)
      show upd (upd f 11 b) 12 _ _ = _
      rw [upd_other (by omega), upd_other (by omega)]
    · rw [upd_same]
    · rw [upd_other (by omega), upd_other (by omega), h3]; simp; omega
    · rw [upd_other (by omega), upd_other (by omega)]; exact h4
    · show (r ++ (had ++ [nOf (t + 1)])).Nodup
      rw [hno, ← List.append_assoc]
      have hp : (t :: r ++ had).Perm (r ++ had ++ [t]) := (List.perm_append_singleton t (r ++ had)).symm
      exact hp.nodup_iff.1 h5
    · intro u hu
      rw [upd_other (by omega), upd_other (by omega)]
      refine h6 u ?_
      have hu : u ∈ r ++ (had ++ [nOf (t + 1)]) := hu
      rw [hno] at hu
      simp at hu ⊢
      rcases hu with hu | hu | hu <;> simp [hu]
theorem many_put (P T : Int) (n : Nat) (hP : 1 ≤ P) (hT : T ≤ 1000) (hn : 20 + 264 * P + 3 * T ≤ (n : Int)) (f : Int → Int) (had : List Int) (h : Many P T f had) (k : Nat) (hk : k < had.length) :
    ∃ f', Road.Road (mpM 0 P T had[k]).sys n .h f 4 .done f' ∧ Many P T f' (takeOut had k (had[had.length - 1]'(by omega))) := by
  have hp := takeOut_perm had k hk
  have hlen := takeOut_len had k (had[had.length - 1]'(by omega))
  have hin := many_in h had[k] (List.getElem_mem _)
  obtain ⟨t, ht⟩ : ∃ t, t = had[k] := ⟨_, rfl⟩
  obtain ⟨had', hh⟩ : ∃ had', had' = takeOut had k (had[had.length - 1]'(by omega)) := ⟨_, rfl⟩
  rw [← ht] at hp hin ⊢
  rw [← hh] at hp hlen ⊢
  clear hh ht
  obtain ⟨pile, h1, h2, h3, h4, h5, h6⟩ := h
  have et := th_eq (P := P) (T := T) (t := t) (f := 2) (by omega) (by omega)
  obtain ⟨a, ha⟩ : ∃ a, a = f 11 := ⟨_, rfl⟩
  rw [← ha] at h1
  have hp2 : (pile ++ had).Perm (t :: pile ++ had') := (List.Perm.append_left pile hp).trans List.perm_middle
  have h5' := hp2.nodup_iff.1 h5
  have htp : t ∉ pile := by
    intro hm
    exact (List.nodup_cons.1 (show (t :: (pile ++ had')).Nodup from h5')).1 (by simp [hm])
  refine ⟨upd (upd (upd f (th P T t 2) a) 11 (t + 1)) 12 ((pile.length : Int) + 1), ?_, t :: pile, ?_, ?_, ?_, ?_, h5', ?_⟩
  · refine rd_load 11 a rfl (by omega) (by omega) ha.symm (st1 := .k a) rfl ?_
    refine rd_store (th P T t 2) a rfl (by omega) (by omega) (st1 := .s) rfl ?_
    refine rd_store 11 (t + 1) rfl (by omega) (by omega) (st1 := .i) rfl ?_
    exact rd_add 12 1 (pile.length : Int) ((pile.length : Int) + 1) rfl (by omega) (by omega) (by rw [upd_other (by omega), upd_other (by omega), h2]) (by omega) (st1 := .done) rfl (.nil _ _)
  · refine ⟨by (simp only [upd]; (repeat (first | rw [if_pos (by omega)] | rw [if_neg (by omega)])); first | rfl | assumption | omega), ?_⟩
    show Chain _ (upd (upd (upd f (th P T t 2) a) 11 (t + 1)) 12 _ (th P T t 2)) pile
    rw [upd_other (by omega), upd_other (by omega), upd_same]
    refine h1.congr ?_
    intro u hu
    have hu2 := h6 u (by simp [hu])
    have eu := th_eq (P := P) (T := T) (t := u) (f := 2) (by omega) (by omega)
    have hne : u ≠ t := fun e => htp (e ▸ hu)
    show upd (upd (upd f _ a) 11 _) 12 _ _ = _
    rw [upd_other (by omega), upd_other (by omega), upd_other (by omega)]
  · rw [upd_same]; simp
  · rw [upd_other (by omega), upd_other (by omega), upd_other (by omega), h3]; simp; omega
  · rw [upd_other (by omega), upd_other (by omega), upd_other (by omega)]; exact h4
  · intro u hu
    rw [upd_other (by omega), upd_other (by omega), upd_other (by omega)]
    exact h6 u (hp2.mem_iff.2 hu)
end Go.Proofs.Ytnmkfmaohflejaa.Idlem
