/- The global queue, round after round: the plain law. -/
import Derived.Test.YtnmkfmaohflejaaChain
import Derived.Test.YtnmkfmaohflejaaListQ
import Derived.Test.YtnmkfmaohflejaaGlobqF
import Derived.Test.YtnmkfmaohflejaaPull
set_option maxRecDepth 100000
set_option maxHeartbeats 1000000
set_option linter.unusedVariables false
set_option linter.unusedSimpArgs false
namespace Go.Proofs.Ytnmkfmaohflejaa.Globq
open Go.RowKit Go.Shelf Go.Proofs.Ytnmkfmaohflejaa.TK Go.Proofs.Ytnmkfmaohflejaa.Words Go.Proofs.Ytnmkfmaohflejaa.Mem Go.Proofs.Ytnmkfmaohflejaa.Layout Go.Proofs.Ytnmkfmaohflejaa.Run Go.Proofs.Ytnmkfmaohflejaa.Sys Go.Proofs.Ytnmkfmaohflejaa.Mach Go.Proofs.Ytnmkfmaohflejaa.Ref05 Go.Proofs.Ytnmkfmaohflejaa.Road Go.Proofs.Ytnmkfmaohflejaa.Chain Go.Proofs.Ytnmkfmaohflejaa.IWords
open Go.Proofs.Ytnmkfmaohflejaa.MapL (wlk wlk_zero)
open Go.Proofs.Ytnmkfmaohflejaa.Idlep (u1 u1_of)
open Go.Proofs.Ytnmkfmaohflejaa.Ring (after after_clock)
/-- Numbers one behind the other, round and round. -/
def cyc (N st n : Nat) : List Int := (List.range n).map (fun i => (((st + i) % N : Nat) : Int))
theorem cyc_len (N st n : Nat) : (cyc N st n).length = n := by unfold cyc; simp
theorem cyc_add (N st n k : Nat) : cyc N st (n + k) = cyc N st n ++ cyc N (st + n) k := by
  unfold cyc
  rw [List.range_add, List.map_append, List.map_map]
  congr 1
  refine List.map_congr_left ?_
  intro i _
  show (((st + (n + i)) % N : Nat) : Int) = _
  rw [Nat.add_assoc]
theorem cyc_one (N st : Nat) : cyc N st 1 = [((st % N : Nat) : Int)] := by unfold cyc; simp
theorem cyc_succ (N st n : Nat) : cyc N st (n + 1) = ((st % N : Nat) : Int) :: cyc N (st + 1) n := by
  rw [Nat.add_comm n 1, cyc_add, cyc_one]
  rfl
theorem cyc_snoc (N st n : Nat) : cyc N st (n + 1) = cyc N st n ++ [(((st + n) % N : Nat) : Int)] := by
  rw [cyc_add, cyc_one]
theorem cyc_nodup {N st n : Nat} (h : n ≤ N) : (cyc N st n).Nodup := by
  unfold List.Nodup cyc
  rw [List.pairwise_map]
  refine List.Pairwise.imp_of_mem ?_ List.pairwise_lt_range
  intro i j hi hj hij e
  have hi := List.mem_range.1 hi
  have hj := List.mem_range.1 hj
  have e : (st + i) % N = (st + j) % N := by omega
  have h2 := Nat.sub_mod_eq_zero_of_mod_eq e.symm
  rw [show st + j - (st + i) = j - i by omega, Nat.mod_eq_of_lt (by omega)] at h2
  omega
theorem cyc_mem {N st n : Nat} (h : 0 < N) : ∀ t ∈ cyc N st n, 0 ≤ t ∧ t < (N : Int) := by
  intro t ht
  obtain ⟨i, _, rfl⟩ := List.mem_map.1 ht
  have := Nat.mod_lt (st + i) h
  omega
theorem lnk {G q : Int} (hq : 0 ≤ q ∧ q < G) : gg 1 1 G q 1 = 288 + 2 * q := by
  rw [gg_eq hq (by omega)]
  omega
/-- What the words say of the queue. -/
structure QInv (G : Int) (f : Int → Int) (there : List Int) : Prop where
  chain : Chain (fun t => f (gg 1 1 G t 1)) (f 6) there
  tail0 : there = [] → f 7 = 0
  tail1 : ∀ ys t, there = ys ++ [t] → f 7 = t + 1
  size : f 8 = (there.length : Int)
theorem qinv_start (G : Int) : QInv G (laid []) [] := ⟨rfl, fun _ => rfl, fun ys t h => by simp at h, rfl⟩
theorem chain_glue {nx nx' : Int → Int} {ys : List Int} : ∀ {xs : List Int} {x t : Int}, Chain nx x (xs ++ [t]) → (∀ u ∈ xs, nx' u = nx u) → Chain nx' (nx' t) ys → Chain nx' x (xs ++ [t] ++ ys)
  | [], x, t, h, _, h2 => ⟨h.1, h2⟩
  | u :: xs, x, t, h, h1, h2 => ⟨h.1, by rw [h1 u (by simp)]; exact chain_glue h.2 (fun v hv => h1 v (by simp [hv])) h2⟩
theorem chain_zero {nx : Int → Int} {x : Int} {xs : List Int} (h : Chain nx x xs) (hx : ∀ t ∈ xs, 0 ≤ t) : x = 0 ↔ xs = [] := by
  cases xs with
  | nil => exact ⟨fun _ => rfl, fun _ => h⟩
  | cons t r =>
    have := h.1
    have := hx t (by simp)
    exact ⟨fun e => by omega, fun e => by cases e⟩
theorem gAt_eq {gs : List Int} {k : Nat} (h : k < gs.length) : gAt gs k = gs[k] := by unfold gAt; simp [h]
theorem chain_gs (gs : List Int) (nx : Int → Int) (hin : ∀ t ∈ gs, 0 ≤ t ∧ t ≤ 1000000) (h : ∀ i (hi : i < gs.length), nx gs[i] = nxt gs i) : ∀ j k : Nat, k + j = gs.length → Chain nx (if k < gs.length then gAt gs k + 1 else 0) (gs.drop k) := by
  intro j
  induction j with
  | zero =>
    intro k hk
    rw [if_neg (by omega), List.drop_of_length_le (by omega)]
    rfl
  | succ j ih =>
    intro k hk
    have hk2 : k < gs.length := by omega
    rw [if_pos hk2, List.drop_eq_getElem_cons hk2, gAt_eq hk2]
    refine ⟨rfl, ?_⟩
    rw [h k hk2]
    unfold nxt
    have := ih (k + 1) (by omega)
    by_cases h2 : k + 1 < gs.length
    · rw [if_pos h2] at this ⊢
      rw [u1_of (by rw [gAt_eq h2]; exact hin _ (List.getElem_mem _))]
      exact this
    · rw [if_neg h2] at this ⊢
      exact this
theorem links_road (G : Int) (gs : List Int) (n : Nat) (hG : G ≤ 1000) (hn : 287 + 2 * G ≤ (n : Int)) (hin : ∀ t ∈ gs, 0 ≤ t ∧ t < G) (hnd : gs.Nodup) : ∀ (j k : Nat) (f : Int → Int), k + j = gs.length → 1 ≤ j →
    ∃ f', Road.Road (qpY 1 1 G gs) n (.ln k) f j .t f' ∧ (∀ a, (∀ i (h : i < gs.length), k ≤ i → a ≠ gg 1 1 G gs[i] 1) → f' a = f a) ∧ ∀ i (h : i < gs.length), k ≤ i → f' (gg 1 1 G gs[i] 1) = nxt gs i := by
  intro j
  induction j with
  | zero => intro k f _ h; omega
  | succ j ih =>
    intro k f hk _
    have hkl : k < gs.length := by omega
    have hgk := hin gs[k] (List.getElem_mem _)
    have e1 := lnk hgk
    have ew : (qpY 1 1 G gs).want (.ln k) = some ⟨2, gg 1 1 G gs[k] 1, 0, nxt gs k, false⟩ := by
      show some (Wnt.mk 2 (gg 1 1 G (gAt gs k) 1) 0 (nxt gs k) false) = _
      rw [gAt_eq hkl]
    by_cases hj : j = 0
    · subst hj
      refine ⟨upd f (gg 1 1 G gs[k] 1) (nxt gs k), rd_store _ _ ew (by omega) (by omega) (st1 := .t) (by show (if k + 1 < gs.length then _ else _) = _; rw [if_neg (by omega)]) (.nil _ _), ?_, ?_⟩
      · intro a ha
        exact upd_other (ha k hkl (Nat.le_refl _))
      · intro i hi hki
        obtain rfl : i = k := by omega
        exact upd_same _ _ _
    · obtain ⟨f', hr, h1, h2⟩ := ih (k + 1) (upd f (gg 1 1 G gs[k] 1) (nxt gs k)) (by omega) (by omega)
      refine ⟨f', rd_store _ _ ew (by omega) (by omega) (st1 := .ln (k + 1)) (by show (if k + 1 < gs.length then _ else _) = _; rw [if_pos (by omega)]) hr, ?_, ?_⟩
      · intro a ha
        rw [h1 a (fun i hi hki => ha i hi (by omega))]
        exact upd_other (ha k hkl (Nat.le_refl _))
      · intro i hi hki
        by_cases hik : i = k
        · subst hik
          rw [h1 _ (fun i2 hi2 hk2 => ?_)]
          · exact upd_same _ _ _
          · have hg2 := hin gs[i2] (List.getElem_mem _)
            rw [lnk hgk, lnk hg2]
            have hne : gs[i] ≠ gs[i2] := fun e => by have := (List.getElem_inj hnd).1 e; omega
            omega
        · exact h2 i hi (by omega)
theorem queue_put (N : Nat) (gs there : List Int) (n : Nat) (hN : N ≤ 60) (hn : 287 + 2 * (N : Int) ≤ (n : Int)) (f : Int → Int) (h : QInv N f there) (hin : ∀ t ∈ there ++ gs, 0 ≤ t ∧ t < (N : Int)) (hnd : (there ++ gs).Nodup) (h1 : 1 ≤ gs.length) (hlen : there.length + gs.length ≤ 60) :
    ∃ f', Road.Road (qpY 1 1 N gs) n (.ln 0) f (gs.length + 4) .done f' ∧ QInv N f' (there ++ gs) := by
  have hing : ∀ t ∈ gs, 0 ≤ t ∧ t < (N : Int) := fun t ht => hin t (by simp [ht])
  have hint : ∀ t ∈ there, 0 ≤ t ∧ t < (N : Int) := fun t ht => hin t (by simp [ht])
  have hndg := (List.nodup_append.1 hnd).2.1
  have hdis := (List.nodup_append.1 hnd).2.2
  obtain ⟨f1, hr, k1, k2⟩ := links_road N gs n (by omega) hn hing hndg gs.length 0 f (by omega) h1
  have far : ∀ a : Int, a < 288 → f1 a = f a := fun a ha => k1 a (fun i hi _ => by have := lnk (hing gs[i] (List.getElem_mem _)); have := hing gs[i] (List.getElem_mem _); omega)
  have old : ∀ u ∈ there, f1 (gg 1 1 N u 1) = f (gg 1 1 N u 1) := fun u hu => k1 _ (fun i hi _ => by
    have e1 := lnk (hint u hu)
    have e2 := lnk (hing gs[i] (List.getElem_mem _))
    have := hdis u hu gs[i] (List.getElem_mem _)
    omega)
  have g0 : 0 ≤ gAt gs 0 ∧ gAt gs 0 < (N : Int) := by rw [gAt_eq (by omega)]; exact hing _ (List.getElem_mem _)
  have g1 : 0 ≤ gAt gs (gs.length - 1) ∧ gAt gs (gs.length - 1) < (N : Int) := by rw [gAt_eq (by omega)]; exact hing _ (List.getElem_mem _)
  have u0 : u1 (gAt gs 0) = gAt gs 0 + 1 := u1_of (by omega)
  have u2 : u1 (gAt gs (gs.length - 1)) = gAt gs (gs.length - 1) + 1 := u1_of (by omega)
  have tail : ∀ ys z, there ++ gs = ys ++ [z] → gAt gs (gs.length - 1) + 1 = z + 1 := by
    intro ys z e
    have e2 := congrArg (fun l : List Int => l[l.length - 1]?) e
    simp only [List.length_append, List.length_singleton] at e2
    rw [List.getElem?_append_right (by omega), List.getElem?_append_right (by omega), show there.length + gs.length - 1 - there.length = gs.length - 1 by omega, show ys.length + 1 - 1 - ys.length = 0 by omega, List.getElem?_eq_getElem (by omega)] at e2
    simp at e2
    rw [gAt_eq (by omega), e2]
  have gch : ∀ f' : Int → Int, (∀ i (hi : i < gs.length), f' (gg 1 1 N gs[i] 1) = nxt gs i) → Chain (fun t => f' (gg 1 1 N t 1)) (gAt gs 0 + 1) gs := by
    intro f' hf
    have := chain_gs gs (fun t => f' (gg 1 1 N t 1)) (fun t ht => by have := hing t ht; omega) hf gs.length 0 (by omega)
    rw [if_pos (by omega)] at this
    simpa using this
  rcases List.eq_nil_or_concat there with rfl | ⟨ys, t, rfl⟩
  · have f7 : f1 7 = 0 := by rw [far 7 (by omega)]; exact h.tail0 rfl
    have f8 : f1 8 = 0 := by rw [far 8 (by omega), h.size]; rfl
    refine ⟨upd (upd (upd f1 6 (gAt gs 0 + 1)) 7 (gAt gs (gs.length - 1) + 1)) 8 (gs.length : Int), ?_, ?_, ?_, ?_, ?_⟩
    · refine hr.trans (j := 4) ?_
      refine rd_load 7 0 rfl (by omega) (by omega) f7 (st1 := .b 0) rfl ?_
      refine rd_store 6 (gAt gs 0 + 1) (by show some (Wnt.mk 2 6 0 (u1 (gAt gs 0)) false) = _; rw [u0]) (by omega) (by omega) (st1 := .ly) rfl ?_
      refine rd_store 7 (gAt gs (gs.length - 1) + 1) (by show some (Wnt.mk 2 7 0 (u1 (gAt gs (gs.length - 1))) false) = _; rw [u2]) (by omega) (by omega) (st1 := .c) rfl ?_
      exact rd_add 8 (gs.length : Int) 0 (gs.length : Int) rfl (by omega) (by omega) (by rw [upd_other (by omega), upd_other (by omega), f8]) (by omega) (st1 := .done) rfl (.nil _ _)
    · rw [List.nil_append]
      have e6 : upd (upd (upd f1 6 (gAt gs 0 + 1)) 7 (gAt gs (gs.length - 1) + 1)) 8 (gs.length : Int) 6 = gAt gs 0 + 1 := by (simp only [upd]; (repeat (first | rw [if_pos (by omega)] | rw [if_neg (by omega)])); first | rfl | assumption | omega)
      rw [e6]
      refine gch _ (fun i hi => ?_)
      have := lnk (hing gs[i] (List.getElem_mem _))
      have := hing gs[i] (List.getElem_mem _)
      rw [upd_other (by omega), upd_other (by omega), upd_other (by omega)]
      exact k2 i hi (by omega)
    · intro e
      rw [List.nil_append] at e
      rw [e] at h1
      simp at h1
    · intro ys z e
      rw [upd_other (by omega), upd_same]
      exact tail ys z e
    · rw [upd_same]; simp
  · rw [List.concat_eq_append] at *
    have ht := hint t (by simp)
    have hno : nOf (t + 1) = t := Chain.nOf_one ⟨by omega, by omega⟩
    have et := lnk ht
    have f7 : f1 7 = t + 1 := by rw [far 7 (by omega)]; exact h.tail1 ys t rfl
    have f8 : f1 8 = (ys.length : Int) + 1 := by rw [far 8 (by omega), h.size]; simp
    have hl2 : ((ys ++ [t] ++ gs).length : Int) = (ys.length : Int) + 1 + gs.length := by simp; omega
    have hl3 : (ys ++ [t]).length = ys.length + 1 := by simp
    refine ⟨upd (upd (upd f1 (gg 1 1 N t 1) (gAt gs 0 + 1)) 7 (gAt gs (gs.length - 1) + 1)) 8 ((ys.length : Int) + 1 + gs.length), ?_, ?_, ?_, ?_, ?_⟩
    · refine hr.trans (j := 4) ?_
      refine rd_load 7 (t + 1) rfl (by omega) (by omega) f7 (st1 := .b (t + 1)) rfl ?_
      refine rd_store (gg 1 1 N t 1) (gAt gs 0 + 1) (by show some (Wnt.mk 2 (if t + 1 = 0 then wordN 6 else gg 1 1 N (nOf (t + 1)) 1) 0 (u1 (gAt gs 0)) false) = _; rw [if_neg (by omega), hno, u0]) (by omega) (by omega) (st1 := .ly) rfl ?_
      refine rd_store 7 (gAt gs (gs.length - 1) + 1) (by show some (Wnt.mk 2 7 0 (u1 (gAt gs (gs.length - 1))) false) = _; rw [u2]) (by omega) (by omega) (st1 := .c) rfl ?_
      exact rd_add 8 (gs.length : Int) ((ys.length : Int) + 1) ((ys.length : Int) + 1 + gs.length) rfl (by omega) (by omega) (by rw [upd_other (by omega), upd_other (by omega), f8]) (by omega) (st1 := .done) rfl (.nil _ _)
    · have e6 : upd (upd (upd f1 (gg 1 1 N t 1) (gAt gs 0 + 1)) 7 (gAt gs (gs.length - 1) + 1)) 8 ((ys.length : Int) + 1 + gs.length) 6 = f 6 := by
        rw [upd_other (by omega), upd_other (by omega), upd_other (by omega), far 6 (by omega)]
      rw [e6]
      refine chain_glue h.chain ?_ ?_
      · intro u hu
        have hu2 := hint u (by simp [hu])
        have eu := lnk hu2
        have hne : u ≠ t := fun e => (List.nodup_append.1 (List.nodup_append.1 hnd).1).2.2 u hu t (by simp) e
        show upd (upd (upd f1 _ _) 7 _) 8 _ _ = _
        rw [upd_other (by omega), upd_other (by omega), upd_other (by omega)]
        exact old u (by simp [hu])
      · show Chain _ (upd (upd (upd f1 (gg 1 1 N t 1) (gAt gs 0 + 1)) 7 _) 8 _ (gg 1 1 N t 1)) gs
        rw [upd_other (by omega), upd_other (by omega), upd_same]
        refine gch _ (fun i hi => ?_)
        have e2 := lnk (hing gs[i] (List.getElem_mem _))
        have e3 := hing gs[i] (List.getElem_mem _)
        have hne := hdis t (by simp) gs[i] (List.getElem_mem _)
        rw [upd_other (by omega), upd_other (by omega), upd_other (by omega)]
        exact k2 i hi (by omega)
    · intro e
      simp at e
    · intro ys2 z e
      rw [upd_other (by omega), upd_same]
      exact tail ys2 z e
    · rw [upd_same, hl2]
theorem queue_pull0 (N : Nat) (n : Nat) (hn : 20 ≤ (n : Int)) (f : Int → Int) (h : QInv N f []) : Road.Road (qlM 0 1 1 N).sys n .h f 1 .none f :=
  rd_load 6 0 rfl (by omega) (by omega) h.chain (st1 := .none) rfl (.nil _ _)
theorem queue_pull1 (N : Nat) (t : Int) (r : List Int) (n : Nat) (hN : N ≤ 60) (hn : 287 + 2 * (N : Int) ≤ (n : Int)) (f : Int → Int) (h : QInv N f (t :: r)) (hin : ∀ u ∈ t :: r, 0 ≤ u ∧ u < (N : Int)) (hlen : r.length < 60) :
    ∃ k b f', k ≤ 5 ∧ Road.Road (qlM 0 1 1 N).sys n .h f k (.done (t + 1) b) f' ∧ (QlSt.done (t + 1) b).g = t ∧ QInv N f' r := by
  have ht := hin t (by simp)
  have et := lnk ht
  have hno : nOf (t + 1) = t := Chain.nOf_one ⟨by omega, by omega⟩
  have f6 : f 6 = t + 1 := h.chain.1
  obtain ⟨b, hb⟩ : ∃ b, b = f (gg 1 1 N t 1) := ⟨_, rfl⟩
  have hc : Chain (fun t => f (gg 1 1 N t 1)) b r := by rw [hb]; exact h.chain.2
  have hz := chain_zero hc (fun u hu => (hin u (by simp [hu])).1)
  have f8 : f 8 = (r.length : Int) + 1 := by rw [h.size]; simp
  have w1 : (qlM 0 1 1 N).sys.want (.n (t + 1)) = some ⟨1, gg 1 1 N t 1, 0, 0, false⟩ := by
    show some (Wnt.mk 1 (gg 1 1 N (nOf (t + 1)) 1) 0 0 false) = _
    rw [hno]
  by_cases hr : r = []
  · have b0 : b = 0 := hz.2 hr
    subst b0 hr
    refine ⟨5, 0, upd (upd (upd f 6 0) 7 0) 8 0, by omega, ?_, hno, ?_, ?_, ?_, ?_⟩
    · refine rd_load 6 (t + 1) rfl (by omega) (by omega) f6 (st1 := .n (t + 1)) (by show (if t + 1 = 0 then _ else _) = _; rw [if_neg (by omega)]) ?_
      refine rd_load (gg 1 1 N t 1) 0 w1 (by omega) (by omega) hb.symm (st1 := .st (t + 1) 0) rfl ?_
      refine rd_store 6 0 rfl (by omega) (by omega) (st1 := .tl (t + 1)) rfl ?_
      refine rd_store 7 0 rfl (by omega) (by omega) (st1 := .c (t + 1) 0) rfl ?_
      exact rd_add 8 4294967295 1 0 rfl (by omega) (by omega) (by rw [upd_other (by omega), upd_other (by omega), f8]; rfl) (by omega) (st1 := .done (t + 1) 0) rfl (.nil _ _)
    · show upd (upd (upd f 6 0) 7 0) 8 0 6 = 0
      (simp only [upd]; (repeat (first | rw [if_pos (by omega)] | rw [if_neg (by omega)])); first | rfl | assumption | omega)
    · intro _; (simp only [upd]; (repeat (first | rw [if_pos (by omega)] | rw [if_neg (by omega)])); first | rfl | assumption | omega)
    · intro ys z e; simp at e
    · rw [upd_same]; rfl
  · have b0 : b ≠ 0 := fun e => hr (hz.1 e)
    refine ⟨4, b, upd (upd f 6 b) 8 (r.length : Int), by omega, ?_, hno, ?_, ?_, ?_, ?_⟩
    · refine rd_load 6 (t + 1) rfl (by omega) (by omega) f6 (st1 := .n (t + 1)) (by show (if t + 1 = 0 then _ else _) = _; rw [if_neg (by omega)]) ?_
      refine rd_load (gg 1 1 N t 1) b w1 (by omega) (by omega) hb.symm (st1 := .st (t + 1) b) rfl ?_
      refine rd_store 6 b rfl (by omega) (by omega) (st1 := .c (t + 1) b) (by show (if b = 0 then _ else _) = _; rw [if_neg b0]) ?_
      exact rd_add 8 4294967295 ((r.length : Int) + 1) (r.length : Int) rfl (by omega) (by omega) (by rw [upd_other (by omega), f8]) (by omega) (st1 := .done (t + 1) b) rfl (.nil _ _)
    · have e6 : upd (upd f 6 b) 8 (r.length : Int) 6 = b := by (simp only [upd]; (repeat (first | rw [if_pos (by omega)] | rw [if_neg (by omega)])); first | rfl | assumption | omega)
      rw [e6]
      refine hc.congr ?_
      intro u hu
      have := lnk (hin u (by simp [hu]))
      have := hin u (by simp [hu])
      show upd (upd f 6 b) 8 _ _ = _
      rw [upd_other (by omega), upd_other (by omega)]
    · intro e; exact absurd e hr
    · intro ys z e
      rw [upd_other (by omega), upd_other (by omega)]
      exact h.tail1 (t :: ys) z (by rw [e]; rfl)
    · rw [upd_same]
theorem queue_list {N n : Nat} {f : Int → Int} {there : List Int} {s : St} (h : QInv N f there) (hs : Is s n f) (hN : N ≤ 60) (hn : 287 + 2 * (N : Int) ≤ (n : Int)) (hin : ∀ u ∈ there, 0 ≤ u ∧ u < (N : Int)) (hnd : there.Nodup) (hlen : there.length ≤ N) : qlst s 1 1 N = (there, true) := by
  unfold qlst
  rw [show wordN 6 = 6 by decide, hs.peek (by omega) (by omega)]
  have hp : ∀ t ∈ there, qrd s 1 1 N t = (f (gg 1 1 N t 1), true) := by
    intro t ht
    have := lnk (hin t ht)
    have := hin t ht
    unfold qrd
    rw [hs.peek (by omega) (by omega)]
  have := wlk_chain (qrd s 1 1 N) there (f 6) [] ((N : Int).toNat + 1) (h.chain.congr (fun t ht => by rw [hp t ht])) (fun t ht => by
    have h6 := hin t ht
    exact ⟨by rw [hp t ht], by omega, by omega⟩) (by rw [List.nil_append]; exact hnd) (by omega)
  simpa using this
end Go.Proofs.Ytnmkfmaohflejaa.Globq
