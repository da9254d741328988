/- Machines run to their end over memories as functions: plain laws. -/
import Derived.Test.YtnmkfmaohflejaaDocSub
import Derived.Test.YtnmkfmaohflejaaBase6
set_option maxRecDepth 100000
set_option maxHeartbeats 4000000
set_option linter.unusedVariables false
set_option linter.unusedSimpArgs false
namespace Go.Proofs.Ytnmkfmaohflejaa.Road
open Go.RowKit Go.Shelf Go.Proofs.Ytnmkfmaohflejaa.TK Go.Proofs.Ytnmkfmaohflejaa.Words Go.Proofs.Ytnmkfmaohflejaa.Mem Go.Proofs.Ytnmkfmaohflejaa.Run Go.Proofs.Ytnmkfmaohflejaa.Sys Go.Proofs.Ytnmkfmaohflejaa.Mach Go.Proofs.Ytnmkfmaohflejaa.Ring Go.Proofs.Ytnmkfmaohflejaa.Doc
/-- A memory's words as a function of the place; no access was bad. -/
structure Is (s : St) (n : Nat) (f : Int → Int) : Prop where
  len : s.ws.length = n
  word : ∀ a : Int, 0 ≤ a → a < (n : Int) → s.word a = f a
  bad : s.bad = 0
def upd (f : Int → Int) (a v : Int) : Int → Int := fun b => if b = a then v else f b
theorem upd_same (f : Int → Int) (a v : Int) : upd f a v a = v := if_pos rfl
theorem upd_other {f : Int → Int} {a v b : Int} (h : b ≠ a) : upd f a v b = f b := if_neg h
section
variable {s : St} {n : Nat} {f : Int → Int} {a : Int}
theorem Is.inr (h : Is s n f) (h0 : 0 ≤ a) (h1 : a < (n : Int)) : s.inr a = true := by unfold St.inr; exact decide_eq_true ⟨h0, by rw [h.len]; exact h1⟩
theorem Is.peek (h : Is s n f) (h0 : 0 ≤ a) (h1 : a < (n : Int)) : s.peek a = (f a, true) := by
  unfold St.peek; rw [if_pos (h.inr h0 h1), h.word a h0 h1]
theorem Is.clk (h : Is s n f) (c : Int) (l : Acc) : Is { s with clock := c, last := l } n f := ⟨h.len, h.word, h.bad⟩
theorem Is.put (h : Is s n f) (h0 : 0 ≤ a) (h1 : a < (n : Int)) (v : Int) (c : Int) (l : Acc) : Is { s with ws := s.ws.set a.toNat v, clock := c, last := l } n (upd f a v) := by
  refine ⟨by simpa using h.len, ?_, h.bad⟩
  intro b hb0 hb1
  have hl := h.len
  show (s.ws.set a.toNat v).getD b.toNat 0 = _
  rw [List.getD_eq_getElem?_getD]
  by_cases e : b = a
  · subst e
    rw [upd_same, List.getElem?_set_self (by omega)]
    rfl
  · rw [upd_other e, List.getElem?_set_ne (by omega), ← List.getD_eq_getElem?_getD]
    exact h.word b hb0 hb1
theorem Is.load (h : Is s n f) (who : Int) (h0 : 0 ≤ a) (h1 : a < (n : Int)) : (s.acc 1 who a 0 0).2 = f a ∧ Is (s.acc 1 who a 0 0).1 n f := by
  unfold St.acc
  rw [if_pos (h.inr h0 h1)]
  exact ⟨h.word a h0 h1, h.clk _ _⟩
theorem Is.store (h : Is s n f) (who o v : Int) (h0 : 0 ≤ a) (h1 : a < (n : Int)) : (s.acc 2 who a o v).2 = 0 ∧ Is (s.acc 2 who a o v).1 n (upd f a v) := by
  unfold St.acc
  rw [if_pos (h.inr h0 h1)]
  exact ⟨rfl, h.put h0 h1 _ _ _⟩
theorem Is.add (h : Is s n f) (who o v : Int) (h0 : 0 ≤ a) (h1 : a < (n : Int)) : (s.acc 4 who a o v).2 = (f a + v) % 4294967296 ∧ Is (s.acc 4 who a o v).1 n (upd f a ((f a + v) % 4294967296)) := by
  unfold St.acc
  rw [if_pos (h.inr h0 h1), ← h.word a h0 h1]
  exact ⟨rfl, h.put h0 h1 _ _ _⟩
theorem Is.swap1 (h : Is s n f) (who v : Int) {o : Int} (h0 : 0 ≤ a) (h1 : a < (n : Int)) (ho : f a = o) : (s.acc 3 who a o v).2 = 1 ∧ Is (s.acc 3 who a o v).1 n (upd f a v) := by
  unfold St.acc
  rw [if_pos (h.inr h0 h1), if_neg (by decide), if_pos rfl, if_pos (by rw [h.word a h0 h1]; exact ho)]
  exact ⟨rfl, h.put h0 h1 _ _ _⟩
theorem Is.swap0 (h : Is s n f) (who v : Int) {o : Int} (h0 : 0 ≤ a) (h1 : a < (n : Int)) (ho : f a ≠ o) : (s.acc 3 who a o v).2 = 0 ∧ Is (s.acc 3 who a o v).1 n f := by
  unfold St.acc
  rw [if_pos (h.inr h0 h1), if_neg (by decide), if_pos rfl, if_neg (by rw [h.word a h0 h1]; exact ho)]
  exact ⟨rfl, h.clk _ _⟩
end
/-- The words of a ground: the last that was laid at a place. -/
def laid (puts : List PutT) (a : Int) : Int := puts.foldl (fun v q => if q.1 = a then q.2 else v) 0
theorem is_fresh (n : Nat) (puts : List PutT) : Is (fresh (layW n puts)) n (laid puts) := by
  have key : ∀ (l : List PutT) (ws : List Int) (g : Int → Int), (∀ a : Int, 0 ≤ a → a < (ws.length : Int) → ws.getD a.toNat 0 = g a) →
      ∀ a : Int, 0 ≤ a → a < (ws.length : Int) → (l.foldl putW ws).getD a.toNat 0 = l.foldl (fun v q => if q.1 = a then q.2 else v) (g a) := by
    intro l
    induction l with
    | nil => intro ws g hg a h0 h1; exact hg a h0 h1
    | cons q l ih =>
      intro ws g hg a h0 h1
      rw [List.foldl_cons, List.foldl_cons]
      have hl := putW_len ws q
      have := ih (putW ws q) (fun b => if q.1 = b then q.2 else g b) ?_ a h0 (by rw [hl]; exact h1)
      · rw [this]
      · intro b hb0 hb1
        rw [hl] at hb1
        unfold putW
        by_cases hq : 0 ≤ q.1 ∧ q.1 < (ws.length : Int)
        · rw [if_pos hq, List.getD_eq_getElem?_getD]
          by_cases e : q.1 = b
          · rw [if_pos e, e, List.getElem?_set_self (by omega)]; rfl
          · rw [if_neg e, List.getElem?_set_ne (by omega), ← List.getD_eq_getElem?_getD]
            exact hg b hb0 hb1
        · rw [if_neg hq, if_neg (by intro e; exact hq (by omega))]
          exact hg b hb0 hb1
  have hlen : (layW n puts).length = n := layTo_len _ _ _
  refine ⟨hlen, ?_, rfl⟩
  intro a h0 h1
  show (layW n puts).getD a.toNat 0 = _
  have e : layW n puts = puts.foldl putW (List.replicate n 0) := by unfold layW layTo; rw [List.take_length]
  rw [e]
  rw [key puts (List.replicate n 0) (fun _ => 0) (by intro b hb0 hb1; simp [List.getD_eq_getElem?_getD, List.getElem?_replicate]; split <;> rfl) a h0 (by simpa using h1)]
  rfl
/-- A machine goes on, an access at a time, from a state and words to others. -/
inductive Road {σ : Type} (M : Rsys σ) (n : Nat) : σ → (Int → Int) → Nat → σ → (Int → Int) → Prop
  | nil (st : σ) (f : Int → Int) : Road M n st f 0 st f
  | load {st st' : σ} {f f' : Int → Int} {k : Nat} (a : Int) (hw : M.want st = some ⟨1, a, 0, 0, false⟩) (h0 : 0 ≤ a) (h1 : a < (n : Int)) (h : Road M n (M.next st (f a)) f k st' f') : Road M n st f (k + 1) st' f'
  | store {st st' : σ} {f f' : Int → Int} {k : Nat} (a v : Int) (hw : M.want st = some ⟨2, a, 0, v, false⟩) (h0 : 0 ≤ a) (h1 : a < (n : Int)) (h : Road M n (M.next st 0) (upd f a v) k st' f') : Road M n st f (k + 1) st' f'
  | add {st st' : σ} {f f' : Int → Int} {k : Nat} (a v : Int) (hw : M.want st = some ⟨4, a, 0, v, false⟩) (h0 : 0 ≤ a) (h1 : a < (n : Int)) (h : Road M n (M.next st ((f a + v) % 4294967296)) (upd f a ((f a + v) % 4294967296)) k st' f') : Road M n st f (k + 1) st' f'
  | swap1 {st st' : σ} {f f' : Int → Int} {k : Nat} (a o v : Int) (hw : M.want st = some ⟨3, a, o, v, false⟩) (h0 : 0 ≤ a) (h1 : a < (n : Int)) (ho : f a = o) (h : Road M n (M.next st 1) (upd f a v) k st' f') : Road M n st f (k + 1) st' f'
  | swap0 {st st' : σ} {f f' : Int → Int} {k : Nat} (a o v : Int) (hw : M.want st = some ⟨3, a, o, v, false⟩) (h0 : 0 ≤ a) (h1 : a < (n : Int)) (ho : f a ≠ o) (h : Road M n (M.next st 0) f k st' f') : Road M n st f (k + 1) st' f'
section
variable {σ : Type} {M : Rsys σ} {n k j : Nat} {st st' st2 : σ} {f f' f2 : Int → Int} {s : St} {who : Int}
theorem Road.trans (h : Road M n st f k st' f') (h2 : Road M n st' f' j st2 f2) : Road M n st f (k + j) st2 f2 := by
  induction h with
  | nil => simpa using h2
  | load a hw h0 h1 h ih => rw [Nat.add_right_comm]; exact .load a hw h0 h1 (ih h2)
  | store a v hw h0 h1 h ih => rw [Nat.add_right_comm]; exact .store a v hw h0 h1 (ih h2)
  | add a v hw h0 h1 h ih => rw [Nat.add_right_comm]; exact .add a v hw h0 h1 (ih h2)
  | swap1 a o v hw h0 h1 ho h ih => rw [Nat.add_right_comm]; exact .swap1 a o v hw h0 h1 ho (ih h2)
  | swap0 a o v hw h0 h1 ho h ih => rw [Nat.add_right_comm]; exact .swap0 a o v hw h0 h1 ho (ih h2)
theorem after_front (M : Rsys σ) (who : Int) (st : σ) (s : St) (k : Nat) : after M who st s (k + 1) = after M who (stepOf M who st s).1 (stepOf M who st s).2 k := by
  induction k with
  | zero => rfl
  | succ k ih =>
    show stepOf M who (after M who st s (k + 1)).1 (after M who st s (k + 1)).2 = _
    rw [ih]
    rfl
theorem after_add (M : Rsys σ) (who : Int) (st : σ) (s : St) (k j : Nat) : after M who st s (k + j) = after M who (after M who st s k).1 (after M who st s k).2 j := by
  induction j with
  | zero => rfl
  | succ j ih =>
    show stepOf M who (after M who st s (k + j)).1 (after M who st s (k + j)).2 = _
    rw [ih]
    rfl
theorem after_done (h : M.want st = none) (s : St) (k : Nat) : after M who st s k = (st, s) := by
  induction k with
  | zero => rfl
  | succ k ih =>
    show stepOf M who (after M who st s k).1 (after M who st s k).2 = _
    rw [ih]
    unfold stepOf
    rw [h]
/-- What a machine does by its states it does by steps. -/
theorem Road.after (h : Road M n st f k st' f') (who : Int) (hs : Is s n f) : (Ring.after M who st s k).1 = st' ∧ Is (Ring.after M who st s k).2 n f' := by
  induction h generalizing s with
  | nil => exact ⟨rfl, hs⟩
  | load a hw h0 h1 h ih =>
    have e := hs.load who h0 h1
    rw [after_front, stepOf_go hw rfl]
    simp only
    rw [e.1]
    exact ih e.2
  | store a v hw h0 h1 h ih =>
    have e := hs.store who 0 v h0 h1
    rw [after_front, stepOf_go hw rfl]
    simp only
    rw [e.1]
    exact ih e.2
  | add a v hw h0 h1 h ih =>
    have e := hs.add who 0 v h0 h1
    rw [after_front, stepOf_go hw rfl]
    simp only
    rw [e.1]
    exact ih e.2
  | swap1 a o v hw h0 h1 ho h ih =>
    have e := hs.swap1 who v h0 h1 ho
    rw [after_front, stepOf_go hw rfl]
    simp only
    rw [e.1]
    exact ih e.2
  | swap0 a o v hw h0 h1 ho h ih =>
    have e := hs.swap0 who v h0 h1 ho
    rw [after_front, stepOf_go hw rfl]
    simp only
    rw [e.1]
    exact ih e.2
/-- It comes to its end in k steps, and is given N. -/
theorem Road.ends (h : Road M n st f k st' f') (hd : M.want st' = none) (who : Int) (hs : Is s n f) (N : Nat) (hN : k ≤ N) : (Ring.after M who st s N).1 = st' ∧ Is (Ring.after M who st s N).2 n f' := by
  obtain ⟨j, rfl⟩ : ∃ j, N = k + j := ⟨N - k, by omega⟩
  obtain ⟨e1, e2⟩ := h.after who hs
  rw [after_add, e1, after_done hd]
  exact ⟨rfl, e2⟩
/-- A machine that runs another one. -/
theorem Road.sub {τ : Type} {M' : Rsys τ} (kk emb : τ → σ) (E : Emb M M' kk emb) {q q' : τ} (h : Road M' n q f k q' f') : Road M n (runs M' kk emb q) f k (runs M' kk emb q') f' := by
  have on : ∀ {q : τ} {W : Wnt}, M'.want q = some W → runs M' kk emb q = emb q := fun h => runs_on (by rw [h]; simp)
  induction h with
  | nil => exact .nil _ _
  | load a hw h0 h1 h ih =>
    rw [on hw]
    exact .load a (E _ _ hw).1 h0 h1 (by rw [(E _ _ hw).2]; exact ih)
  | store a v hw h0 h1 h ih =>
    rw [on hw]
    exact .store a v (E _ _ hw).1 h0 h1 (by rw [(E _ _ hw).2]; exact ih)
  | add a v hw h0 h1 h ih =>
    rw [on hw]
    exact .add a v (E _ _ hw).1 h0 h1 (by rw [(E _ _ hw).2]; exact ih)
  | swap1 a o v hw h0 h1 ho h ih =>
    rw [on hw]
    exact .swap1 a o v (E _ _ hw).1 h0 h1 ho (by rw [(E _ _ hw).2]; exact ih)
  | swap0 a o v hw h0 h1 ho h ih =>
    rw [on hw]
    exact .swap0 a o v (E _ _ hw).1 h0 h1 ho (by rw [(E _ _ hw).2]; exact ih)
/-- It runs it to its end. -/
theorem Road.subEnd {τ : Type} {M' : Rsys τ} (kk emb : τ → σ) (E : Emb M M' kk emb) {q q' : τ} (h : Road M' n q f k q' f') (h0 : M'.want q ≠ none) (h1 : M'.want q' = none) : Road M n (emb q) f k (kk q') f' := by
  have := h.sub kk emb E
  rw [runs_on h0, runs_off h1] at this
  exact this
end
end Go.Proofs.Ytnmkfmaohflejaa.Road
