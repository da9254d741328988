/- A slice that the call itself lets grow, as a list. -/
import Derived.Test.YtokpgbocomhpiaaRead
import Derived.Test.YtokpgbocomhpiaaFlagB
import Derived.OwnWalk
set_option linter.unusedVariables false
set_option linter.unusedSimpArgs false
namespace Go.Proofs.Ytokpgbocomhpiaa.Grow
open Go.RowKit Go.Proofs.Ytokpgbocomhpiaa.TK Go.Proofs.Ytokpgbocomhpiaa.Read
variable {α : Type} {P : Program}

/-- An element type's row of the table. -/
def Elem (P : Program) (T : TypeId) (z : Value) (size bytes : Nat) : Prop := (P.info? T).map (fun i => (i.zero, i.size, i.bytes)) = some (some z, size, bytes)
/-- v owns the list xs, among the blocks from B on. -/
def Grow (w : World) (B : Nat) (T : TypeId) (size : Nat) (enc : α → List Value) (v : Value) (xs : List α) : Prop := w.ownsRow B T size v xs.length (xs.flatMap enc)
theorem Grow.nil (w : World) (B : Nat) (T : TypeId) (size : Nat) (enc : α → List Value) : Grow w B T size enc (.slice none 0 0) [] := World.ownsRow_nil _ _ _ _
section
variable {w w' : World} {B : Nat} {T : TypeId} {size : Nat} {enc : α → List Value} {v : Value} {xs : List α} {S : List Nat}
theorem Grow.kept (h : Grow w B T size enc v xs) (hk : Kept S w w') (hS : ∀ i ∈ S, i < B) : Grow w' B T size enc v xs := by
  refine ⟨h.1, ?_⟩
  rcases h.2 with h2 | ⟨g, cap, cur, hv, hg, hh, h3⟩
  · exact .inl h2
  · refine .inr ⟨g, cap, cur, hv, hg, ?_, h3⟩
    rw [hk.block g (lt_of_block hh) (fun hm => by have := hS g hm; omega)]
    exact hh
theorem Grow.quiet (h : Grow w B T size enc v xs) (hb : Below w.heap.size w w') : Grow w' B T size enc v xs := h.kept (Kept.of_below hb []) (by simp)
theorem Grow.mono {B' : Nat} (h : Grow w B T size enc v xs) (hB : B' ≤ B) : Grow w B' T size enc v xs := by
  refine ⟨h.1, ?_⟩
  rcases h.2 with h2 | ⟨g, cap, cur, hv, hg, h3⟩
  · exact .inl h2
  · exact .inr ⟨g, cap, cur, hv, by omega, h3⟩
theorem own_le {n : Nat} {ys : List Value} (h : w.ownsRow B T size v n ys) : ∀ k, v.ownBlock = some k → B ≤ k := by
  intro k hk
  rcases h.2 with ⟨rfl, _⟩ | ⟨g, cap, cur, rfl, hg, _⟩
  · simp [Value.ownBlock] at hk
  · simp [Value.ownBlock] at hk; omega
theorem flat_get {enc : α → List Value} {size : Nat} (henc : ∀ x, (enc x).length = size) : ∀ (xs : List α) (i j : Nat) (h : i < xs.length), j < size → (xs.flatMap enc)[i * size + j]? = (enc xs[i])[j]?
  | [], i, j, h, _ => by simp at h
  | x :: xs, 0, j, h, hj => by
    rw [List.flatMap_cons, List.getElem?_append_left (by rw [henc]; omega)]
    simp
  | x :: xs, i + 1, j, h, hj => by
    rw [List.flatMap_cons, List.getElem?_append_right (by rw [henc, Nat.succ_mul]; omega), henc]
    rw [show (i + 1) * size + j - size = i * size + j by rw [Nat.succ_mul]; omega]
    exact flat_get henc xs i j (by simpa using h) hj
/-- The list, as one that came in. -/
theorem Grow.row (h : Grow w B T size enc v xs) (henc : ∀ x, (enc x).length = size) : ∃ a cap, v = .slice a xs.length cap ∧ RowOf enc size w a xs ∧ (a = none → cap = 0) ∧ (∀ x, a = some x → B ≤ x.block ∧ x.block < w.heap.size) := by
  rcases h.2 with ⟨rfl, h0⟩ | ⟨g, cap, cur, rfl, hg, hh, _, _, _, htake⟩
  · refine ⟨none, 0, by rw [h0], fun i hi => by omega, fun _ => rfl, fun x hx => by cases hx⟩
  · refine ⟨_, cap, rfl, fun i hi => ⟨_, rfl, fun j u hj => ?_⟩, (fun h => by cases h), fun x hx => by cases hx; exact ⟨hg, lt_of_block hh⟩⟩
    have hj3 : j < size := by have := (List.getElem?_eq_some_iff.1 hj).1; rwa [henc] at this
    have e1 : (⟨g, 0, none⟩ : Addr).add (i * size + j) = ⟨g, i * size + j, none⟩ := by unfold Addr.add; split <;> simp_all
    have hB : Blk w g cur.toList T := by unfold Blk; simpa using hh
    rw [e1, hB.cell]
    rw [← flat_get henc xs i j hi hj3, ← htake] at hj
    rw [List.getElem?_take] at hj
    split at hj
    · exact hj
    · cases hj
/-- A shorter one. -/
theorem Grow.take {a : Option Addr} {cap : Nat} (h : Grow w B T size enc (.slice a xs.length cap) xs) (henc : ∀ x, (enc x).length = size) (n : Nat) (hn : n ≤ xs.length) : Grow w B T size enc (.slice a n cap) (xs.take n) := by
  have hf : ∀ ys : List α, (ys.flatMap enc).length = ys.length * size := by
    intro ys
    induction ys with
    | nil => simp
    | cons y ys ih => rw [List.flatMap_cons, List.length_append, henc, ih, List.length_cons, Nat.succ_mul]; omega
  have hl : (xs.take n).length = n := by simp; omega
  refine ⟨hf _, ?_⟩
  rw [hl]
  rcases h.2 with ⟨h1, h0⟩ | ⟨g, cap', cur, h1, hg, hh, hc, hm, hs, htake⟩
  · simp only [Value.slice.injEq] at h1
    obtain ⟨rfl, _, rfl⟩ := h1
    exact .inl ⟨by rw [show n = 0 by omega], by omega⟩
  · cases h1
    refine .inr ⟨g, cap, cur, rfl, hg, hh, by omega, hm, hs, ?_⟩
    have h2 : (xs.take n).flatMap enc = (xs.flatMap enc).take (n * size) := by
      have h3 : xs.flatMap enc = (xs.take n).flatMap enc ++ (xs.drop n).flatMap enc := by rw [← List.flatMap_append, List.take_append_drop]
      have h4 : ((xs.take n).flatMap enc).length = n * size := by rw [hf, hl]
      rw [h3, ← h4, List.take_left]
    rw [h2, ← htake, List.take_take, Nat.min_eq_left (Nat.mul_le_mul_right _ hn)]
end
/-- 'append(l, x)': x has been laid in a block of its own. -/
theorem app_one {w : World} {B : Nat} {T S : TypeId} {z : Value} {size bytes : Nat} {enc : α → List Value} {v : Value} {xs : List α} (x : α) {U : TypeId} {cs : Array Value}
    (hG : Grow w B T size enc v xs) (hE : Elem P T z size bytes) (hS : P.underlying S = some (.slice T)) (hzs : z.cells.size = size) (hsz : 0 < size) (hbz : bytes ≤ 1000)
    {ops : Array Oper} {rest : List Oper} {o : Oper} {a : Act} {Q : Exit → Act → World → Prop}
    (hgd : o.guard = none) (s x' : Operand) (ho : o.op = .call { callee := .builtin .append, args := #[s, x'], argTypes := #[S, S] }) (hs : a.eval s = v) (hx : a.eval x' = .slice (some ⟨w.heap.size, 0, none⟩) 1 1)
    (hc : cs.toList = enc x) (hl : (enc x).length = size) (h1 : ∀ u ∈ enc x, u.oneCell' = true) (hm : xs.length ≤ 1000000) (hB : B ≤ w.heap.size)
    (h : ∀ v' w', Grow w' B T size enc v' (xs ++ [x]) → Below B w w' → B ≤ w'.heap.size → wpList P ops Q rest (a.put o.dst v') w') :
    wpList P ops Q (o :: rest) a (w.alloc (.cells cs U)) := by
  obtain ⟨i0, hi, hz0, hz1, hz2⟩ := info_parts hE
  have hb1 : (xs.length + 1) * bytes ≤ 1000001 * 1000 := Nat.mul_le_mul (by omega) hbz
  refine wpList_append_own _ hgd s x' S ho B T i0 _ size bytes hS hi hz0 hz1 hz2 hzs hsz v xs.length (xs.flatMap enc) hs (World.ownsRow.alloc hG _) ⟨w.heap.size, 0, none⟩ 1 1 (enc x) hx (by rw [hl, Nat.one_mul]) ?_ h1 (by unfold maxLen; omega) (by omega) (by simp; omega) ?_
  · intro j u hj
    have hb : Blk (w.alloc (.cells cs U)) w.heap.size cs.toList U := by
      have := Blk.new w cs.toList U
      simpa using this
    have e1 : (⟨w.heap.size, 0, none⟩ : Addr).add j = ⟨w.heap.size, j, none⟩ := by unfold Addr.add; split <;> simp_all
    rw [e1, hb.cell j, hc]
    exact hj
  · intro v' w' hown hgrow _
    have hb : Below B w w' := ((Below.refl B w).alloc hB _).grown hgrow (by simp; omega) (own_le hG)
    refine h v' w' ?_ hb (Nat.le_trans hB hb.size)
    unfold Grow
    rw [List.length_append, List.flatMap_append]
    simpa using hown
/-- 'append(l, more...)': those lie in a row. -/
theorem app_row {w : World} {B : Nat} {T S : TypeId} {z : Value} {size bytes : Nat} {enc : α → List Value} {v : Value} {xs : List α} (ys : List α) {ad : Addr} {c : Nat}
    (hG : Grow w B T size enc v xs) (hE : Elem P T z size bytes) (hS : P.underlying S = some (.slice T)) (hzs : z.cells.size = size) (hsz : 0 < size) (hbz : bytes ≤ 1000)
    {ops : Array Oper} {rest : List Oper} {o : Oper} {a : Act} {Q : Exit → Act → World → Prop}
    (hgd : o.guard = none) (s x' : Operand) (ho : o.op = .call { callee := .builtin .append, args := #[s, x'], argTypes := #[S, S] }) (hs : a.eval s = v) (hx : a.eval x' = .slice (some ad) ys.length c)
    (hr : RowOf enc size w (some ad) ys) (hl : ∀ x, (enc x).length = size) (h1 : ∀ x, ∀ u ∈ enc x, u.oneCell' = true) (hm : xs.length ≤ 500000) (hm' : ys.length ≤ 500000) (hB : B ≤ w.heap.size)
    (h : ∀ v' w', Grow w' B T size enc v' (xs ++ ys) → Below B w w' → B ≤ w'.heap.size → wpList P ops Q rest (a.put o.dst v') w') :
    wpList P ops Q (o :: rest) a w := by
  obtain ⟨i0, hi, hz0, hz1, hz2⟩ := info_parts hE
  have hb1 : (xs.length + ys.length) * bytes ≤ 1000000 * 1000 := Nat.mul_le_mul (by omega) hbz
  have hf : ∀ zs : List α, (zs.flatMap enc).length = zs.length * size := by
    intro zs
    induction zs with
    | nil => simp
    | cons y zs ih => rw [List.flatMap_cons, List.length_append, hl, ih, List.length_cons, Nat.succ_mul]; omega
  refine wpList_append_own _ hgd s x' S ho B T i0 _ size bytes hS hi hz0 hz1 hz2 hzs hsz v xs.length (xs.flatMap enc) hs hG ad ys.length c (ys.flatMap enc) hx (hf ys) ?_ ?_ (by unfold maxLen; omega) (by omega) hB ?_
  · intro j u hj
    have hjl : j < ys.length * size := by have := (List.getElem?_eq_some_iff.1 hj).1; rwa [hf] at this
    have hq : j / size < ys.length := (Nat.div_lt_iff_lt_mul hsz).2 hjl
    have hr0 : j % size < size := Nat.mod_lt _ hsz
    have hj2 : j / size * size + j % size = j := by rw [Nat.mul_comm]; exact Nat.div_add_mod j size
    obtain ⟨x, hx0, hcell⟩ := hr (j / size) hq
    cases hx0
    have h3 := flat_get hl ys (j / size) (j % size) hq hr0
    rw [hj2] at h3
    have := hcell (j % size) u (by rw [← h3]; exact hj)
    rwa [hj2] at this
  · intro u hu
    obtain ⟨x, _, hx2⟩ := List.mem_flatMap.1 hu
    exact h1 x u hx2
  · intro v' w' hown hgrow _
    have hb : Below B w w' := (Below.refl B w).grown hgrow hB (own_le hG)
    refine h v' w' ?_ hb (Nat.le_trans hB hb.size)
    unfold Grow
    rw [List.length_append, List.flatMap_append]
    exact hown
end Go.Proofs.Ytokpgbocomhpiaa.Grow
