/- A list of one's own that also loses its first one: 'append(l, x)' and 'l[1:]'. -/
import Derived.Test.YtnmkfmaohflejaaChain
import Derived.Deep.Onto
set_option maxRecDepth 100000
set_option maxHeartbeats 4000000
set_option linter.unusedVariables false
set_option linter.unusedSimpArgs false
namespace Go.Proofs.Ytnmkfmaohflejaa.QRow
open Go.RowKit Go.Shelf Go.Proofs.Ytnmkfmaohflejaa.TK Go.Proofs.Ytnmkfmaohflejaa.Read Go.Proofs.Ytnmkfmaohflejaa.Grow Go.Proofs.Ytnmkfmaohflejaa.Run Go.Proofs.Ytnmkfmaohflejaa.Mach Go.Proofs.Ytnmkfmaohflejaa.MapL Go.Proofs.Ytnmkfmaohflejaa.Words
variable {P : Program}
/-- v has the list xs, in a block from B on; the block may begin ahead of it. -/
def QRow (w : World) (B : Nat) (T : TypeId) (v : Value) (xs : List Int) : Prop :=
  (xs = [] ∧ (v = .slice none 0 0 ∨ ∃ ad : Addr, B ≤ ad.block ∧ ad.block < w.heap.size ∧ v = .slice (some ad) 0 0)) ∨
  ∃ g o cap cs, v = .slice (some ⟨g, o, none⟩) xs.length cap ∧ B ≤ g ∧ Blk w g cs T ∧ xs.length ≤ cap ∧ o + cap ≤ cs.length ∧ ∀ j (h : j < xs.length), cs[o + j]? = some (.int .i64 xs[j])
theorem QRow.nil (w : World) (B : Nat) (T : TypeId) : QRow w B T (.slice none 0 0) [] := .inl ⟨rfl, .inl rfl⟩
section
variable {w w' : World} {B : Nat} {T : TypeId} {v : Value} {xs : List Int}
/-- The block that it has. -/
theorem QRow.kept {S : List Nat} (h : QRow w B T v xs) (hk : Kept S w w') (hS : ∀ i ∈ S, B ≤ i → ∀ cs, ¬ Blk w i cs T) : QRow w' B T v xs := by
  rcases h with ⟨h0, h | ⟨ad, h1, h2, h3⟩⟩ | ⟨g, o, cap, cs, h1, h2, h3, h4⟩
  · exact .inl ⟨h0, .inl h⟩
  · exact .inl ⟨h0, .inr ⟨ad, h1, Nat.lt_of_lt_of_le h2 hk.size, h3⟩⟩
  · exact .inr ⟨g, o, cap, cs, h1, h2, h3.kept hk (fun hi => hS g hi h2 cs h3), h4⟩
theorem QRow.keptB {S : List Nat} (h : QRow w B T v xs) (hk : Kept S w w') (hS : ∀ i ∈ S, v.ownBlock ≠ some i) : QRow w' B T v xs := by
  rcases h with ⟨h0, h | ⟨ad, h1, h2, h3⟩⟩ | ⟨g, o, cap, cs, h1, h2, h3, h4⟩
  · exact .inl ⟨h0, .inl h⟩
  · exact .inl ⟨h0, .inr ⟨ad, h1, Nat.lt_of_lt_of_le h2 hk.size, h3⟩⟩
  · exact .inr ⟨g, o, cap, cs, h1, h2, h3.kept hk (fun hi => hS g hi (by rw [h1]; rfl)), h4⟩
theorem QRow.own_lt (h : QRow w B T v xs) : ∀ i, v.ownBlock = some i → B ≤ i ∧ i < w.heap.size := by
  intro i hi
  rcases h with ⟨h0, rfl | ⟨ad, h1, h2, rfl⟩⟩ | ⟨g, o, cap, cs, rfl, h2, h3, h4⟩
  · simp [Value.ownBlock] at hi
  · simp [Value.ownBlock] at hi; subst hi; exact ⟨h1, h2⟩
  · simp [Value.ownBlock] at hi; subst hi; exact ⟨h2, h3.lt⟩
theorem QRow.quiet (h : QRow w B T v xs) (hb : Below w.heap.size w w') : QRow w' B T v xs := h.kept (Kept.of_below hb []) (by simp)
theorem QRow.row (h : QRow w B T v xs) : ∃ a cap, v = .slice a xs.length cap ∧ RowOf (encI .i64) 1 w a xs ∧ (a = none → cap = 0) ∧ xs.length ≤ cap ∧ (∀ x, a = some x → B ≤ x.block) := by
  rcases h with ⟨rfl, rfl | ⟨ad, h1, _, rfl⟩⟩ | ⟨g, o, cap, cs, rfl, h2, h3, h4, h5, h6⟩
  · exact ⟨none, 0, rfl, fun i hi => by simp at hi, fun _ => rfl, by simp, fun x hx => by cases hx⟩
  · exact ⟨some ad, 0, rfl, fun i hi => by simp at hi, (fun h => by cases h), by simp, fun x hx => by cases hx; exact h1⟩
  · refine ⟨_, cap, rfl, fun i hi => ⟨_, rfl, fun j u hj => ?_⟩, (fun h => by cases h), h4, fun x hx => by cases hx; exact h2⟩
    have hj0 : j = 0 := by have := (List.getElem?_eq_some_iff.1 hj).1; simp [encI] at this; exact this
    subst hj0
    have e1 : (⟨g, o, none⟩ : Addr).add (i * 1 + 0) = ⟨g, o + i, none⟩ := by unfold Addr.add; split <;> simp_all
    rw [e1, h3.cell, h6 i hi]
    exact hj
/-- Its first one is taken off. -/
theorem QRow.tail {x : Int} {a : Option Addr} {n cap : Nat} (h : QRow w B T (.slice a n cap) (x :: xs)) : ∃ g o, a = some (⟨g, o, none⟩ : Addr) ∧ n = xs.length + 1 ∧ 1 ≤ cap ∧ w.cell? ⟨g, o, none⟩ = some (.int .i64 x) ∧ (cap = 1 → QRow w B T (.slice (some ⟨g, o, none⟩) xs.length (cap - 1)) xs) ∧ (cap ≠ 1 → QRow w B T (.slice (some ⟨g, o + 1, none⟩) xs.length (cap - 1)) xs) := by
  rcases h with ⟨h, _⟩ | ⟨g, o, cap', cs, h1, h2, h3, h4, h5, h6⟩
  · cases h
  · have h4' : xs.length + 1 ≤ cap' := h4
    cases h1
    have hc0 : w.cell? ⟨g, o, none⟩ = some (.int .i64 x) := by
      have := h6 0 (by simp)
      rw [h3.cell]
      simpa using this
    refine ⟨g, o, rfl, rfl, by omega, hc0, ?_, ?_⟩
    · intro hc
      subst hc
      have hx : xs = [] := List.eq_nil_of_length_eq_zero (by omega)
      subst hx
      exact .inl ⟨rfl, .inr ⟨⟨g, o, none⟩, h2, h3.lt, rfl⟩⟩
    · intro hc
      refine .inr ⟨g, o + 1, cap - 1, cs, rfl, h2, h3, by omega, by omega, ?_⟩
      intro j hj
      have := h6 (j + 1) (by simp; omega)
      rw [show o + 1 + j = o + (j + 1) by omega, this]
      simp
theorem QRow.of_own {B' : Nat} (h : w'.ownsRow B' T 1 v xs.length (xs.map (fun x => Value.int .i64 x))) (hB : B ≤ B') : QRow w' B T v xs := by
  rcases h.2 with ⟨rfl, h0⟩ | ⟨g, cap, cur, rfl, hg, hh, hc, hm, hs, htake⟩
  · exact .inl ⟨List.eq_nil_of_length_eq_zero h0, .inl rfl⟩
  · have hB2 : Blk w' g cur.toList T := by unfold Blk; simpa using hh
    refine .inr ⟨g, 0, cap, cur.toList, rfl, by omega, hB2, hc, by simp [hs], ?_⟩
    intro i hi
    rw [Nat.mul_one] at htake
    have := congrArg (fun l => l[i]?) htake
    simp only [List.getElem?_take, hi, if_true, List.getElem?_map, List.getElem?_eq_getElem hi, Option.map_some] at this
    rw [Nat.zero_add]
    exact this
/-- 'append(l, x)': x has been laid in a block of its own. -/
theorem run_app (x : Int) (hQ : QRow w B T v xs) (i : TypeInfo) (z : Value) (t ty : TypeId) (ht : P.underlying t = some (.slice T)) (hi : P.info? T = some i) (hz : i.zero = some z) (hsize : i.size = 1) (hby : i.bytes = 8) (hzs : z.cells.size = 1)
    (ad : Addr) (c : Nat) (hnew : w.cell? ad = some (.int .i64 x)) (hm : xs.length ≤ 1000000) (hB : B ≤ w.heap.size) :
    ∃ v' w', (Builtin.append_ #[t, t] ty #[v, .slice (some ad) 1 c]).run P w = .ok v' w' ∧ QRow w' B T v' (xs ++ [x]) ∧ (v'.ownBlock = v.ownBlock ∨ ∀ i, v'.ownBlock = some i → w.heap.size ≤ i) ∧ ∃ S : List Nat, Kept S w w' ∧ ∀ i ∈ S, B ≤ i ∧ (∃ cs, Blk w i cs T) ∧ v.ownBlock = some i := by
  have hnews : ∀ j u, ([Value.int .i64 x] : List Value)[j]? = some u → w.cell? (ad.add j) = some u := by
    intro j u hj
    have hj0 : j = 0 := by have := (List.getElem?_eq_some_iff.1 hj).1; simpa using this
    subst hj0
    rw [show ad.add 0 = ad by unfold Addr.add; split <;> simp_all, hnew]
    simpa using hj
  have h1 : ∀ u ∈ ([Value.int .i64 x] : List Value), u.oneCell' = true := by intro u hu; simp at hu; subst hu; rfl
  have e1 : (xs ++ [x]).map (fun x => Value.int .i64 x) = xs.map (fun x => Value.int .i64 x) ++ [.int .i64 x] := by simp
  have e2 : (xs ++ [x]).length = xs.length + 1 := by simp
  rcases hQ with ⟨rfl, rfl | ⟨a0, h2, _, rfl⟩⟩ | ⟨g, o, cap, cs, rfl, h2, h3, h4, h5, h6⟩
  · obtain ⟨v', w', hr, r1, r2, _⟩ := run_append_own (P := P) w w.heap.size t ty T i z 1 8 ht hi hz hsize hby hzs (by omega) (.slice none 0 0) 0 [] (World.ownsRow_nil w _ T 1) ad 1 c [.int .i64 x] rfl hnews h1 (by unfold maxLen; omega) (by omega) (Nat.le_refl _)
    refine ⟨v', w', hr, QRow.of_own (B' := w.heap.size) (by rw [e1, e2]; simpa using r1) hB, .inr (fun i hi => (r1.lt i hi).1), [], kept_grown r2, by simp⟩
  · obtain ⟨v', w', hr, r1, r2⟩ := run_append_arg_grows (P := P) w t ty T i z 1 8 ht hi hz hsize hby hzs (by omega) a0 0 0 [] rfl (by intro _ _ h'; simp at h') ad 1 c [.int .i64 x] rfl hnews (by omega) (by unfold maxLen; omega) (by omega)
    refine ⟨v', w', hr, QRow.of_own (B' := w.heap.size) (by rw [e1, e2]; simpa using r1) hB, .inr (fun i hi => (r1.lt i hi).1), [], kept_grown r2, by simp⟩
  · by_cases hroom : xs.length + 1 ≤ cap
    · have hlt : o + xs.length < cs.length := by omega
      have hr := run_append_room_cells (P := P) w t ty T i ht hi g o xs.length cap ad 1 c [.int .i64 x] (by rw [hsize]; rfl) hnews h1 hroom (by
        intro j hj
        have hj0 : j = 0 := by simpa using hj
        subst hj0
        rw [h3.cell, hsize]
        simp
        omega) (fun j hj => h3.frozen _)
      rw [hsize, Nat.mul_one] at hr
      refine ⟨_, _, hr, ?_, .inl rfl, [g], (Kept.refl _ _).set (.inl (by simp)) _, fun i hi => by simp at hi; subst hi; exact ⟨h2, ⟨cs, h3⟩, rfl⟩⟩
      show QRow (w.setCell ⟨g, o + xs.length, none⟩ (.int .i64 x)) B T _ _
      refine .inr ⟨g, o, cap, cs.set (o + xs.length) (.int .i64 x), by rw [e2], h2, h3.set _ _, by rw [e2]; exact hroom, by rw [List.length_set]; exact h5, ?_⟩
      intro j hj
      rw [e2] at hj
      by_cases hj2 : j < xs.length
      · rw [List.getElem?_set_ne (by omega), h6 j hj2, List.getElem_append_left hj2]
      · obtain rfl : j = xs.length := by omega
        rw [List.getElem?_set_self hlt]
        simp
    · obtain ⟨v', w', hr, r1, r2⟩ := run_append_arg_grows (P := P) w t ty T i z 1 8 ht hi hz hsize hby hzs (by omega) ⟨g, o, none⟩ xs.length cap (xs.map (fun x => Value.int .i64 x)) (by simp) (by
        intro j u hj
        have hj2 : j < xs.length := by have := (List.getElem?_eq_some_iff.1 hj).1; simpa using this
        rw [Addr.add_lit, h3.cell, h6 j hj2]
        simpa [List.getElem?_eq_getElem hj2] using hj) ad 1 c [.int .i64 x] rfl hnews (by omega) (by unfold maxLen; omega) (by omega)
      refine ⟨v', w', hr, QRow.of_own (B' := w.heap.size) (by rw [e1, e2]; exact r1) hB, .inr (fun i hi => (r1.lt i hi).1), [], kept_grown r2, by simp⟩
end
/-- .. for the walk. -/
theorem app_q {w : World} {B : Nat} {T S : TypeId} {v : Value} {xs : List Int} {z : Value} (x : Int) {U : TypeId}
    (hQ : QRow w B T v xs) (hE : Elem P T z 1 8) (hS : P.underlying S = some (.slice T)) (hzs : z.cells.size = 1)
    {ops : Array Oper} {rest : List Oper} {o : Oper} {a : Act} {Q : Exit → Act → World → Prop}
    (hgd : o.guard = none) (s x' : Operand) (ho : o.op = .call { callee := .builtin .append, args := #[s, x'], argTypes := #[S, S] }) (hs : a.eval s = v) (hx : a.eval x' = .slice (some ⟨w.heap.size, 0, none⟩) 1 1)
    (hm : xs.length ≤ 1000000) (hB : B ≤ w.heap.size)
    (h : ∀ v' w', QRow w' B T v' (xs ++ [x]) → (v'.ownBlock = v.ownBlock ∨ ∀ i, v'.ownBlock = some i → w.heap.size ≤ i) → (∃ S : List Nat, Kept S w w' ∧ ∀ i ∈ S, B ≤ i ∧ (∃ cs, Blk w i cs T) ∧ v.ownBlock = some i) → wpList P ops Q rest (a.put o.dst v') w') :
    wpList P ops Q (o :: rest) a (w.alloc (.cells #[.int .i64 x] U)) := by
  obtain ⟨i0, hi, hz0, hz1, hz2⟩ := info_parts hE
  have hk : Kept [] w (w.alloc (.cells #[.int .i64 x] U)) := Kept.of_below (below_one w _) []
  have hnew : (w.alloc (.cells #[.int .i64 x] U)).cell? ⟨w.heap.size, 0, none⟩ = some (.int .i64 x) := by
    exact (Blk.new w [.int .i64 x] U).cell 0
  refine wpList_plain hgd fun K hK' => ?_
  obtain ⟨v', w', hrun, r1, r0, S', r2, r3⟩ := run_app (P := P) x (hQ.quiet (below_one w (.cells #[.int .i64 x] U))) i0 z S o.type hS hi hz0 hz1 hz2 hzs ⟨w.heap.size, 0, none⟩ 1 hnew hm (by simp; omega)
  unfold Oper.wp execOp
  simp only [ho, resolve, invoke, builtin, Sem.run_bind, Sem.run_pure, Result.andThen_ok, List.map_toArray, List.map_cons, List.map_nil, hs, hx, hrun]
  refine hK' _ _ (h v' w' r1 (r0.imp id (fun h i hi => by have := h i hi; simp at this; omega)) ⟨S'.filter (· < w.heap.size), ?_, ?_⟩)
  · exact (Kept.of_below (below_one w _) (S'.filter (· < w.heap.size))).trans r2 (fun i hi => by
      by_cases hl : i < w.heap.size
      · exact .inl (List.mem_filter.2 ⟨hi, by simp [hl]⟩)
      · exact .inr (by omega))
  · intro i hi
    simp at hi
    obtain ⟨q1, ⟨cs, q2⟩, q3⟩ := r3 i hi.1
    refine ⟨q1, ⟨cs, ?_⟩, q3⟩
    exact (by unfold Blk at q2 ⊢; rw [← Below.heap_alloc w (.cells #[.int .i64 x] U) i hi.2]; exact q2)
end Go.Proofs.Ytnmkfmaohflejaa.QRow
