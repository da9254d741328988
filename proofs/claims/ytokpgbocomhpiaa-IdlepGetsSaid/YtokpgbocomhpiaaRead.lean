/- What an argument that can be read as data holds, cell by cell: for types made of integers, bools, structs, arrays, and slices of such. -/
import Derived.Test.YtokpgbocomhpiaaKit
import Derived.Deep.Slices
import Derived.OpenShut
import Derived.WideShapes
set_option linter.unusedVariables false
set_option linter.unusedSimpArgs false
namespace Go.Proofs.Ytokpgbocomhpiaa.Read
open Go.RowKit Go.Proofs.Ytokpgbocomhpiaa.TK Go.ChangeShapes Go.WideShapes

inductive Base where
  | int (k : IntKind)
  | bool
inductive Leaf where
  | base (b : Base)
  | row (e : List Base)

def Base.holds : Base → Value → Prop
  | .int k, v => ∃ n, v = .int k n ∧ (Lit.int k n).wf = true
  | .bool, v => ∃ b, v = .bool b
def AllB : List Base → List Value → Prop
  | [], [] => True
  | b :: bs, v :: vs => b.holds v ∧ AllB bs vs
  | _, _ => False
def Leaf.holds (w : World) : Leaf → Value → Prop
  | .base b, v => b.holds v
  | .row e, v => v = .slice none 0 0 ∨ ∃ (a : Addr) (len cap : Nat), v = .slice (some a) len cap ∧ len ≤ cap ∧ cap ≤ maxLen ∧
      ∀ i, i < len → ∃ cs : List Value, AllB e cs ∧ ∀ j v, cs[j]? = some v → w.cell? (a.add (i * e.length + j)) = some v
def AllL (w : World) : List Leaf → List Value → Prop
  | [], [] => True
  | l :: ls, v :: vs => l.holds w v ∧ AllL w ls vs
  | _, _ => False

def onlyBases : List Leaf → Option (List Base)
  | [] => some []
  | .base b :: ls => (onlyBases ls).map (b :: ·)
  | .row _ :: _ => none

def shapeFs (P : Program) (sh : TypeId → Option (List Leaf)) : Nat → List Field → Option (List Leaf)
  | _, [] => some []
  | off, f :: fs => (sh f.type).bind fun ls => if f.offset = off ∧ ls.length = P.cellsOf f.type then (shapeFs P sh (off + ls.length) fs).map (ls ++ ·) else none

/-- A type's cells, by kind. -/
def shape (P : Program) : Nat → TypeId → Option (List Leaf)
  | 0, _ => none
  | n + 1, t => match P.underlying t with
    | some .bool => some [.base .bool]
    | some (.int k) => some [.base (.int k)]
    | some (.slice e) => ((shape P n e).bind onlyBases).bind fun bs => if bs.length = P.cellsOf e then some [.row bs] else none
    | some (.struct fs) => (shapeFs P (shape P n) 0 fs.toList).bind fun ls => if ls.length = P.cellsOf t then some ls else none
    | some (.array m e) => (shape P n e).bind fun ls => if ls.length = P.cellsOf e ∧ m * ls.length = P.cellsOf t then some (List.replicate m ls).flatten else none
    | _ => none

section
variable {H : Type} {enc : TypeId × Value → H} {P : Program} {w : World} {base : Nat} {spare : Nat → Bool} {held : Bool}

theorem AllL_append {ls rs : List Leaf} : ∀ {xs : List Value}, AllL w ls (xs.take ls.length) → AllL w rs (xs.drop ls.length) → AllL w (ls ++ rs) xs := by
  induction ls with
  | nil => intro xs _ h; simpa using h
  | cons l ls ih =>
    intro xs h h'
    cases xs with
    | nil => simp [AllL] at h
    | cons v xs =>
      simp only [List.length_cons, List.take_succ_cons, List.drop_succ_cons, AllL, List.cons_append] at h h' ⊢
      exact ⟨h.1, ih h.2 h'⟩

theorem AllL_bases {ls : List Leaf} : ∀ {bs : List Base} {cs : List Value}, onlyBases ls = some bs → AllL w ls cs → AllB bs cs ∧ bs.length = ls.length := by
  induction ls with
  | nil =>
    intro bs cs h hl
    simp only [onlyBases, Option.some.injEq] at h
    subst h
    cases cs with
    | nil => exact ⟨trivial, rfl⟩
    | cons => exact hl.elim
  | cons l ls ih =>
    intro bs cs h hl
    cases l with
    | row e => simp [onlyBases] at h
    | base b =>
      simp only [onlyBases, Option.map_eq_some_iff] at h
      obtain ⟨bs', h1, rfl⟩ := h
      cases cs with
      | nil => exact hl.elim
      | cons v cs =>
        obtain ⟨h2, h3⟩ := ih h1 hl.2
        exact ⟨⟨hl.1, h2⟩, by simp [h3]⟩

theorem shape_fs {sh : TypeId → Option (List Leaf)} {tr : TypeId → List Value → Prop} (hsh : ∀ t ls cs, sh t = some ls → tr t cs → AllL w ls cs) :
    ∀ (fs : List Field) (off : Nat) (ls : List Leaf) (cs : List Value), shapeFs P sh off fs = some ls → (∀ f ∈ fs, tr f.type ((cs.drop f.offset).take (P.cellsOf f.type))) → cs.length = off + ls.length → AllL w ls (cs.drop off)
  | [], off, ls, cs, h, _, hl => by
    simp only [shapeFs, Option.some.injEq] at h
    subst h
    have : cs.drop off = [] := List.drop_eq_nil_of_le (by simp at hl; omega)
    rw [this]; trivial
  | f :: fs, off, ls, cs, h, htr, hl => by
    simp only [shapeFs, Option.bind_eq_some_iff] at h
    obtain ⟨l1, h1, h2⟩ := h
    split at h2
    · rename_i hc
      obtain ⟨hoff, hlen⟩ := hc
      simp only [Option.map_eq_some_iff] at h2
      obtain ⟨l2, h3, rfl⟩ := h2
      have ha := hsh _ _ _ h1 (htr f List.mem_cons_self)
      rw [hoff, ← hlen] at ha
      have hb := shape_fs hsh fs _ _ cs h3 (fun g hg => htr g (List.mem_cons_of_mem _ hg)) (by simp at hl; omega)
      refine AllL_append ha ?_
      rwa [List.drop_drop]
    · cases h2

theorem shape_array {ls : List Leaf} {k : Nat} (hk : ls.length = k) : ∀ (m : Nat) (cs : List Value), cs.length = m * k → (∀ i, i < m → AllL w ls ((cs.drop (i * k)).take k)) → AllL w (List.replicate m ls).flatten cs
  | 0, cs, hl, _ => by
    have : cs = [] := List.eq_nil_of_length_eq_zero (by simpa using hl)
    subst this; simp [AllL]
  | m + 1, cs, hl, h => by
    rw [List.replicate_succ, List.flatten_cons]
    refine AllL_append ?_ ?_
    · have := h 0 (by omega)
      rw [hk]; simpa using this
    · refine shape_array hk m _ (by rw [List.length_drop, hl, hk, Nat.succ_mul]; omega) (fun i hi => ?_)
      have := h (i + 1) (by omega)
      rw [hk, List.drop_drop]
      rwa [show k + i * k = (i + 1) * k by rw [Nat.succ_mul]; omega]

theorem shape_trod : ∀ (n : Nat) (t : TypeId) (ls : List Leaf) (cs : List Value), shape P n t = some ls → (∃ fuel x, DataW.trod enc P w base spare held fuel t cs = some x) → AllL w ls cs
  | 0, _, _, _, h, _ => by simp [shape] at h
  | n + 1, t, ls, cs, h, ⟨fuel, x, hx⟩ => by
    have ih := shape_trod n
    unfold shape at h
    split at h
    · rename_i ht
      cases h
      obtain ⟨b, rfl, _⟩ := DataW.trod_bool ht hx
      exact ⟨⟨b, rfl⟩, trivial⟩
    · rename_i k ht
      cases h
      obtain ⟨q, rfl, _, hw⟩ := DataW.trod_int ht hx
      exact ⟨⟨q, rfl, hw⟩, trivial⟩
    · rename_i e ht
      simp only [Option.bind_eq_some_iff] at h
      obtain ⟨bs, ⟨l1, h1, h2⟩, h3⟩ := h
      split at h3
      · rename_i hbl
        cases h3
        rcases DataW.trod_slice ht hx with ⟨rfl, _⟩ | ⟨a, len, cap, elems, rest, m, _, rfl, _, hb, hlc, hcm, hlen, hel, _⟩
        · exact ⟨.inl rfl, trivial⟩
        · refine ⟨.inr ⟨a, len, cap, rfl, hlc, hcm, fun i hi => ?_⟩, trivial⟩
          have h4 := hel i hi
          rw [List.getElem?_eq_getElem (by omega)] at h4
          obtain ⟨ecs, h5, h6⟩ := Option.bind_eq_some_iff.1 h4
          have h7 := ih e l1 ecs h1 ⟨_, _, h6⟩
          obtain ⟨_, hl5, hc5⟩ := World.cells?_some h5
          refine ⟨ecs, (AllL_bases h2 h7).1, fun j v hj => ?_⟩
          have hjl : j < ecs.length := (List.getElem?_eq_some_iff.1 hj).1
          have h8 := hc5 j (by omega)
          rw [hbl, ← Go.Deep.add_add, h8, hj]
      · cases h3
    · rename_i fs ht
      simp only [Option.bind_eq_some_iff] at h
      obtain ⟨l1, h1, h2⟩ := h
      split at h2
      · rename_i hlen
        cases h2
        obtain ⟨xs, m, _, _, hcl, hxl, hall⟩ := DataW.trod_struct ht hx
        have := shape_fs (P := P) (w := w) (sh := shape P n) (tr := fun t cs => ∃ fuel x, DataW.trod enc P w base spare held fuel t cs = some x) (fun t ls cs h1 h2 => ih t ls cs h1 h2) fs.toList 0 ls cs h1
          (fun f hf => by
            obtain ⟨i, hi, rfl⟩ := List.getElem_of_mem hf
            have hi' : i < fs.size := by simpa using hi
            have h3 := hall i fs[i] (by simp [hi'])
            refine ⟨m, xs[i]'(by omega), ?_⟩
            simp only [Array.getElem_toList]
            rw [h3, List.getElem?_eq_getElem]) (by simp; omega)
        simpa using this
      · cases h2
    · rename_i m e ht
      simp only [Option.bind_eq_some_iff] at h
      obtain ⟨l1, h1, h2⟩ := h
      split at h2
      · rename_i hlen
        cases h2
        obtain ⟨xs, q, _, _, hcl, hxl, hall⟩ := DataW.trod_array ht hx
        refine shape_array hlen.1 m cs (by rw [hcl, ← hlen.2, hlen.1]) (fun i hi => ?_)
        refine ih e l1 _ h1 ⟨q, xs[i]'(by omega), ?_⟩
        rw [hall i hi, List.getElem?_eq_getElem]
      · cases h2
    · cases h

/-- A struct's or an array's argument. -/
theorem open_rows {t : TypeId} {r : Reach} {b0 : Nat} {v : Value} {d : DataW H} {p : List MemPlace} {ls : List Leaf} (n : Nat) (hag : (match P.underlying t with | some (.struct _) | some (.array _ _) => true | _ => false) = true)
    (hs : shape P n t = some ls) (hv : Value.okWide P w r b0 t v) (h : DataW.Trod enc P w base spare held t v d p) : ∃ cs : List Value, v = .agg cs.toArray ∧ AllL w ls cs := by
  obtain ⟨fuel, hf⟩ := h
  have ha := shape_trod n t ls v.cells.toList hs ⟨fuel, _, hf⟩
  have hv' : ∃ cs, v = .agg cs := by
    simp only [Value.okWide] at hv
    cases hu : P.underlying t with
    | none => rw [hu] at hag; simp at hag
    | some u =>
      rw [hu] at hag hv
      cases u <;> simp at hag <;> exact ⟨_, hv.choose_spec.1⟩
  obtain ⟨cs, rfl⟩ := hv'
  exact ⟨cs.toList, rfl, by simpa [Value.cells] using ha⟩
/-- A slice's argument. -/
theorem open_slice_row {t e : TypeId} {r : Reach} {b0 : Nat} {v : Value} {d : DataW H} {p : List MemPlace} {bs : List Base} (n : Nat) (ht : P.underlying t = some (.slice e))
    (hs : shape P n t = some [.row bs]) (hv : Value.okWide P w r b0 t v) (h : DataW.Trod enc P w base spare held t v d p) : (Leaf.row bs).holds w v := by
  obtain ⟨fuel, hf⟩ := h
  obtain ⟨a, len, cap, rfl⟩ := okWide_slice ht hv
  have ha := shape_trod n t _ (Value.slice a len cap).cells.toList hs ⟨fuel, _, hf⟩
  simp only [Value.cells, AllL] at ha
  exact ha.1
end

theorem AllL_cons {w : World} {l : Leaf} {ls : List Leaf} {cs : List Value} (h : AllL w (l :: ls) cs) : ∃ v vs, cs = v :: vs ∧ l.holds w v ∧ AllL w ls vs := by
  cases cs with
  | nil => exact h.elim
  | cons v vs => exact ⟨v, vs, rfl, h⟩
theorem AllL_nil {w : World} {cs : List Value} (h : AllL w [] cs) : cs = [] := by
  cases cs with
  | nil => rfl
  | cons v vs => exact h.elim
theorem AllB_cons {l : Base} {ls : List Base} {cs : List Value} (h : AllB (l :: ls) cs) : ∃ v vs, cs = v :: vs ∧ l.holds v ∧ AllB ls vs := by
  cases cs with
  | nil => exact h.elim
  | cons v vs => exact ⟨v, vs, rfl, h⟩
theorem AllB_nil {cs : List Value} (h : AllB [] cs) : cs = [] := by
  cases cs with
  | nil => rfl
  | cons v vs => exact h.elim
theorem two_ints {w : World} {k0 k1 : IntKind} {cs : List Value} (h : AllL w [.base (.int k0), .base (.int k1)] cs) : ∃ a b, cs = [.int k0 a, .int k1 b] ∧ (Lit.int k0 a).wf = true ∧ (Lit.int k1 b).wf = true := by
  obtain ⟨_, _, rfl, ⟨a, rfl, ha⟩, h1⟩ := AllL_cons h
  obtain ⟨_, _, rfl, ⟨b, rfl, hb⟩, h2⟩ := AllL_cons h1
  obtain rfl := AllL_nil h2
  exact ⟨a, b, rfl, ha, hb⟩
theorem three_ints {w : World} {k0 k1 k2 : IntKind} {cs : List Value} (h : AllL w [.base (.int k0), .base (.int k1), .base (.int k2)] cs) : ∃ a b c, cs = [.int k0 a, .int k1 b, .int k2 c] ∧ (Lit.int k0 a).wf = true ∧ (Lit.int k1 b).wf = true ∧ (Lit.int k2 c).wf = true := by
  obtain ⟨_, _, rfl, ⟨a, rfl, ha⟩, h1⟩ := AllL_cons h
  obtain ⟨_, _, rfl, ⟨b, rfl, hb⟩, h2⟩ := AllL_cons h1
  obtain ⟨_, _, rfl, ⟨c, rfl, hc⟩, h3⟩ := AllL_cons h2
  obtain rfl := AllL_nil h3
  exact ⟨a, b, c, rfl, ha, hb, hc⟩
/-- From 'for every i < n there is an x' to one list. -/
theorem list_of {α : Type} {p : Nat → α → Prop} : ∀ (n : Nat), (∀ i, i < n → ∃ x, p i x) → ∃ xs : List α, xs.length = n ∧ ∀ i (h : i < xs.length), p i xs[i]
  | 0, _ => ⟨[], rfl, fun i h => by simp at h⟩
  | n + 1, h => by
    obtain ⟨xs, hl, hp⟩ := list_of n (fun i hi => h i (by omega))
    obtain ⟨x, hx⟩ := h n (by omega)
    refine ⟨xs ++ [x], by simp [hl], fun i hi => ?_⟩
    by_cases hin : i < xs.length
    · rw [List.getElem_append_left hin]; exact hp i hin
    · have : i = n := by simp at hi; omega
      subst this
      rw [List.getElem_append_right (by omega)]
      simpa [hl] using hx

/-- A slice that came in, as a list: 'enc x' are an element's cells. -/
def RowOf {α : Type} (enc : α → List Value) (size : Nat) (w : World) (a : Option Addr) (xs : List α) : Prop :=
  ∀ i (h : i < xs.length), ∃ x, a = some x ∧ ∀ j v, (enc xs[i])[j]? = some v → w.cell? (x.add (i * size + j)) = some v
theorem RowOf.below {α : Type} {enc : α → List Value} {size : Nat} {w w' : World} {a : Option Addr} {xs : List α} {B : Nat} (h : RowOf enc size w a xs) (hb : Below B w w') (hB : w.heap.size ≤ B) : RowOf enc size w' a xs := by
  intro i hi
  obtain ⟨x, ha, hc⟩ := h i hi
  refine ⟨x, ha, fun j v hj => ?_⟩
  have h1 := hc j v hj
  have h2 := cell_lt h1
  rw [hb.cell (by omega)]; exact h1
theorem RowOf.quiet {α : Type} {enc : α → List Value} {size : Nat} {w w' : World} {a : Option Addr} {xs : List α} (h : RowOf enc size w a xs) (hb : Below w.heap.size w w') : RowOf enc size w' a xs := h.below hb (Nat.le_refl _)
theorem RowOf.block_lt {α : Type} {enc : α → List Value} {size : Nat} {w : World} {a : Addr} {xs : List α} (h : RowOf enc size w (some a) xs) (hi : 0 < xs.length) (he : (enc xs[0])[0]?.isSome) : a.block < w.heap.size := by
  obtain ⟨x, ha, hc⟩ := h 0 hi
  cases ha
  obtain ⟨v, hv⟩ := Option.isSome_iff_exists.1 he
  have := cell_lt (hc 0 v hv)
  simpa using this

theorem rows_of {α : Type} {w : World} {e : List Base} {v : Value} (enc : α → List Value) (ok : α → Prop) (h : (Leaf.row e).holds w v) (hr : ∀ cs, AllB e cs → ∃ x, cs = enc x ∧ ok x) :
    ∃ (a : Option Addr) (cap : Nat) (xs : List α), v = .slice a xs.length cap ∧ RowOf enc e.length w a xs ∧ (∀ x ∈ xs, ok x) ∧ xs.length ≤ cap ∧ cap ≤ maxLen ∧ (a = none → cap = 0) := by
  rcases h with rfl | ⟨a, len, cap, rfl, hl, hm, hc⟩
  · exact ⟨none, 0, [], rfl, (fun i hi => by simp at hi), (fun x hx => by simp at hx), Nat.le_refl _, Nat.zero_le _, fun _ => rfl⟩
  · obtain ⟨xs, hxl, hxs⟩ := list_of (p := fun i x => ok x ∧ ∀ j v, (enc x)[j]? = some v → w.cell? (a.add (i * e.length + j)) = some v) len (fun i hi => by
      obtain ⟨cs, hcs, hcell⟩ := hc i hi
      obtain ⟨x, rfl, hx⟩ := hr cs hcs
      exact ⟨x, hx, hcell⟩)
    refine ⟨some a, cap, xs, by rw [hxl], fun i hi => ⟨a, rfl, (hxs i hi).2⟩, fun x hx => ?_, by omega, hm, fun h => by cases h⟩
    obtain ⟨i, hi, rfl⟩ := List.getElem_of_mem hx
    exact (hxs i hi).1

/-- A number's cells. -/
def encI (k : IntKind) (n : Int) : List Value := [.int k n]
def wfI (k : IntKind) (n : Int) : Prop := (Lit.int k n).wf = true
theorem ints_of {w : World} {k : IntKind} {v : Value} (h : (Leaf.row [.int k]).holds w v) : ∃ (a : Option Addr) (cap : Nat) (xs : List Int), v = .slice a xs.length cap ∧ RowOf (encI k) 1 w a xs ∧ (∀ x ∈ xs, wfI k x) ∧ xs.length ≤ cap ∧ cap ≤ maxLen ∧ (a = none → cap = 0) :=
  rows_of (encI k) (wfI k) h (fun cs hcs => by
    match cs, hcs with
    | [v], ⟨⟨n, hn, hw⟩, _⟩ => exact ⟨n, by rw [hn]; rfl, hw⟩)
theorem RowOf.int_at {k : IntKind} {w : World} {a : Option Addr} {xs : List Int} (h : RowOf (encI k) 1 w a xs) {i : Nat} (hi : i < xs.length) : ∃ x, a = some x ∧ w.cell? (x.add i) = some (.int k xs[i]) := by
  obtain ⟨x, ha, hc⟩ := h i hi
  exact ⟨x, ha, by have := hc 0 _ rfl; simpa using this⟩
def encB (b : Bool) : List Value := [.bool b]
theorem bools_of {w : World} {v : Value} (h : (Leaf.row [.bool]).holds w v) : ∃ (a : Option Addr) (cap : Nat) (xs : List Bool), v = .slice a xs.length cap ∧ RowOf encB 1 w a xs ∧ xs.length ≤ cap ∧ cap ≤ maxLen ∧ (a = none → cap = 0) := by
  obtain ⟨a, cap, xs, h1, h2, _, h3⟩ := rows_of encB (fun _ => True) h (fun cs hcs => by
    match cs, hcs with
    | [v], ⟨⟨n, hn⟩, _⟩ => exact ⟨n, by rw [hn]; rfl, trivial⟩)
  exact ⟨a, cap, xs, h1, h2, h3⟩
theorem RowOf.bool_at {w : World} {a : Option Addr} {xs : List Bool} (h : RowOf encB 1 w a xs) {i : Nat} (hi : i < xs.length) : ∃ x, a = some x ∧ w.cell? (x.add i) = some (.bool xs[i]) := by
  obtain ⟨x, ha, hc⟩ := h i hi
  exact ⟨x, ha, by have := hc 0 _ rfl; simpa using this⟩
end Go.Proofs.Ytokpgbocomhpiaa.Read
