/- Small laws on worlds: a block known whole, what a call keeps. No condition. -/
import Derived.WalkKit
import Derived.Deep.Draws
import Derived.Deep.QuietTactic
import Derived.BigQuiet
import Derived.WideLaws
import Derived.WalkLawsBesides
set_option linter.unusedVariables false
set_option linter.unusedSimpArgs false
namespace Go.Proofs.Ytokpgbocomhpiaa.TK
open Go.RowKit

theorem hid {p : Prop} (h : p) : Hid p := h
/-- Block g holds the cells cs of type T. -/
def Blk (w : World) (g : Nat) (cs : List Value) (T : TypeId) : Prop := w.heap[g]? = some (.cells cs.toArray T (0, 0))

/-- What a call keeps: all but the blocks of S, and what is new since. -/
structure Kept (S : List Nat) (w w' : World) : Prop where
  os : w'.os = w.os
  tape : w'.tape = w.tape
  output : w'.output = w.output
  size : w.heap.size ≤ w'.heap.size
  block : ∀ k, k < w.heap.size → k ∉ S → w'.heap[k]? = w.heap[k]?

section
variable {w w' w1 w2 : World} {g x : Nat} {cs : List Value} {T : TypeId} {S S' : List Nat} {B : Nat}
theorem Blk.cell (h : Blk w g cs T) (i : Nat) : w.cell? ⟨g, i, none⟩ = cs[i]? := by
  unfold Blk at h
  simp [World.cell?, h]
theorem Blk.frozen (h : Blk w g cs T) (i : Nat) : w.frozen? ⟨g, i, none⟩ = false := by
  unfold Blk at h
  simp [World.frozen?, h]
theorem Blk.lt (h : Blk w g cs T) : g < w.heap.size := lt_of_block h
theorem Blk.set (h : Blk w g cs T) (i : Nat) (v : Value) : Blk (w.setCell ⟨g, i, none⟩ v) g (cs.set i v) T := by
  have hlt := h.lt
  unfold Blk at *
  have h' : w.heap[g] = .cells cs.toArray T (0, 0) := by simpa [Array.getElem?_eq_getElem hlt] using h
  show (w.heap.modify g _)[g]? = _
  rw [Array.getElem?_eq_getElem (by simpa using hlt), Array.getElem_modify_self, h']
  simp
theorem Blk.far (h : Blk w g cs T) {p : Addr} (hne : g ≠ p.block) (v : Value) : Blk (w.setCell p v) g cs T := (Below.heap_setCell w p v g hne).trans h
theorem Blk.alloc (h : Blk w g cs T) (o : Obj) : Blk (w.alloc o) g cs T := (Below.heap_alloc w o g h.lt).trans h
theorem Blk.drew (h : Blk w g cs T) : Blk w.drew g cs T := h
theorem Blk.drewN (h : Blk w g cs T) (n : Nat) : Blk (w.drewN n) g cs T := h
theorem Blk.below (h : Blk w g cs T) (hb : Below B w w') (hB : g < B) : Blk w' g cs T := (hb.block g hB).trans h
theorem Blk.quiet (h : Blk w g cs T) (hb : Below w.heap.size w w') : Blk w' g cs T := h.below hb h.lt
theorem Blk.kept (h : Blk w g cs T) (hk : Kept S w w') (hne : g ∉ S) : Blk w' g cs T := (hk.block g h.lt hne).trans h
theorem Blk.new (w : World) (cs : List Value) (T : TypeId) : Blk (w.alloc (.cells cs.toArray T)) w.heap.size cs T := heap_alloc_new w _
theorem Blk.new_at {w : World} {g : Nat} (cs : List Value) (T : TypeId) (h : g = w.heap.size) : Blk (w.alloc (.cells cs.toArray T)) g cs T := by subst h; exact Blk.new w cs T
theorem Blk.ne {g' : Nat} {cs' : List Value} {T' : TypeId} (h : Blk w g cs T) (h' : Blk w g' cs' T') (hT : T ≠ T') : g ≠ g' := by
  rintro rfl
  unfold Blk at h h'
  rw [h] at h'
  injection h' with h'
  injection h' with _ h2
  exact hT h2
theorem Blk.ne_new (h : Blk w g cs T) {k : Nat} (hk : w.heap.size ≤ k) : g ≠ k := by have := h.lt; omega

theorem Kept.refl (S : List Nat) (w : World) : Kept S w w := ⟨rfl, rfl, rfl, Nat.le_refl _, fun _ _ _ => rfl⟩
theorem Kept.of_below (h : Below w.heap.size w w') (S : List Nat) : Kept S w w' := ⟨h.os, h.tape, h.output, h.size, fun k hk _ => h.block k hk⟩
theorem Kept.trans (h : Kept S w w1) (k : Kept S' w1 w2) (hs : ∀ i ∈ S', i ∈ S ∨ w.heap.size ≤ i) : Kept S w w2 :=
  ⟨k.os.trans h.os, k.tape.trans h.tape, k.output.trans h.output, Nat.le_trans h.size k.size, fun i hi hn =>
    (k.block i (Nat.lt_of_lt_of_le hi h.size) (fun h2 => (hs i h2).elim hn (fun h3 => by omega))).trans (h.block i hi hn)⟩
theorem Kept.mono (h : Kept S w w') (hs : ∀ i ∈ S, i ∈ S' ∨ w.heap.size ≤ i) : Kept S' w w' := (Kept.refl S' w).trans h hs
theorem Kept.set (h : Kept S w w') {p : Addr} (hp : p.block ∈ S ∨ w.heap.size ≤ p.block) (v : Value) : Kept S w (w'.setCell p v) :=
  h.trans (S' := [p.block]) ⟨rfl, rfl, rfl, by simp [World.setCell], fun k _ hn => Below.heap_setCell _ _ _ _ (by simpa using hn)⟩ (by simpa using hp)
theorem Kept.alloc (h : Kept S w w') (o : Obj) : Kept S w (w'.alloc o) :=
  h.trans (S' := []) ⟨rfl, rfl, rfl, by simp, fun k hk _ => Below.heap_alloc _ _ _ hk⟩ (by simp)
theorem Kept.drew (h : Kept S w w') : Kept S w w'.drew := ⟨h.os, h.tape, h.output, h.size, h.block⟩
theorem Kept.drewN (h : Kept S w w') (n : Nat) : Kept S w (w'.drewN n) := ⟨h.os, h.tape, h.output, h.size, h.block⟩
theorem Kept.quiet (h : Kept S w w1) (hb : Below w1.heap.size w1 w2) : Kept S w w2 := h.trans (S' := []) (Kept.of_below hb []) (by simp)
theorem Kept.below (h : Kept S w w') (hs : ∀ i ∈ S, B ≤ i) (hB : B ≤ w.heap.size) : Below B w w' :=
  ⟨h.os, h.tape, h.output, h.size, fun k hk => h.block k (by omega) (fun hm => by have := hs k hm; omega)⟩
theorem Kept.cell (h : Kept S w w') {a : Addr} {v : Value} (hc : w.cell? a = some v) (hne : a.block ∉ S) : w'.cell? a = some v := by
  have := h.block a.block (World.block_lt_of_cell? w a hc) hne
  simpa [World.cell?, this] using hc
/-- Below the world of the call's begin: one quiet step more. -/
theorem Below.then_ {W : World} (h : Below W.heap.size W w) (hb : Below w.heap.size w w') : Below W.heap.size W w' := h.trans (hb.mono h.size)
theorem below_step {W : World} (h : Below B W w) (hb : Below w.heap.size w w') (hB : B ≤ w.heap.size) : Below B W w' := h.trans (hb.mono hB)
theorem below_kept {W : World} (h : Below B W w) (hk : Kept S w w') (hs : ∀ i ∈ S, B ≤ i) (hB : B ≤ w.heap.size) : Below B W w' := h.trans (hk.below hs hB)
end
theorem ret_int {k : IntKind} {a b : Int} (h : a = b) : Ending.returned (.int k a) = .returned (.int k b) := by rw [h]
theorem ret_bool {a b : Bool} (h : a = b) : Ending.returned (.bool a) = .returned (.bool b) := by rw [h]
@[simp] theorem add_block (x : Addr) (k : Nat) : (x.add k).block = x.block := by unfold Addr.add; split <;> rfl
theorem cell_set {w : World} {p a : Addr} {v u : Value} (h : w.cell? a = some v) (hne : a.block ≠ p.block) : (w.setCell p u).cell? a = some v := by
  have := Below.heap_setCell w p u a.block hne
  simpa [World.cell?, this] using h
theorem cell_lt {w : World} {a : Addr} {v : Value} (h : w.cell? a = some v) : a.block < w.heap.size := World.block_lt_of_cell? w a h
/-- What the walk is told of a slice of integers that came in. -/
def IsRow (k : IntKind) (w : World) (a : Option Addr) (len cap : Nat) (zs : List Int) : Prop :=
  (a = none ∧ len = 0 ∧ cap = 0 ∧ zs = []) ∨
  ∃ x, a = some x ∧ len ≤ cap ∧ cap ≤ maxLen ∧ zs.length = cap ∧ (∀ i, i < zs.length → w.cell? (x.add i) = some (.int k (zs.getD i 0))) ∧ ∀ n ∈ zs, (Lit.int k n).wf = true
theorem IsRow.at_ {k : IntKind} {w : World} {a : Option Addr} {len cap : Nat} {zs : List Int} (h : IsRow k w a len cap zs) {i : Nat} (hi : i < len) :
    ∃ x, a = some x ∧ w.cell? (x.add i) = some (.int k (zs.getD i 0)) ∧ (Lit.int k (zs.getD i 0)).wf = true := by
  rcases h with ⟨_, h, _⟩ | ⟨x, ha, hl, _, hz, hc, hw⟩
  · omega
  · refine ⟨x, ha, hc i (by omega), hw _ ?_⟩
    rw [List.getD_eq_getElem?_getD, List.getElem?_eq_getElem (by omega)]
    exact List.getElem_mem _
theorem IsRow.le {k : IntKind} {w : World} {a : Option Addr} {len cap : Nat} {zs : List Int} (h : IsRow k w a len cap zs) : len ≤ zs.length := by
  rcases h with ⟨_, h, _⟩ | ⟨x, ha, hl, _, hz, hc, hw⟩ <;> omega
theorem wf_i64 {n : Int} (h : (Lit.int .i64 n).wf = true) : -9223372036854775808 ≤ n ∧ n ≤ 9223372036854775807 := by
  simp [Lit.wf, IntKind.min, IntKind.max, IntKind.signed, IntKind.bits] at h
  omega
theorem wf_u64 {n : Int} (h : (Lit.int .u64 n).wf = true) : 0 ≤ n ∧ n < 18446744073709551616 := by
  simp [Lit.wf, IntKind.min, IntKind.max, IntKind.signed, IntKind.bits] at h
  omega
theorem ret_dec {p q : Prop} [Decidable p] [Decidable q] (h : p ↔ q) : Ending.returned (.bool (decide p)) = .returned (.bool (decide q)) := by rw [decide_eq_decide.2 h]
theorem ret_yes {q : Prop} [Decidable q] (h : q) : Ending.returned (.bool true) = .returned (.bool (decide q)) := by rw [decide_eq_true h]
theorem ret_no {q : Prop} [Decidable q] (h : ¬ q) : Ending.returned (.bool false) = .returned (.bool (decide q)) := by rw [decide_eq_false h]
theorem below_one (w : World) (o : Obj) : Below w.heap.size w (w.alloc o) := (Below.refl _ _).alloc (Nat.le_refl _) _
theorem below_cells {B : Nat} {w w1 : World} (hb : Below B w w1) : (∀ b o, b < B → w1.cell? ⟨b, o, none⟩ = w.cell? ⟨b, o, none⟩) ∧ (∀ b o, b < B → w1.frozen? ⟨b, o, none⟩ = w.frozen? ⟨b, o, none⟩) ∧ w.heap.size ≤ w1.heap.size :=
  ⟨fun b o h => hb.cell (p := ⟨b, o, none⟩) h, fun b o h => hb.frozen (p := ⟨b, o, none⟩) h, hb.size⟩
/-- What is known of a world: nothing of what was there when the call began has turned; these blocks are the call's own. -/
structure Inv (W : World) (L : List (Nat × List Value × TypeId)) (w : World) : Prop where
  low : Below W.heap.size W w
  blks : ∀ x ∈ L, Blk w x.1 x.2.1 x.2.2
theorem Inv.quiet {W w w' : World} {L : List (Nat × List Value × TypeId)} (h : Inv W L w) (hb : Below w.heap.size w w') : Inv W L w' := ⟨Below.then_ h.low hb, fun x hx => (h.blks x hx).quiet hb⟩
theorem Inv.drew {W w : World} {L : List (Nat × List Value × TypeId)} (h : Inv W L w) : Inv W L w.drew := ⟨h.low.drew, fun x hx => h.blks x hx⟩
theorem Inv.drewN {W w : World} {L : List (Nat × List Value × TypeId)} (h : Inv W L w) (n : Nat) : Inv W L (w.drewN n) := h.quiet (below_drewN (Below.refl _ _) n)
theorem Inv.at_ {W w : World} {L : List (Nat × List Value × TypeId)} (h : Inv W L w) (i : Nat) {g : Nat} {cs : List Value} {T : TypeId} (hi : L[i]? = some (g, cs, T)) : Blk w g cs T := h.blks _ (List.mem_of_getElem? hi)
theorem Inv.cell {W w : World} {L : List (Nat × List Value × TypeId)} (h : Inv W L w) (i j : Nat) {g : Nat} {cs : List Value} {T : TypeId} {v : Value} (hi : L[i]? = some (g, cs, T)) (hj : cs[j]? = some v) : w.cell? ⟨g, j, none⟩ = some v := ((h.at_ i hi).cell j).trans hj
theorem Inv.nil (W : World) : Inv W [] W := ⟨Below.refl _ _, fun x hx => by cases hx⟩
theorem Inv.add {W w : World} {L : List (Nat × List Value × TypeId)} (h : Inv W L w) {g : Nat} {cs : List Value} {T : TypeId} (hb : Blk w g cs T) : Inv W (L ++ [(g, cs, T)]) w :=
  ⟨h.low, fun x hx => by
    rcases List.mem_append.1 hx with hx | hx
    · exact h.blks x hx
    · obtain rfl := List.mem_singleton.1 hx; exact hb⟩
theorem Inv.new {W w : World} {L : List (Nat × List Value × TypeId)} (h : Inv W L w) (cs : List Value) (T : TypeId) : Inv W (L ++ [(w.heap.size, cs, T)]) (w.alloc (.cells cs.toArray T)) :=
  (h.quiet (below_one _ _)).add (Blk.new _ _ _)
theorem Inv.new_at {W w : World} {L : List (Nat × List Value × TypeId)} (h : Inv W L w) {g : Nat} (cs : List Value) (T : TypeId) (hg : g = w.heap.size) : Inv W (L ++ [(g, cs, T)]) (w.alloc (.cells cs.toArray T)) := by subst hg; exact h.new cs T
theorem wrap_id {x : Int} (h : -9223372036854775808 ≤ x ∧ x ≤ 9223372036854775807) : IntKind.i64.wrap x = x := by rw [IntKind.wrap_i64]; omega
/-- A callee that leaves the world alone, inside a quiet region. -/
theorem quiet_same {P : Program} {f : FuncId} {args : Array Value} {w : World} {n : Nat} {v : Value}
    (h : Calls P f args (w.drewN n) fun e w' => e = .returned v ∧ w.drewN n = w') : Calls P f args (w.drewN n) fun e w'' => e = .returned v ∧ ∃ m, w'' = w.drewN m :=
  h.mono fun _ _ ⟨he, hm⟩ => ⟨he, n, hm.symm⟩
end Go.Proofs.Ytokpgbocomhpiaa.TK
