/- Texts of mine, laid into one: Kit, Flag, FlagB, Read, Grow, Words, Layout, LayoutB. -/
import Derived.WalkKit
import Derived.Deep.Draws
import Derived.Deep.QuietTactic
import Derived.BigQuiet
import Derived.WideLaws
import Derived.WalkLawsBesides
import Derived.Still
import Derived.Tactics2
import Derived.Deep.Slices
import Derived.OpenShut
import Derived.WideShapes
import Derived.OwnWalk
import Derived.Test.YthonhbciileomaaProg
import Derived.Lib.SliceRun
section
/- Small laws on worlds: a block known whole, what a call keeps. No condition. -/
set_option linter.unusedVariables false
set_option linter.unusedSimpArgs false
namespace Go.Proofs.Ythonhbciileomaa.TK
open Go.RowKit

theorem hid {p : Prop} (h : p) : Hid p := h
/-- Block g holds the cells cs of type T. -/
def Blk (w : World) (g : Nat) (cs : List Value) (T : TypeId) : Prop := w.heap[g]? = some (.cells cs.toArray T (0, 0))

/-- What a call keeps: all but the blocks of S, and what is new since. -/
structure Kept (S : List Nat) (w w' : World) : Prop where
  os : w'.os = w.os
  tape : w'.tape = w.tape
  output : w'.output = w.output
  size : w.heap.size ≤ w'.heap.size
  block : ∀ k, k < w.heap.size → k ∉ S → w'.heap[k]? = w.heap[k]?

section
variable {w w' w1 w2 : World} {g x : Nat} {cs : List Value} {T : TypeId} {S S' : List Nat} {B : Nat}
theorem Blk.cell (h : Blk w g cs T) (i : Nat) : w.cell? ⟨g, i, none⟩ = cs[i]? := by
  unfold Blk at h
  simp [World.cell?, h]
theorem Blk.frozen (h : Blk w g cs T) (i : Nat) : w.frozen? ⟨g, i, none⟩ = false := by
  unfold Blk at h
  simp [World.frozen?, h]
theorem Blk.lt (h : Blk w g cs T) : g < w.heap.size := lt_of_block h
theorem Blk.set (h : Blk w g cs T) (i : Nat) (v : Value) : Blk (w.setCell ⟨g, i, none⟩ v) g (cs.set i v) T := by
  have hlt := h.lt
  unfold Blk at *
  have h' : w.heap[g] = .cells cs.toArray T (0, 0) := by simpa [Array.getElem?_eq_getElem hlt] using h
  show (w.heap.modify g _)[g]? = _
  rw [Array.getElem?_eq_getElem (by simpa using hlt), Array.getElem_modify_self, h']
  simp
theorem Blk.far (h : Blk w g cs T) {p : Addr} (hne : g ≠ p.block) (v : Value) : Blk (w.setCell p v) g cs T := (Below.heap_setCell w p v g hne).trans h
theorem Blk.alloc (h : Blk w g cs T) (o : Obj) : Blk (w.alloc o) g cs T := (Below.heap_alloc w o g h.lt).trans h
theorem Blk.drew (h : Blk w g cs T) : Blk w.drew g cs T := h
theorem Blk.drewN (h : Blk w g cs T) (n : Nat) : Blk (w.drewN n) g cs T := h
theorem Blk.below (h : Blk w g cs T) (hb : Below B w w') (hB : g < B) : Blk w' g cs T := (hb.block g hB).trans h
theorem Blk.quiet (h : Blk w g cs T) (hb : Below w.heap.size w w') : Blk w' g cs T := h.below hb h.lt
theorem Blk.kept (h : Blk w g cs T) (hk : Kept S w w') (hne : g ∉ S) : Blk w' g cs T := (hk.block g h.lt hne).trans h
theorem Blk.new (w : World) (cs : List Value) (T : TypeId) : Blk (w.alloc (.cells cs.toArray T)) w.heap.size cs T := heap_alloc_new w _
theorem Blk.new_at {w : World} {g : Nat} (cs : List Value) (T : TypeId) (h : g = w.heap.size) : Blk (w.alloc (.cells cs.toArray T)) g cs T := by subst h; exact Blk.new w cs T
theorem Blk.ne {g' : Nat} {cs' : List Value} {T' : TypeId} (h : Blk w g cs T) (h' : Blk w g' cs' T') (hT : T ≠ T') : g ≠ g' := by
  rintro rfl
  unfold Blk at h h'
  rw [h] at h'
  injection h' with h'
  injection h' with _ h2
  exact hT h2
theorem Blk.ne_new (h : Blk w g cs T) {k : Nat} (hk : w.heap.size ≤ k) : g ≠ k := by have := h.lt; omega

theorem Kept.refl (S : List Nat) (w : World) : Kept S w w := ⟨rfl, rfl, rfl, Nat.le_refl _, fun _ _ _ => rfl⟩
theorem Kept.of_below (h : Below w.heap.size w w') (S : List Nat) : Kept S w w' := ⟨h.os, h.tape, h.output, h.size, fun k hk _ => h.block k hk⟩
theorem Kept.trans (h : Kept S w w1) (k : Kept S' w1 w2) (hs : ∀ i ∈ S', i ∈ S ∨ w.heap.size ≤ i) : Kept S w w2 :=
  ⟨k.os.trans h.os, k.tape.trans h.tape, k.output.trans h.output, Nat.le_trans h.size k.size, fun i hi hn =>
    (k.block i (Nat.lt_of_lt_of_le hi h.size) (fun h2 => (hs i h2).elim hn (fun h3 => by omega))).trans (h.block i hi hn)⟩
theorem Kept.mono (h : Kept S w w') (hs : ∀ i ∈ S, i ∈ S' ∨ w.heap.size ≤ i) : Kept S' w w' := (Kept.refl S' w).trans h hs
theorem Kept.set (h : Kept S w w') {p : Addr} (hp : p.block ∈ S ∨ w.heap.size ≤ p.block) (v : Value) : Kept S w (w'.setCell p v) :=
  h.trans (S' := [p.block]) ⟨rfl, rfl, rfl, by simp [World.setCell], fun k _ hn => Below.heap_setCell _ _ _ _ (by simpa using hn)⟩ (by simpa using hp)
theorem Kept.alloc (h : Kept S w w') (o : Obj) : Kept S w (w'.alloc o) :=
  h.trans (S' := []) ⟨rfl, rfl, rfl, by simp, fun k hk _ => Below.heap_alloc _ _ _ hk⟩ (by simp)
theorem Kept.drew (h : Kept S w w') : Kept S w w'.drew := ⟨h.os, h.tape, h.output, h.size, h.block⟩
theorem Kept.drewN (h : Kept S w w') (n : Nat) : Kept S w (w'.drewN n) := ⟨h.os, h.tape, h.output, h.size, h.block⟩
theorem Kept.quiet (h : Kept S w w1) (hb : Below w1.heap.size w1 w2) : Kept S w w2 := h.trans (S' := []) (Kept.of_below hb []) (by simp)
theorem Kept.below (h : Kept S w w') (hs : ∀ i ∈ S, B ≤ i) (hB : B ≤ w.heap.size) : Below B w w' :=
  ⟨h.os, h.tape, h.output, h.size, fun k hk => h.block k (by omega) (fun hm => by have := hs k hm; omega)⟩
theorem Kept.cell (h : Kept S w w') {a : Addr} {v : Value} (hc : w.cell? a = some v) (hne : a.block ∉ S) : w'.cell? a = some v := by
  have := h.block a.block (World.block_lt_of_cell? w a hc) hne
  simpa [World.cell?, this] using hc
/-- Below the world of the call's begin: one quiet step more. -/
theorem Below.then_ {W : World} (h : Below W.heap.size W w) (hb : Below w.heap.size w w') : Below W.heap.size W w' := h.trans (hb.mono h.size)
theorem below_step {W : World} (h : Below B W w) (hb : Below w.heap.size w w') (hB : B ≤ w.heap.size) : Below B W w' := h.trans (hb.mono hB)
theorem below_kept {W : World} (h : Below B W w) (hk : Kept S w w') (hs : ∀ i ∈ S, B ≤ i) (hB : B ≤ w.heap.size) : Below B W w' := h.trans (hk.below hs hB)
end
theorem ret_int {k : IntKind} {a b : Int} (h : a = b) : Ending.returned (.int k a) = .returned (.int k b) := by rw [h]
theorem ret_bool {a b : Bool} (h : a = b) : Ending.returned (.bool a) = .returned (.bool b) := by rw [h]
@[simp] theorem add_block (x : Addr) (k : Nat) : (x.add k).block = x.block := by unfold Addr.add; split <;> rfl
theorem cell_set {w : World} {p a : Addr} {v u : Value} (h : w.cell? a = some v) (hne : a.block ≠ p.block) : (w.setCell p u).cell? a = some v := by
  have := Below.heap_setCell w p u a.block hne
  simpa [World.cell?, this] using h
theorem cell_lt {w : World} {a : Addr} {v : Value} (h : w.cell? a = some v) : a.block < w.heap.size := World.block_lt_of_cell? w a h
/-- What the walk is told of a slice of integers that came in. -/
def IsRow (k : IntKind) (w : World) (a : Option Addr) (len cap : Nat) (zs : List Int) : Prop :=
  (a = none ∧ len = 0 ∧ cap = 0 ∧ zs = []) ∨
  ∃ x, a = some x ∧ len ≤ cap ∧ cap ≤ maxLen ∧ zs.length = cap ∧ (∀ i, i < zs.length → w.cell? (x.add i) = some (.int k (zs.getD i 0))) ∧ ∀ n ∈ zs, (Lit.int k n).wf = true
theorem IsRow.at_ {k : IntKind} {w : World} {a : Option Addr} {len cap : Nat} {zs : List Int} (h : IsRow k w a len cap zs) {i : Nat} (hi : i < len) :
    ∃ x, a = some x ∧ w.cell? (x.add i) = some (.int k (zs.getD i 0)) ∧ (Lit.int k (zs.getD i 0)).wf = true := by
  rcases h with ⟨_, h, _⟩ | ⟨x, ha, hl, _, hz, hc, hw⟩
  · omega
  · refine ⟨x, ha, hc i (by omega), hw _ ?_⟩
    rw [List.getD_eq_getElem?_getD, List.getElem?_eq_getElem (by omega)]
    exact List.getElem_mem _
theorem IsRow.le {k : IntKind} {w : World} {a : Option Addr} {len cap : Nat} {zs : List Int} (h : IsRow k w a len cap zs) : len ≤ zs.length := by
  rcases h with ⟨_, h, _⟩ | ⟨x, ha, hl, _, hz, hc, hw⟩ <;> omega
theorem wf_i64 {n : Int} (h : (Lit.int .i64 n).wf = true) : -9223372036854775808 ≤ n ∧ n ≤ 9223372036854775807 := by
  simp [Lit.wf, IntKind.min, IntKind.max, IntKind.signed, IntKind.bits] at h
  omega
theorem wf_u64 {n : Int} (h : (Lit.int .u64 n).wf = true) : 0 ≤ n ∧ n < 18446744073709551616 := by
  simp [Lit.wf, IntKind.min, IntKind.max, IntKind.signed, IntKind.bits] at h
  omega
theorem ret_dec {p q : Prop} [Decidable p] [Decidable q] (h : p ↔ q) : Ending.returned (.bool (decide p)) = .returned (.bool (decide q)) := by rw [decide_eq_decide.2 h]
theorem ret_yes {q : Prop} [Decidable q] (h : q) : Ending.returned (.bool true) = .returned (.bool (decide q)) := by rw [decide_eq_true h]
theorem ret_no {q : Prop} [Decidable q] (h : ¬ q) : Ending.returned (.bool false) = .returned (.bool (decide q)) := by rw [decide_eq_false h]
theorem below_one (w : World) (o : Obj) : Below w.heap.size w (w.alloc o) := (Below.refl _ _).alloc (Nat.le_refl _) _
theorem below_cells {B : Nat} {w w1 : World} (hb : Below B w w1) : (∀ b o, b < B → w1.cell? ⟨b, o, none⟩ = w.cell? ⟨b, o, none⟩) ∧ (∀ b o, b < B → w1.frozen? ⟨b, o, none⟩ = w.frozen? ⟨b, o, none⟩) ∧ w.heap.size ≤ w1.heap.size :=
  ⟨fun b o h => hb.cell (p := ⟨b, o, none⟩) h, fun b o h => hb.frozen (p := ⟨b, o, none⟩) h, hb.size⟩
/-- What is known of a world: nothing of what was there when the call began has turned; these blocks are the call's own. -/
structure Inv (W : World) (L : List (Nat × List Value × TypeId)) (w : World) : Prop where
  low : Below W.heap.size W w
  blks : ∀ x ∈ L, Blk w x.1 x.2.1 x.2.2
theorem Inv.quiet {W w w' : World} {L : List (Nat × List Value × TypeId)} (h : Inv W L w) (hb : Below w.heap.size w w') : Inv W L w' := ⟨Below.then_ h.low hb, fun x hx => (h.blks x hx).quiet hb⟩
theorem Inv.drew {W w : World} {L : List (Nat × List Value × TypeId)} (h : Inv W L w) : Inv W L w.drew := ⟨h.low.drew, fun x hx => h.blks x hx⟩
theorem Inv.drewN {W w : World} {L : List (Nat × List Value × TypeId)} (h : Inv W L w) (n : Nat) : Inv W L (w.drewN n) := h.quiet (below_drewN (Below.refl _ _) n)
theorem Inv.at_ {W w : World} {L : List (Nat × List Value × TypeId)} (h : Inv W L w) (i : Nat) {g : Nat} {cs : List Value} {T : TypeId} (hi : L[i]? = some (g, cs, T)) : Blk w g cs T := h.blks _ (List.mem_of_getElem? hi)
theorem Inv.cell {W w : World} {L : List (Nat × List Value × TypeId)} (h : Inv W L w) (i j : Nat) {g : Nat} {cs : List Value} {T : TypeId} {v : Value} (hi : L[i]? = some (g, cs, T)) (hj : cs[j]? = some v) : w.cell? ⟨g, j, none⟩ = some v := ((h.at_ i hi).cell j).trans hj
theorem Inv.nil (W : World) : Inv W [] W := ⟨Below.refl _ _, fun x hx => by cases hx⟩
theorem Inv.add {W w : World} {L : List (Nat × List Value × TypeId)} (h : Inv W L w) {g : Nat} {cs : List Value} {T : TypeId} (hb : Blk w g cs T) : Inv W (L ++ [(g, cs, T)]) w :=
  ⟨h.low, fun x hx => by
    rcases List.mem_append.1 hx with hx | hx
    · exact h.blks x hx
    · obtain rfl := List.mem_singleton.1 hx; exact hb⟩
theorem Inv.new {W w : World} {L : List (Nat × List Value × TypeId)} (h : Inv W L w) (cs : List Value) (T : TypeId) : Inv W (L ++ [(w.heap.size, cs, T)]) (w.alloc (.cells cs.toArray T)) :=
  (h.quiet (below_one _ _)).add (Blk.new _ _ _)
theorem Inv.new_at {W w : World} {L : List (Nat × List Value × TypeId)} (h : Inv W L w) {g : Nat} (cs : List Value) (T : TypeId) (hg : g = w.heap.size) : Inv W (L ++ [(g, cs, T)]) (w.alloc (.cells cs.toArray T)) := by subst hg; exact h.new cs T
theorem wrap_id {x : Int} (h : -9223372036854775808 ≤ x ∧ x ≤ 9223372036854775807) : IntKind.i64.wrap x = x := by rw [IntKind.wrap_i64]; omega
/-- A callee that leaves the world alone, inside a quiet region. -/
theorem quiet_same {P : Program} {f : FuncId} {args : Array Value} {w : World} {n : Nat} {v : Value}
    (h : Calls P f args (w.drewN n) fun e w' => e = .returned v ∧ w.drewN n = w') : Calls P f args (w.drewN n) fun e w'' => e = .returned v ∧ ∃ m, w'' = w.drewN m :=
  h.mono fun _ _ ⟨he, hm⟩ => ⟨he, n, hm.symm⟩
end Go.Proofs.Ythonhbciileomaa.TK
end

section
/- A region whose order is open, walked once in the order of the text, with a class of worlds for each set of operations that have come up: whatever order the tape picks, the frame at the end is the lexical walk's and the world is of the last class. Conditions: each operation yields one value in every world of every class in which it may come up; what it looks at is written by operations that it waits for. -/
set_option linter.unusedVariables false
set_option linter.unusedSimpArgs false
namespace Go.Proofs.Ythonhbciileomaa.Flag
variable {P : Program} {ops : Array Oper} {md : Region.Mode}

/-- What an operation is asked once it has run: the value v, and a world of the class D behind it. -/
def upon (P : Program) (D : World → Prop) (v : Value) : Result Next → Prop
  | .ok (.value u) w' => D w' ∧ u = v
  | .ok .skip w' => D w' ∧ v = undef
  | .ok (.enter f args) w' => Calls P f args w' (fun e w'' => e = .returned v ∧ D w'')
  | _ => False
def opAt (P : Program) (o : Oper) (a : Act) (D : World → Prop) (w : World) (v : Value) : Prop := upon P D v ((execOp a.eval o).run P w)

/-- Place k is bound by place j, through others, too. -/
inductive Reach (md : Region.Mode) (ops : Array Oper) : Nat → Nat → Prop
  | one {k : Nat} {o : Oper} {e : Edge} (ho : ops[k]? = some o) (he : e ∈ o.after) (hb : Region.binds md e = true) : Reach md ops k e.on
  | more {k j : Nat} {o : Oper} {e : Edge} (ho : ops[k]? = some o) (he : e ∈ o.after) (hb : Region.binds md e = true) (hr : Reach md ops e.on j) : Reach md ops k j

def addTo (s : List Nat) (x : Nat) : List Nat := if s.contains x then s else x :: s
/-- All places that bind an operation, off the lists of those ahead of it. -/
def bindsOf (md : Region.Mode) (acc : List (List Nat)) : List Edge → List Nat → List Nat
  | [], s => s
  | e :: es, s => bindsOf md acc es (if Region.binds md e then (e.on :: acc.getD e.on []).foldl addTo s else s)
def befs (md : Region.Mode) : List Oper → List (List Nat) → List (List Nat)
  | [], acc => acc
  | o :: rest, acc => befs md rest (acc ++ [bindsOf md acc o.after.toList []])
def bef (md : Region.Mode) (ops : Array Oper) : List (List Nat) := befs md ops.toList []

theorem mem_addTo (s : List Nat) (x y : Nat) (h : y ∈ addTo s x) : y = x ∨ y ∈ s := by
  unfold addTo at h
  split at h
  · exact .inr h
  · simpa using h
theorem mem_foldl_addTo : ∀ (l s : List Nat) (y : Nat), y ∈ l.foldl addTo s → y ∈ l ∨ y ∈ s
  | [], _, _, h => .inr h
  | x :: l, s, y, h => by
    rcases mem_foldl_addTo l _ y h with h1 | h1
    · exact .inl (List.mem_cons_of_mem _ h1)
    · rcases mem_addTo _ _ _ h1 with rfl | h2
      · exact .inl List.mem_cons_self
      · exact .inr h2
theorem mem_bindsOf (acc : List (List Nat)) : ∀ (es : List Edge) (s : List Nat) (y : Nat), y ∈ bindsOf md acc es s → y ∈ s ∨ ∃ e ∈ es, Region.binds md e = true ∧ (y = e.on ∨ y ∈ acc.getD e.on [])
  | [], _, _, h => .inl h
  | e :: es, s, y, h => by
    rcases mem_bindsOf acc es _ y h with h1 | ⟨e', he', hb, hy⟩
    · split at h1
      · rename_i hb
        rcases mem_foldl_addTo _ _ _ h1 with h2 | h2
        · exact .inr ⟨e, List.mem_cons_self, hb, by simpa using h2⟩
        · exact .inl h2
      · exact .inl h1
    · exact .inr ⟨e', List.mem_cons_of_mem _ he', hb, hy⟩
theorem befs_sound : ∀ (l : List Oper) (acc : List (List Nat)), (∀ j, l[j]? = ops[acc.length + j]?) → (∀ k j, j ∈ acc.getD k [] → Reach md ops k j) → ∀ k j, j ∈ (befs md l acc).getD k [] → Reach md ops k j
  | [], _, _, h => h
  | o :: l, acc, hl, h => by
    refine befs_sound l _ (fun j => by have := hl (j + 1); simpa [Nat.add_assoc, Nat.add_comm 1 j] using this) (fun k j hj => ?_)
    have ho : ops[acc.length]? = some o := by simpa using (hl 0).symm
    rcases Nat.lt_trichotomy k acc.length with hk | hk | hk
    · refine h k j ?_
      simpa [List.getElem?_append_left hk] using hj
    · subst hk
      have hj' : j ∈ bindsOf md acc o.after.toList [] := by simpa using hj
      rcases mem_bindsOf _ _ _ _ hj' with h0 | ⟨e, he, hb, rfl | hy⟩
      · cases h0
      · exact .one ho (by simpa using he) hb
      · exact .more ho (by simpa using he) hb (h _ _ hy)
    · exfalso
      have : (acc ++ [bindsOf md acc o.after.toList []])[k]? = none := List.getElem?_eq_none (by simp; omega)
      simp [this] at hj
theorem bef_sound (k j : Nat) (h : j ∈ (bef md ops).getD k []) : Reach md ops k j :=
  befs_sound ops.toList [] (by simp) (by simp) k j h

/-- What is known of place j where place k comes up. -/
def known (B : List (List Nat)) (k j : Nat) : Option Bool :=
  if (B.getD k []).contains j then some true else if j == k || (B.getD j []).contains k then some false else none

def expand : List (Option Bool) → List (List Bool)
  | [] => [[]]
  | some b :: l => (expand l).map (b :: ·)
  | none :: l => (expand l).map (false :: ·) ++ (expand l).map (true :: ·)

def poss (md : Region.Mode) (ops : Array Oper) (ix : List Nat) (k : Nat) : List (List Bool) := expand (ix.map (known (bef md ops) k))
def came (ix : List Nat) (k : Nat) (bs : List Bool) : List Bool := List.zipWith (fun j b => b || j == k) ix bs

theorem mem_expand : ∀ (ks : List (Option Bool)) (bs : List Bool), bs.length = ks.length → (∀ (p : Nat) b, ks[p]? = some (some b) → bs[p]? = some b) → bs ∈ expand ks
  | [], [], _, _ => by simp [expand]
  | some b :: ks, c :: bs, hl, h => by
    have h0 := h 0 b rfl
    simp at h0
    subst h0
    simp only [expand, List.mem_map]
    exact ⟨bs, mem_expand ks bs (by simpa using hl) (fun p d hp => by have := h (p + 1) d (by simpa using hp); simpa using this), rfl⟩
  | none :: ks, c :: bs, hl, h => by
    have hm := mem_expand ks bs (by simpa using hl) (fun p d hp => by have := h (p + 1) d (by simpa using hp); simpa using this)
    simp only [expand, List.mem_append, List.mem_map]
    cases c
    · exact .inl ⟨bs, hm, rfl⟩
    · exact .inr ⟨bs, hm, rfl⟩

/-- Where a place has come up, so have all that bind it. -/
def closed (md : Region.Mode) (ops : Array Oper) (L : Array Bool) : Prop :=
  ∀ j o, ops[j]? = some o → L.getD j true = true → ∀ e ∈ o.after, Region.binds md e = true → L.getD e.on true = true

theorem getD_true_of_false {L : Array Bool} {j : Nat} (h : L.getD j false = true) : L.getD j true = true := by
  rcases Nat.lt_or_ge j L.size with h' | h'
  · simpa [h'] using h
  · simp [Array.getElem?_eq_none h']
theorem getD_set_same (L : Array Bool) (i : Nat) : (L.setIfInBounds i true).getD i true = true := by
  rcases Nat.lt_or_ge i L.size with h' | h'
  · simp [h']
  · simp [Array.getElem?_eq_none h']
theorem closed_step {L : Array Bool} {i : Nat} (h : closed md ops L) (hi : i ∈ Region.ready md ops L) : closed md ops (L.setIfInBounds i true) := by
  intro j o hj hL e he hb
  by_cases hei : i = e.on
  · rw [← hei]; exact getD_set_same L i
  · rw [getD_set_ne true hei]
    by_cases hij : i = j
    · subst hij
      obtain ⟨_, o', ho', hall⟩ := mem_ready.1 hi
      rw [hj] at ho'
      cases ho'
      exact getD_true_of_false (hall e he hb)
    · rw [getD_set_ne true hij] at hL
      exact h j o hj hL e he hb

theorem reach_true {L : Array Bool} (hc : closed md ops L) {k j : Nat} (h : Reach md ops k j) : L.getD k true = true → L.getD j true = true := by
  induction h with
  | one ho he hb => exact fun hk => hc _ _ ho hk _ he hb
  | more ho he hb _ ih => exact fun hk => ih (hc _ _ ho hk _ he hb)

/-- From the place that may come up: all that binds it has come up. -/
theorem reach_ready {L : Array Bool} (hc : closed md ops L) {k j : Nat} (hk : k ∈ Region.ready md ops L) (h : Reach md ops k j) : L.getD j true = true := by
  obtain ⟨_, o', ho', hall⟩ := mem_ready.1 hk
  cases h with
  | one ho he hb =>
    rw [ho'] at ho
    cases ho
    exact getD_true_of_false (hall _ he hb)
  | more ho he hb hr =>
    rw [ho'] at ho
    cases ho
    exact reach_true hc hr (getD_true_of_false (hall _ he hb))

def at_ (ix : List Nat) (L : Array Bool) : List Bool := ix.map (fun j => L.getD j true)

theorem at_poss {L : Array Bool} (hc : closed md ops L) {k : Nat} (hk : k ∈ Region.ready md ops L) (ix : List Nat) : at_ ix L ∈ poss md ops ix k := by
  refine mem_expand _ _ (by simp [at_]) (fun p b hp => ?_)
  simp only [at_, List.getElem?_map] at hp ⊢
  cases hj : ix[p]? with
  | none => simp [hj] at hp
  | some j =>
    simp only [hj, Option.map_some, Option.some.injEq] at hp ⊢
    unfold known at hp
    split at hp
    · rename_i h1
      cases hp
      exact reach_ready hc hk (bef_sound _ _ (by simpa using h1))
    · split at hp
      · rename_i h2
        cases hp
        have h0 := (mem_ready.1 hk).1
        simp only [Bool.or_eq_true, beq_iff_eq, List.contains_eq_mem, decide_eq_true_eq] at h2
        rcases h2 with rfl | h2
        · exact h0
        · cases hb : L.getD j true with
          | false => rfl
          | true => rw [reach_true hc (bef_sound _ _ h2) hb] at h0; cases h0
      · cases hp

theorem at_set {L : Array Bool} (ix : List Nat) (k : Nat) : at_ ix (L.setIfInBounds k true) = came ix k (at_ ix L) := by
  unfold at_ came
  induction ix with
  | nil => rfl
  | cons j ix ih =>
    simp only [List.map_cons, List.zipWith_cons_cons, ih, List.cons.injEq, and_true]
    by_cases hjk : k = j
    · subst hjk; simp [getD_set_same]
    · rw [getD_set_ne true hjk]
      have : (j == k) = false := by simpa using (fun h => hjk h.symm)
      simp [this]

/-- What is asked of an operation, by the classes D. -/
def calmD (P : Program) (md : Region.Mode) (ops : Array Oper) (ix : List Nat) (D : List Bool → World → Prop) (k : Nat) (o : Oper) (a : Act) (v : Value) : Prop :=
  (Region.wanted o (yielded ops a.tmps) = true ∧ ∀ bs ∈ poss md ops ix k, ∀ w, D bs w → opAt P o a (D (came ix k bs)) w v) ∨
  (Region.wanted o (yielded ops a.tmps) = false ∧ v = undef ∧ ∀ bs ∈ poss md ops ix k, ∀ w, D bs w → D (came ix k bs) w)

def walkD (P : Program) (md : Region.Mode) (ops : Array Oper) (ix : List Nat) (D : List Bool → World → Prop) (Q : Act → Prop) : List Oper → Nat → Act → Prop
  | [], _, a => Q a
  | o :: rest, k, a => ∃ v, calmD P md ops ix D k o a v ∧ walkD P md ops ix D Q rest (k + 1) (a.put o.dst v)

/-! ### The frame in which just the operations of a set have left their values -/

/-- The values of those operations that 'on' names, laid into the frame in the order of the text. -/
def laid (on : Nat → Bool) : List Oper → List Value → Nat → Act → Act
  | o :: l, v :: vs, k, a => laid on l vs (k + 1) (if on k then a.put o.dst v else a)
  | _, _, _, a => a

theorem laid_none {on : Nat → Bool} : ∀ (l : List Oper) (vs : List Value) (k : Nat) (a : Act), (∀ j, k ≤ j → on j = false) → laid on l vs k a = a
  | [], _, _, _, _ => rfl
  | _ :: _, [], _, _, _ => rfl
  | o :: l, v :: vs, k, a, h => by
    simp only [laid, h k (Nat.le_refl _)]
    exact laid_none l vs (k + 1) a (fun j hj => h j (by omega))
theorem laid_congr {on on' : Nat → Bool} : ∀ (l : List Oper) (vs : List Value) (k : Nat) (a : Act), (∀ j, k ≤ j → j < k + l.length → on j = on' j) → laid on l vs k a = laid on' l vs k a
  | [], _, _, _, _ => rfl
  | _ :: _, [], _, _, _ => rfl
  | o :: l, v :: vs, k, a, h => by
    simp only [laid, h k (Nat.le_refl _) (by simp)]
    exact laid_congr l vs (k + 1) _ (fun j hj hj' => h j (by omega) (by simp; omega))

/-- What a temporary holds hangs on those alone that write it. -/
theorem laid_tmp {on on' : Nat → Bool} (t : Tmp) : ∀ (l : List Oper) (vs : List Value) (k : Nat) (a a' : Act), a.tmps[t]? = a'.tmps[t]? → a.tmps.size = a'.tmps.size →
    (∀ j o, l[j]? = some o → o.dst = some t → on (k + j) = on' (k + j)) → (laid on l vs k a).tmps[t]? = (laid on' l vs k a').tmps[t]?
  | [], _, _, _, _, h, _, _ => h
  | _ :: _, [], _, _, _, h, _, _ => h
  | o :: l, v :: vs, k, a, a', h, hs, hon => by
    have hput : ∀ (x : Act) (d : Option Tmp) (u : Value), (x.put d u).tmps.size = x.tmps.size := fun x d u => by cases d <;> simp [Act.put]
    have hgo := fun (x x' : Act) (hx : x.tmps[t]? = x'.tmps[t]?) (hxs : x.tmps.size = x'.tmps.size) =>
      laid_tmp (on := on) (on' := on') t l vs (k + 1) x x' hx hxs (fun j o' hj hd => by have := hon (j + 1) o' (by simpa using hj) hd; simpa [Nat.add_assoc, Nat.add_comm 1 j] using this)
    simp only [laid]
    by_cases hd : o.dst = some t
    · have h0 := hon 0 o rfl hd
      simp only [Nat.add_zero] at h0
      rw [h0]
      split
      · refine hgo _ _ ?_ (by rw [hput, hput, hs])
        rw [hd]
        simp only [Act.put, Array.getElem?_setIfInBounds, if_true, hs]
      · exact hgo _ _ h hs
    · have hkeep : ∀ (x : Act), (x.put o.dst v).tmps[t]? = x.tmps[t]? := fun x => by
        cases ho : o.dst with
        | none => rfl
        | some d =>
          have hne : d ≠ t := fun e => hd (by rw [ho, e])
          simp [Act.put, Array.getElem?_setIfInBounds_ne hne]
      refine hgo _ _ ?_ ?_
      · split <;> split <;> simp only [hkeep, h]
      · split <;> split <;> simp only [hput, hs]

/-- A value laid first or last is the same, where nothing behind writes its temporary. -/
theorem laid_put {on : Nat → Bool} (d : Option Tmp) (u : Value) : ∀ (l : List Oper) (vs : List Value) (k : Nat) (a : Act),
    (∀ j o, l[j]? = some o → on (k + j) = true → ∀ t, d = some t → o.dst ≠ some t) → laid on l vs k (a.put d u) = (laid on l vs k a).put d u
  | [], _, _, _, _ => rfl
  | _ :: _, [], _, _, _ => rfl
  | o :: l, v :: vs, k, a, h => by
    have ih := fun x => laid_put (on := on) d u l vs (k + 1) x (fun j o' hj hon => h (j + 1) o' (by simpa using hj) (by simpa [Nat.add_assoc, Nat.add_comm 1 j] using hon))
    simp only [laid]
    split
    · rename_i hon
      rw [Act.put_comm a u v (fun t ht => h 0 o rfl (by simpa using hon) t ht)]
      exact ih _
    · exact ih _

/-- One operation more. -/
theorem laid_one {on : Nat → Bool} {i : Nat} (hi : on i = false) {oi : Oper} {vi : Value} : ∀ (l : List Oper) (vs : List Value) (k : Nat) (a : Act), k ≤ i → l[i - k]? = some oi → vs[i - k]? = some vi →
    (∀ j o, l[j]? = some o → i < k + j → on (k + j) = true → ∀ t, oi.dst = some t → o.dst ≠ some t) →
    laid (fun j => on j || j == i) l vs k a = (laid on l vs k a).put oi.dst vi
  | [], _, _, _, _, h, _, _ => by simp at h
  | _ :: _, [], _, _, _, _, h, _ => by simp at h
  | o :: l, v :: vs, k, a, hk, h1, h2, h3 => by
    simp only [laid]
    by_cases hki : k = i
    · subst hki
      simp only [Nat.sub_self, List.getElem?_cons_zero, Option.some.injEq] at h1 h2
      subst h1
      subst h2
      simp only [beq_self_eq_true, Bool.or_true, if_true, hi]
      have hoff : ∀ j, k + 1 ≤ j → j < k + 1 + l.length → (on j || j == k) = on j := fun j hj _ => by
        have hjk : (j == k) = false := beq_eq_false_iff_ne.2 (by omega)
        rw [hjk, Bool.or_false]
      rw [laid_congr (on := fun j => on j || j == k) (on' := on) l vs (k + 1) _ hoff]
      exact laid_put _ _ l vs (k + 1) a (fun j o' hj hon => h3 (j + 1) o' (by simpa using hj) (by omega) (by simpa [Nat.add_assoc, Nat.add_comm 1 j] using hon))
    · have hb : (k == i) = false := by simpa using hki
      simp only [hb, Bool.or_false]
      have hs : i - k = (i - (k + 1)) + 1 := by omega
      rw [hs] at h1 h2
      exact laid_one hi l vs (k + 1) _ (by omega) (by simpa using h1) (by simpa using h2) (fun j o' hj hlt hon => h3 (j + 1) o' (by simpa using hj) (by omega) (by simpa [Nat.add_assoc, Nat.add_comm 1 j] using hon))

/-- The lexical walk's values. -/
theorem walkD_vals {ix : List Nat} {D : List Bool → World → Prop} {Q : Act → Prop} : ∀ (l : List Oper) (k : Nat) (a : Act), walkD P md ops ix D Q l k a →
    ∃ vs : List Value, vs.length = l.length ∧ (∀ j o v, l[j]? = some o → vs[j]? = some v → calmD P md ops ix D (k + j) o (laid (fun m => decide (m < k + j)) l vs k a) v) ∧ Q (laid (fun _ => true) l vs k a)
  | [], _, a, h => ⟨[], rfl, fun j o v hj => by simp at hj, h⟩
  | o :: l, k, a, ⟨v, hc, h⟩ => by
    obtain ⟨vs, hl, hall, hQ⟩ := walkD_vals l (k + 1) _ h
    refine ⟨v :: vs, by simp [hl], fun j o' v' hj hv => ?_, by simpa [laid] using hQ⟩
    cases j with
    | zero =>
      simp only [List.getElem?_cons_zero, Option.some.injEq] at hj hv
      subst hj
      subst hv
      rw [laid_none _ _ _ _ (fun m hm => by simpa using hm)]
      exact hc
    | succ j =>
      simp only [List.getElem?_cons_succ] at hj hv
      have h1 := hall j o' v' hj hv
      have hk : decide (k < k + (j + 1)) = true := by simp
      simp only [laid, hk, if_true]
      rw [Nat.add_right_comm k 1 j] at h1
      exact h1

/-! ### Any order -/

/-- Ahead of place k, or apart from it: 'j' behind 'k' waits for it, or neither looks at what the other writes. -/
theorem lex_pairs {fuel : Nat} : ∀ (k : Nat) (L : Array Bool), L.size = ops.size → (∀ j, j < ops.size → L.getD j true = decide (j < k)) → Region.lexFrom md ops fuel k L = true → k + fuel = ops.size →
    ∀ i j oi oj, k ≤ i → i < j → ops[i]? = some oi → ops[j]? = some oj → (∃ e ∈ oj.after, Region.binds md e = true ∧ e.on = i) ∨ oi.apart ops oj = true := by
  induction fuel with
  | zero =>
    intro k L hs hL hB hk i j oi oj hki hij hi hj
    have := (Array.getElem?_eq_some_iff.1 hj).1
    omega
  | succ fuel ih =>
    intro k L hs hL hB hk i j oi oj hki hij hi hj
    simp only [Region.lexFrom, Bool.and_eq_true] at hB
    obtain ⟨⟨_, hf⟩, hB'⟩ := hB
    have hjs := (Array.getElem?_eq_some_iff.1 hj).1
    by_cases hik : i = k
    · subst hik
      by_cases hw : ∃ e ∈ oj.after, Region.binds md e = true ∧ e.on = i
      · exact .inl hw
      · exact .inr (Region.free_spec hi hf j oj hj (by omega) (by rw [hL j hjs]; simp; omega) (fun e he hb heq => hw ⟨e, he, hb, heq⟩))
    · refine ih (k + 1) (L.setIfInBounds k true) (by simp [hs]) (fun m hm => ?_) hB' (by omega) i j oi oj (by omega) hij hi hj
      by_cases hmk : k = m
      · subst hmk
        rw [getD_set_same]; simp
      · rw [getD_set_ne true hmk, hL m hm]
        congr 1
        simp; omega

/-- How many have not come up. -/
def rest (ops : Array Oper) (L : Array Bool) : Nat := ((List.range ops.size).filter (fun k => !L.getD k true)).length

theorem rest_less {L : Array Bool} {i : Nat} (hi : i ∈ Region.ready md ops L) : rest ops (L.setIfInBounds i true) < rest ops L := by
  obtain ⟨h0, o, ho, _⟩ := mem_ready.1 hi
  have hlt : i < ops.size := (Array.getElem?_eq_some_iff.1 ho).1
  have he : (List.range ops.size).filter (fun k => !(L.setIfInBounds i true).getD k true) = ((List.range ops.size).filter (fun k => !L.getD k true)).filter (fun k => k != i) := by
    rw [List.filter_filter]
    refine List.filter_congr (fun k _ => ?_)
    by_cases hk : i = k
    · subst hk; rw [getD_set_same]; simp
    · rw [getD_set_ne true hk]
      have : (k != i) = true := by simpa using fun e => hk e.symm
      simp [this]
  unfold rest
  rw [he]
  refine List.length_filter_lt_length_iff_exists.2 ⟨i, ?_, by simp⟩
  rw [List.mem_filter, List.mem_range]
  exact ⟨hlt, by rw [h0]; rfl⟩

theorem ready_of_rest {L : Array Bool} (h : rest ops L = 0) : Region.ready md ops L = [] := by
  rw [List.eq_nil_iff_forall_not_mem]
  intro i hi
  have := rest_less hi
  omega

/-- Where none may come up any more, all have (each waits for places ahead of it alone). -/
theorem all_came {L : Array Bool} (hac : ∀ i o, ops[i]? = some o → ∀ e ∈ o.after, Region.binds md e = true → e.on < i) (hr : Region.ready md ops L = []) : ∀ (n j : Nat), j < n → j < ops.size → L.getD j true = true
  | 0, j, h, _ => by omega
  | n + 1, j, h, hj => by
    by_cases hjn : j < n
    · exact all_came hac hr n j hjn hj
    · refine Classical.byContradiction fun hx => ?_
      have hx' : L.getD j true = false := by simpa using hx
      obtain ⟨o, ho⟩ : ∃ o, ops[j]? = some o := ⟨ops[j], Array.getElem?_eq_getElem hj⟩
      have hjL : j < L.size := by
        rcases Nat.lt_or_ge j L.size with h' | h'
        · exact h'
        · simp [Array.getElem?_eq_none h'] at hx'
      have hm : j ∈ Region.ready md ops L := mem_ready.2 ⟨hx', o, ho, fun e he hb => by
        have h1 := hac j o ho e he hb
        have h2 := all_came hac hr n e.on (by omega) (by omega)
        have h4 : e.on < L.size := by omega
        simpa [h4] using h2⟩
      rw [hr] at hm
      cases hm

theorem step_calm {i : Nat} {o : Oper} {a : Act} {v : Value} {K' : Act → World → Prop} {Q' : Exit → Act → World → Prop} {ix : List Nat} {D : List Bool → World → Prop} {bs : List Bool} {w : World}
    (ho : ops[i]? = some o) (hb : bs ∈ poss md ops ix i) (hD : D bs w) (hc : calmD P md ops ix D i o a v) (h : ∀ w', D (came ix i bs) w' → K' (a.put o.dst v) w') : wpOp P ops Q' i K' a w := by
  unfold wpOp
  simp only [ho]
  rcases hc with ⟨hw, hv⟩ | ⟨hw, rfl, hv⟩
  · rw [if_pos hw]
    left
    have h3 := hv bs hb w hD
    unfold opAt at h3
    unfold Oper.wp
    cases hr : (execOp a.eval o).run P w with
    | ok n w' =>
      rw [hr] at h3
      cases n <;> simp only [upon] at h3 <;> simp only [Oper.upon]
      case value u => rw [h3.2]; exact h _ h3.1
      case skip => rw [← h3.2]; exact h _ h3.1
      case enter f args => exact h3.mono fun e w'' hh => by rw [hh.1]; exact h _ hh.2
    | halt x w' => rw [hr] at h3; simp only [upon] at h3
  · rw [if_neg (by simp [hw])]
    exact h _ (hv bs hb w hD)

/-- **The region, by the classes D**: it begins in the class where none of 'ix' has come up, and ends in that where all have; one walk of the order of the text serves every order. -/
theorem wp_region_D {id : Nat} {Q : Exit → Act → World → Prop} {a : Act} {w : World} {l : List Oper} (ix : List Nat) (D : List Bool → World → Prop) (hm : P.follows .mixedOrders = true) (hB : Region.lexB .any l.toArray = true)
    (hix : ix.all (· < l.length) = true) (hac : (List.range l.length).all (fun i => ((l.toArray[i]?).map (fun o => o.after.toList.all (fun e => !Region.binds .any e || e.on < i))).getD true) = true)
    (hD : D (ix.map fun _ => false) w.drew)
    (h : walkD P .any l.toArray ix D (fun a' => ∀ w', D (ix.map fun _ => true) w' → Q .normal a' w') l 0 a) : (Code.region id l.toArray true).wp P Q a w := by
  simp only [Region.lexB, Bool.and_eq_true] at hB
  obtain ⟨hns, hlex⟩ := hB
  obtain ⟨vs, hvl, hcalm, hQ⟩ := walkD_vals l 0 a h
  have hacyc : ∀ i o, l.toArray[i]? = some o → ∀ e ∈ o.after, Region.binds .any e = true → e.on < i := by
    intro i o ho e he hb
    have hi : i < l.length := by have := (Array.getElem?_eq_some_iff.1 ho).1; simpa using this
    have h1 := List.all_eq_true.1 hac i (by simpa using hi)
    rw [ho] at h1
    simp only [Option.map_some, Option.getD_some] at h1
    have h2 := List.all_eq_true.1 h1 e (by simpa using he)
    simpa [hb] using h2
  have hpair := lex_pairs (md := .any) (ops := l.toArray) 0 (Array.replicate l.toArray.size false) (by simp) (fun j hj => by simp at hj; simp [hj]) hlex (by simp)
  have key : ∀ (fuel : Nat) (L : Array Bool) (w' : World), rest l.toArray L ≤ fuel → closed .any l.toArray L → D (at_ ix L) w' →
      wpAny P .any l.toArray Q fuel L (laid (fun j => L.getD j true) l vs 0 a) w' := by
    have hend : ∀ (L : Array Bool) (w' : World), Region.ready .any l.toArray L = [] → D (at_ ix L) w' → Q .normal (laid (fun j => L.getD j true) l vs 0 a) w' := by
      intro L w' hr hD'
      have hall := all_came hacyc hr l.length
      have e1 : laid (fun j => L.getD j true) l vs 0 a = laid (fun _ => true) l vs 0 a :=
        laid_congr l vs 0 a (fun j _ hj => hall j (by simpa using hj) (by simpa using hj))
      rw [e1]
      refine hQ w' ?_
      have e2 : at_ ix L = ix.map fun _ => true := by
        unfold at_
        refine List.map_congr_left (fun j hj => ?_)
        have : j < l.length := by simpa using List.all_eq_true.1 hix j hj
        exact hall j this (by simpa using this)
      rw [← e2]; exact hD'
    have hgo : ∀ (L : Array Bool) (w' : World) (i : Nat) (K' : Act → World → Prop), closed .any l.toArray L → D (at_ ix L) w' → i ∈ Region.ready .any l.toArray L →
        (∀ w'', D (at_ ix (L.setIfInBounds i true)) w'' → K' (laid (fun j => (L.setIfInBounds i true).getD j true) l vs 0 a) w'') → wpOp P l.toArray Q i K' (laid (fun j => L.getD j true) l vs 0 a) w' := by
      intro L w' i K' hcl hD' hi hK
      obtain ⟨h0, o, ho, hpre⟩ := mem_ready.1 hi
      have hil : i < l.length := by have := (Array.getElem?_eq_some_iff.1 ho).1; simpa using this
      have ho' : l[i]? = some o := by simpa using ho
      obtain ⟨v, hv⟩ : ∃ v, vs[i]? = some v := ⟨vs[i]'(by omega), List.getElem?_eq_getElem _⟩
      have hc := hcalm i o v ho' hv
      rw [Nat.zero_add] at hc
      -- what it looks at is as in the order of the text
      have hsame : ∀ t, t ∈ o.looksAt l.toArray → (laid (fun j => L.getD j true) l vs 0 a).tmps[t]? = (laid (fun m => decide (m < i)) l vs 0 a).tmps[t]? := by
        intro t ht
        refine laid_tmp t l vs 0 a a rfl rfl (fun j oj hj hd => ?_)
        rw [Nat.zero_add]
        have hj' : l.toArray[j]? = some oj := by simpa using hj
        rcases Nat.lt_trichotomy j i with hji | hji | hji
        · rcases hpair j i oj o (Nat.zero_le _) hji hj' ho with ⟨e, he, hb, hon⟩ | hap
          · have h1 := getD_true_of_false (hpre e he hb)
            rw [hon] at h1
            simp only [h1, hji, decide_true]
          · exact absurd ht ((Oper.apart_spec hap).1 t hd)
        · subst hji
          simp only [h0]; simp
        · rcases hpair i j o oj (Nat.zero_le _) hji ho hj' with ⟨e, he, hb, hon⟩ | hap
          · have h1 : L.getD j true = false := by
              cases hLj : L.getD j true with
              | false => rfl
              | true => have h2 := hcl j oj hj' hLj e he hb; rw [hon, h0] at h2; cases h2
            simp only [h1]; simp; omega
          · exact absurd ht ((Oper.apart_spec hap).2.2 t hd)
      have hev : ∀ x ∈ o.op.operands, (laid (fun j => L.getD j true) l vs 0 a).eval x = (laid (fun m => decide (m < i)) l vs 0 a).eval x := by
        intro x hx
        cases x with
        | tmp t =>
          have ht : t ∈ o.looksAt l.toArray := List.mem_append_left _ (List.mem_filterMap.2 ⟨.tmp t, by simpa using hx, rfl⟩)
          have := hsame t ht
          show (laid _ l vs 0 a).tmps.getD t undef = (laid _ l vs 0 a).tmps.getD t undef
          rw [Array.getD_eq_getD_getElem?, Array.getD_eq_getD_getElem?, this]
        | _ => rfl
      have hex := execOp_congr o (fun cs b => Region.noSelect_spec hns i o cs b ho) hev
      have hwa : Region.wanted o (yielded l.toArray (laid (fun j => L.getD j true) l vs 0 a).tmps) = Region.wanted o (yielded l.toArray (laid (fun m => decide (m < i)) l vs 0 a).tmps) := by
        unfold Region.wanted
        cases hg : o.guard with
        | none => rfl
        | some gw =>
          obtain ⟨g, want⟩ := gw
          simp only
          congr 1
          unfold yielded
          cases ht : (l.toArray[g]?).bind (·.dst) with
          | none => rfl
          | some t =>
            have := hsame t (by simp only [Oper.looksAt, hg, ht]; simp)
            simp only [Option.bind_some]
            rw [this]
      have hc' : calmD P .any l.toArray ix D i o (laid (fun j => L.getD j true) l vs 0 a) v := by
        unfold calmD opAt at *
        rw [hex, hwa]
        exact hc
      refine step_calm ho (at_poss hcl hi ix) hD' hc' (fun w'' hw'' => ?_)
      rw [← at_set] at hw''
      have h2 := hK w'' hw''
      have e1 : laid (fun j => (L.setIfInBounds i true).getD j true) l vs 0 a = laid (fun j => L.getD j true || j == i) l vs 0 a :=
        laid_congr l vs 0 a (fun j _ _ => by
          by_cases hij : i = j
          · subst hij; rw [getD_set_same]; simp
          · rw [getD_set_ne true hij]
            have : (j == i) = false := by simpa using fun e => hij e.symm
            simp only [this, Bool.or_false])
      rw [e1, laid_one (on := fun j => L.getD j true) (i := i) h0 l vs 0 a (Nat.zero_le _) ho' hv (fun j oj hj hij hon t ht => ?_)] at h2
      · exact h2
      · rw [Nat.zero_add] at hij hon
        have hj' : l.toArray[j]? = some oj := by simpa using hj
        rcases hpair i j o oj (Nat.zero_le _) hij ho hj' with ⟨e, he, hb, hone⟩ | hap
        · have h3 := hcl j oj hj' hon e he hb
          rw [hone, h0] at h3
          cases h3
        · exact (Oper.apart_spec hap).2.1 t ht
    intro fuel
    induction fuel with
    | zero =>
      intro L w' hf hcl hD'
      have hr := ready_of_rest (md := .any) (by omega : rest l.toArray L = 0)
      exact ⟨hr, hend L w' hr hD'⟩
    | succ fuel ih =>
      intro L w' hf hcl hD'
      refine ⟨fun hr => hend L w' hr hD', fun i hi => hgo L w' i _ hcl hD' hi (fun w'' hw'' => ?_)⟩
      exact ih _ w'' (by have := rest_less hi; omega) (closed_step hcl hi) hw''
  refine wp_region_any hm ?_
  have hstart := key l.toArray.size (Array.replicate l.toArray.size false) w.drew
    (by unfold rest; exact Nat.le_trans (List.length_filter_le _ _) (by simp))
    (by
      intro j o hj hL
      have hj2 : j < l.toArray.size := (Array.getElem?_eq_some_iff.1 hj).1
      simp at hj2
      simp [hj2] at hL)
    (by
      have e : at_ ix (Array.replicate l.toArray.size false) = ix.map fun _ => false := by
        unfold at_
        refine List.map_congr_left (fun j hj => ?_)
        have : j < l.length := by simpa using List.all_eq_true.1 hix j hj
        simp [this]
      rw [e]; exact hD)
  have e0 : laid (fun j => (Array.replicate l.toArray.size false).getD j true) l vs 0 a = a := by
    rw [laid_congr (on' := fun _ => false) l vs 0 a (fun j _ hj => by simp at hj; simp [hj])]
    exact laid_none _ _ _ _ (fun _ _ => rfl)
  rw [e0] at hstart
  exact hstart

/-- A region whose order is the text's, from its place k on, by the classes D. -/
theorem wpList_D0 {Q : Exit → Act → World → Prop} {l : List Oper} (ix : List Nat) (D : List Bool → World → Prop)
    (hix : ix.all (· < l.length) = true) (hac : (List.range l.length).all (fun i => ((l.toArray[i]?).map (fun o => o.after.toList.all (fun e => !Region.binds .any e || e.on < i))).getD true) = true) :
    ∀ (r : List Oper) (k : Nat) (a : Act) (w : World), (∀ j, r[j]? = l[k + j]?) → k + r.length = l.length → D (ix.map fun j => decide (j < k)) w →
      walkD P .any l.toArray ix D (fun a' => ∀ w', D (ix.map fun _ => true) w' → Q .normal a' w') r k a → wpList P l.toArray Q r a w := by
  have hacyc : ∀ i o, l.toArray[i]? = some o → ∀ e ∈ o.after, Region.binds .any e = true → e.on < i := by
    intro i o ho e he hb
    have hi : i < l.length := by have := (Array.getElem?_eq_some_iff.1 ho).1; simpa using this
    have h1 := List.all_eq_true.1 hac i (by simpa using hi)
    rw [ho] at h1
    simp only [Option.map_some, Option.getD_some] at h1
    have h2 := List.all_eq_true.1 h1 e (by simpa using he)
    simpa [hb] using h2
  let L : Nat → Array Bool := fun k => (List.range l.length).map (fun j => decide (j < k)) |>.toArray
  have hL : ∀ k j, j < l.length → (L k).getD j true = decide (j < k) := by
    intro k j hj
    simp [L, hj]
  have hL2 : ∀ k j, l.length ≤ j → (L k).getD j true = true := by
    intro k j hj
    simp [L, Array.getElem?_eq_none, hj]
  have hcl : ∀ k, closed .any l.toArray (L k) := by
    intro k j o hj hjk e he hb
    have h1 := hacyc j o hj e he hb
    have h2 : j < l.length := by have := (Array.getElem?_eq_some_iff.1 hj).1; simpa using this
    rw [hL k j h2] at hjk
    rw [hL k e.on (by omega)]
    simp at hjk ⊢; omega
  have hready : ∀ k, k < l.length → k ∈ Region.ready .any l.toArray (L k) := by
    intro k hk
    refine mem_ready.2 ⟨by rw [hL k k hk]; simp, l[k], by simp [hk], fun e he hb => ?_⟩
    have h1 := hacyc k l[k] (by simp [hk]) e he hb
    have : e.on < l.length := by omega
    simp [L, this]; omega
  have hlen : ∀ j ∈ ix, j < l.length := fun j hj => by simpa using List.all_eq_true.1 hix j hj
  have hat : ∀ k, at_ ix (L k) = ix.map fun j => decide (j < k) := fun k => List.map_congr_left (fun j hj => hL k j (hlen j hj))
  have hset : ∀ k, k < l.length → at_ ix (L (k + 1)) = came ix k (at_ ix (L k)) := by
    intro k hk
    rw [← at_set]
    unfold at_
    refine List.map_congr_left (fun j _ => ?_)
    by_cases hkj : k = j
    · subst hkj; rw [getD_set_same, hL _ _ hk]; simp
    · rw [getD_set_ne true hkj]
      rcases Nat.lt_or_ge j l.length with hj | hj
      · rw [hL _ _ hj, hL _ _ hj]; congr 1; simp; omega
      · rw [hL2 _ _ hj, hL2 _ _ hj]
  intro r
  induction r with
  | nil =>
    intro k a w _ hk hD h
    refine wpList_nil (h w ?_)
    have e : (ix.map fun j => decide (j < k)) = ix.map fun _ => true := by
      refine List.map_congr_left (fun j hj => ?_)
      have := hlen j hj
      simp at hk ⊢; omega
    rw [← e]; exact hD
  | cons o r ih =>
    intro k a w hr hk hD ⟨v, hc, h⟩
    have hk' : k < l.length := by simp at hk; omega
    have ho : l[k]? = some o := by simpa using (hr 0).symm
    have ih' := fun w' hw' => ih (k + 1) (a.put o.dst v) w' (fun j => by have := hr (j + 1); simpa [Nat.add_assoc, Nat.add_comm 1 j] using this) (by simp at hk; omega) hw' h
    rw [← hat, hset k hk'] at ih'
    rw [← hat] at hD
    have hp := at_poss (hcl k) (hready k hk') ix
    rcases hc with ⟨hw, hv⟩ | ⟨hw, rfl, hv⟩
    · have h3 := hv _ hp w hD
      unfold opAt at h3
      refine wpList_step (fun K hK => ?_)
      rw [if_pos hw]
      unfold Oper.wp
      cases hrun : (execOp a.eval o).run P w with
      | ok n w' =>
        rw [hrun] at h3
        cases n <;> simp only [upon] at h3 <;> simp only [Oper.upon]
        case value u => rw [h3.2]; exact hK _ _ (ih' _ h3.1)
        case skip => rw [← h3.2]; exact hK _ _ (ih' _ h3.1)
        case enter f args => exact h3.mono fun e w'' hh => by rw [hh.1]; exact hK _ _ (ih' _ hh.2)
      | halt x w' => rw [hrun] at h3; simp only [upon] at h3
    · exact wpList_skip hw (ih' w (hv _ hp w hD))

/-- A region whose order is the text's, by the classes D. -/
theorem wp_region_D0 {id : Nat} {Q : Exit → Act → World → Prop} {a : Act} {w : World} {l : List Oper} (ix : List Nat) (D : List Bool → World → Prop)
    (hix : ix.all (· < l.length) = true) (hac : (List.range l.length).all (fun i => ((l.toArray[i]?).map (fun o => o.after.toList.all (fun e => !Region.binds .any e || e.on < i))).getD true) = true)
    (hD : D (ix.map fun _ => false) w)
    (h : walkD P .any l.toArray ix D (fun a' => ∀ w', D (ix.map fun _ => true) w' → Q .normal a' w') l 0 a) : (Code.region id l.toArray false).wp P Q a w := by
  refine wp_region_list ?_
  exact wpList_D0 ix D hix hac l 0 a w (by simp) (by simp) (by simpa using hD) h

/-! ### The steps of the walk -/
section
variable {ix : List Nat} {D : List Bool → World → Prop} {Q : Act → Prop} {o : Oper} {rest : List Oper} {k : Nat} {a : Act}
theorem expand_length : ∀ (ks : List (Option Bool)) (bs : List Bool), bs ∈ expand ks → bs.length = ks.length
  | [], bs, h => by simp [expand] at h; simp [h]
  | some b :: ks, bs, h => by
    simp only [expand, List.mem_map] at h
    obtain ⟨c, hc, rfl⟩ := h
    simp [expand_length ks c hc]
  | none :: ks, bs, h => by
    simp only [expand, List.mem_append, List.mem_map] at h
    rcases h with ⟨c, hc, rfl⟩ | ⟨c, hc, rfl⟩ <;> simp [expand_length ks c hc]
theorem came_none {ix : List Nat} {k : Nat} (hk : ix.contains k = false) : ∀ (bs : List Bool), bs.length = ix.length → came ix k bs = bs := by
  unfold came
  induction ix with
  | nil => intro bs h; simp at h; simp [h]
  | cons j ix ih =>
    intro bs h
    cases bs with
    | nil => simp at h
    | cons b bs =>
      simp only [List.contains_cons, Bool.or_eq_false_iff] at hk
      simp only [List.zipWith_cons_cons, List.cons.injEq]
      have : (j == k) = false := by
        have := hk.1
        simp only [beq_eq_false_iff_ne] at this ⊢
        exact fun e => this e.symm
      exact ⟨by simp [this], ih hk.2 bs (by simpa using h)⟩
theorem came_poss {ix : List Nat} {k : Nat} (hk : ix.contains k = false) {bs : List Bool} (h : bs ∈ poss md ops ix k) : came ix k bs = bs :=
  came_none hk bs (by have := expand_length _ _ h; simpa using this)
/-- An operation that its guard passes over. -/
theorem walkD_skip (hw : Region.wanted o (yielded ops a.tmps) = false) (hk : ix.contains k = false)
    (h : ∀ K : Act → Prop, (∀ a, walkD P md ops ix D Q rest (k + 1) a → K a) → K (a.put o.dst undef)) : walkD P md ops ix D Q (o :: rest) k a :=
  ⟨undef, .inr ⟨hw, rfl, fun bs hb w hD => by rw [came_poss hk hb]; exact hD⟩, h _ (fun _ h => h)⟩
/-- One that reckons, in whatever world. -/
theorem walkD_pure {v : Value} (hw : Region.wanted o (yielded ops a.tmps) = true) (hk : ix.contains k = false) (hr : ∀ w, (execOp a.eval o).run P w = .ok (.value v) w)
    (h : ∀ K : Act → Prop, (∀ a, walkD P md ops ix D Q rest (k + 1) a → K a) → K (a.put o.dst v)) : walkD P md ops ix D Q (o :: rest) k a :=
  ⟨v, .inl ⟨hw, fun bs hb w hD => by unfold opAt; rw [hr w]; exact ⟨by rw [came_poss hk hb]; exact hD, rfl⟩⟩, h _ (fun _ h => h)⟩
/-- One that reads. -/
theorem walkD_read {v : Value} (hw : Region.wanted o (yielded ops a.tmps) = true) (hk : ix.contains k = false) (hr : ∀ bs, bs ∈ poss md ops ix k → ∀ w, D bs w → (execOp a.eval o).run P w = .ok (.value v) w)
    (h : ∀ K : Act → Prop, (∀ a, walkD P md ops ix D Q rest (k + 1) a → K a) → K (a.put o.dst v)) : walkD P md ops ix D Q (o :: rest) k a :=
  ⟨v, .inl ⟨hw, fun bs hb w hD => by unfold opAt; rw [hr bs hb w hD]; exact ⟨by rw [came_poss hk hb]; exact hD, rfl⟩⟩, h _ (fun _ h => h)⟩
/-- One that turns the world (a store): a value or none. -/
theorem walkD_turn {v : Value} (hw : Region.wanted o (yielded ops a.tmps) = true) (hv : ∀ bs, bs ∈ poss md ops ix k → ∀ w, D bs w → opAt P o a (D (came ix k bs)) w v)
    (h : ∀ K : Act → Prop, (∀ a, walkD P md ops ix D Q rest (k + 1) a → K a) → K (a.put o.dst v)) : walkD P md ops ix D Q (o :: rest) k a :=
  ⟨v, .inl ⟨hw, hv⟩, h _ (fun _ h => h)⟩
/-- A call. -/
theorem walkD_call {v : Value} {f : FuncId} {args : Array Value} (hw : Region.wanted o (yielded ops a.tmps) = true) (hr : ∀ w, (execOp a.eval o).run P w = .ok (.enter f args) w)
    (hc : ∀ bs, bs ∈ poss md ops ix k → ∀ w, D bs w → Calls P f args w fun e w' => e = .returned v ∧ D (came ix k bs) w')
    (h : ∀ K : Act → Prop, (∀ a, walkD P md ops ix D Q rest (k + 1) a → K a) → K (a.put o.dst v)) : walkD P md ops ix D Q (o :: rest) k a :=
  ⟨v, .inl ⟨hw, fun bs hb w hD => by unfold opAt; rw [hr w]; exact hc bs hb w hD⟩, h _ (fun _ h => h)⟩
/-- A call at which all is known of what has come up. -/
theorem walkD_call1 {v : Value} {f : FuncId} {args : Array Value} (bs : List Bool) (hp : poss md ops ix k = [bs]) (hw : Region.wanted o (yielded ops a.tmps) = true) (hr : ∀ w, (execOp a.eval o).run P w = .ok (.enter f args) w)
    (hc : ∀ w, D bs w → Calls P f args w fun e w' => e = .returned v ∧ D (came ix k bs) w')
    (h : ∀ K : Act → Prop, (∀ a, walkD P md ops ix D Q rest (k + 1) a → K a) → K (a.put o.dst v)) : walkD P md ops ix D Q (o :: rest) k a :=
  walkD_call hw hr (fun b hb w hD => by rw [hp] at hb; obtain rfl := List.mem_singleton.1 hb; exact hc w hD) h
end
/-! ### Regions that turn nothing of what is known -/
section
open Go.RowKit Go.Proofs.Ythonhbciileomaa.TK
variable {W w : World} {L : List (Nat × List Value × TypeId)} {l : List Oper} {a : Act} {Q : Exit → Act → World → Prop} {id : Nat}
theorem wp_region_I (HI : Inv W L w) (hm : P.follows .mixedOrders = true) (hB : Region.lexB .any l.toArray = true)
    (hac : (List.range l.length).all (fun i => ((l.toArray[i]?).map (fun o => o.after.toList.all (fun e => !Region.binds .any e || e.on < i))).getD true) = true)
    (h : walkD P .any l.toArray [] (fun _ w' => Inv W L w') (fun a' => ∀ w', Inv W L w' → Q .normal a' w') l 0 a) : (Code.region id l.toArray true).wp P Q a w :=
  wp_region_D [] (fun _ w' => Inv W L w') hm hB rfl hac HI.drew h
theorem wp_region_I0 (HI : Inv W L w)
    (hac : (List.range l.length).all (fun i => ((l.toArray[i]?).map (fun o => o.after.toList.all (fun e => !Region.binds .any e || e.on < i))).getD true) = true)
    (h : walkD P .any l.toArray [] (fun _ w' => Inv W L w') (fun a' => ∀ w', Inv W L w' → Q .normal a' w') l 0 a) : (Code.region id l.toArray false).wp P Q a w :=
  wp_region_D0 [] (fun _ w' => Inv W L w') rfl hac HI h
/-- The same in the midst of a region whose order is the text's: 'r' is what is left of it. -/
theorem wpList_I0 {r : List Oper} (HI : Inv W L w)
    (hac : (List.range l.length).all (fun i => ((l.toArray[i]?).map (fun o => o.after.toList.all (fun e => !Region.binds .any e || e.on < i))).getD true) = true)
    (hr : l.drop (l.length - r.length) = r) (hl : decide (r.length ≤ l.length) = true)
    (h : walkD P .any l.toArray [] (fun _ w' => Inv W L w') (fun a' => ∀ w', Inv W L w' → Q .normal a' w') r (l.length - r.length) a) : wpList P l.toArray Q r a w :=
  wpList_D0 [] (fun _ w' => Inv W L w') rfl hac r (l.length - r.length) a w (fun j => by
    have h1 : (l.drop (l.length - r.length))[j]? = l[l.length - r.length + j]? := List.getElem?_drop
    rw [← h1, hr]) (by have := of_decide_eq_true hl; omega) HI h
end
#print axioms wp_region_D
end Go.Proofs.Ythonhbciileomaa.Flag
end

section
/- More steps of a walk over a region whose order is open. -/
set_option linter.unusedVariables false
namespace Go.Proofs.Ythonhbciileomaa.Flag
section
variable {P : Program} {ops : Array Oper} {md : Region.Mode} {ix : List Nat} {D : List Bool → World → Prop} {Q : Act → Prop} {o : Oper} {rest : List Oper} {k : Nat} {a : Act}
theorem walkD_read1 {v : Value} (bs : List Bool) (hp : poss md ops ix k = [bs]) (hw : Region.wanted o (yielded ops a.tmps) = true) (hk : ix.contains k = false) (hr : ∀ w, D bs w → (execOp a.eval o).run P w = .ok (.value v) w)
    (h : ∀ K : Act → Prop, (∀ a, walkD P md ops ix D Q rest (k + 1) a → K a) → K (a.put o.dst v)) : walkD P md ops ix D Q (o :: rest) k a :=
  walkD_read hw hk (fun b hb w hD => by rw [hp] at hb; obtain rfl := List.mem_singleton.1 hb; exact hr w hD) h
theorem walkD_turn1 {v : Value} (bs : List Bool) (hp : poss md ops ix k = [bs]) (hw : Region.wanted o (yielded ops a.tmps) = true) (hv : ∀ w, D bs w → opAt P o a (D (came ix k bs)) w v)
    (h : ∀ K : Act → Prop, (∀ a, walkD P md ops ix D Q rest (k + 1) a → K a) → K (a.put o.dst v)) : walkD P md ops ix D Q (o :: rest) k a :=
  walkD_turn hw (fun b hb w hD => by rw [hp] at hb; obtain rfl := List.mem_singleton.1 hb; exact hv w hD) h
theorem walkD_turn2 {v : Value} (b1 b2 : List Bool) (hp : poss md ops ix k = [b1, b2]) (hw : Region.wanted o (yielded ops a.tmps) = true) (h1 : ∀ w, D b1 w → opAt P o a (D (came ix k b1)) w v) (h2 : ∀ w, D b2 w → opAt P o a (D (came ix k b2)) w v)
    (h : ∀ K : Act → Prop, (∀ a, walkD P md ops ix D Q rest (k + 1) a → K a) → K (a.put o.dst v)) : walkD P md ops ix D Q (o :: rest) k a :=
  walkD_turn hw (fun b hb w hD => by
    rw [hp] at hb
    simp only [List.mem_cons, List.not_mem_nil, or_false] at hb
    rcases hb with rfl | rfl
    · exact h1 w hD
    · exact h2 w hD) h
end
section
open Go.RowKit Go.Proofs.Ythonhbciileomaa.TK
variable {P : Program} {w : World} {l : List Oper} {a : Act} {Q : Exit → Act → World → Prop} {id : Nat}
/-- Ahead of the turning operation, and behind it. -/
def tcl (I R : World → Prop) (bs : List Bool) (w : World) : Prop := if bs.getD 0 false = true then R w else I w
/-- A region of reads and quiet calls, of which one operation, that waits for all it needs, turns the world. -/
theorem wp_region_T (k : Nat) (I R : World → Prop) (hm : P.follows .mixedOrders = true) (hB : Region.lexB .any l.toArray = true) (hix : [k].all (· < l.length) = true)
    (hac : (List.range l.length).all (fun i => ((l.toArray[i]?).map (fun o => o.after.toList.all (fun e => !Region.binds .any e || e.on < i))).getD true) = true)
    (hI : I w.drew) (h : walkD P .any l.toArray [k] (tcl I R) (fun a' => ∀ w', R w' → Q .normal a' w') l 0 a) : (Code.region id l.toArray true).wp P Q a w :=
  wp_region_D [k] (tcl I R) hm hB hix hac hI h
theorem wp_region_T0 (k : Nat) (I R : World → Prop) (hix : [k].all (· < l.length) = true)
    (hac : (List.range l.length).all (fun i => ((l.toArray[i]?).map (fun o => o.after.toList.all (fun e => !Region.binds .any e || e.on < i))).getD true) = true)
    (hI : I w) (h : walkD P .any l.toArray [k] (tcl I R) (fun a' => ∀ w', R w' → Q .normal a' w') l 0 a) : (Code.region id l.toArray false).wp P Q a w :=
  wp_region_D0 [k] (tcl I R) hix hac hI h
end
end Go.Proofs.Ythonhbciileomaa.Flag
namespace Go.Proofs.Ythonhbciileomaa.TK
theorem add_next (x : Addr) (m j : Nat) : x.add (m + (j + 1)) = ⟨x.block, (x.add m).off + (j + 1), none⟩ := by
  unfold Addr.add
  by_cases hm : m = 0 <;> simp [hm, Nat.add_assoc]
end Go.Proofs.Ythonhbciileomaa.TK
end

section
/- What an argument that can be read as data holds, cell by cell: for types made of integers, bools, structs, arrays, and slices of such. -/
set_option linter.unusedVariables false
set_option linter.unusedSimpArgs false
namespace Go.Proofs.Ythonhbciileomaa.Read
open Go.RowKit Go.Proofs.Ythonhbciileomaa.TK Go.ChangeShapes Go.WideShapes

inductive Base where
  | int (k : IntKind)
  | bool
inductive Leaf where
  | base (b : Base)
  | row (e : List Base)

def Base.holds : Base → Value → Prop
  | .int k, v => ∃ n, v = .int k n ∧ (Lit.int k n).wf = true
  | .bool, v => ∃ b, v = .bool b
def AllB : List Base → List Value → Prop
  | [], [] => True
  | b :: bs, v :: vs => b.holds v ∧ AllB bs vs
  | _, _ => False
def Leaf.holds (w : World) : Leaf → Value → Prop
  | .base b, v => b.holds v
  | .row e, v => v = .slice none 0 0 ∨ ∃ (a : Addr) (len cap : Nat), v = .slice (some a) len cap ∧ len ≤ cap ∧ cap ≤ maxLen ∧
      ∀ i, i < len → ∃ cs : List Value, AllB e cs ∧ ∀ j v, cs[j]? = some v → w.cell? (a.add (i * e.length + j)) = some v
def AllL (w : World) : List Leaf → List Value → Prop
  | [], [] => True
  | l :: ls, v :: vs => l.holds w v ∧ AllL w ls vs
  | _, _ => False

def onlyBases : List Leaf → Option (List Base)
  | [] => some []
  | .base b :: ls => (onlyBases ls).map (b :: ·)
  | .row _ :: _ => none

def shapeFs (P : Program) (sh : TypeId → Option (List Leaf)) : Nat → List Field → Option (List Leaf)
  | _, [] => some []
  | off, f :: fs => (sh f.type).bind fun ls => if f.offset = off ∧ ls.length = P.cellsOf f.type then (shapeFs P sh (off + ls.length) fs).map (ls ++ ·) else none

/-- A type's cells, by kind. -/
def shape (P : Program) : Nat → TypeId → Option (List Leaf)
  | 0, _ => none
  | n + 1, t => match P.underlying t with
    | some .bool => some [.base .bool]
    | some (.int k) => some [.base (.int k)]
    | some (.slice e) => ((shape P n e).bind onlyBases).bind fun bs => if bs.length = P.cellsOf e then some [.row bs] else none
    | some (.struct fs) => (shapeFs P (shape P n) 0 fs.toList).bind fun ls => if ls.length = P.cellsOf t then some ls else none
    | some (.array m e) => (shape P n e).bind fun ls => if ls.length = P.cellsOf e ∧ m * ls.length = P.cellsOf t then some (List.replicate m ls).flatten else none
    | _ => none

section
variable {H : Type} {enc : TypeId × Value → H} {P : Program} {w : World} {base : Nat} {spare : Nat → Bool} {held : Bool}

theorem AllL_append {ls rs : List Leaf} : ∀ {xs : List Value}, AllL w ls (xs.take ls.length) → AllL w rs (xs.drop ls.length) → AllL w (ls ++ rs) xs := by
  induction ls with
  | nil => intro xs _ h; simpa using h
  | cons l ls ih =>
    intro xs h h'
    cases xs with
    | nil => simp [AllL] at h
    | cons v xs =>
      simp only [List.length_cons, List.take_succ_cons, List.drop_succ_cons, AllL, List.cons_append] at h h' ⊢
      exact ⟨h.1, ih h.2 h'⟩

theorem AllL_bases {ls : List Leaf} : ∀ {bs : List Base} {cs : List Value}, onlyBases ls = some bs → AllL w ls cs → AllB bs cs ∧ bs.length = ls.length := by
  induction ls with
  | nil =>
    intro bs cs h hl
    simp only [onlyBases, Option.some.injEq] at h
    subst h
    cases cs with
    | nil => exact ⟨trivial, rfl⟩
    | cons => exact hl.elim
  | cons l ls ih =>
    intro bs cs h hl
    cases l with
    | row e => simp [onlyBases] at h
    | base b =>
      simp only [onlyBases, Option.map_eq_some_iff] at h
      obtain ⟨bs', h1, rfl⟩ := h
      cases cs with
      | nil => exact hl.elim
      | cons v cs =>
        obtain ⟨h2, h3⟩ := ih h1 hl.2
        exact ⟨⟨hl.1, h2⟩, by simp [h3]⟩

theorem shape_fs {sh : TypeId → Option (List Leaf)} {tr : TypeId → List Value → Prop} (hsh : ∀ t ls cs, sh t = some ls → tr t cs → AllL w ls cs) :
    ∀ (fs : List Field) (off : Nat) (ls : List Leaf) (cs : List Value), shapeFs P sh off fs = some ls → (∀ f ∈ fs, tr f.type ((cs.drop f.offset).take (P.cellsOf f.type))) → cs.length = off + ls.length → AllL w ls (cs.drop off)
  | [], off, ls, cs, h, _, hl => by
    simp only [shapeFs, Option.some.injEq] at h
    subst h
    have : cs.drop off = [] := List.drop_eq_nil_of_le (by simp at hl; omega)
    rw [this]; trivial
  | f :: fs, off, ls, cs, h, htr, hl => by
    simp only [shapeFs, Option.bind_eq_some_iff] at h
    obtain ⟨l1, h1, h2⟩ := h
    split at h2
    · rename_i hc
      obtain ⟨hoff, hlen⟩ := hc
      simp only [Option.map_eq_some_iff] at h2
      obtain ⟨l2, h3, rfl⟩ := h2
      have ha := hsh _ _ _ h1 (htr f List.mem_cons_self)
      rw [hoff, ← hlen] at ha
      have hb := shape_fs hsh fs _ _ cs h3 (fun g hg => htr g (List.mem_cons_of_mem _ hg)) (by simp at hl; omega)
      refine AllL_append ha ?_
      rwa [List.drop_drop]
    · cases h2

theorem shape_array {ls : List Leaf} {k : Nat} (hk : ls.length = k) : ∀ (m : Nat) (cs : List Value), cs.length = m * k → (∀ i, i < m → AllL w ls ((cs.drop (i * k)).take k)) → AllL w (List.replicate m ls).flatten cs
  | 0, cs, hl, _ => by
    have : cs = [] := List.eq_nil_of_length_eq_zero (by simpa using hl)
    subst this; simp [AllL]
  | m + 1, cs, hl, h => by
    rw [List.replicate_succ, List.flatten_cons]
    refine AllL_append ?_ ?_
    · have := h 0 (by omega)
      rw [hk]; simpa using this
    · refine shape_array hk m _ (by rw [List.length_drop, hl, hk, Nat.succ_mul]; omega) (fun i hi => ?_)
      have := h (i + 1) (by omega)
      rw [hk, List.drop_drop]
      rwa [show k + i * k = (i + 1) * k by rw [Nat.succ_mul]; omega]

theorem shape_trod : ∀ (n : Nat) (t : TypeId) (ls : List Leaf) (cs : List Value), shape P n t = some ls → (∃ fuel x, DataW.trod enc P w base spare held fuel t cs = some x) → AllL w ls cs
  | 0, _, _, _, h, _ => by simp [shape] at h
  | n + 1, t, ls, cs, h, ⟨fuel, x, hx⟩ => by
    have ih := shape_trod n
    unfold shape at h
    split at h
    · rename_i ht
      cases h
      obtain ⟨b, rfl, _⟩ := DataW.trod_bool ht hx
      exact ⟨⟨b, rfl⟩, trivial⟩
    · rename_i k ht
      cases h
      obtain ⟨q, rfl, _, hw⟩ := DataW.trod_int ht hx
      exact ⟨⟨q, rfl, hw⟩, trivial⟩
    · rename_i e ht
      simp only [Option.bind_eq_some_iff] at h
      obtain ⟨bs, ⟨l1, h1, h2⟩, h3⟩ := h
      split at h3
      · rename_i hbl
        cases h3
        rcases DataW.trod_slice ht hx with ⟨rfl, _⟩ | ⟨a, len, cap, elems, rest, m, _, rfl, _, hb, hlc, hcm, hlen, hel, _⟩
        · exact ⟨.inl rfl, trivial⟩
        · refine ⟨.inr ⟨a, len, cap, rfl, hlc, hcm, fun i hi => ?_⟩, trivial⟩
          have h4 := hel i hi
          rw [List.getElem?_eq_getElem (by omega)] at h4
          obtain ⟨ecs, h5, h6⟩ := Option.bind_eq_some_iff.1 h4
          have h7 := ih e l1 ecs h1 ⟨_, _, h6⟩
          obtain ⟨_, hl5, hc5⟩ := World.cells?_some h5
          refine ⟨ecs, (AllL_bases h2 h7).1, fun j v hj => ?_⟩
          have hjl : j < ecs.length := (List.getElem?_eq_some_iff.1 hj).1
          have h8 := hc5 j (by omega)
          rw [hbl, ← Go.Deep.add_add, h8, hj]
      · cases h3
    · rename_i fs ht
      simp only [Option.bind_eq_some_iff] at h
      obtain ⟨l1, h1, h2⟩ := h
      split at h2
      · rename_i hlen
        cases h2
        obtain ⟨xs, m, _, _, hcl, hxl, hall⟩ := DataW.trod_struct ht hx
        have := shape_fs (P := P) (w := w) (sh := shape P n) (tr := fun t cs => ∃ fuel x, DataW.trod enc P w base spare held fuel t cs = some x) (fun t ls cs h1 h2 => ih t ls cs h1 h2) fs.toList 0 ls cs h1
          (fun f hf => by
            obtain ⟨i, hi, rfl⟩ := List.getElem_of_mem hf
            have hi' : i < fs.size := by simpa using hi
            have h3 := hall i fs[i] (by simp [hi'])
            refine ⟨m, xs[i]'(by omega), ?_⟩
            simp only [Array.getElem_toList]
            rw [h3, List.getElem?_eq_getElem]) (by simp; omega)
        simpa using this
      · cases h2
    · rename_i m e ht
      simp only [Option.bind_eq_some_iff] at h
      obtain ⟨l1, h1, h2⟩ := h
      split at h2
      · rename_i hlen
        cases h2
        obtain ⟨xs, q, _, _, hcl, hxl, hall⟩ := DataW.trod_array ht hx
        refine shape_array hlen.1 m cs (by rw [hcl, ← hlen.2, hlen.1]) (fun i hi => ?_)
        refine ih e l1 _ h1 ⟨q, xs[i]'(by omega), ?_⟩
        rw [hall i hi, List.getElem?_eq_getElem]
      · cases h2
    · cases h

/-- A struct's or an array's argument. -/
theorem open_rows {t : TypeId} {r : Reach} {b0 : Nat} {v : Value} {d : DataW H} {p : List MemPlace} {ls : List Leaf} (n : Nat) (hag : (match P.underlying t with | some (.struct _) | some (.array _ _) => true | _ => false) = true)
    (hs : shape P n t = some ls) (hv : Value.okWide P w r b0 t v) (h : DataW.Trod enc P w base spare held t v d p) : ∃ cs : List Value, v = .agg cs.toArray ∧ AllL w ls cs := by
  obtain ⟨fuel, hf⟩ := h
  have ha := shape_trod n t ls v.cells.toList hs ⟨fuel, _, hf⟩
  have hv' : ∃ cs, v = .agg cs := by
    simp only [Value.okWide] at hv
    cases hu : P.underlying t with
    | none => rw [hu] at hag; simp at hag
    | some u =>
      rw [hu] at hag hv
      cases u <;> simp at hag <;> exact ⟨_, hv.choose_spec.1⟩
  obtain ⟨cs, rfl⟩ := hv'
  exact ⟨cs.toList, rfl, by simpa [Value.cells] using ha⟩
/-- A slice's argument. -/
theorem open_slice_row {t e : TypeId} {r : Reach} {b0 : Nat} {v : Value} {d : DataW H} {p : List MemPlace} {bs : List Base} (n : Nat) (ht : P.underlying t = some (.slice e))
    (hs : shape P n t = some [.row bs]) (hv : Value.okWide P w r b0 t v) (h : DataW.Trod enc P w base spare held t v d p) : (Leaf.row bs).holds w v := by
  obtain ⟨fuel, hf⟩ := h
  obtain ⟨a, len, cap, rfl⟩ := okWide_slice ht hv
  have ha := shape_trod n t _ (Value.slice a len cap).cells.toList hs ⟨fuel, _, hf⟩
  simp only [Value.cells, AllL] at ha
  exact ha.1
end

theorem AllL_cons {w : World} {l : Leaf} {ls : List Leaf} {cs : List Value} (h : AllL w (l :: ls) cs) : ∃ v vs, cs = v :: vs ∧ l.holds w v ∧ AllL w ls vs := by
  cases cs with
  | nil => exact h.elim
  | cons v vs => exact ⟨v, vs, rfl, h⟩
theorem AllL_nil {w : World} {cs : List Value} (h : AllL w [] cs) : cs = [] := by
  cases cs with
  | nil => rfl
  | cons v vs => exact h.elim
theorem AllB_cons {l : Base} {ls : List Base} {cs : List Value} (h : AllB (l :: ls) cs) : ∃ v vs, cs = v :: vs ∧ l.holds v ∧ AllB ls vs := by
  cases cs with
  | nil => exact h.elim
  | cons v vs => exact ⟨v, vs, rfl, h⟩
theorem AllB_nil {cs : List Value} (h : AllB [] cs) : cs = [] := by
  cases cs with
  | nil => rfl
  | cons v vs => exact h.elim
theorem two_ints {w : World} {k0 k1 : IntKind} {cs : List Value} (h : AllL w [.base (.int k0), .base (.int k1)] cs) : ∃ a b, cs = [.int k0 a, .int k1 b] ∧ (Lit.int k0 a).wf = true ∧ (Lit.int k1 b).wf = true := by
  obtain ⟨_, _, rfl, ⟨a, rfl, ha⟩, h1⟩ := AllL_cons h
  obtain ⟨_, _, rfl, ⟨b, rfl, hb⟩, h2⟩ := AllL_cons h1
  obtain rfl := AllL_nil h2
  exact ⟨a, b, rfl, ha, hb⟩
theorem three_ints {w : World} {k0 k1 k2 : IntKind} {cs : List Value} (h : AllL w [.base (.int k0), .base (.int k1), .base (.int k2)] cs) : ∃ a b c, cs = [.int k0 a, .int k1 b, .int k2 c] ∧ (Lit.int k0 a).wf = true ∧ (Lit.int k1 b).wf = true ∧ (Lit.int k2 c).wf = true := by
  obtain ⟨_, _, rfl, ⟨a, rfl, ha⟩, h1⟩ := AllL_cons h
  obtain ⟨_, _, rfl, ⟨b, rfl, hb⟩, h2⟩ := AllL_cons h1
  obtain ⟨_, _, rfl, ⟨c, rfl, hc⟩, h3⟩ := AllL_cons h2
  obtain rfl := AllL_nil h3
  exact ⟨a, b, c, rfl, ha, hb, hc⟩
/-- From 'for every i < n there is an x' to one list. -/
theorem list_of {α : Type} {p : Nat → α → Prop} : ∀ (n : Nat), (∀ i, i < n → ∃ x, p i x) → ∃ xs : List α, xs.length = n ∧ ∀ i (h : i < xs.length), p i xs[i]
  | 0, _ => ⟨[], rfl, fun i h => by simp at h⟩
  | n + 1, h => by
    obtain ⟨xs, hl, hp⟩ := list_of n (fun i hi => h i (by omega))
    obtain ⟨x, hx⟩ := h n (by omega)
    refine ⟨xs ++ [x], by simp [hl], fun i hi => ?_⟩
    by_cases hin : i < xs.length
    · rw [List.getElem_append_left hin]; exact hp i hin
    · have : i = n := by simp at hi; omega
      subst this
      rw [List.getElem_append_right (by omega)]
      simpa [hl] using hx

/-- A slice that came in, as a list: 'enc x' are an element's cells. -/
def RowOf {α : Type} (enc : α → List Value) (size : Nat) (w : World) (a : Option Addr) (xs : List α) : Prop :=
  ∀ i (h : i < xs.length), ∃ x, a = some x ∧ ∀ j v, (enc xs[i])[j]? = some v → w.cell? (x.add (i * size + j)) = some v
theorem RowOf.below {α : Type} {enc : α → List Value} {size : Nat} {w w' : World} {a : Option Addr} {xs : List α} {B : Nat} (h : RowOf enc size w a xs) (hb : Below B w w') (hB : w.heap.size ≤ B) : RowOf enc size w' a xs := by
  intro i hi
  obtain ⟨x, ha, hc⟩ := h i hi
  refine ⟨x, ha, fun j v hj => ?_⟩
  have h1 := hc j v hj
  have h2 := cell_lt h1
  rw [hb.cell (by omega)]; exact h1
theorem RowOf.quiet {α : Type} {enc : α → List Value} {size : Nat} {w w' : World} {a : Option Addr} {xs : List α} (h : RowOf enc size w a xs) (hb : Below w.heap.size w w') : RowOf enc size w' a xs := h.below hb (Nat.le_refl _)
theorem RowOf.block_lt {α : Type} {enc : α → List Value} {size : Nat} {w : World} {a : Addr} {xs : List α} (h : RowOf enc size w (some a) xs) (hi : 0 < xs.length) (he : (enc xs[0])[0]?.isSome) : a.block < w.heap.size := by
  obtain ⟨x, ha, hc⟩ := h 0 hi
  cases ha
  obtain ⟨v, hv⟩ := Option.isSome_iff_exists.1 he
  have := cell_lt (hc 0 v hv)
  simpa using this

theorem rows_of {α : Type} {w : World} {e : List Base} {v : Value} (enc : α → List Value) (ok : α → Prop) (h : (Leaf.row e).holds w v) (hr : ∀ cs, AllB e cs → ∃ x, cs = enc x ∧ ok x) :
    ∃ (a : Option Addr) (cap : Nat) (xs : List α), v = .slice a xs.length cap ∧ RowOf enc e.length w a xs ∧ (∀ x ∈ xs, ok x) ∧ xs.length ≤ cap ∧ cap ≤ maxLen ∧ (a = none → cap = 0) := by
  rcases h with rfl | ⟨a, len, cap, rfl, hl, hm, hc⟩
  · exact ⟨none, 0, [], rfl, (fun i hi => by simp at hi), (fun x hx => by simp at hx), Nat.le_refl _, Nat.zero_le _, fun _ => rfl⟩
  · obtain ⟨xs, hxl, hxs⟩ := list_of (p := fun i x => ok x ∧ ∀ j v, (enc x)[j]? = some v → w.cell? (a.add (i * e.length + j)) = some v) len (fun i hi => by
      obtain ⟨cs, hcs, hcell⟩ := hc i hi
      obtain ⟨x, rfl, hx⟩ := hr cs hcs
      exact ⟨x, hx, hcell⟩)
    refine ⟨some a, cap, xs, by rw [hxl], fun i hi => ⟨a, rfl, (hxs i hi).2⟩, fun x hx => ?_, by omega, hm, fun h => by cases h⟩
    obtain ⟨i, hi, rfl⟩ := List.getElem_of_mem hx
    exact (hxs i hi).1

/-- A number's cells. -/
def encI (k : IntKind) (n : Int) : List Value := [.int k n]
def wfI (k : IntKind) (n : Int) : Prop := (Lit.int k n).wf = true
theorem ints_of {w : World} {k : IntKind} {v : Value} (h : (Leaf.row [.int k]).holds w v) : ∃ (a : Option Addr) (cap : Nat) (xs : List Int), v = .slice a xs.length cap ∧ RowOf (encI k) 1 w a xs ∧ (∀ x ∈ xs, wfI k x) ∧ xs.length ≤ cap ∧ cap ≤ maxLen ∧ (a = none → cap = 0) :=
  rows_of (encI k) (wfI k) h (fun cs hcs => by
    match cs, hcs with
    | [v], ⟨⟨n, hn, hw⟩, _⟩ => exact ⟨n, by rw [hn]; rfl, hw⟩)
theorem RowOf.int_at {k : IntKind} {w : World} {a : Option Addr} {xs : List Int} (h : RowOf (encI k) 1 w a xs) {i : Nat} (hi : i < xs.length) : ∃ x, a = some x ∧ w.cell? (x.add i) = some (.int k xs[i]) := by
  obtain ⟨x, ha, hc⟩ := h i hi
  exact ⟨x, ha, by have := hc 0 _ rfl; simpa using this⟩
def encB (b : Bool) : List Value := [.bool b]
theorem bools_of {w : World} {v : Value} (h : (Leaf.row [.bool]).holds w v) : ∃ (a : Option Addr) (cap : Nat) (xs : List Bool), v = .slice a xs.length cap ∧ RowOf encB 1 w a xs ∧ xs.length ≤ cap ∧ cap ≤ maxLen ∧ (a = none → cap = 0) := by
  obtain ⟨a, cap, xs, h1, h2, _, h3⟩ := rows_of encB (fun _ => True) h (fun cs hcs => by
    match cs, hcs with
    | [v], ⟨⟨n, hn⟩, _⟩ => exact ⟨n, by rw [hn]; rfl, trivial⟩)
  exact ⟨a, cap, xs, h1, h2, h3⟩
theorem RowOf.bool_at {w : World} {a : Option Addr} {xs : List Bool} (h : RowOf encB 1 w a xs) {i : Nat} (hi : i < xs.length) : ∃ x, a = some x ∧ w.cell? (x.add i) = some (.bool xs[i]) := by
  obtain ⟨x, ha, hc⟩ := h i hi
  exact ⟨x, ha, by have := hc 0 _ rfl; simpa using this⟩
end Go.Proofs.Ythonhbciileomaa.Read
end

section
/- A slice that the call itself lets grow, as a list. -/
set_option linter.unusedVariables false
set_option linter.unusedSimpArgs false
namespace Go.Proofs.Ythonhbciileomaa.Grow
open Go.RowKit Go.Proofs.Ythonhbciileomaa.TK Go.Proofs.Ythonhbciileomaa.Read
variable {α : Type} {P : Program}

/-- An element type's row of the table. -/
def Elem (P : Program) (T : TypeId) (z : Value) (size bytes : Nat) : Prop := (P.info? T).map (fun i => (i.zero, i.size, i.bytes)) = some (some z, size, bytes)
/-- v owns the list xs, among the blocks from B on. -/
def Grow (w : World) (B : Nat) (T : TypeId) (size : Nat) (enc : α → List Value) (v : Value) (xs : List α) : Prop := w.ownsRow B T size v xs.length (xs.flatMap enc)
theorem Grow.nil (w : World) (B : Nat) (T : TypeId) (size : Nat) (enc : α → List Value) : Grow w B T size enc (.slice none 0 0) [] := World.ownsRow_nil _ _ _ _
section
variable {w w' : World} {B : Nat} {T : TypeId} {size : Nat} {enc : α → List Value} {v : Value} {xs : List α} {S : List Nat}
theorem Grow.kept (h : Grow w B T size enc v xs) (hk : Kept S w w') (hS : ∀ i ∈ S, i < B) : Grow w' B T size enc v xs := by
  refine ⟨h.1, ?_⟩
  rcases h.2 with h2 | ⟨g, cap, cur, hv, hg, hh, h3⟩
  · exact .inl h2
  · refine .inr ⟨g, cap, cur, hv, hg, ?_, h3⟩
    rw [hk.block g (lt_of_block hh) (fun hm => by have := hS g hm; omega)]
    exact hh
theorem Grow.quiet (h : Grow w B T size enc v xs) (hb : Below w.heap.size w w') : Grow w' B T size enc v xs := h.kept (Kept.of_below hb []) (by simp)
theorem Grow.mono {B' : Nat} (h : Grow w B T size enc v xs) (hB : B' ≤ B) : Grow w B' T size enc v xs := by
  refine ⟨h.1, ?_⟩
  rcases h.2 with h2 | ⟨g, cap, cur, hv, hg, h3⟩
  · exact .inl h2
  · exact .inr ⟨g, cap, cur, hv, by omega, h3⟩
theorem own_le {n : Nat} {ys : List Value} (h : w.ownsRow B T size v n ys) : ∀ k, v.ownBlock = some k → B ≤ k := by
  intro k hk
  rcases h.2 with ⟨rfl, _⟩ | ⟨g, cap, cur, rfl, hg, _⟩
  · simp [Value.ownBlock] at hk
  · simp [Value.ownBlock] at hk; omega
theorem flat_get {enc : α → List Value} {size : Nat} (henc : ∀ x, (enc x).length = size) : ∀ (xs : List α) (i j : Nat) (h : i < xs.length), j < size → (xs.flatMap enc)[i * size + j]? = (enc xs[i])[j]?
  | [], i, j, h, _ => by simp at h
  | x :: xs, 0, j, h, hj => by
    rw [List.flatMap_cons, List.getElem?_append_left (by rw [henc]; omega)]
    simp
  | x :: xs, i + 1, j, h, hj => by
    rw [List.flatMap_cons, List.getElem?_append_right (by rw [henc, Nat.succ_mul]; omega), henc]
    rw [show (i + 1) * size + j - size = i * size + j by rw [Nat.succ_mul]; omega]
    exact flat_get henc xs i j (by simpa using h) hj
/-- The list, as one that came in. -/
theorem Grow.row (h : Grow w B T size enc v xs) (henc : ∀ x, (enc x).length = size) : ∃ a cap, v = .slice a xs.length cap ∧ RowOf enc size w a xs ∧ (a = none → cap = 0) ∧ (∀ x, a = some x → B ≤ x.block ∧ x.block < w.heap.size) := by
  rcases h.2 with ⟨rfl, h0⟩ | ⟨g, cap, cur, rfl, hg, hh, _, _, _, htake⟩
  · refine ⟨none, 0, by rw [h0], fun i hi => by omega, fun _ => rfl, fun x hx => by cases hx⟩
  · refine ⟨_, cap, rfl, fun i hi => ⟨_, rfl, fun j u hj => ?_⟩, (fun h => by cases h), fun x hx => by cases hx; exact ⟨hg, lt_of_block hh⟩⟩
    have hj3 : j < size := by have := (List.getElem?_eq_some_iff.1 hj).1; rwa [henc] at this
    have e1 : (⟨g, 0, none⟩ : Addr).add (i * size + j) = ⟨g, i * size + j, none⟩ := by unfold Addr.add; split <;> simp_all
    have hB : Blk w g cur.toList T := by unfold Blk; simpa using hh
    rw [e1, hB.cell]
    rw [← flat_get henc xs i j hi hj3, ← htake] at hj
    rw [List.getElem?_take] at hj
    split at hj
    · exact hj
    · cases hj
/-- A shorter one. -/
theorem Grow.take {a : Option Addr} {cap : Nat} (h : Grow w B T size enc (.slice a xs.length cap) xs) (henc : ∀ x, (enc x).length = size) (n : Nat) (hn : n ≤ xs.length) : Grow w B T size enc (.slice a n cap) (xs.take n) := by
  have hf : ∀ ys : List α, (ys.flatMap enc).length = ys.length * size := by
    intro ys
    induction ys with
    | nil => simp
    | cons y ys ih => rw [List.flatMap_cons, List.length_append, henc, ih, List.length_cons, Nat.succ_mul]; omega
  have hl : (xs.take n).length = n := by simp; omega
  refine ⟨hf _, ?_⟩
  rw [hl]
  rcases h.2 with ⟨h1, h0⟩ | ⟨g, cap', cur, h1, hg, hh, hc, hm, hs, htake⟩
  · simp only [Value.slice.injEq] at h1
    obtain ⟨rfl, _, rfl⟩ := h1
    exact .inl ⟨by rw [show n = 0 by omega], by omega⟩
  · cases h1
    refine .inr ⟨g, cap, cur, rfl, hg, hh, by omega, hm, hs, ?_⟩
    have h2 : (xs.take n).flatMap enc = (xs.flatMap enc).take (n * size) := by
      have h3 : xs.flatMap enc = (xs.take n).flatMap enc ++ (xs.drop n).flatMap enc := by rw [← List.flatMap_append, List.take_append_drop]
      have h4 : ((xs.take n).flatMap enc).length = n * size := by rw [hf, hl]
      rw [h3, ← h4, List.take_left]
    rw [h2, ← htake, List.take_take, Nat.min_eq_left (Nat.mul_le_mul_right _ hn)]
end
/-- 'append(l, x)': x has been laid in a block of its own. -/
theorem app_one {w : World} {B : Nat} {T S : TypeId} {z : Value} {size bytes : Nat} {enc : α → List Value} {v : Value} {xs : List α} (x : α) {U : TypeId} {cs : Array Value}
    (hG : Grow w B T size enc v xs) (hE : Elem P T z size bytes) (hS : P.underlying S = some (.slice T)) (hzs : z.cells.size = size) (hsz : 0 < size) (hbz : bytes ≤ 1000)
    {ops : Array Oper} {rest : List Oper} {o : Oper} {a : Act} {Q : Exit → Act → World → Prop}
    (hgd : o.guard = none) (s x' : Operand) (ho : o.op = .call { callee := .builtin .append, args := #[s, x'], argTypes := #[S, S] }) (hs : a.eval s = v) (hx : a.eval x' = .slice (some ⟨w.heap.size, 0, none⟩) 1 1)
    (hc : cs.toList = enc x) (hl : (enc x).length = size) (h1 : ∀ u ∈ enc x, u.oneCell' = true) (hm : xs.length ≤ 1000000) (hB : B ≤ w.heap.size)
    (h : ∀ v' w', Grow w' B T size enc v' (xs ++ [x]) → Below B w w' → B ≤ w'.heap.size → wpList P ops Q rest (a.put o.dst v') w') :
    wpList P ops Q (o :: rest) a (w.alloc (.cells cs U)) := by
  obtain ⟨i0, hi, hz0, hz1, hz2⟩ := info_parts hE
  have hb1 : (xs.length + 1) * bytes ≤ 1000001 * 1000 := Nat.mul_le_mul (by omega) hbz
  refine wpList_append_own _ hgd s x' S ho B T i0 _ size bytes hS hi hz0 hz1 hz2 hzs hsz v xs.length (xs.flatMap enc) hs (World.ownsRow.alloc hG _) ⟨w.heap.size, 0, none⟩ 1 1 (enc x) hx (by rw [hl, Nat.one_mul]) ?_ h1 (by unfold maxLen; omega) (by omega) (by simp; omega) ?_
  · intro j u hj
    have hb : Blk (w.alloc (.cells cs U)) w.heap.size cs.toList U := by
      have := Blk.new w cs.toList U
      simpa using this
    have e1 : (⟨w.heap.size, 0, none⟩ : Addr).add j = ⟨w.heap.size, j, none⟩ := by unfold Addr.add; split <;> simp_all
    rw [e1, hb.cell j, hc]
    exact hj
  · intro v' w' hown hgrow _
    have hb : Below B w w' := ((Below.refl B w).alloc hB _).grown hgrow (by simp; omega) (own_le hG)
    refine h v' w' ?_ hb (Nat.le_trans hB hb.size)
    unfold Grow
    rw [List.length_append, List.flatMap_append]
    simpa using hown
/-- 'append(l, more...)': those lie in a row. -/
theorem app_row {w : World} {B : Nat} {T S : TypeId} {z : Value} {size bytes : Nat} {enc : α → List Value} {v : Value} {xs : List α} (ys : List α) {ad : Addr} {c : Nat}
    (hG : Grow w B T size enc v xs) (hE : Elem P T z size bytes) (hS : P.underlying S = some (.slice T)) (hzs : z.cells.size = size) (hsz : 0 < size) (hbz : bytes ≤ 1000)
    {ops : Array Oper} {rest : List Oper} {o : Oper} {a : Act} {Q : Exit → Act → World → Prop}
    (hgd : o.guard = none) (s x' : Operand) (ho : o.op = .call { callee := .builtin .append, args := #[s, x'], argTypes := #[S, S] }) (hs : a.eval s = v) (hx : a.eval x' = .slice (some ad) ys.length c)
    (hr : RowOf enc size w (some ad) ys) (hl : ∀ x, (enc x).length = size) (h1 : ∀ x, ∀ u ∈ enc x, u.oneCell' = true) (hm : xs.length ≤ 500000) (hm' : ys.length ≤ 500000) (hB : B ≤ w.heap.size)
    (h : ∀ v' w', Grow w' B T size enc v' (xs ++ ys) → Below B w w' → B ≤ w'.heap.size → wpList P ops Q rest (a.put o.dst v') w') :
    wpList P ops Q (o :: rest) a w := by
  obtain ⟨i0, hi, hz0, hz1, hz2⟩ := info_parts hE
  have hb1 : (xs.length + ys.length) * bytes ≤ 1000000 * 1000 := Nat.mul_le_mul (by omega) hbz
  have hf : ∀ zs : List α, (zs.flatMap enc).length = zs.length * size := by
    intro zs
    induction zs with
    | nil => simp
    | cons y zs ih => rw [List.flatMap_cons, List.length_append, hl, ih, List.length_cons, Nat.succ_mul]; omega
  refine wpList_append_own _ hgd s x' S ho B T i0 _ size bytes hS hi hz0 hz1 hz2 hzs hsz v xs.length (xs.flatMap enc) hs hG ad ys.length c (ys.flatMap enc) hx (hf ys) ?_ ?_ (by unfold maxLen; omega) (by omega) hB ?_
  · intro j u hj
    have hjl : j < ys.length * size := by have := (List.getElem?_eq_some_iff.1 hj).1; rwa [hf] at this
    have hq : j / size < ys.length := (Nat.div_lt_iff_lt_mul hsz).2 hjl
    have hr0 : j % size < size := Nat.mod_lt _ hsz
    have hj2 : j / size * size + j % size = j := by rw [Nat.mul_comm]; exact Nat.div_add_mod j size
    obtain ⟨x, hx0, hcell⟩ := hr (j / size) hq
    cases hx0
    have h3 := flat_get hl ys (j / size) (j % size) hq hr0
    rw [hj2] at h3
    have := hcell (j % size) u (by rw [← h3]; exact hj)
    rwa [hj2] at this
  · intro u hu
    obtain ⟨x, _, hx2⟩ := List.mem_flatMap.1 hu
    exact h1 x u hx2
  · intro v' w' hown hgrow _
    have hb : Below B w w' := (Below.refl B w).grown hgrow hB (own_le hG)
    refine h v' w' ?_ hb (Nat.le_trans hB hb.size)
    unfold Grow
    rw [List.length_append, List.flatMap_append]
    exact hown
end Go.Proofs.Ythonhbciileomaa.Grow
end

section
/- A list of words that a call owns; slices.Clone at []uint64. -/
set_option maxRecDepth 100000
set_option linter.unusedVariables false
set_option linter.unusedSimpArgs false
namespace Go.Proofs.Ythonhbciileomaa.Words
open Go.RowKit Go.Proofs.Ythonhbciileomaa.TK Go.Proofs.Ythonhbciileomaa.Flag

def u64s (xs : List Int) : List Value := xs.map (Value.int .u64)
theorem u64s_length (xs : List Int) : (u64s xs).length = xs.length := by simp [u64s]
theorem u64s_get (xs : List Int) (i : Nat) (h : i < xs.length) : (u64s xs)[i]? = some (.int .u64 xs[i]) := by simp [u64s, h]

/-- The slice value v holds the words xs, in block g (no block: it is nil). -/
def Holds (w : World) (v : Value) (g : Nat) (xs : List Int) : Prop :=
  ∃ (cap : Nat) (spare : List Value), v = .slice (some ⟨g, 0, none⟩) xs.length cap ∧ xs.length ≤ cap ∧ Blk w g (u64s xs ++ spare) 22
theorem Holds.cell {w : World} {v : Value} {g : Nat} {xs : List Int} (h : Holds w v g xs) (i : Nat) (hi : i < xs.length) : w.cell? ⟨g, i, none⟩ = some (.int .u64 xs[i]) := by
  obtain ⟨cap, spare, _, _, hb⟩ := h
  rw [hb.cell i, List.getElem?_append_left (by simpa [u64s] using hi)]
  exact u64s_get xs i hi
theorem Holds.frozen {w : World} {v : Value} {g : Nat} {xs : List Int} (h : Holds w v g xs) (i : Nat) : w.frozen? ⟨g, i, none⟩ = false := by
  obtain ⟨cap, spare, _, _, hb⟩ := h
  exact hb.frozen i

theorem of_own {w : World} {base : Nat} {v : Value} {xs : List Int} {n : Nat} (hn : n = xs.length) (h : w.ownsRow base 22 1 v n (u64s xs)) (hne : v ≠ .slice none 0 0) : ∃ g, base ≤ g ∧ Holds w v g xs := by
  obtain ⟨h1, h2⟩ := h
  rcases h2 with ⟨rfl, _⟩ | ⟨g, cap, cur, rfl, hg, hh, hcap, hmax, hsz, htake⟩
  · exact absurd rfl hne
  · subst hn
    refine ⟨g, hg, cap, cur.toList.drop xs.length, rfl, hcap, ?_⟩
    have e : u64s xs ++ cur.toList.drop xs.length = cur.toList := by
      rw [← htake, Nat.mul_one, List.take_append_drop]
    unfold Blk
    rw [e]
    simpa using hh

theorem info64 : (Try.prog.info? 22).map (fun i => (i.zero, i.size, i.bytes)) = some (some (.int .u64 0), 1, 8) := by kernel_rfl

set_option maxHeartbeats 2000000
end Go.Proofs.Ythonhbciileomaa.Words
end

section
/- Contracts of the layout. -/
set_option maxRecDepth 100000
set_option linter.unusedVariables false
set_option linter.unusedSimpArgs false
namespace Go.Proofs.Ythonhbciileomaa.Layout
open Go.RowKit Go.Proofs.Ythonhbciileomaa.TK

/-- A word's number within rows. -/
def placeN (is : Bool) (first n many each field fields : Int) : Int :=
  if is = true ∧ 0 ≤ n ∧ n < many ∧ 0 ≤ field ∧ field < fields then first + n * each + field else -1

/-- The configs that may be. -/
def Right (p t g : Int) : Prop := 1 ≤ p ∧ p ≤ 64 ∧ p ≤ t ∧ t ≤ 256 ∧ 1 ≤ g ∧ g ≤ 65536
instance (p t g : Int) : Decidable (Right p t g) := by unfold Right; infer_instance

theorem right_run (p t g : Int) (w : World) :
    Calls Try.prog 17 #[.agg #[.int .i64 p, .int .i64 t, .int .i64 g]] w fun e w' => e = .returned (.bool (decide (Right p t g))) ∧ Below w.heap.size w w' := by
  go_enter Try.func17, Try.ntmps17
  go_wp2
  all_goals (go_ret; refine ⟨?_, below_one _ _⟩; unfold Right; first | exact ret_dec (by omega) | exact ret_yes (by omega) | exact ret_no (by omega))

theorem rright_run (p t g : Int) (w : World) :
    Calls Try.prog 7 #[.agg #[.int .i64 p, .int .i64 t, .int .i64 g]] w fun e w' => e = .returned (.bool (decide (Right p t g))) ∧ Below w.heap.size w w' := by
  go_enter Try.func7, Try.ntmps7
  go_wp2
  all_goals (go_ret; refine ⟨?_, below_one _ _⟩; unfold Right; first | exact ret_dec (by omega) | exact ret_yes (by omega) | exact ret_no (by omega))

/-- A layout of a config. -/
def layCells (p t g : Int) : List Value := [.int .i64 p, .int .i64 t, .int .i64 g, .int .i64 (20 + p * 264), .int .i64 (20 + p * 264 + t * 3), .int .i64 (20 + p * 264 + t * 3 + g * 2)]
end Go.Proofs.Ythonhbciileomaa.Layout
end

section
/- Contracts of the layout: the words of processors, rings, threads, goroutines, locks. -/
set_option maxRecDepth 100000
set_option linter.unusedVariables false
set_option linter.unusedSimpArgs false
namespace Go.Proofs.Ythonhbciileomaa.Layout
open Go.RowKit Go.Proofs.Ythonhbciileomaa.TK

theorem cfg_field0 (a b c : Int) (w : World) : (Instr.field 24 (.agg #[.int .i64 a, .int .i64 b, .int .i64 c]) 0).run Try.prog w = .ok (.int .i64 a) w := by kernel_rfl
theorem cfg_field1 (a b c : Int) (w : World) : (Instr.field 24 (.agg #[.int .i64 a, .int .i64 b, .int .i64 c]) 1).run Try.prog w = .ok (.int .i64 b) w := by kernel_rfl
theorem cfg_field2 (a b c : Int) (w : World) : (Instr.field 24 (.agg #[.int .i64 a, .int .i64 b, .int .i64 c]) 2).run Try.prog w = .ok (.int .i64 c) w := by kernel_rfl

/-- One of the scheduler's words. -/
def wordN (k : Int) : Int := if 6 ≤ k ∧ k ≤ 19 then k else -1
end Go.Proofs.Ythonhbciileomaa.Layout
end
