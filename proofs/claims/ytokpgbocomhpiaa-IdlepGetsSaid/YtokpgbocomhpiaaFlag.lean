/- A region whose order is open, walked once in the order of the text, with a class of worlds for each set of operations that have come up: whatever order the tape picks, the frame at the end is the lexical walk's and the world is of the last class. Conditions: each operation yields one value in every world of every class in which it may come up; what it looks at is written by operations that it waits for. -/
import Derived.Test.YtokpgbocomhpiaaKit
import Derived.Still
import Derived.Deep.Draws
import Derived.Tactics2
set_option linter.unusedVariables false
set_option linter.unusedSimpArgs false
namespace Go.Proofs.Ytokpgbocomhpiaa.Flag
variable {P : Program} {ops : Array Oper} {md : Region.Mode}

/-- What an operation is asked once it has run: the value v, and a world of the class D behind it. -/
def upon (P : Program) (D : World → Prop) (v : Value) : Result Next → Prop
  | .ok (.value u) w' => D w' ∧ u = v
  | .ok .skip w' => D w' ∧ v = undef
  | .ok (.enter f args) w' => Calls P f args w' (fun e w'' => e = .returned v ∧ D w'')
  | _ => False
def opAt (P : Program) (o : Oper) (a : Act) (D : World → Prop) (w : World) (v : Value) : Prop := upon P D v ((execOp a.eval o).run P w)

/-- Place k is bound by place j, through others, too. -/
inductive Reach (md : Region.Mode) (ops : Array Oper) : Nat → Nat → Prop
  | one {k : Nat} {o : Oper} {e : Edge} (ho : ops[k]? = some o) (he : e ∈ o.after) (hb : Region.binds md e = true) : Reach md ops k e.on
  | more {k j : Nat} {o : Oper} {e : Edge} (ho : ops[k]? = some o) (he : e ∈ o.after) (hb : Region.binds md e = true) (hr : Reach md ops e.on j) : Reach md ops k j

def addTo (s : List Nat) (x : Nat) : List Nat := if s.contains x then s else x :: s
/-- All places that bind an operation, off the lists of those ahead of it. -/
def bindsOf (md : Region.Mode) (acc : List (List Nat)) : List Edge → List Nat → List Nat
  | [], s => s
  | e :: es, s => bindsOf md acc es (if Region.binds md e then (e.on :: acc.getD e.on []).foldl addTo s else s)
def befs (md : Region.Mode) : List Oper → List (List Nat) → List (List Nat)
  | [], acc => acc
  | o :: rest, acc => befs md rest (acc ++ [bindsOf md acc o.after.toList []])
def bef (md : Region.Mode) (ops : Array Oper) : List (List Nat) := befs md ops.toList []

theorem mem_addTo (s : List Nat) (x y : Nat) (h : y ∈ addTo s x) : y = x ∨ y ∈ s := by
  unfold addTo at h
  split at h
  · exact .inr h
  · simpa using h
theorem mem_foldl_addTo : ∀ (l s : List Nat) (y : Nat), y ∈ l.foldl addTo s → y ∈ l ∨ y ∈ s
  | [], _, _, h => .inr h
  | x :: l, s, y, h => by
    rcases mem_foldl_addTo l _ y h with h1 | h1
    · exact .inl (List.mem_cons_of_mem _ h1)
    · rcases mem_addTo _ _ _ h1 with rfl | h2
      · exact .inl List.mem_cons_self
      · exact .inr h2
theorem mem_bindsOf (acc : List (List Nat)) : ∀ (es : List Edge) (s : List Nat) (y : Nat), y ∈ bindsOf md acc es s → y ∈ s ∨ ∃ e ∈ es, Region.binds md e = true ∧ (y = e.on ∨ y ∈ acc.getD e.on [])
  | [], _, _, h => .inl h
  | e :: es, s, y, h => by
    rcases mem_bindsOf acc es _ y h with h1 | ⟨e', he', hb, hy⟩
    · split at h1
      · rename_i hb
        rcases mem_foldl_addTo _ _ _ h1 with h2 | h2
        · exact .inr ⟨e, List.mem_cons_self, hb, by simpa using h2⟩
        · exact .inl h2
      · exact .inl h1
    · exact .inr ⟨e', List.mem_cons_of_mem _ he', hb, hy⟩
theorem befs_sound : ∀ (l : List Oper) (acc : List (List Nat)), (∀ j, l[j]? = ops[acc.length + j]?) → (∀ k j, j ∈ acc.getD k [] → Reach md ops k j) → ∀ k j, j ∈ (befs md l acc).getD k [] → Reach md ops k j
  | [], _, _, h => h
  | o :: l, acc, hl, h => by
    refine befs_sound l _ (fun j => by have := hl (j + 1); simpa [Nat.add_assoc, Nat.add_comm 1 j] using this) (fun k j hj => ?_)
    have ho : ops[acc.length]? = some o := by simpa using (hl 0).symm
    rcases Nat.lt_trichotomy k acc.length with hk | hk | hk
    · refine h k j ?_
      simpa [List.getElem?_append_left hk] using hj
    · subst hk
      have hj' : j ∈ bindsOf md acc o.after.toList [] := by simpa using hj
      rcases mem_bindsOf _ _ _ _ hj' with h0 | ⟨e, he, hb, rfl | hy⟩
      · cases h0
      · exact .one ho (by simpa using he) hb
      · exact .more ho (by simpa using he) hb (h _ _ hy)
    · exfalso
      have : (acc ++ [bindsOf md acc o.after.toList []])[k]? = none := List.getElem?_eq_none (by simp; omega)
      simp [this] at hj
theorem bef_sound (k j : Nat) (h : j ∈ (bef md ops).getD k []) : Reach md ops k j :=
  befs_sound ops.toList [] (by simp) (by simp) k j h

/-- What is known of place j where place k comes up. -/
def known (B : List (List Nat)) (k j : Nat) : Option Bool :=
  if (B.getD k []).contains j then some true else if j == k || (B.getD j []).contains k then some false else none

def expand : List (Option Bool) → List (List Bool)
  | [] => [[]]
  | some b :: l => (expand l).map (b :: ·)
  | none :: l => (expand l).map (false :: ·) ++ (expand l).map (true :: ·)

def poss (md : Region.Mode) (ops : Array Oper) (ix : List Nat) (k : Nat) : List (List Bool) := expand (ix.map (known (bef md ops) k))
def came (ix : List Nat) (k : Nat) (bs : List Bool) : List Bool := List.zipWith (fun j b => b || j == k) ix bs

theorem mem_expand : ∀ (ks : List (Option Bool)) (bs : List Bool), bs.length = ks.length → (∀ (p : Nat) b, ks[p]? = some (some b) → bs[p]? = some b) → bs ∈ expand ks
  | [], [], _, _ => by simp [expand]
  | some b :: ks, c :: bs, hl, h => by
    have h0 := h 0 b rfl
    simp at h0
    subst h0
    simp only [expand, List.mem_map]
    exact ⟨bs, mem_expand ks bs (by simpa using hl) (fun p d hp => by have := h (p + 1) d (by simpa using hp); simpa using this), rfl⟩
  | none :: ks, c :: bs, hl, h => by
    have hm := mem_expand ks bs (by simpa using hl) (fun p d hp => by have := h (p + 1) d (by simpa using hp); simpa using this)
    simp only [expand, List.mem_append, List.mem_map]
    cases c
    · exact .inl ⟨bs, hm, rfl⟩
    · exact .inr ⟨bs, hm, rfl⟩

/-- Where a place has come up, so have all that bind it. -/
def closed (md : Region.Mode) (ops : Array Oper) (L : Array Bool) : Prop :=
  ∀ j o, ops[j]? = some o → L.getD j true = true → ∀ e ∈ o.after, Region.binds md e = true → L.getD e.on true = true

theorem getD_true_of_false {L : Array Bool} {j : Nat} (h : L.getD j false = true) : L.getD j true = true := by
  rcases Nat.lt_or_ge j L.size with h' | h'
  · simpa [h'] using h
  · simp [Array.getElem?_eq_none h']
theorem getD_set_same (L : Array Bool) (i : Nat) : (L.setIfInBounds i true).getD i true = true := by
  rcases Nat.lt_or_ge i L.size with h' | h'
  · simp [h']
  · simp [Array.getElem?_eq_none h']
theorem closed_step {L : Array Bool} {i : Nat} (h : closed md ops L) (hi : i ∈ Region.ready md ops L) : closed md ops (L.setIfInBounds i true) := by
  intro j o hj hL e he hb
  by_cases hei : i = e.on
  · rw [← hei]; exact getD_set_same L i
  · rw [getD_set_ne true hei]
    by_cases hij : i = j
    · subst hij
      obtain ⟨_, o', ho', hall⟩ := mem_ready.1 hi
      rw [hj] at ho'
      cases ho'
      exact getD_true_of_false (hall e he hb)
    · rw [getD_set_ne true hij] at hL
      exact h j o hj hL e he hb

theorem reach_true {L : Array Bool} (hc : closed md ops L) {k j : Nat} (h : Reach md ops k j) : L.getD k true = true → L.getD j true = true := by
  induction h with
  | one ho he hb => exact fun hk => hc _ _ ho hk _ he hb
  | more ho he hb _ ih => exact fun hk => ih (hc _ _ ho hk _ he hb)

/-- From the place that may come up: all that binds it has come up. -/
theorem reach_ready {L : Array Bool} (hc : closed md ops L) {k j : Nat} (hk : k ∈ Region.ready md ops L) (h : Reach md ops k j) : L.getD j true = true := by
  obtain ⟨_, o', ho', hall⟩ := mem_ready.1 hk
  cases h with
  | one ho he hb =>
    rw [ho'] at ho
    cases ho
    exact getD_true_of_false (hall _ he hb)
  | more ho he hb hr =>
    rw [ho'] at ho
    cases ho
    exact reach_true hc hr (getD_true_of_false (hall _ he hb))

def at_ (ix : List Nat) (L : Array Bool) : List Bool := ix.map (fun j => L.getD j true)

theorem at_poss {L : Array Bool} (hc : closed md ops L) {k : Nat} (hk : k ∈ Region.ready md ops L) (ix : List Nat) : at_ ix L ∈ poss md ops ix k := by
  refine mem_expand _ _ (by simp [at_]) (fun p b hp => ?_)
  simp only [at_, List.getElem?_map] at hp ⊢
  cases hj : ix[p]? with
  | none => simp [hj] at hp
  | some j =>
    simp only [hj, Option.map_some, Option.some.injEq] at hp ⊢
    unfold known at hp
    split at hp
    · rename_i h1
      cases hp
      exact reach_ready hc hk (bef_sound _ _ (by simpa using h1))
    · split at hp
      · rename_i h2
        cases hp
        have h0 := (mem_ready.1 hk).1
        simp only [Bool.or_eq_true, beq_iff_eq, List.contains_eq_mem, decide_eq_true_eq] at h2
        rcases h2 with rfl | h2
        · exact h0
        · cases hb : L.getD j true with
          | false => rfl
          | true => rw [reach_true hc (bef_sound _ _ h2) hb] at h0; cases h0
      · cases hp

theorem at_set {L : Array Bool} (ix : List Nat) (k : Nat) : at_ ix (L.setIfInBounds k true) = came ix k (at_ ix L) := by
  unfold at_ came
  induction ix with
  | nil => rfl
  | cons j ix ih =>
    simp only [List.map_cons, List.zipWith_cons_cons, ih, List.cons.injEq, and_true]
    by_cases hjk : k = j
    · subst hjk; simp [getD_set_same]
    · rw [getD_set_ne true hjk]
      have : (j == k) = false := by simpa using (fun h => hjk h.symm)
      simp [this]

/-- What is asked of an operation, by the classes D. -/
def calmD (P : Program) (md : Region.Mode) (ops : Array Oper) (ix : List Nat) (D : List Bool → World → Prop) (k : Nat) (o : Oper) (a : Act) (v : Value) : Prop :=
  (Region.wanted o (yielded ops a.tmps) = true ∧ ∀ bs ∈ poss md ops ix k, ∀ w, D bs w → opAt P o a (D (came ix k bs)) w v) ∨
  (Region.wanted o (yielded ops a.tmps) = false ∧ v = undef ∧ ∀ bs ∈ poss md ops ix k, ∀ w, D bs w → D (came ix k bs) w)

def walkD (P : Program) (md : Region.Mode) (ops : Array Oper) (ix : List Nat) (D : List Bool → World → Prop) (Q : Act → Prop) : List Oper → Nat → Act → Prop
  | [], _, a => Q a
  | o :: rest, k, a => ∃ v, calmD P md ops ix D k o a v ∧ walkD P md ops ix D Q rest (k + 1) (a.put o.dst v)

/-! ### The frame in which just the operations of a set have left their values -/

/-- The values of those operations that 'on' names, laid into the frame in the order of the text. -/
def laid (on : Nat → Bool) : List Oper → List Value → Nat → Act → Act
  | o :: l, v :: vs, k, a => laid on l vs (k + 1) (if on k then a.put o.dst v else a)
  | _, _, _, a => a

theorem laid_none {on : Nat → Bool} : ∀ (l : List Oper) (vs : List Value) (k : Nat) (a : Act), (∀ j, k ≤ j → on j = false) → laid on l vs k a = a
  | [], _, _, _, _ => rfl
  | _ :: _, [], _, _, _ => rfl
  | o :: l, v :: vs, k, a, h => by
    simp only [laid, h k (Nat.le_refl _)]
    exact laid_none l vs (k + 1) a (fun j hj => h j (by omega))
theorem laid_congr {on on' : Nat → Bool} : ∀ (l : List Oper) (vs : List Value) (k : Nat) (a : Act), (∀ j, k ≤ j → j < k + l.length → on j = on' j) → laid on l vs k a = laid on' l vs k a
  | [], _, _, _, _ => rfl
  | _ :: _, [], _, _, _ => rfl
  | o :: l, v :: vs, k, a, h => by
    simp only [laid, h k (Nat.le_refl _) (by simp)]
    exact laid_congr l vs (k + 1) _ (fun j hj hj' => h j (by omega) (by simp; omega))

/-- What a temporary holds hangs on those alone that write it. -/
theorem laid_tmp {on on' : Nat → Bool} (t : Tmp) : ∀ (l : List Oper) (vs : List Value) (k : Nat) (a a' : Act), a.tmps[t]? = a'.tmps[t]? → a.tmps.size = a'.tmps.size →
    (∀ j o, l[j]? = some o → o.dst = some t → on (k + j) = on' (k + j)) → (laid on l vs k a).tmps[t]? = (laid on' l vs k a').tmps[t]?
  | [], _, _, _, _, h, _, _ => h
  | _ :: _, [], _, _, _, h, _, _ => h
  | o :: l, v :: vs, k, a, a', h, hs, hon => by
    have hput : ∀ (x : Act) (d : Option Tmp) (u : Value), (x.put d u).tmps.size = x.tmps.size := fun x d u => by cases d <;> simp [Act.put]
    have hgo := fun (x x' : Act) (hx : x.tmps[t]? = x'.tmps[t]?) (hxs : x.tmps.size = x'.tmps.size) =>
      laid_tmp (on := on) (on' := on') t l vs (k + 1) x x' hx hxs (fun j o' hj hd => by have := hon (j + 1) o' (by simpa using hj) hd; simpa [Nat.add_assoc, Nat.add_comm 1 j] using this)
    simp only [laid]
    by_cases hd : o.dst = some t
    · have h0 := hon 0 o rfl hd
      simp only [Nat.add_zero] at h0
      rw [h0]
      split
      · refine hgo _ _ ?_ (by rw [hput, hput, hs])
        rw [hd]
        simp only [Act.put, Array.getElem?_setIfInBounds, if_true, hs]
      · exact hgo _ _ h hs
    · have hkeep : ∀ (x : Act), (x.put o.dst v).tmps[t]? = x.tmps[t]? := fun x => by
        cases ho : o.dst with
        | none => rfl
        | some d =>
          have hne : d ≠ t := fun e => hd (by rw [ho, e])
          simp [Act.put, Array.getElem?_setIfInBounds_ne hne]
      refine hgo _ _ ?_ ?_
      · split <;> split <;> simp only [hkeep, h]
      · split <;> split <;> simp only [hput, hs]

/-- A value laid first or last is the same, where nothing behind writes its temporary. -/
theorem laid_put {on : Nat → Bool} (d : Option Tmp) (u : Value) : ∀ (l : List Oper) (vs : List Value) (k : Nat) (a : Act),
    (∀ j o, l[j]? = some o → on (k + j) = true → ∀ t, d = some t → o.dst ≠ some t) → laid on l vs k (a.put d u) = (laid on l vs k a).put d u
  | [], _, _, _, _ => rfl
  | _ :: _, [], _, _, _ => rfl
  | o :: l, v :: vs, k, a, h => by
    have ih := fun x => laid_put (on := on) d u l vs (k + 1) x (fun j o' hj hon => h (j + 1) o' (by simpa using hj) (by simpa [Nat.add_assoc, Nat.add_comm 1 j] using hon))
    simp only [laid]
    split
    · rename_i hon
      rw [Act.put_comm a u v (fun t ht => h 0 o rfl (by simpa using hon) t ht)]
      exact ih _
    · exact ih _

/-- One operation more. -/
theorem laid_one {on : Nat → Bool} {i : Nat} (hi : on i = false) {oi : Oper} {vi : Value} : ∀ (l : List Oper) (vs : List Value) (k : Nat) (a : Act), k ≤ i → l[i - k]? = some oi → vs[i - k]? = some vi →
    (∀ j o, l[j]? = some o → i < k + j → on (k + j) = true → ∀ t, oi.dst = some t → o.dst ≠ some t) →
    laid (fun j => on j || j == i) l vs k a = (laid on l vs k a).put oi.dst vi
  | [], _, _, _, _, h, _, _ => by simp at h
  | _ :: _, [], _, _, _, _, h, _ => by simp at h
  | o :: l, v :: vs, k, a, hk, h1, h2, h3 => by
    simp only [laid]
    by_cases hki : k = i
    · subst hki
      simp only [Nat.sub_self, List.getElem?_cons_zero, Option.some.injEq] at h1 h2
      subst h1
      subst h2
      simp only [beq_self_eq_true, Bool.or_true, if_true, hi]
      have hoff : ∀ j, k + 1 ≤ j → j < k + 1 + l.length → (on j || j == k) = on j := fun j hj _ => by
        have hjk : (j == k) = false := beq_eq_false_iff_ne.2 (by omega)
        rw [hjk, Bool.or_false]
      rw [laid_congr (on := fun j => on j || j == k) (on' := on) l vs (k + 1) _ hoff]
      exact laid_put _ _ l vs (k + 1) a (fun j o' hj hon => h3 (j + 1) o' (by simpa using hj) (by omega) (by simpa [Nat.add_assoc, Nat.add_comm 1 j] using hon))
    · have hb : (k == i) = false := by simpa using hki
      simp only [hb, Bool.or_false]
      have hs : i - k = (i - (k + 1)) + 1 := by omega
      rw [hs] at h1 h2
      exact laid_one hi l vs (k + 1) _ (by omega) (by simpa using h1) (by simpa using h2) (fun j o' hj hlt hon => h3 (j + 1) o' (by simpa using hj) (by omega) (by simpa [Nat.add_assoc, Nat.add_comm 1 j] using hon))

/-- The lexical walk's values. -/
theorem walkD_vals {ix : List Nat} {D : List Bool → World → Prop} {Q : Act → Prop} : ∀ (l : List Oper) (k : Nat) (a : Act), walkD P md ops ix D Q l k a →
    ∃ vs : List Value, vs.length = l.length ∧ (∀ j o v, l[j]? = some o → vs[j]? = some v → calmD P md ops ix D (k + j) o (laid (fun m => decide (m < k + j)) l vs k a) v) ∧ Q (laid (fun _ => true) l vs k a)
  | [], _, a, h => ⟨[], rfl, fun j o v hj => by simp at hj, h⟩
  | o :: l, k, a, ⟨v, hc, h⟩ => by
    obtain ⟨vs, hl, hall, hQ⟩ := walkD_vals l (k + 1) _ h
    refine ⟨v :: vs, by simp [hl], fun j o' v' hj hv => ?_, by simpa [laid] using hQ⟩
    cases j with
    | zero =>
      simp only [List.getElem?_cons_zero, Option.some.injEq] at hj hv
      subst hj
      subst hv
      rw [laid_none _ _ _ _ (fun m hm => by simpa using hm)]
      exact hc
    | succ j =>
      simp only [List.getElem?_cons_succ] at hj hv
      have h1 := hall j o' v' hj hv
      have hk : decide (k < k + (j + 1)) = true := by simp
      simp only [laid, hk, if_true]
      rw [Nat.add_right_comm k 1 j] at h1
      exact h1

/-! ### Any order -/

/-- Ahead of place k, or apart from it: 'j' behind 'k' waits for it, or neither looks at what the other writes. -/
theorem lex_pairs {fuel : Nat} : ∀ (k : Nat) (L : Array Bool), L.size = ops.size → (∀ j, j < ops.size → L.getD j true = decide (j < k)) → Region.lexFrom md ops fuel k L = true → k + fuel = ops.size →
    ∀ i j oi oj, k ≤ i → i < j → ops[i]? = some oi → ops[j]? = some oj → (∃ e ∈ oj.after, Region.binds md e = true ∧ e.on = i) ∨ oi.apart ops oj = true := by
  induction fuel with
  | zero =>
    intro k L hs hL hB hk i j oi oj hki hij hi hj
    have := (Array.getElem?_eq_some_iff.1 hj).1
    omega
  | succ fuel ih =>
    intro k L hs hL hB hk i j oi oj hki hij hi hj
    simp only [Region.lexFrom, Bool.and_eq_true] at hB
    obtain ⟨⟨_, hf⟩, hB'⟩ := hB
    have hjs := (Array.getElem?_eq_some_iff.1 hj).1
    by_cases hik : i = k
    · subst hik
      by_cases hw : ∃ e ∈ oj.after, Region.binds md e = true ∧ e.on = i
      · exact .inl hw
      · exact .inr (Region.free_spec hi hf j oj hj (by omega) (by rw [hL j hjs]; simp; omega) (fun e he hb heq => hw ⟨e, he, hb, heq⟩))
    · refine ih (k + 1) (L.setIfInBounds k true) (by simp [hs]) (fun m hm => ?_) hB' (by omega) i j oi oj (by omega) hij hi hj
      by_cases hmk : k = m
      · subst hmk
        rw [getD_set_same]; simp
      · rw [getD_set_ne true hmk, hL m hm]
        congr 1
        simp; omega

/-- How many have not come up. -/
def rest (ops : Array Oper) (L : Array Bool) : Nat := ((List.range ops.size).filter (fun k => !L.getD k true)).length

theorem rest_less {L : Array Bool} {i : Nat} (hi : i ∈ Region.ready md ops L) : rest ops (L.setIfInBounds i true) < rest ops L := by
  obtain ⟨h0, o, ho, _⟩ := mem_ready.1 hi
  have hlt : i < ops.size := (Array.getElem?_eq_some_iff.1 ho).1
  have he : (List.range ops.size).filter (fun k => !(L.setIfInBounds i true).getD k true) = ((List.range ops.size).filter (fun k => !L.getD k true)).filter (fun k => k != i) := by
    rw [List.filter_filter]
    refine List.filter_congr (fun k _ => ?_)
    by_cases hk : i = k
    · subst hk; rw [getD_set_same]; simp
    · rw [getD_set_ne true hk]
      have : (k != i) = true := by simpa using fun e => hk e.symm
      simp [this]
  unfold rest
  rw [he]
  refine List.length_filter_lt_length_iff_exists.2 ⟨i, ?_, by simp⟩
  rw [List.mem_filter, List.mem_range]
  exact ⟨hlt, by rw [h0]; rfl⟩

theorem ready_of_rest {L : Array Bool} (h : rest ops L = 0) : Region.ready md ops L = [] := by
  rw [List.eq_nil_iff_forall_not_mem]
  intro i hi
  have := rest_less hi
  omega

/-- Where none may come up any more, all have (each waits for places ahead of it alone). -/
theorem all_came {L : Array Bool} (hac : ∀ i o, ops[i]? = some o → ∀ e ∈ o.after, Region.binds md e = true → e.on < i) (hr : Region.ready md ops L = []) : ∀ (n j : Nat), j < n → j < ops.size → L.getD j true = true
  | 0, j, h, _ => by omega
  | n + 1, j, h, hj => by
    by_cases hjn : j < n
    · exact all_came hac hr n j hjn hj
    · refine Classical.byContradiction fun hx => ?_
      have hx' : L.getD j true = false := by simpa using hx
      obtain ⟨o, ho⟩ : ∃ o, ops[j]? = some o := ⟨ops[j], Array.getElem?_eq_getElem hj⟩
      have hjL : j < L.size := by
        rcases Nat.lt_or_ge j L.size with h' | h'
        · exact h'
        · simp [Array.getElem?_eq_none h'] at hx'
      have hm : j ∈ Region.ready md ops L := mem_ready.2 ⟨hx', o, ho, fun e he hb => by
        have h1 := hac j o ho e he hb
        have h2 := all_came hac hr n e.on (by omega) (by omega)
        have h4 : e.on < L.size := by omega
        simpa [h4] using h2⟩
      rw [hr] at hm
      cases hm

theorem step_calm {i : Nat} {o : Oper} {a : Act} {v : Value} {K' : Act → World → Prop} {Q' : Exit → Act → World → Prop} {ix : List Nat} {D : List Bool → World → Prop} {bs : List Bool} {w : World}
    (ho : ops[i]? = some o) (hb : bs ∈ poss md ops ix i) (hD : D bs w) (hc : calmD P md ops ix D i o a v) (h : ∀ w', D (came ix i bs) w' → K' (a.put o.dst v) w') : wpOp P ops Q' i K' a w := by
  unfold wpOp
  simp only [ho]
  rcases hc with ⟨hw, hv⟩ | ⟨hw, rfl, hv⟩
  · rw [if_pos hw]
    left
    have h3 := hv bs hb w hD
    unfold opAt at h3
    unfold Oper.wp
    cases hr : (execOp a.eval o).run P w with
    | ok n w' =>
      rw [hr] at h3
      cases n <;> simp only [upon] at h3 <;> simp only [Oper.upon]
      case value u => rw [h3.2]; exact h _ h3.1
      case skip => rw [← h3.2]; exact h _ h3.1
      case enter f args => exact h3.mono fun e w'' hh => by rw [hh.1]; exact h _ hh.2
    | halt x w' => rw [hr] at h3; simp only [upon] at h3
  · rw [if_neg (by simp [hw])]
    exact h _ (hv bs hb w hD)

/-- **The region, by the classes D**: it begins in the class where none of 'ix' has come up, and ends in that where all have; one walk of the order of the text serves every order. -/
theorem wp_region_D {id : Nat} {Q : Exit → Act → World → Prop} {a : Act} {w : World} {l : List Oper} (ix : List Nat) (D : List Bool → World → Prop) (hm : P.follows .mixedOrders = true) (hB : Region.lexB .any l.toArray = true)
    (hix : ix.all (· < l.length) = true) (hac : (List.range l.length).all (fun i => ((l.toArray[i]?).map (fun o => o.after.toList.all (fun e => !Region.binds .any e || e.on < i))).getD true) = true)
    (hD : D (ix.map fun _ => false) w.drew)
    (h : walkD P .any l.toArray ix D (fun a' => ∀ w', D (ix.map fun _ => true) w' → Q .normal a' w') l 0 a) : (Code.region id l.toArray true).wp P Q a w := by
  simp only [Region.lexB, Bool.and_eq_true] at hB
  obtain ⟨hns, hlex⟩ := hB
  obtain ⟨vs, hvl, hcalm, hQ⟩ := walkD_vals l 0 a h
  have hacyc : ∀ i o, l.toArray[i]? = some o → ∀ e ∈ o.after, Region.binds .any e = true → e.on < i := by
    intro i o ho e he hb
    have hi : i < l.length := by have := (Array.getElem?_eq_some_iff.1 ho).1; simpa using this
    have h1 := List.all_eq_true.1 hac i (by simpa using hi)
    rw [ho] at h1
    simp only [Option.map_some, Option.getD_some] at h1
    have h2 := List.all_eq_true.1 h1 e (by simpa using he)
    simpa [hb] using h2
  have hpair := lex_pairs (md := .any) (ops := l.toArray) 0 (Array.replicate l.toArray.size false) (by simp) (fun j hj => by simp at hj; simp [hj]) hlex (by simp)
  have key : ∀ (fuel : Nat) (L : Array Bool) (w' : World), rest l.toArray L ≤ fuel → closed .any l.toArray L → D (at_ ix L) w' →
      wpAny P .any l.toArray Q fuel L (laid (fun j => L.getD j true) l vs 0 a) w' := by
    have hend : ∀ (L : Array Bool) (w' : World), Region.ready .any l.toArray L = [] → D (at_ ix L) w' → Q .normal (laid (fun j => L.getD j true) l vs 0 a) w' := by
      intro L w' hr hD'
      have hall := all_came hacyc hr l.length
      have e1 : laid (fun j => L.getD j true) l vs 0 a = laid (fun _ => true) l vs 0 a :=
        laid_congr l vs 0 a (fun j _ hj => hall j (by simpa using hj) (by simpa using hj))
      rw [e1]
      refine hQ w' ?_
      have e2 : at_ ix L = ix.map fun _ => true := by
        unfold at_
        refine List.map_congr_left (fun j hj => ?_)
        have : j < l.length := by simpa using List.all_eq_true.1 hix j hj
        exact hall j this (by simpa using this)
      rw [← e2]; exact hD'
    have hgo : ∀ (L : Array Bool) (w' : World) (i : Nat) (K' : Act → World → Prop), closed .any l.toArray L → D (at_ ix L) w' → i ∈ Region.ready .any l.toArray L →
        (∀ w'', D (at_ ix (L.setIfInBounds i true)) w'' → K' (laid (fun j => (L.setIfInBounds i true).getD j true) l vs 0 a) w'') → wpOp P l.toArray Q i K' (laid (fun j => L.getD j true) l vs 0 a) w' := by
      intro L w' i K' hcl hD' hi hK
      obtain ⟨h0, o, ho, hpre⟩ := mem_ready.1 hi
      have hil : i < l.length := by have := (Array.getElem?_eq_some_iff.1 ho).1; simpa using this
      have ho' : l[i]? = some o := by simpa using ho
      obtain ⟨v, hv⟩ : ∃ v, vs[i]? = some v := ⟨vs[i]'(by omega), List.getElem?_eq_getElem _⟩
      have hc := hcalm i o v ho' hv
      rw [Nat.zero_add] at hc
      -- what it looks at is as in the order of the text
      have hsame : ∀ t, t ∈ o.looksAt l.toArray → (laid (fun j => L.getD j true) l vs 0 a).tmps[t]? = (laid (fun m => decide (m < i)) l vs 0 a).tmps[t]? := by
        intro t ht
        refine laid_tmp t l vs 0 a a rfl rfl (fun j oj hj hd => ?_)
        rw [Nat.zero_add]
        have hj' : l.toArray[j]? = some oj := by simpa using hj
        rcases Nat.lt_trichotomy j i with hji | hji | hji
        · rcases hpair j i oj o (Nat.zero_le _) hji hj' ho with ⟨e, he, hb, hon⟩ | hap
          · have h1 := getD_true_of_false (hpre e he hb)
            rw [hon] at h1
            simp only [h1, hji, decide_true]
          · exact absurd ht ((Oper.apart_spec hap).1 t hd)
        · subst hji
          simp only [h0]; simp
        · rcases hpair i j o oj (Nat.zero_le _) hji ho hj' with ⟨e, he, hb, hon⟩ | hap
          · have h1 : L.getD j true = false := by
              cases hLj : L.getD j true with
              | false => rfl
              | true => have h2 := hcl j oj hj' hLj e he hb; rw [hon, h0] at h2; cases h2
            simp only [h1]; simp; omega
          · exact absurd ht ((Oper.apart_spec hap).2.2 t hd)
      have hev : ∀ x ∈ o.op.operands, (laid (fun j => L.getD j true) l vs 0 a).eval x = (laid (fun m => decide (m < i)) l vs 0 a).eval x := by
        intro x hx
        cases x with
        | tmp t =>
          have ht : t ∈ o.looksAt l.toArray := List.mem_append_left _ (List.mem_filterMap.2 ⟨.tmp t, by simpa using hx, rfl⟩)
          have := hsame t ht
          show (laid _ l vs 0 a).tmps.getD t undef = (laid _ l vs 0 a).tmps.getD t undef
          rw [Array.getD_eq_getD_getElem?, Array.getD_eq_getD_getElem?, this]
        | _ => rfl
      have hex := execOp_congr o (fun cs b => Region.noSelect_spec hns i o cs b ho) hev
      have hwa : Region.wanted o (yielded l.toArray (laid (fun j => L.getD j true) l vs 0 a).tmps) = Region.wanted o (yielded l.toArray (laid (fun m => decide (m < i)) l vs 0 a).tmps) := by
        unfold Region.wanted
        cases hg : o.guard with
        | none => rfl
        | some gw =>
          obtain ⟨g, want⟩ := gw
          simp only
          congr 1
          unfold yielded
          cases ht : (l.toArray[g]?).bind (·.dst) with
          | none => rfl
          | some t =>
            have := hsame t (by simp only [Oper.looksAt, hg, ht]; simp)
            simp only [Option.bind_some]
            rw [this]
      have hc' : calmD P .any l.toArray ix D i o (laid (fun j => L.getD j true) l vs 0 a) v := by
        unfold calmD opAt at *
        rw [hex, hwa]
        exact hc
      refine step_calm ho (at_poss hcl hi ix) hD' hc' (fun w'' hw'' => ?_)
      rw [← at_set] at hw''
      have h2 := hK w'' hw''
      have e1 : laid (fun j => (L.setIfInBounds i true).getD j true) l vs 0 a = laid (fun j => L.getD j true || j == i) l vs 0 a :=
        laid_congr l vs 0 a (fun j _ _ => by
          by_cases hij : i = j
          · subst hij; rw [getD_set_same]; simp
          · rw [getD_set_ne true hij]
            have : (j == i) = false := by simpa using fun e => hij e.symm
            simp only [this, Bool.or_false])
      rw [e1, laid_one (on := fun j => L.getD j true) (i := i) h0 l vs 0 a (Nat.zero_le _) ho' hv (fun j oj hj hij hon t ht => ?_)] at h2
      · exact h2
      · rw [Nat.zero_add] at hij hon
        have hj' : l.toArray[j]? = some oj := by simpa using hj
        rcases hpair i j o oj (Nat.zero_le _) hij ho hj' with ⟨e, he, hb, hone⟩ | hap
        · have h3 := hcl j oj hj' hon e he hb
          rw [hone, h0] at h3
          cases h3
        · exact (Oper.apart_spec hap).2.1 t ht
    intro fuel
    induction fuel with
    | zero =>
      intro L w' hf hcl hD'
      have hr := ready_of_rest (md := .any) (by omega : rest l.toArray L = 0)
      exact ⟨hr, hend L w' hr hD'⟩
    | succ fuel ih =>
      intro L w' hf hcl hD'
      refine ⟨fun hr => hend L w' hr hD', fun i hi => hgo L w' i _ hcl hD' hi (fun w'' hw'' => ?_)⟩
      exact ih _ w'' (by have := rest_less hi; omega) (closed_step hcl hi) hw''
  refine wp_region_any hm ?_
  have hstart := key l.toArray.size (Array.replicate l.toArray.size false) w.drew
    (by unfold rest; exact Nat.le_trans (List.length_filter_le _ _) (by simp))
    (by
      intro j o hj hL
      have hj2 : j < l.toArray.size := (Array.getElem?_eq_some_iff.1 hj).1
      simp at hj2
      simp [hj2] at hL)
    (by
      have e : at_ ix (Array.replicate l.toArray.size false) = ix.map fun _ => false := by
        unfold at_
        refine List.map_congr_left (fun j hj => ?_)
        have : j < l.length := by simpa using List.all_eq_true.1 hix j hj
        simp [this]
      rw [e]; exact hD)
  have e0 : laid (fun j => (Array.replicate l.toArray.size false).getD j true) l vs 0 a = a := by
    rw [laid_congr (on' := fun _ => false) l vs 0 a (fun j _ hj => by simp at hj; simp [hj])]
    exact laid_none _ _ _ _ (fun _ _ => rfl)
  rw [e0] at hstart
  exact hstart

/-- A region whose order is the text's, from its place k on, by the classes D. -/
theorem wpList_D0 {Q : Exit → Act → World → Prop} {l : List Oper} (ix : List Nat) (D : List Bool → World → Prop)
    (hix : ix.all (· < l.length) = true) (hac : (List.range l.length).all (fun i => ((l.toArray[i]?).map (fun o => o.after.toList.all (fun e => !Region.binds .any e || e.on < i))).getD true) = true) :
    ∀ (r : List Oper) (k : Nat) (a : Act) (w : World), (∀ j, r[j]? = l[k + j]?) → k + r.length = l.length → D (ix.map fun j => decide (j < k)) w →
      walkD P .any l.toArray ix D (fun a' => ∀ w', D (ix.map fun _ => true) w' → Q .normal a' w') r k a → wpList P l.toArray Q r a w := by
  have hacyc : ∀ i o, l.toArray[i]? = some o → ∀ e ∈ o.after, Region.binds .any e = true → e.on < i := by
    intro i o ho e he hb
    have hi : i < l.length := by have := (Array.getElem?_eq_some_iff.1 ho).1; simpa using this
    have h1 := List.all_eq_true.1 hac i (by simpa using hi)
    rw [ho] at h1
    simp only [Option.map_some, Option.getD_some] at h1
    have h2 := List.all_eq_true.1 h1 e (by simpa using he)
    simpa [hb] using h2
  let L : Nat → Array Bool := fun k => (List.range l.length).map (fun j => decide (j < k)) |>.toArray
  have hL : ∀ k j, j < l.length → (L k).getD j true = decide (j < k) := by
    intro k j hj
    simp [L, hj]
  have hL2 : ∀ k j, l.length ≤ j → (L k).getD j true = true := by
    intro k j hj
    simp [L, Array.getElem?_eq_none, hj]
  have hcl : ∀ k, closed .any l.toArray (L k) := by
    intro k j o hj hjk e he hb
    have h1 := hacyc j o hj e he hb
    have h2 : j < l.length := by have := (Array.getElem?_eq_some_iff.1 hj).1; simpa using this
    rw [hL k j h2] at hjk
    rw [hL k e.on (by omega)]
    simp at hjk ⊢; omega
  have hready : ∀ k, k < l.length → k ∈ Region.ready .any l.toArray (L k) := by
    intro k hk
    refine mem_ready.2 ⟨by rw [hL k k hk]; simp, l[k], by simp [hk], fun e he hb => ?_⟩
    have h1 := hacyc k l[k] (by simp [hk]) e he hb
    have : e.on < l.length := by omega
    simp [L, this]; omega
  have hlen : ∀ j ∈ ix, j < l.length := fun j hj => by simpa using List.all_eq_true.1 hix j hj
  have hat : ∀ k, at_ ix (L k) = ix.map fun j => decide (j < k) := fun k => List.map_congr_left (fun j hj => hL k j (hlen j hj))
  have hset : ∀ k, k < l.length → at_ ix (L (k + 1)) = came ix k (at_ ix (L k)) := by
    intro k hk
    rw [← at_set]
    unfold at_
    refine List.map_congr_left (fun j _ => ?_)
    by_cases hkj : k = j
    · subst hkj; rw [getD_set_same, hL _ _ hk]; simp
    · rw [getD_set_ne true hkj]
      rcases Nat.lt_or_ge j l.length with hj | hj
      · rw [hL _ _ hj, hL _ _ hj]; congr 1; simp; omega
      · rw [hL2 _ _ hj, hL2 _ _ hj]
  intro r
  induction r with
  | nil =>
    intro k a w _ hk hD h
    refine wpList_nil (h w ?_)
    have e : (ix.map fun j => decide (j < k)) = ix.map fun _ => true := by
      refine List.map_congr_left (fun j hj => ?_)
      have := hlen j hj
      simp at hk ⊢; omega
    rw [← e]; exact hD
  | cons o r ih =>
    intro k a w hr hk hD ⟨v, hc, h⟩
    have hk' : k < l.length := by simp at hk; omega
    have ho : l[k]? = some o := by simpa using (hr 0).symm
    have ih' := fun w' hw' => ih (k + 1) (a.put o.dst v) w' (fun j => by have := hr (j + 1); simpa [Nat.add_assoc, Nat.add_comm 1 j] using this) (by simp at hk; omega) hw' h
    rw [← hat, hset k hk'] at ih'
    rw [← hat] at hD
    have hp := at_poss (hcl k) (hready k hk') ix
    rcases hc with ⟨hw, hv⟩ | ⟨hw, rfl, hv⟩
    · have h3 := hv _ hp w hD
      unfold opAt at h3
      refine wpList_step (fun K hK => ?_)
      rw [if_pos hw]
      unfold Oper.wp
      cases hrun : (execOp a.eval o).run P w with
      | ok n w' =>
        rw [hrun] at h3
        cases n <;> simp only [upon] at h3 <;> simp only [Oper.upon]
        case value u => rw [h3.2]; exact hK _ _ (ih' _ h3.1)
        case skip => rw [← h3.2]; exact hK _ _ (ih' _ h3.1)
        case enter f args => exact h3.mono fun e w'' hh => by rw [hh.1]; exact hK _ _ (ih' _ hh.2)
      | halt x w' => rw [hrun] at h3; simp only [upon] at h3
    · exact wpList_skip hw (ih' w (hv _ hp w hD))

/-- A region whose order is the text's, by the classes D. -/
theorem wp_region_D0 {id : Nat} {Q : Exit → Act → World → Prop} {a : Act} {w : World} {l : List Oper} (ix : List Nat) (D : List Bool → World → Prop)
    (hix : ix.all (· < l.length) = true) (hac : (List.range l.length).all (fun i => ((l.toArray[i]?).map (fun o => o.after.toList.all (fun e => !Region.binds .any e || e.on < i))).getD true) = true)
    (hD : D (ix.map fun _ => false) w)
    (h : walkD P .any l.toArray ix D (fun a' => ∀ w', D (ix.map fun _ => true) w' → Q .normal a' w') l 0 a) : (Code.region id l.toArray false).wp P Q a w := by
  refine wp_region_list ?_
  exact wpList_D0 ix D hix hac l 0 a w (by simp) (by simp) (by simpa using hD) h

/-! ### The steps of the walk -/
section
variable {ix : List Nat} {D : List Bool → World → Prop} {Q : Act → Prop} {o : Oper} {rest : List Oper} {k : Nat} {a : Act}
theorem expand_length : ∀ (ks : List (Option Bool)) (bs : List Bool), bs ∈ expand ks → bs.length = ks.length
  | [], bs, h => by simp [expand] at h; simp [h]
  | some b :: ks, bs, h => by
    simp only [expand, List.mem_map] at h
    obtain ⟨c, hc, rfl⟩ := h
    simp [expand_length ks c hc]
  | none :: ks, bs, h => by
    simp only [expand, List.mem_append, List.mem_map] at h
    rcases h with ⟨c, hc, rfl⟩ | ⟨c, hc, rfl⟩ <;> simp [expand_length ks c hc]
theorem came_none {ix : List Nat} {k : Nat} (hk : ix.contains k = false) : ∀ (bs : List Bool), bs.length = ix.length → came ix k bs = bs := by
  unfold came
  induction ix with
  | nil => intro bs h; simp at h; simp [h]
  | cons j ix ih =>
    intro bs h
    cases bs with
    | nil => simp at h
    | cons b bs =>
      simp only [List.contains_cons, Bool.or_eq_false_iff] at hk
      simp only [List.zipWith_cons_cons, List.cons.injEq]
      have : (j == k) = false := by
        have := hk.1
        simp only [beq_eq_false_iff_ne] at this ⊢
        exact fun e => this e.symm
      exact ⟨by simp [this], ih hk.2 bs (by simpa using h)⟩
theorem came_poss {ix : List Nat} {k : Nat} (hk : ix.contains k = false) {bs : List Bool} (h : bs ∈ poss md ops ix k) : came ix k bs = bs :=
  came_none hk bs (by have := expand_length _ _ h; simpa using this)
/-- An operation that its guard passes over. -/
theorem walkD_skip (hw : Region.wanted o (yielded ops a.tmps) = false) (hk : ix.contains k = false)
    (h : ∀ K : Act → Prop, (∀ a, walkD P md ops ix D Q rest (k + 1) a → K a) → K (a.put o.dst undef)) : walkD P md ops ix D Q (o :: rest) k a :=
  ⟨undef, .inr ⟨hw, rfl, fun bs hb w hD => by rw [came_poss hk hb]; exact hD⟩, h _ (fun _ h => h)⟩
/-- One that reckons, in whatever world. -/
theorem walkD_pure {v : Value} (hw : Region.wanted o (yielded ops a.tmps) = true) (hk : ix.contains k = false) (hr : ∀ w, (execOp a.eval o).run P w = .ok (.value v) w)
    (h : ∀ K : Act → Prop, (∀ a, walkD P md ops ix D Q rest (k + 1) a → K a) → K (a.put o.dst v)) : walkD P md ops ix D Q (o :: rest) k a :=
  ⟨v, .inl ⟨hw, fun bs hb w hD => by unfold opAt; rw [hr w]; exact ⟨by rw [came_poss hk hb]; exact hD, rfl⟩⟩, h _ (fun _ h => h)⟩
/-- One that reads. -/
theorem walkD_read {v : Value} (hw : Region.wanted o (yielded ops a.tmps) = true) (hk : ix.contains k = false) (hr : ∀ bs, bs ∈ poss md ops ix k → ∀ w, D bs w → (execOp a.eval o).run P w = .ok (.value v) w)
    (h : ∀ K : Act → Prop, (∀ a, walkD P md ops ix D Q rest (k + 1) a → K a) → K (a.put o.dst v)) : walkD P md ops ix D Q (o :: rest) k a :=
  ⟨v, .inl ⟨hw, fun bs hb w hD => by unfold opAt; rw [hr bs hb w hD]; exact ⟨by rw [came_poss hk hb]; exact hD, rfl⟩⟩, h _ (fun _ h => h)⟩
/-- One that turns the world (a store): a value or none. -/
theorem walkD_turn {v : Value} (hw : Region.wanted o (yielded ops a.tmps) = true) (hv : ∀ bs, bs ∈ poss md ops ix k → ∀ w, D bs w → opAt P o a (D (came ix k bs)) w v)
    (h : ∀ K : Act → Prop, (∀ a, walkD P md ops ix D Q rest (k + 1) a → K a) → K (a.put o.dst v)) : walkD P md ops ix D Q (o :: rest) k a :=
  ⟨v, .inl ⟨hw, hv⟩, h _ (fun _ h => h)⟩
/-- A call. -/
theorem walkD_call {v : Value} {f : FuncId} {args : Array Value} (hw : Region.wanted o (yielded ops a.tmps) = true) (hr : ∀ w, (execOp a.eval o).run P w = .ok (.enter f args) w)
    (hc : ∀ bs, bs ∈ poss md ops ix k → ∀ w, D bs w → Calls P f args w fun e w' => e = .returned v ∧ D (came ix k bs) w')
    (h : ∀ K : Act → Prop, (∀ a, walkD P md ops ix D Q rest (k + 1) a → K a) → K (a.put o.dst v)) : walkD P md ops ix D Q (o :: rest) k a :=
  ⟨v, .inl ⟨hw, fun bs hb w hD => by unfold opAt; rw [hr w]; exact hc bs hb w hD⟩, h _ (fun _ h => h)⟩
/-- A call at which all is known of what has come up. -/
theorem walkD_call1 {v : Value} {f : FuncId} {args : Array Value} (bs : List Bool) (hp : poss md ops ix k = [bs]) (hw : Region.wanted o (yielded ops a.tmps) = true) (hr : ∀ w, (execOp a.eval o).run P w = .ok (.enter f args) w)
    (hc : ∀ w, D bs w → Calls P f args w fun e w' => e = .returned v ∧ D (came ix k bs) w')
    (h : ∀ K : Act → Prop, (∀ a, walkD P md ops ix D Q rest (k + 1) a → K a) → K (a.put o.dst v)) : walkD P md ops ix D Q (o :: rest) k a :=
  walkD_call hw hr (fun b hb w hD => by rw [hp] at hb; obtain rfl := List.mem_singleton.1 hb; exact hc w hD) h
end
/-! ### Regions that turn nothing of what is known -/
section
open Go.RowKit Go.Proofs.Ytokpgbocomhpiaa.TK
variable {W w : World} {L : List (Nat × List Value × TypeId)} {l : List Oper} {a : Act} {Q : Exit → Act → World → Prop} {id : Nat}
theorem wp_region_I (HI : Inv W L w) (hm : P.follows .mixedOrders = true) (hB : Region.lexB .any l.toArray = true)
    (hac : (List.range l.length).all (fun i => ((l.toArray[i]?).map (fun o => o.after.toList.all (fun e => !Region.binds .any e || e.on < i))).getD true) = true)
    (h : walkD P .any l.toArray [] (fun _ w' => Inv W L w') (fun a' => ∀ w', Inv W L w' → Q .normal a' w') l 0 a) : (Code.region id l.toArray true).wp P Q a w :=
  wp_region_D [] (fun _ w' => Inv W L w') hm hB rfl hac HI.drew h
theorem wp_region_I0 (HI : Inv W L w)
    (hac : (List.range l.length).all (fun i => ((l.toArray[i]?).map (fun o => o.after.toList.all (fun e => !Region.binds .any e || e.on < i))).getD true) = true)
    (h : walkD P .any l.toArray [] (fun _ w' => Inv W L w') (fun a' => ∀ w', Inv W L w' → Q .normal a' w') l 0 a) : (Code.region id l.toArray false).wp P Q a w :=
  wp_region_D0 [] (fun _ w' => Inv W L w') rfl hac HI h
/-- The same in the midst of a region whose order is the text's: 'r' is what is left of it. -/
theorem wpList_I0 {r : List Oper} (HI : Inv W L w)
    (hac : (List.range l.length).all (fun i => ((l.toArray[i]?).map (fun o => o.after.toList.all (fun e => !Region.binds .any e || e.on < i))).getD true) = true)
    (hr : l.drop (l.length - r.length) = r) (hl : decide (r.length ≤ l.length) = true)
    (h : walkD P .any l.toArray [] (fun _ w' => Inv W L w') (fun a' => ∀ w', Inv W L w' → Q .normal a' w') r (l.length - r.length) a) : wpList P l.toArray Q r a w :=
  wpList_D0 [] (fun _ w' => Inv W L w') rfl hac r (l.length - r.length) a w (fun j => by
    have h1 : (l.drop (l.length - r.length))[j]? = l[l.length - r.length + j]? := List.getElem?_drop
    rw [← h1, hr]) (by have := of_decide_eq_true hl; omega) HI h
end
#print axioms wp_region_D
end Go.Proofs.Ytokpgbocomhpiaa.Flag
