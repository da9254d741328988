/- Texts of mine, laid into one: Sys, SysI, Mach, RefAt, Doc, FlowD. -/
import Derived.Test.YtnmkfmaohflejaaBase4
section
/- Routines as systems of states: what comes next, what follows an answer; a replay. -/
set_option maxRecDepth 100000
set_option maxHeartbeats 4000000
set_option linter.unusedVariables false
set_option linter.unusedSimpArgs false
namespace Go.Proofs.Ytnmkfmaohflejaa.Sys
open Go.RowKit Go.Shelf Go.Proofs.Ytnmkfmaohflejaa.TK Go.Proofs.Ytnmkfmaohflejaa.Flag Go.Proofs.Ytnmkfmaohflejaa.Read Go.Proofs.Ytnmkfmaohflejaa.Grow Go.Proofs.Ytnmkfmaohflejaa.Words Go.Proofs.Ytnmkfmaohflejaa.Mem Go.Proofs.Ytnmkfmaohflejaa.Run
/-- What comes next: an access, and whether one sleeps there. -/
structure Wnt where
  kind : Int
  at_ : Int
  old : Int
  new : Int
  slp : Bool
def Wnt.acc (W : Wnt) : Acc := ⟨W.kind, 0, W.at_, W.old, W.new, false⟩
structure Rsys (σ : Type) where
  want : σ → Option Wnt
  next : σ → Int → σ
variable {σ τ : Type} {M : Rsys σ} {M' : Rsys τ} {got : List Int}
/-- These answers lead on from here to there. -/
inductive Path (M : Rsys σ) : σ → List Int → σ → Prop
  | nil (s : σ) : Path M s [] s
  | cons {s : σ} {a : Int} {l : List Int} {t : σ} (hw : M.want s ≠ none) (h : Path M (M.next s a) l t) : Path M s (a :: l) t
theorem Path.snoc {s t : σ} {l : List Int} {a : Int} (h : Path M s l t) (hw : M.want t ≠ none) : Path M s (l ++ [a]) (M.next t a) := by
  induction h with
  | nil s => exact .cons hw (.nil _)
  | cons hw' _ ih => exact .cons hw' (ih hw)
def runU (got : List Int) (u : Nat) : RunSt := ⟨got, u, false, ⟨0, 0, 0, 0, 0, false⟩, false⟩
def stop0 (got : List Int) (W : Wnt) : RunSt := ⟨got, got.length, true, W.acc, W.slp⟩
/-- A replay goes on. -/
inductive Ran (M : Rsys σ) (got : List Int) : σ → RunSt → σ → RunSt → Prop
  | same (s : σ) (a : RunSt) : Ran M got s a s a
  | goes {s s1 : σ} {b : RunSt} (u : Nat) (hu : u < got.length) (hw : M.want s ≠ none) (h : Ran M got (M.next s got[u]) (runU got (u + 1)) s1 b) : Ran M got s (runU got u) s1 b
  | stops {s : σ} (W : Wnt) (hw : M.want s = some W) : Ran M got s (runU got got.length) s (stop0 got W)
theorem Ran.of_stop {s s1 : σ} {a b : RunSt} (h : Ran M got s a s1 b) (ha : a.stop = true) : s1 = s ∧ b = a := by
  cases h with
  | same => exact ⟨rfl, rfl⟩
  | goes u hu hw h => simp [runU] at ha
  | stops W hw => simp [runU] at ha
theorem Ran.trans {s s1 s2 : σ} {a b c : RunSt} (h : Ran M got s a s1 b) (k : Ran M got s1 b s2 c) : Ran M got s a s2 c := by
  induction h with
  | same => exact k
  | goes u hu hw h ih => exact .goes u hu hw (ih k)
  | stops W hw =>
    obtain ⟨rfl, rfl⟩ := k.of_stop rfl
    exact .stops W hw
/-- Where a replay ends, of all that was answered. -/
def endOf (M : Rsys σ) (got : List Int) (st : σ) : RunSt := match M.want st with | none => runU got got.length | some W => stop0 got W
theorem Ran.ends {s s1 : σ} {a b : RunSt} (h : Ran M got s a s1 b) {st : σ} {u : Nat} (ha : a = runU got u) (hu : u ≤ got.length) (hp : Path M s (got.drop u) st) (hfin : b.stop = false → M.want s1 = none) : s1 = st ∧ b = endOf M got st := by
  induction h generalizing u with
  | same s a =>
    subst ha
    have hn := hfin rfl
    cases hd : got.drop u with
    | nil =>
      rw [hd] at hp
      cases hp
      have : u = got.length := by have := congrArg List.length hd; simp at this; omega
      subst this
      exact ⟨rfl, by unfold endOf; rw [hn]⟩
    | cons x l =>
      rw [hd] at hp
      cases hp with
      | cons hw h => exact absurd hn hw
  | goes v hv hw h ih =>
    have : v = u := by have := congrArg RunSt.used ha; simpa [runU] using this
    subst this
    rw [List.drop_eq_getElem_cons hv] at hp
    cases hp with
    | cons hw' h' => exact ih rfl hv h' hfin
  | stops W hw =>
    have : got.length = u := by have := congrArg RunSt.used ha; simpa [runU] using this
    subst this
    rw [List.drop_length] at hp
    cases hp
    exact ⟨rfl, by unfold endOf; rw [hw]⟩
/-- A routine within another one. -/
theorem Ran.emb (emb : τ → σ) (E : ∀ s W, M'.want s = some W → M.want (emb s) = some W ∧ ∀ a, M.next (emb s) a = emb (M'.next s a)) {s s1 : τ} {a b : RunSt} (h : Ran M' got s a s1 b) : Ran M got (emb s) a (emb s1) b := by
  induction h with
  | same => exact .same _ _
  | goes u hu hw h ih =>
    rename_i s0 s2 b0
    obtain ⟨W, hW⟩ : ∃ W, M'.want s0 = some W := by
      cases e : M'.want s0 with
      | none => exact absurd e hw
      | some W => exact ⟨W, rfl⟩
    obtain ⟨e1, e2⟩ := E _ W hW
    exact .goes u hu (by rw [e1]; simp) (by rw [e2]; exact ih)
  | stops W hw => exact .stops W (E _ W hw).1
/-- A run of these answers, that goes on, or has stopped. -/
structure Fits (got : List Int) (a : RunSt) : Prop where
  ex : (∃ u, u ≤ got.length ∧ a = runU got u) ∨ ∃ W, a = stop0 got W
  rng : ∀ x ∈ got, 0 ≤ x ∧ x < 18446744073709551616
theorem Fits.gots {a : RunSt} (h : Fits got a) : a.got = got := by
  rcases h.ex with ⟨u, _, rfl⟩ | ⟨W, rfl⟩ <;> rfl
theorem Fits.start (h : ∀ x ∈ got, 0 ≤ x ∧ x < 18446744073709551616) : Fits got (runU got 0) := ⟨.inl ⟨0, Nat.zero_le _, rfl⟩, h⟩
/-- What is left of a run. -/
def left (got : List Int) (b : RunSt) : Nat := got.length - b.used + (if b.stop then 0 else 1)
theorem left_eq {w : World} {B r : Nat} {v : Value} {b : RunSt} (h : RunAt w B r v b) : Run.leftOf got.length r w = left got b := by
  have c1 := h.blk.cell 1
  have c2 := h.blk.cell 2
  simp only [runCells, List.getElem?_cons_zero, List.getElem?_cons_succ] at c1 c2
  unfold Run.leftOf left
  rw [c1, c2]
  cases b.stop <;> simp
theorem Ran.left_le {s s1 : σ} {a b : RunSt} (h : Ran M got s a s1 b) : left got b ≤ left got a := by
  induction h with
  | same => exact Nat.le_refl _
  | goes u hu hw h ih =>
    refine Nat.le_trans ih ?_
    unfold left runU
    simp
    omega
  | stops W hw =>
    unfold left runU stop0
    simp
theorem dox_left {a : RunSt} (h : Fits got a) (A : Acc) (ha : a.stop = false) : left got (a.dox A).1 < left got a := by
  rcases h.ex with ⟨u, hu, rfl⟩ | ⟨W, rfl⟩
  · by_cases hlt : u < got.length
    · rw [show ((runU got u).dox A).1 = runU got (u + 1) from congrArg Prod.fst (dox_on got u A hlt)]
      unfold left runU
      simp
      omega
    · obtain rfl : u = got.length := by omega
      rw [show ((runU got got.length).dox A).1 = Run.stopAt got A from congrArg Prod.fst (dox_end got A)]
      unfold left runU Run.stopAt
      simp
  · simp [stop0] at ha
/-- An access, as the system wants it. -/
theorem put_ran {s : σ} {a : RunSt} {W : Wnt} (h : Fits got a) (hs : W.slp = false) (hw : a.stop = false → M.want s = some W) :
    ∃ s1, Ran M got s a s1 (a.dox W.acc).1 ∧ Fits got (a.dox W.acc).1 ∧ ((a.dox W.acc).1.stop = false → a.stop = false ∧ s1 = M.next s (a.dox W.acc).2) ∧ (0 ≤ (a.dox W.acc).2 ∧ (a.dox W.acc).2 < 18446744073709551616) ∧ ((a.dox W.acc).1.stop = true → s1 = s ∧ (a.dox W.acc).2 = 0) := by
  rcases h.ex with ⟨u, hu, rfl⟩ | ⟨W', rfl⟩
  · have hw1 : M.want s = some W := hw rfl
    by_cases hlt : u < got.length
    · have e : (runU got u).dox W.acc = (runU got (u + 1), got[u]) := dox_on got u _ hlt
      rw [e]
      refine ⟨M.next s got[u], .goes u hlt (by rw [hw1]; simp) (.same _ _), ⟨.inl ⟨u + 1, hlt, rfl⟩, h.rng⟩, fun _ => ⟨rfl, rfl⟩, h.rng _ (List.getElem_mem hlt), fun h => by simp [runU] at h⟩
    · obtain rfl : u = got.length := by omega
      have e : (runU got got.length).dox W.acc = (stop0 got W, 0) := by
        have := dox_end got W.acc
        unfold stop0 runU at *
        rw [hs]
        exact this
      rw [e]
      exact ⟨s, .stops W hw1, ⟨.inr ⟨W, rfl⟩, h.rng⟩, fun h => by simp [stop0] at h, ⟨by simp, by simp⟩, fun _ => ⟨rfl, rfl⟩⟩
  · have e : (stop0 got W').dox W.acc = (stop0 got W', 0) := by unfold RunSt.dox stop0; simp
    rw [e]
    exact ⟨s, .same _ _, h, fun h => by simp [stop0] at h, ⟨by simp, by simp⟩, fun _ => ⟨rfl, rfl⟩⟩
end Go.Proofs.Ytnmkfmaohflejaa.Sys
namespace Go.Proofs.Ytnmkfmaohflejaa.Sys
open Go.RowKit Go.Shelf Go.Proofs.Ytnmkfmaohflejaa.TK Go.Proofs.Ytnmkfmaohflejaa.Flag Go.Proofs.Ytnmkfmaohflejaa.Read Go.Proofs.Ytnmkfmaohflejaa.Grow Go.Proofs.Ytnmkfmaohflejaa.Words Go.Proofs.Ytnmkfmaohflejaa.Mem Go.Proofs.Ytnmkfmaohflejaa.Run
variable {σ τ : Type} {got : List Int}
/-- What is known behind an access of the document's. -/
structure Did (M : Rsys σ) (got : List Int) (s : σ) (a : RunSt) (w w' : World) (B r : Nat) (v : Value) (b : RunSt) (s1 : σ) (x : Int) : Prop where
  run : RunAt w' B r v b
  kept : Kept [r] w w'
  ran : Ran M got s a s1 b
  good : Fits got b
  on : b.stop = false → a.stop = false ∧ s1 = M.next s x
  rng : 0 ≤ x ∧ x < 18446744073709551616
  off : b.stop = true → s1 = s ∧ x = 0
  dec : (a.stop = false → left got b < left got a) ∧ left got b ≤ left got a
theorem did {M : Rsys σ} {s : σ} {a : RunSt} {W : Wnt} {w w' : World} {B r : Nat} {v : Value} (h : Fits got a) (hs : W.slp = false) (hw : a.stop = false → M.want s = some W) (hr : RunAt w' B r v (a.dox W.acc).1) (hk : Kept [r] w w') :
    ∃ s1, Did M got s a w w' B r v (a.dox W.acc).1 s1 (a.dox W.acc).2 := by
  obtain ⟨s1, h1, h2, h3, h4, h5⟩ := put_ran (M := M) (s := s) h hs hw
  exact ⟨s1, hr, hk, h1, h2, h3, h4, h5, fun ha => dox_left h W.acc ha, h1.left_le⟩
end Go.Proofs.Ytnmkfmaohflejaa.Sys
end

section
/- What the laws of steps know of a world, over any machine. -/
set_option maxRecDepth 100000
set_option maxHeartbeats 4000000
set_option linter.unusedVariables false
set_option linter.unusedSimpArgs false
namespace Go.Proofs.Ytnmkfmaohflejaa.Sys
open Go.RowKit Go.Shelf Go.Proofs.Ytnmkfmaohflejaa.TK Go.Proofs.Ytnmkfmaohflejaa.Flag Go.Proofs.Ytnmkfmaohflejaa.Read Go.Proofs.Ytnmkfmaohflejaa.Grow Go.Proofs.Ytnmkfmaohflejaa.Words Go.Proofs.Ytnmkfmaohflejaa.Mem Go.Proofs.Ytnmkfmaohflejaa.Run Go.Proofs.Ytnmkfmaohflejaa.Lock Go.Proofs.Ytnmkfmaohflejaa.Flow
/-- A block of none of these types. -/
def Not (Own : List TypeId) (w : World) (i : Nat) : Prop := ∀ T ∈ Own, ∀ cs, ¬ Blk w i cs T
/-- The types of the two memories, of a run, of a list of words. -/
def theirs : List TypeId := [31, 108, 146, 999998]
/-- A machine's place in a world, and what it stands on. -/
structure MachOf {σ : Type} (At : World → σ → Prop) (Own : List TypeId) : Prop where
  kept : ∀ (w w' : World) (st : σ) (S : List Nat), At w st → Kept S w w' → (∀ i ∈ S, Not Own w i) → At w' st
  own : ∀ T ∈ Own, T ∉ theirs
theorem MachOf.quiet {σ : Type} {At : World → σ → Prop} {Own : List TypeId} (h : MachOf At Own) {w w' : World} {st : σ} (hA : At w st) (hb : Below w.heap.size w w') : At w' st :=
  h.kept w w' st [] hA (Kept.of_below hb []) (by simp)
/-- What a step keeps: all but the memory's blocks, and the machine's own. -/
def KeptOwn (Own : List TypeId) (lo m g : Nat) (w w' : World) : Prop := ∃ S, Kept S w w' ∧ ∀ i ∈ S, i = m ∨ i = g ∨ (lo ≤ i ∧ ∃ T ∈ Own, ∃ cs, Blk w i cs T)
theorem not_of {Own : List TypeId} {w : World} {i : Nat} {cs : List Value} {T : TypeId} (h : Blk w i cs T) (hT : T ∉ Own) : Not Own w i :=
  fun T' hT' => blk_not h (fun e => hT (by rw [e]; exact hT'))
/-- The state behind a step, and the memory's. -/
def stepOf {σ : Type} (M : Rsys σ) (who : Int) (st : σ) (s : St) : σ × St :=
  match M.want st with
  | none => (st, s)
  | some W => if W.slp && decide ((s.peek W.at_).1 = 0) then (st, s) else (M.next st (s.acc W.kind who W.at_ W.old W.new).2, (s.acc W.kind who W.at_ W.old W.new).1)
/-- What the law knows of a world, behind n pokes. -/
structure SI {σ : Type} (M : Rsys σ) (At : World → σ → Prop) (s0 : σ) (w0 w : World) (B m g rm rg : Nat) (st : σ) (s : St) (v : Value) (got : List Int) (n : Nat) : Prop where
  low : Below w0.heap.size w0 w
  both : Both w m g rm rg s
  mach : At w st
  grow : Grow w B 31 1 (encI .u64) v got
  path : Path M s0 got st
  rng : ∀ x ∈ got, 0 ≤ x ∧ x < 18446744073709551616
  len : got.length ≤ n
  size : B ≤ w.heap.size
  clock : s.clock ≤ n ∧ s.bad ≤ n
  ltB : m < B ∧ g < B ∧ rm < B ∧ rg < B
  ge : w0.heap.size ≤ m ∧ w0.heap.size ≤ g ∧ w0.heap.size ≤ rm ∧ w0.heap.size ≤ rg ∧ w0.heap.size ≤ B
section
variable {σ : Type} {M : Rsys σ} {At : World → σ → Prop} {Own : List TypeId} {s0 st st' : σ} {w0 w w' : World} {B m g rm rg : Nat} {s s' : St} {v v' : Value} {got got' : List Int} {n : Nat}
theorem SI.quiet (hM : MachOf At Own) (h : SI M At s0 w0 w B m g rm rg st s v got n) (hb : Below w.heap.size w w') : SI M At s0 w0 w' B m g rm rg st s v got n :=
  ⟨h.low.trans (hb.mono h.low.size), h.both.quiet hb, hM.quiet h.mach hb, h.grow.quiet hb, h.path, h.rng, h.len, Nat.le_trans h.size hb.size, h.clock, h.ltB, h.ge⟩
theorem SI.notOwn (hM : MachOf At Own) (h : SI M At s0 w0 w B m g rm rg st s v got n) : ∀ i ∈ [m, g, rm, rg], Not Own w i := by
  obtain ⟨_, _, a1, a2, _⟩ := h.both.rmem.ex
  obtain ⟨_, _, b1, b2, _⟩ := h.both.mem.ex
  have q : ∀ T, T ∈ theirs → T ∉ Own := fun T hT hO => hM.own T hO hT
  intro i hi
  simp at hi
  rcases hi with rfl | rfl | rfl | rfl
  · exact not_of b1 (q _ (by decide))
  · exact not_of b2 (q _ (by decide))
  · exact not_of a1 (q _ (by decide))
  · exact not_of a2 (q _ (by decide))
theorem SI.ownLow (h : SI M At s0 w0 w B m g rm rg st s v got n) {i : Nat} (hi : i < B) : i ∉ v.ownBlock.toList := by
  have := own_low h.grow hi
  simpa using this
/-- An access by both. -/
theorem SI.poke (hM : MachOf At Own) (h : SI M At s0 w0 w B m g rm rg st s v got n) (hB : Both w' m g rm rg s') (hK : Kept [m, g, rm, rg] w w') (hc : s'.clock = s.clock + 1 ∧ s'.bad ≤ s.bad + 1) : SI M At s0 w0 w' B m g rm rg st s' v got (n + 1) := by
  obtain ⟨l1, l2, l3, l4⟩ := h.ltB
  obtain ⟨g1, g2, g3, g4, g5⟩ := h.ge
  obtain ⟨c1, c2⟩ := h.clock
  refine ⟨below_kept h.low hK (by simp; omega) h.low.size, hB, hM.kept _ _ _ _ h.mach hK (h.notOwn hM), Grow.kept h.grow hK (by simp; omega), h.path, h.rng, Nat.le_succ_of_le h.len, Nat.le_trans h.size hK.size, ⟨by push_cast; omega, by push_cast; omega⟩, h.ltB, h.ge⟩
/-- The document's turn. -/
theorem SI.turn (hM : MachOf At Own) (h : SI M At s0 w0 w B m g rm rg st s v got n) (hK : Kept ([rm, rg] ++ v.ownBlock.toList) w w') : MemAt w' m g s ∧ At w' st ∧ Below w0.heap.size w0 w' := by
  obtain ⟨l1, l2, l3, l4⟩ := h.ltB
  obtain ⟨g1, g2, g3, g4, g5⟩ := h.ge
  have q := h.both.neR
  refine ⟨h.both.mem.kept hK (by simp only [List.mem_append, List.mem_cons, List.not_mem_nil, or_false]; rintro (h1 | h1); rcases h1 with h1 | h1; exact q.1 h1; exact h.both.n1 h1; exact h.ownLow l1 h1) (by simp only [List.mem_append, List.mem_cons, List.not_mem_nil, or_false]; rintro (h1 | h1); rcases h1 with h1 | h1; exact q.2 h1; exact h.both.n2 h1; exact h.ownLow l2 h1), hM.kept _ _ _ _ h.mach hK ?_, ?_⟩
  · intro i hi
    rcases List.mem_append.1 hi with hi | hi
    · exact h.notOwn hM i (by simp at hi; rcases hi with rfl | rfl <;> simp)
    · intro T hT
      exact own_after h.grow (fun e => hM.own T hT (by rw [← e]; decide)) i hi
  · refine below_kept h.low hK ?_ h.low.size
    intro i hi
    rcases List.mem_append.1 hi with hi | hi
    · simp at hi; omega
    · have := own_le h.grow i (by simpa using hi)
      omega
/-- A run's block. -/
theorem SI.side {r : Nat} {cs : List Value} (hM : MachOf At Own) (h : SI M At s0 w0 w B m g rm rg st s v got n) (hK : Kept [r] w w') (hr : B ≤ r) (hb : Blk w r cs 999998) : SI M At s0 w0 w' B m g rm rg st s v got n := by
  obtain ⟨l1, l2, l3, l4⟩ := h.ltB
  obtain ⟨g1, g2, g3, g4, g5⟩ := h.ge
  have ho := own_type h.grow hb (by decide)
  exact ⟨below_kept h.low hK (by simp; omega) h.low.size, ⟨h.both.mem.kept hK (by simp; omega) (by simp; omega), h.both.rmem.kept hK (by simp; omega) (by simp; omega), h.both.n1, h.both.n2⟩, hM.kept _ _ _ _ h.mach hK (by intro i hi; simp at hi; subst hi; exact not_of hb (fun hO => hM.own _ hO (by decide))), Grow.keptB h.grow hK (by intro i hi; simp at hi; subst hi; exact ho), h.path, h.rng, h.len, Nat.le_trans h.size hK.size, h.clock, h.ltB, h.ge⟩
/-- A turn of the document's, and a step. -/
theorem SI.stepped {w1 w2 : World} (hM : MachOf At Own) (h : SI M At s0 w0 w B m g rm rg st s v got n) (hlow : Below w0.heap.size w0 w1) (hG : Grow w1 B 31 1 (encI .u64) v' got') (hR : RMemAt w1 rm rg s') (hS : w.heap.size ≤ w1.heap.size) (hA : At w2 st') (hMm : MemAt w2 m g s') (hK : KeptOwn Own w0.heap.size m g w1 w2) (hp : Path M s0 got' st') (hrng : ∀ x ∈ got', 0 ≤ x ∧ x < 18446744073709551616) (hln : got'.length ≤ n + 1) (hc : s'.clock ≤ s.clock + 1 ∧ s'.bad ≤ s.bad + 1) : SI M At s0 w0 w2 B m g rm rg st' s' v' got' (n + 1) := by
  obtain ⟨l1, l2, l3, l4⟩ := h.ltB
  obtain ⟨g1, g2, g3, g4, g5⟩ := h.ge
  obtain ⟨c1, c2⟩ := h.clock
  have q := h.both.neR
  have q1 := h.both.n1
  have q2 := h.both.n2
  obtain ⟨S, hK, hS2⟩ := hK
  obtain ⟨_, _, a1, a2, _⟩ := hR.ex
  have nr : ∀ {i : Nat} {T : TypeId} {cs : List Value}, Blk w1 i cs T → T ∈ theirs → i ≠ m → i ≠ g → i ∉ S := by
    intro i T cs hb hT hm hg hi
    rcases hS2 i hi with rfl | rfl | ⟨_, T', hT', cs', hb'⟩
    · exact hm rfl
    · exact hg rfl
    · exact Blk.ne hb hb' (fun e => hM.own T' hT' (by rw [← e]; exact hT)) rfl
  refine ⟨below_kept hlow hK ?_ hlow.size, ⟨hMm, hR.kept hK (nr a1 (by decide) (Ne.symm q.1) (Ne.symm q.2)) (nr a2 (by decide) (Ne.symm q1) (Ne.symm q2)), q1, q2⟩, hA, Grow.keptB hG hK ?_, hp, hrng, hln, Nat.le_trans h.size (Nat.le_trans hS hK.size), ⟨by push_cast; omega, by push_cast; omega⟩, h.ltB, h.ge⟩
  · intro i hi
    rcases hS2 i hi with rfl | rfl | ⟨h1, _⟩
    · exact g1
    · exact g2
    · exact h1
  · intro i hi
    rcases hS2 i hi with rfl | rfl | ⟨h1, T', hT', cs', hb'⟩
    · exact own_low hG l1
    · exact own_low hG l2
    · exact own_type hG hb' (fun e => hM.own T' hT' (by rw [← e]; decide))
end
/-- It is asleep. -/
def asleepOf {σ : Type} (M : Rsys σ) (st : σ) (s : St) : Bool := match M.want st with | none => false | some W => W.slp && decide ((s.peek W.at_).1 = 0)
theorem stepOf_go {σ : Type} {M : Rsys σ} {who : Int} {st : σ} {s : St} {kd ad o nw : Int} {slp : Bool} (h : M.want st = some ⟨kd, ad, o, nw, slp⟩) (ht : (slp && decide ((s.peek ad).1 = 0)) = false) : stepOf M who st s = (M.next st (s.acc kd who ad o nw).2, (s.acc kd who ad o nw).1) := by
  unfold stepOf
  rw [h]
  simp only
  rw [if_neg (by rw [ht]; simp)]
theorem acc_clock2 (s : St) (k who a o w : Int) : (s.acc k who a o w).1.clock ≤ s.clock + 1 ∧ (s.acc k who a o w).1.bad ≤ s.bad + 1 := by
  have := acc_clock s k who a o w
  omega
theorem rng_snoc {got : List Int} {a : Int} (h : ∀ x ∈ got, 0 ≤ x ∧ x < 18446744073709551616) (ha : 0 ≤ a ∧ a < 18446744073709551616) : ∀ x ∈ got ++ [a], 0 ≤ x ∧ x < 18446744073709551616 := by
  intro x hx
  rcases List.mem_append.1 hx with hx | hx
  · exact h x hx
  · simp at hx; subst hx; exact ha
end Go.Proofs.Ytnmkfmaohflejaa.Sys
end

section
/- Machines in general: what is pending, a step; a machine by its states. -/
set_option maxRecDepth 100000
set_option maxHeartbeats 4000000
set_option linter.unusedVariables false
set_option linter.unusedSimpArgs false
namespace Go.Proofs.Ytnmkfmaohflejaa.Mach
open Go.RowKit Go.Shelf Go.Proofs.Ytnmkfmaohflejaa.TK Go.Proofs.Ytnmkfmaohflejaa.Flag Go.Proofs.Ytnmkfmaohflejaa.Words Go.Proofs.Ytnmkfmaohflejaa.Mem Go.Proofs.Ytnmkfmaohflejaa.Flow Go.Proofs.Ytnmkfmaohflejaa.Layout Go.Proofs.Ytnmkfmaohflejaa.Lock Go.Proofs.Ytnmkfmaohflejaa.Run Go.Proofs.Ytnmkfmaohflejaa.Sys
/-- What is to come: an access, and the method that follows it. -/
inductive Nx
  | load (at_ : Int) (fn : Nat)
  | add (at_ v : Int) (fn : Nat)
  | store (at_ v : Int) (fn : Nat)
  | swap (at_ o v : Int) (fn : Nat)
  | done
def Nx.want : Nx → Option Wnt
  | .load a _ => some ⟨1, a, 0, 0, false⟩
  | .add a v _ => some ⟨4, a, 0, v, false⟩
  | .store a v _ => some ⟨2, a, 0, v, false⟩
  | .swap a o v _ => some ⟨3, a, o, v, false⟩
  | .done => none
def Nx.fn : Nx → Nat
  | .load _ f => f
  | .add _ _ f => f
  | .store _ _ f => f
  | .swap _ _ _ f => f
  | .done => 0
def Nx.val : Nx → Int
  | .load _ _ => 0
  | .add _ v _ => v
  | .store _ v _ => v
  | .swap _ _ v _ => v
  | .done => 0
def Nx.over : Nx → Bool
  | .done => true
  | _ => false
/-- What the method is called with. -/
def Nx.args (n : Nx) (x : Nat) (a : Int) : Array Value :=
  match n with
  | .load _ _ => #[.pointer (some ⟨x, 0, none⟩), .int .u64 a]
  | .add _ _ _ => #[.pointer (some ⟨x, 0, none⟩), .int .u64 a]
  | .store _ _ _ => #[.pointer (some ⟨x, 0, none⟩)]
  | .swap _ _ _ _ => #[.pointer (some ⟨x, 0, none⟩), .bool (a == 1)]
  | .done => #[]
/-- A flow of this machine's, with nothing said of what comes. -/
def Idle (w : World) (x : Nat) (who : Int) (rest : List Value) (T : TypeId) : Prop := ∃ f, FlAt w x f rest T ∧ f.who = who ∧ f.sub = .nilIface ∧ f.asleep = false
def Pend (w : World) (x : Nat) (who : Int) (rest : List Value) (T : TypeId) : Nx → Prop
  | .load a m => FlAt w x ⟨who, 1, a, 0, 0, meth m x, false, .nilIface, .nilFunc⟩ rest T ∨ ∃ af, FlAt w x ⟨who, 1, a, 0, 0, meth m x, false, .nilIface, af⟩ rest T
  | .add a v m => ∃ af, FlAt w x ⟨who, 4, a, 0, v, meth m x, false, .nilIface, af⟩ rest T
  | .store a v m => ∃ af b, FlAt w x ⟨who, 2, a, 0, v, .func (.func 112) #[] #[.pointer (some ⟨b, 0, none⟩)], false, .nilIface, af⟩ rest T ∧ Blk w b [meth m x] 1
  | .swap a o v m => ∃ af b, FlAt w x ⟨who, 3, a, o, v, .func (.func 170) #[] #[.pointer (some ⟨b, 0, none⟩)], false, .nilIface, af⟩ rest T ∧ Blk w b [meth m x] 166
  | .done => ∃ f, FlAt w x f rest T ∧ f.who = who ∧ f.sub = .nilIface ∧ f.asleep = false ∧ f.kind = 0
theorem Pend.idle {w : World} {x : Nat} {who : Int} {rest : List Value} {T : TypeId} {n : Nx} (h : Pend w x who rest T n) : Idle w x who rest T := by
  cases n with
  | load a m => rcases h with h | ⟨af, h⟩ <;> exact ⟨_, h, rfl, rfl, rfl⟩
  | add a v m => obtain ⟨af, h⟩ := h; exact ⟨_, h, rfl, rfl, rfl⟩
  | store a v m => obtain ⟨af, b, h, _⟩ := h; exact ⟨_, h, rfl, rfl, rfl⟩
  | swap a o v m => obtain ⟨af, b, h, _⟩ := h; exact ⟨_, h, rfl, rfl, rfl⟩
  | done => obtain ⟨f, h, h1, h2, h3, _⟩ := h; exact ⟨f, h, h1, h2, h3⟩
theorem Pend.blk {w : World} {x : Nat} {who : Int} {rest : List Value} {T : TypeId} {n : Nx} (h : Pend w x who rest T n) : ∃ cs, Blk w x cs T := by
  obtain ⟨f, h, _⟩ := h.idle
  exact ⟨_, h⟩
theorem Idle.set {w : World} {x : Nat} {who : Int} {rest : List Value} {T : TypeId} (h : Idle w x who rest T) (i : Nat) (v : Value) : Idle (w.setCell ⟨x, i + 9, none⟩ v) x who (rest.set i v) T := by
  obtain ⟨f, h, h1, h2, h3⟩ := h
  refine ⟨f, ?_, h1, h2, h3⟩
  have := Blk.set h (i + 9) v
  unfold FlAt
  rw [List.set_append_right _ _ (by simp [fl])] at this
  simpa [fl] using this
/-- The same of one that is done. -/
theorem Pend.setD {w : World} {x : Nat} {who : Int} {rest : List Value} {T : TypeId} (h : Pend w x who rest T .done) (i : Nat) (v : Value) : Pend (w.setCell ⟨x, i + 9, none⟩ v) x who (rest.set i v) T .done := by
  obtain ⟨f, h, h1, h2, h3, h4⟩ := h
  refine ⟨f, ?_, h1, h2, h3, h4⟩
  have := Blk.set h (i + 9) v
  unfold FlAt
  rw [List.set_append_right _ _ (by simp [fl])] at this
  simpa [fl] using this
theorem Idle.kept {w w' : World} {x : Nat} {who : Int} {rest : List Value} {T : TypeId} {S : List Nat} (h : Idle w x who rest T) (hk : Kept S w w') (hx : x ∉ S) : Idle w' x who rest T := by
  obtain ⟨f, h, h1⟩ := h
  exact ⟨f, FlAt.kept h hk hx, h1⟩
theorem Idle.quiet {w w' : World} {x : Nat} {who : Int} {rest : List Value} {T : TypeId} (h : Idle w x who rest T) (hb : Below w.heap.size w w') : Idle w' x who rest T := h.kept (Kept.of_below hb []) (by simp)
theorem Idle.rest {w : World} {x : Nat} {who : Int} {rest : List Value} {T : TypeId} (h : Idle w x who rest T) (i : Nat) : w.cell? ⟨x, i + 9, none⟩ = rest[i]? := by
  obtain ⟨f, h, _⟩ := h
  have := Blk.cell h (i + 9)
  rw [List.getElem?_append_right (by simp [fl])] at this
  simpa [fl] using this
theorem Idle.frozen {w : World} {x : Nat} {who : Int} {rest : List Value} {T : TypeId} (h : Idle w x who rest T) (i : Nat) : w.frozen? ⟨x, i, none⟩ = false := by
  obtain ⟨f, h, _⟩ := h
  exact Blk.frozen h i
theorem Idle.lt {w : World} {x : Nat} {who : Int} {rest : List Value} {T : TypeId} (h : Idle w x who rest T) : x < w.heap.size := by
  obtain ⟨f, h, _⟩ := h
  exact Blk.lt h
/-- The types of a machine's blocks: its own, what follows a store, or a swap, a layout. -/
def ownT (T : TypeId) : List TypeId := [T, 1, 166, 143]
theorem Pend.kept {w w' : World} {x : Nat} {who : Int} {rest : List Value} {T : TypeId} {n : Nx} {S : List Nat} (h : Pend w x who rest T n) (hk : Kept S w w') (hS : ∀ i ∈ S, Not (ownT T) w i) : Pend w' x who rest T n := by
  have hx : x ∉ S := by
    intro hi
    obtain ⟨cs, hb⟩ := h.blk
    exact hS x hi T (by simp [ownT]) cs hb
  cases n with
  | load a m => rcases h with h | ⟨af, h⟩; exact .inl (h.kept hk hx); exact .inr ⟨af, h.kept hk hx⟩
  | add a v m => obtain ⟨af, h⟩ := h; exact ⟨af, h.kept hk hx⟩
  | store a v m => obtain ⟨af, b, h, h2⟩ := h; exact ⟨af, b, h.kept hk hx, h2.kept hk (fun hi => hS b hi _ (by simp [ownT]) _ h2)⟩
  | swap a o v m => obtain ⟨af, b, h, h2⟩ := h; exact ⟨af, b, h.kept hk hx, h2.kept hk (fun hi => hS b hi _ (by simp [ownT]) _ h2)⟩
  | done => obtain ⟨f, h, h1⟩ := h; exact ⟨f, h.kept hk hx, h1⟩
theorem Pend.quiet {w w' : World} {x : Nat} {who : Int} {rest : List Value} {T : TypeId} {n : Nx} (h : Pend w x who rest T n) (hb : Below w.heap.size w w') : Pend w' x who rest T n := h.kept (Kept.of_below hb []) (by simp)
section
variable {x : Nat} {who : Int} {rest : List Value} {T : TypeId} {w : World}
theorem iload_run (h : Idle w x who rest T) (at_ : Int) (m : Nat) :
    Calls Try.prog 76 #[.pointer (some ⟨x, 0, none⟩), .int .i64 at_, meth m x] w fun e w' => e = .returned (.tuple #[]) ∧ Pend w' x who rest T (.load at_ m) ∧ Kept [x] w w' := by
  obtain ⟨⟨who', kd, at0, o, nw, th, asl, sub, af⟩, h, h1, h2, h3⟩ := h
  simp only at h1 h2 h3
  subst h1 h2 h3
  refine (fload_run x _ rest T at_ _ _ _ w h).mono ?_
  rintro e w1 ⟨rfl, h, hK⟩
  exact ⟨rfl, .inr ⟨af, h⟩, hK⟩
theorem iadd_run (h : Idle w x who rest T) (at_ v : Int) (m : Nat) :
    Calls Try.prog 69 #[.pointer (some ⟨x, 0, none⟩), .int .i64 at_, .int .u64 v, meth m x] w fun e w' => e = .returned (.tuple #[]) ∧ Pend w' x who rest T (.add at_ v m) ∧ Kept [x] w w' := by
  obtain ⟨⟨who', kd, at0, o, nw, th, asl, sub, af⟩, h, h1, h2, h3⟩ := h
  simp only at h1 h2 h3
  subst h1 h2 h3
  refine (fadd_run x _ rest T at_ v _ _ _ w h).mono ?_
  rintro e w1 ⟨rfl, h, hK⟩
  exact ⟨rfl, ⟨af, h⟩, hK⟩
theorem istore_run (h : Idle w x who rest T) (at_ v : Int) (m : Nat) :
    Calls Try.prog 73 #[.pointer (some ⟨x, 0, none⟩), .int .i64 at_, .int .u64 v, meth m x] w fun e w' => e = .returned (.tuple #[]) ∧ Pend w' x who rest T (.store at_ v m) ∧ Kept [x] w w' := by
  obtain ⟨⟨who', kd, at0, o, nw, th, asl, sub, af⟩, h, h1, h2, h3⟩ := h
  simp only at h1 h2 h3
  subst h1 h2 h3
  refine (fstore_run x _ rest T at_ v _ _ _ w h).mono ?_
  rintro e w1 ⟨rfl, b, h, hb, _, hK⟩
  exact ⟨rfl, ⟨af, b, h, hb⟩, hK⟩
theorem iswap_run (h : Idle w x who rest T) (at_ o v : Int) (m : Nat) :
    Calls Try.prog 151 #[.pointer (some ⟨x, 0, none⟩), .int .i64 at_, .int .u64 o, .int .u64 v, meth m x] w fun e w' => e = .returned (.tuple #[]) ∧ Pend w' x who rest T (.swap at_ o v m) ∧ Kept [x] w w' := by
  obtain ⟨⟨who', kd, at0, o0, nw, th, asl, sub, af⟩, h, h1, h2, h3⟩ := h
  simp only at h1 h2 h3
  subst h1 h2 h3
  refine (fswap_run x _ rest T at_ o v _ _ _ w h).mono ?_
  rintro e w1 ⟨rfl, b, h, hb, _, hK⟩
  exact ⟨rfl, ⟨af, b, h, hb⟩, hK⟩
theorem iof_run (h : FlAt w x fl0 rest T) (who : Int) :
    Calls Try.prog 68 #[.pointer (some ⟨x, 0, none⟩), .int .i64 who] w fun e w' => e = .returned (.tuple #[]) ∧ Pend w' x who rest T .done ∧ Kept [x] w w' := by
  refine (fof_run x fl0 rest T who w h).mono ?_
  rintro e w1 ⟨rfl, h, hK⟩
  exact ⟨rfl, ⟨_, h, rfl, rfl, rfl, rfl⟩, hK⟩
theorem pend_done {n : Nx} (h : Pend w x who rest T n) : Calls Try.prog 67 #[.pointer (some ⟨x, 0, none⟩)] w fun e w' => e = .returned (.bool n.over) ∧ w = w' := by
  have key : ∀ f, FlAt w x f rest T → f.sub = .nilIface → f.over = n.over → Calls Try.prog 67 #[.pointer (some ⟨x, 0, none⟩)] w fun e w' => e = .returned (.bool n.over) ∧ w = w' := by
    intro f hf hs ho
    have := fdone_any x f rest T w hf (.inl hs)
    rw [ho] at this
    exact this
  cases n with
  | load a m => rcases h with h | ⟨af, h⟩ <;> exact key _ h rfl rfl
  | add a v m => obtain ⟨af, h⟩ := h; exact key _ h rfl rfl
  | store a v m => obtain ⟨af, b, h, _⟩ := h; exact key _ h rfl rfl
  | swap a o v m => obtain ⟨af, b, h, _⟩ := h; exact key _ h rfl rfl
  | done => obtain ⟨f, h, _, h2, _, h4⟩ := h; exact key _ h h2 (by unfold Fl.over; rw [h2, h4]; rfl)
theorem pend_over {n : Nx} (h : Pend w x who rest T n) : ∃ f', FlAt w x f' rest T ∧ f'.fine ∧ f'.over = n.over := by
  cases n with
  | load a m => rcases h with h | ⟨af, h⟩ <;> exact ⟨_, h, .inl rfl, rfl⟩
  | add a v m => obtain ⟨af, h⟩ := h; exact ⟨_, h, .inl rfl, rfl⟩
  | store a v m => obtain ⟨af, b, h, _⟩ := h; exact ⟨_, h, .inl rfl, rfl⟩
  | swap a o v m => obtain ⟨af, b, h, _⟩ := h; exact ⟨_, h, .inl rfl, rfl⟩
  | done => obtain ⟨f, h, _, h2, _, h4⟩ := h; exact ⟨_, h, .inl h2, by unfold Fl.over; rw [h2, h4]; rfl⟩
end
/-- A machine by its states: what comes, what its other cells hold, what follows an answer. -/
structure Mch (σ : Type) where
  T : TypeId
  nx : σ → Nx
  rest : σ → List Value
  next : σ → Int → σ
  ok : σ → Prop
def Mch.sys {σ : Type} (K : Mch σ) : Rsys σ := ⟨fun st => (K.nx st).want, K.next⟩
/-- The machine in a world, its block from lo on, and its layout. -/
def Mch.at_ {σ : Type} (K : Mch σ) (lo l x : Nat) (p t g who : Int) (w : World) (st : σ) : Prop := Pend w x who (K.rest st) K.T (K.nx st) ∧ lo ≤ x ∧ Lay w l p t g ∧ K.ok st
/-- Its methods do what its states say. -/
structure Goes {σ : Type} (K : Mch σ) (l x : Nat) (p t g who : Int) : Prop where
  own : ∀ T ∈ ownT K.T, T ∉ theirs
  neq : K.T ≠ 1 ∧ K.T ≠ 166 ∧ K.T ≠ 143
  val : ∀ st, K.ok st → 0 ≤ (K.nx st).val ∧ (K.nx st).val < 18446744073709551616
  ok : ∀ st a, K.ok st → 0 ≤ a ∧ a < 18446744073709551616 → K.ok (K.next st a)
  enters : ∀ st, (K.nx st) ≠ .done → ∀ vs w, (callFunc (K.nx st).fn vs).run Try.prog w = .ok (.enter (K.nx st).fn vs) w
  goes : ∀ st a w, K.nx st ≠ .done → K.ok st → 0 ≤ a ∧ a < 18446744073709551616 → Pend w x who (K.rest st) K.T .done → Lay w l p t g → Calls Try.prog (K.nx st).fn ((K.nx st).args x a) w fun e w' => (∃ r, e = .returned r) ∧ Pend w' x who (K.rest (K.next st a)) K.T (K.nx (K.next st a)) ∧ Kept [x] w w'
theorem mach_of {σ : Type} {K : Mch σ} {lo l x : Nat} {p t g who : Int} (h : ∀ T ∈ ownT K.T, T ∉ theirs) : MachOf (K.at_ lo l x p t g who) (ownT K.T) := by
  refine ⟨?_, h⟩
  rintro w w' st S ⟨h1, h2, h3, h4⟩ hK hS
  refine ⟨h1.kept hK hS, h2, h3.kept hK ?_, h4⟩
  intro hi
  exact hS l hi 143 (by simp [ownT]) _ h3.1
section
variable {σ : Type} {K : Mch σ} {lo l x m mg : Nat} {p t g who : Int} {st : σ} {s : St} {w : World}
theorem fl_cleared (who k a o nw : Int) (th af : Value) (rest : List Value) (T : TypeId) (w : World) (h : FlAt w x (Fl.cleared ⟨who, k, a, o, nw, th, false, .nilIface, af⟩) rest T) : Pend w x who rest T .done := ⟨_, h, rfl, rfl, rfl, rfl⟩
/-- A step of the flow. -/
theorem mch_fstep (G : Goes K l x p t g who) (hA : K.at_ lo l x p t g who w st) (hM : MemAt w m mg s) (hc : s.clock < 1000000) (hbd : s.bad < 1000000) :
    Calls Try.prog 72 #[.pointer (some ⟨x, 0, none⟩), .pointer (some ⟨m, 0, none⟩)] w fun e w' => e = .returned (.bool (K.nx (stepOf K.sys who st s).1).over) ∧ K.at_ lo l x p t g who w' (stepOf K.sys who st s).1 ∧ MemAt w' m mg (stepOf K.sys who st s).2 ∧ Kept [x, m, mg] w w' := by
  obtain ⟨h1, h2, h3, h4⟩ := hA
  obtain ⟨cs, hb⟩ := h1.blk
  have n1 : K.T ≠ 108 := fun e => G.own K.T (by simp [ownT]) (by rw [e]; decide)
  have n2 : K.T ≠ 31 := fun e => G.own K.T (by simp [ownT]) (by rw [e]; decide)
  have hxm : x ≠ m := hM.neT hb n1
  have hxg : x ≠ mg := hM.neG hb n2
  have hlx : l ≠ x := Blk.ne h3.1 hb (fun e => G.neq.2.2 e.symm)
  have hlm := hM.neT h3.1 (by decide)
  have hlg := hM.neG h3.1 (by decide)
  have hgo := G.goes st
  have hen := G.enters st
  have hv := G.val st h4
  -- what follows the access, and what is then
  have fin : ∀ (kd ad o nw : Int), (K.sys).want st = some ⟨kd, ad, o, nw, false⟩ → (0 ≤ nw ∧ nw < 18446744073709551616) → K.nx st ≠ .done → ∀ w1, Pend w1 x who (K.rest st) K.T .done → MemAt w1 m mg (s.acc kd who ad o nw).1 → Kept [x, m, mg] w w1 →
      Calls Try.prog (K.nx st).fn ((K.nx st).args x (s.acc kd who ad o nw).2) w1 fun e w' => (∃ r, e = .returned r) ∧ (K.at_ lo l x p t g who w' (stepOf K.sys who st s).1 ∧ MemAt w' m mg (stepOf K.sys who st s).2 ∧ Kept [x, m, mg] w w') := by
    intro kd ad o nw hwt hnw hnd w1 hp1 hM1 hK1
    have hr := (acc_wf hM.wf kd who ad o hnw).2
    rw [stepOf_go hwt rfl]
    refine (hgo _ w1 hnd h4 hr hp1 (h3.kept hK1 (by simp [hlx, hlm, hlg]))).mono ?_
    rintro e w2 ⟨he, hp2, hK2⟩
    refine ⟨he, ⟨hp2, h2, (h3.kept hK1 (by simp [hlx, hlm, hlg])).kept hK2 (by simp [hlx]), G.ok st _ h4 hr⟩, hM1.kept hK2 (by simp; omega) (by simp; omega), hK1.trans hK2 (by intro i hi; simp at hi; subst hi; exact .inl (by simp))⟩
  have ovr : ∀ w', (K.at_ lo l x p t g who w' (stepOf K.sys who st s).1 ∧ MemAt w' m mg (stepOf K.sys who st s).2 ∧ Kept [x, m, mg] w w') → ∃ f' rest', FlAt w' x f' rest' K.T ∧ f'.fine ∧ f'.over = (K.nx (stepOf K.sys who st s).1).over := by
    rintro w' ⟨⟨hp, _⟩, _⟩
    obtain ⟨f', a, b, c⟩ := pend_over hp
    exact ⟨f', _, a, b, c⟩
  cases hnx : K.nx st with
  | load a fn =>
    have hwt : K.sys.want st = some ⟨1, a, 0, 0, false⟩ := by show (K.nx st).want = _; rw [hnx]; rfl
    rw [hnx] at h1 hgo hen fin
    rcases h1 with h1 | ⟨af, h1⟩
    · refine fstep_then _ x m mg _ _ _ s w _ h1 rfl hM hxm hxg ⟨by simp, by simp⟩ hc hbd (by simp) rfl (.inl (by simp)) _ _ _ rfl (hen (by simp)) ?_ ovr
      intro w1 q1 q2 q3
      exact fin 1 a 0 0 hwt ⟨by omega, by omega⟩ (by simp) w1 (fl_cleared _ _ _ _ _ _ _ _ _ _ q1) q2 q3
    · refine fstep_then _ x m mg _ _ _ s w _ h1 rfl hM hxm hxg ⟨by simp, by simp⟩ hc hbd (by simp) rfl (.inl (by simp)) _ _ _ rfl (hen (by simp)) ?_ ovr
      intro w1 q1 q2 q3
      exact fin 1 a 0 0 hwt ⟨by omega, by omega⟩ (by simp) w1 (fl_cleared _ _ _ _ _ _ _ _ _ _ q1) q2 q3
  | add a v fn =>
    have hwt : K.sys.want st = some ⟨4, a, 0, v, false⟩ := by show (K.nx st).want = _; rw [hnx]; rfl
    rw [hnx] at h1 hgo hen fin hv
    obtain ⟨af, h1⟩ := h1
    refine fstep_then _ x m mg _ _ _ s w _ h1 rfl hM hxm hxg hv hc hbd (by simp) rfl (.inl (by simp)) _ _ _ rfl (hen (by simp)) ?_ ovr
    intro w1 q1 q2 q3
    exact fin 4 a 0 v hwt hv (by simp) w1 (fl_cleared _ _ _ _ _ _ _ _ _ _ q1) q2 q3
  | store a v fn =>
    have hwt : K.sys.want st = some ⟨2, a, 0, v, false⟩ := by show (K.nx st).want = _; rw [hnx]; rfl
    rw [hnx] at h1 hgo hen fin hv
    obtain ⟨af, b, h1, hB⟩ := h1
    refine fstep_then _ x m mg _ _ _ s w _ h1 rfl hM hxm hxg hv hc hbd (by simp) rfl (.inl (by simp)) _ _ _ rfl (enters_of Try.func112 (by kernel_rfl) rfl) ?_ ovr
    intro w1 q1 q2 q3
    have hbx : b ∉ [x, m, mg] := by
      have n1 := Blk.ne hB hb (fun e => G.neq.1 e.symm)
      have n2 := hM.neT hB (by decide)
      have n3 := hM.neG hB (by decide)
      simp [n1, n2, n3]
    exact fstore1_run _ b _ _ _ w1 _ (hB.kept q3 hbx) (hen (by simp)) (fin 2 a 0 v hwt hv (by simp) w1 (fl_cleared _ _ _ _ _ _ _ _ _ _ q1) q2 q3)
  | swap a o v fn =>
    have hwt : K.sys.want st = some ⟨3, a, o, v, false⟩ := by show (K.nx st).want = _; rw [hnx]; rfl
    rw [hnx] at h1 hgo hen fin hv
    obtain ⟨af, b, h1, hB⟩ := h1
    refine fstep_then _ x m mg _ _ _ s w _ h1 rfl hM hxm hxg hv hc hbd (by simp) rfl (.inl (by simp)) _ _ _ rfl (enters_of Try.func170 (by kernel_rfl) rfl) ?_ ovr
    intro w1 q1 q2 q3
    have hbx : b ∉ [x, m, mg] := by
      have n1 := Blk.ne hB hb (fun e => G.neq.2.1 e.symm)
      have n2 := hM.neT hB (by decide)
      have n3 := hM.neG hB (by decide)
      simp [n1, n2, n3]
    exact fswap1_run _ b _ _ _ w1 _ (hB.kept q3 hbx) (hen (by simp)) (fin 3 a o v hwt hv (by simp) w1 (fl_cleared _ _ _ _ _ _ _ _ _ _ q1) q2 q3)
  | done =>
    have hwt : K.sys.want st = none := by show (K.nx st).want = _; rw [hnx]; rfl
    have hst : stepOf K.sys who st s = (st, s) := by unfold stepOf; rw [hwt]
    rw [hst]
    rw [hnx] at h1
    obtain ⟨f, hf, q1, q2, q3, q4⟩ := h1
    refine (fstep_done x f _ _ _ w hf q2 q4).mono ?_
    rintro e w' ⟨rfl, rfl⟩
    refine ⟨?_, ⟨?_, h2, h3, h4⟩, hM, Kept.refl _ _⟩
    · simp only [hnx]; rfl
    · rw [hnx]; exact ⟨f, hf, q1, q2, q3, q4⟩
theorem mch_kept (h2 : lo ≤ x) {cs : List Value} (hb : Blk w x cs K.T) {w' : World} (hK : Kept [x, m, mg] w w') : KeptOwn (ownT K.T) lo m mg w w' := by
  refine ⟨_, hK, ?_⟩
  intro i hi
  simp at hi
  rcases hi with rfl | rfl | rfl
  · exact .inr (.inr ⟨h2, _, by simp [ownT], _, hb⟩)
  · exact .inl rfl
  · exact .inr (.inl rfl)
end
theorem mch_over {σ : Type} (K : Mch σ) (st : σ) : (K.nx st).over = (K.sys.want st).isNone := by
  show _ = (K.nx st).want.isNone
  cases K.nx st <;> rfl
theorem mch_wnt {σ : Type} {K : Mch σ} {l x : Nat} {p t g who : Int} (G : Goes K l x p t g who) {st : σ} {W : Wnt} (h : K.sys.want st = some W) (hok : K.ok st) : W.slp = false ∧ (W.kind = 1 ∨ W.kind = 2 ∨ W.kind = 3 ∨ W.kind = 4) ∧ (0 ≤ W.new ∧ W.new < 18446744073709551616) := by
  have hv := G.val st hok
  have h : (K.nx st).want = some W := h
  cases hn : K.nx st <;> rw [hn] at h hv <;> first | (obtain rfl := Option.some.inj h; refine ⟨rfl, by simp, ?_⟩; first | exact hv | simp) | cases h
/-- What is known in the midst of a method's region. -/
structure MI (w0 w : World) (x : Nat) (who : Int) (rest : List Value) (T : TypeId) (l : Nat) (p t g : Int) : Prop where
  pend : Pend w x who rest T .done
  lay : Lay w l p t g
  kept : Kept [x] w0 w
theorem MI.start {w : World} {x : Nat} {who : Int} {rest : List Value} {T : TypeId} {l : Nat} {p t g : Int} (h : Pend w x who rest T .done) (hL : Lay w l p t g) : MI w w x who rest T l p t g := ⟨h, hL, Kept.refl _ _⟩
theorem MI.put {w0 w : World} {x : Nat} {who : Int} {rest : List Value} {T : TypeId} {l : Nat} {p t g : Int} (h : MI w0 w x who rest T l p t g) (hT : T ≠ 143) (i : Nat) (v : Value) : MI w0 (w.setCell ⟨x, i + 9, none⟩ v) x who (rest.set i v) T l p t g := by
  obtain ⟨cs, hb⟩ := h.pend.blk
  exact ⟨h.pend.setD i v, h.lay.kept (S := [x]) ((Kept.refl _ _).set (.inl (by simp)) _) (by have := Blk.ne h.lay.1 hb (Ne.symm hT); simpa using this), h.kept.set (.inl (by simp)) _⟩
theorem MI.drew {w0 w : World} {x : Nat} {who : Int} {rest : List Value} {T : TypeId} {l : Nat} {p t g : Int} (h : MI w0 w x who rest T l p t g) : MI w0 w.drew x who rest T l p t g := ⟨h.pend.quiet (below_drewN (Below.refl _ w) 1), h.lay.quiet (below_drewN (Below.refl _ w) 1), h.kept.drew⟩
theorem MI.quiet {w0 w w' : World} {x : Nat} {who : Int} {rest : List Value} {T : TypeId} {l : Nat} {p t g : Int} (h : MI w0 w x who rest T l p t g) (hb : Below w.heap.size w w') : MI w0 w' x who rest T l p t g := ⟨h.pend.quiet hb, h.lay.quiet hb, h.kept.quiet hb⟩
end Go.Proofs.Ytnmkfmaohflejaa.Mach
end

section
/- The document's places, as the program's. -/
set_option maxRecDepth 100000
set_option maxHeartbeats 4000000
set_option linter.unusedVariables false
set_option linter.unusedSimpArgs false
namespace Go.Proofs.Ytnmkfmaohflejaa.Ref05
open Go.RowKit Go.Shelf Go.Proofs.Ytnmkfmaohflejaa.TK Go.Proofs.Ytnmkfmaohflejaa.Flag Go.Proofs.Ytnmkfmaohflejaa.Words Go.Proofs.Ytnmkfmaohflejaa.Mem Go.Proofs.Ytnmkfmaohflejaa.Layout Go.Proofs.Ytnmkfmaohflejaa.Run
def pr (P p f : Int) : Int := placeN true 20 p P 264 f 8
def rg (P p i : Int) : Int := placeN true 28 p P 264 (i % 256) 256
def th (P T t f : Int) : Int := placeN true (20 + P * 264) t T 3 f 3
def gg (P T G n f : Int) : Int := placeN true (20 + P * 264 + T * 3) n G 2 f 2
end Go.Proofs.Ytnmkfmaohflejaa.Ref05
end

section
/- The document's routines: what is known in their midst. -/
set_option maxRecDepth 100000
set_option maxHeartbeats 4000000
set_option linter.unusedVariables false
set_option linter.unusedSimpArgs false
namespace Go.Proofs.Ytnmkfmaohflejaa.Doc
open Go.RowKit Go.Shelf Go.Proofs.Ytnmkfmaohflejaa.TK Go.Proofs.Ytnmkfmaohflejaa.Flag Go.Proofs.Ytnmkfmaohflejaa.Read Go.Proofs.Ytnmkfmaohflejaa.Grow Go.Proofs.Ytnmkfmaohflejaa.Words Go.Proofs.Ytnmkfmaohflejaa.Mem Go.Proofs.Ytnmkfmaohflejaa.Layout Go.Proofs.Ytnmkfmaohflejaa.Run Go.Proofs.Ytnmkfmaohflejaa.Sys Go.Proofs.Ytnmkfmaohflejaa.Ref05
/-- Since the routine began, at w0: it went on from s0, a to s, b; its config lies in the box bx. -/
structure DI {σ : Type} (M : Rsys σ) (got : List Int) (s0 : σ) (a : RunSt) (w0 w : World) (B r bx : Nat) (v : Value) (P T G : Int) (b : RunSt) (s : σ) : Prop where
  run : RunAt w B r v b
  kept : Kept [r] w0 w
  ran : Ran M got s0 a s b
  good : Fits got b
  box : Blk w bx [.int .i64 P, .int .i64 T, .int .i64 G] 30
section
variable {σ : Type} {M : Rsys σ} {got : List Int} {s0 s : σ} {a b : RunSt} {w0 w w' : World} {B r bx : Nat} {v : Value} {P T G : Int}
theorem DI.quiet (h : DI M got s0 a w0 w B r bx v P T G b s) (hb : Below w.heap.size w w') : DI M got s0 a w0 w' B r bx v P T G b s := ⟨h.run.quiet hb, h.kept.quiet hb, h.ran, h.good, h.box.quiet hb⟩
theorem DI.ne (h : DI M got s0 a w0 w B r bx v P T G b s) : bx ≠ r := Blk.ne h.box h.run.blk (by decide)
theorem DI.start (h : RunAt w B r v a) (hg : Fits got a) (s0 : σ) : DI M got s0 a w (w.alloc (.cells #[.int .i64 P, .int .i64 T, .int .i64 G] 30)) B r w.heap.size v P T G a s0 :=
  ⟨h.quiet (below_one _ _), (Kept.refl _ _).alloc _, .same _ _, hg, Blk.new w _ _⟩
theorem DI.cells (h : DI M got s0 a w0 w B r bx v P T G b s) : w.cell? ⟨bx, 0, none⟩ = some (.int .i64 P) ∧ w.cell? ⟨bx, 1, none⟩ = some (.int .i64 T) ∧ w.cell? ⟨bx, 2, none⟩ = some (.int .i64 G) ∧ w.cell? ⟨r, 2, none⟩ = some (.bool b.stop) :=
  ⟨h.box.cell 0, h.box.cell 1, h.box.cell 2, h.run.blk.cell 2⟩
theorem DI.did {x : Int} {b' : RunSt} {s' : σ} (h : DI M got s0 a w0 w B r bx v P T G b s) (d : Did M got s b w w' B r v b' s' x) : DI M got s0 a w0 w' B r bx v P T G b' s' :=
  ⟨d.run, h.kept.trans d.kept (by intro i hi; exact .inl hi), h.ran.trans d.ran, d.good, h.box.kept d.kept (by have := h.ne; simpa using this)⟩
/-- Behind an access that answered x. -/
def On {σ : Type} (M : Rsys σ) (got : List Int) (b : RunSt) (s : σ) (b' : RunSt) (s' : σ) (x : Int) : Prop := (b'.stop = false → b.stop = false ∧ s' = M.next s x) ∧ (0 ≤ x ∧ x < 18446744073709551616) ∧ (b'.stop = true → s' = s ∧ x = 0) ∧ (b.stop = false → left got b' < left got b) ∧ left got b' ≤ left got b
end
end Go.Proofs.Ytnmkfmaohflejaa.Doc
end

section
/- A flow that runs another machine. -/
set_option maxRecDepth 100000
set_option maxHeartbeats 4000000
set_option linter.unusedVariables false
set_option linter.unusedSimpArgs false
namespace Go.Proofs.Ytnmkfmaohflejaa.Flow
open Go.RowKit Go.Shelf Go.Proofs.Ytnmkfmaohflejaa.TK Go.Proofs.Ytnmkfmaohflejaa.Flag Go.Proofs.Ytnmkfmaohflejaa.Words Go.Proofs.Ytnmkfmaohflejaa.Mem Go.Proofs.Ytnmkfmaohflejaa.Lock Go.Proofs.Ytnmkfmaohflejaa.Mach
/-- This type's Step is that function. -/
structure StepOf (ty : TypeId) (F : Nat) : Prop where
  meth : ∀ (y : Nat) (w : World), (method 289 ty (.pointer (some ⟨y, 0, none⟩)) "Step").run Try.prog w = .ok (F, .pointer (some ⟨y, 0, none⟩)) w
  enters : ∀ vs w, (callFunc F vs).run Try.prog w = .ok (.enter F vs) w
theorem none_run (ty : TypeId) (F y : Nat) (o : Bool) (w : World) (hS : StepOf ty F) (H : Calls Try.prog F #[.pointer (some ⟨y, 0, none⟩), .pointer none] w fun e w' => e = .returned (.bool o) ∧ w = w') :
    Calls Try.prog 121 #[.iface ty (.pointer (some ⟨y, 0, none⟩))] w fun e w' => e = .returned (.bool o) ∧ w = w' := by
  have hq : ∀ w : World, (binOp .eql 95 (.iface ty (.pointer (some ⟨y, 0, none⟩))) .nilIface).run Try.prog w = .ok (.bool false) w := fun w => run_eql_held_nil w _ _ _ (by kernel_rfl)
  have hs := hS.meth y
  have he := hS.enters
  have HH := hid H
  clear H hS
  go_enter Try.func121, Try.ntmps121
  go_wp2_with fail
  refine HH.out.mono ?_
  rintro e w1 ⟨rfl, rfl⟩
  go_wp2
  go_ret
  exact ⟨rfl, rfl⟩
theorem frun_run (x : Nat) (f : Fl) (rest : List Value) (T : TypeId) (ty : TypeId) (F y : Nat) (fn : Fn) (first captured : Array Value) (w : World) (hb : FlAt w x f rest T) (hS : StepOf ty F) (H : Calls Try.prog F #[.pointer (some ⟨y, 0, none⟩), .pointer none] w fun e w' => e = .returned (.bool false) ∧ w = w') :
    Calls Try.prog 85 #[.pointer (some ⟨x, 0, none⟩), .iface ty (.pointer (some ⟨y, 0, none⟩)), .func fn first captured] w fun e w' => e = .returned (.tuple #[]) ∧ FlAt w' x { f with sub := .iface ty (.pointer (some ⟨y, 0, none⟩)), af := .func fn first captured } rest T ∧ Kept [x] w w' := by
  obtain ⟨c0, c1, c2, c3, c4, c5, c6, c7, c8⟩ := hb.cells
  have hf := Blk.frozen hb
  have HB := hid hb
  have HN := hid (none_run ty F y false w hS H)
  clear hb H hS
  go_enter Try.func85, Try.ntmps85
  go_wp2_with fail
  refine HN.out.mono ?_
  rintro e w1 ⟨rfl, rfl⟩
  go_wp2
  go_returns
  exact ⟨rfl, (HB.out.set 7 (.iface ty (.pointer (some ⟨y, 0, none⟩)))).set 8 (.func fn first captured), ((Kept.refl [x] w).set (.inl (by simp)) _).set (.inl (by simp)) _⟩
/-- This type cannot be asleep. -/
def NoSleeper (ty : TypeId) : Prop := ∀ (y : Nat) (w : World), (Instr.typeAssert (.iface ty (.pointer (some ⟨y, 0, none⟩))) 95 160 true).run Try.prog w = .ok (.tuple #[.nilIface, .bool false]) w
/-- A flow that runs a machine which cannot be asleep is not asleep. -/
theorem fasleep_sub (x m g : Nat) (f : Fl) (rest : List Value) (T : TypeId) (ty : TypeId) (y : Nat) (s : St) (w : World) (hb : FlAt w x f rest T) (hs : f.sub = .iface ty (.pointer (some ⟨y, 0, none⟩))) (hk : f.kind = 0) (hN : NoSleeper ty) (hM : MemAt w m g s) :
    Calls Try.prog 110 #[.pointer (some ⟨x, 0, none⟩), .pointer (some ⟨m, 0, none⟩)] w fun e w' => e = .returned (.bool false) ∧ w = w' := by
  obtain ⟨c0, c1, c2, c3, c4, c5, c6, c7, c8⟩ := hb.cells
  rw [hs] at c7
  rw [hk] at c1
  have hta := hN y
  have HM := hid hM
  clear hb hs hk hN hM
  go_enter Try.func110, Try.ntmps110
  go_wp2_with fail
  refine (mpeek_run m g s _ _ HM.out).mono ?_
  rintro e w1 ⟨rfl, rfl⟩
  go_wp2
  go_ret
  exact ⟨rfl, rfl⟩
/-- A step of a flow that runs a machine: the machine goes on. -/
theorem fstep_sub (x m g : Nat) (f : Fl) (rest : List Value) (T : TypeId) (ty : TypeId) (F y : Nat) (s : St) (w : World) (R : World → Prop) (hb : FlAt w x f rest T) (hs : f.sub = .iface ty (.pointer (some ⟨y, 0, none⟩))) (hk : f.kind = 0) (hS : StepOf ty F) (hN : NoSleeper ty) (hM : MemAt w m g s)
    (H : Calls Try.prog F #[.pointer (some ⟨y, 0, none⟩), .pointer (some ⟨m, 0, none⟩)] w fun e w' => e = .returned (.bool false) ∧ FlAt w' x f rest T ∧ R w') :
    Calls Try.prog 72 #[.pointer (some ⟨x, 0, none⟩), .pointer (some ⟨m, 0, none⟩)] w fun e w' => e = .returned (.bool false) ∧ R w' := by
  have hfine : f.fine := .inr ⟨_, _, hs⟩
  have hov : f.over = false := by unfold Fl.over; rw [hs]; simp
  have HD := fdone_any x f rest T w hb hfine
  rw [hov] at HD
  have HD := hid HD
  have HA := hid (fasleep_sub x m g f rest T ty y s w hb hs hk hN hM)
  have HH := hid H
  have HF := hid (And.intro hs hfine)
  have HOV := hid hov
  obtain ⟨c0, c1, c2, c3, c4, c5, c6, c7, c8⟩ := hb.cells
  rw [hs] at c7
  have hq : ∀ w : World, (binOp .eql 95 (.iface ty (.pointer (some ⟨y, 0, none⟩))) .nilIface).run Try.prog w = .ok (.bool false) w := fun w => run_eql_held_nil w _ _ _ (by kernel_rfl)
  have hme := hS.meth y
  have hen := hS.enters
  clear hb hs hk hS hN hM H hfine hov c0 c1 c2 c3 c4 c5 c6 c8
  go_enter Try.func72, Try.ntmps72
  go_wp2_with fail
  refine HD.out.mono ?_
  rintro e w1 ⟨rfl, rfl⟩
  go_wp2_with fail
  refine HA.out.mono ?_
  rintro e w1 ⟨rfl, rfl⟩
  go_wp2_with fail
  refine HH.out.mono ?_
  rintro e w1 ⟨rfl, hb1, hR⟩
  have HD1 := fdone_any x f rest T w1 hb1 HF.out.2
  rw [HOV.out] at HD1
  have HD1 := hid HD1
  have HR := hid hR
  clear hb1 hR
  go_wp2_with fail
  refine HD1.out.mono ?_
  rintro e w2 ⟨rfl, rfl⟩
  go_wp2
  go_ret
  exact ⟨rfl, HR.out⟩
/-- A flow behind a machine that it ran. -/
def Fl.left (f : Fl) : Fl := { f with sub := .nilIface, af := .nilFunc }
/-- .. the machine is done, and what follows it goes on. -/
theorem fstep_sub_done (o : Bool) (x m g : Nat) (f : Fl) (rest : List Value) (T : TypeId) (ty : TypeId) (F y FA : Nat) (s : St) (w : World) (R1 R : World → Prop) (hb : FlAt w x f rest T) (hs : f.sub = .iface ty (.pointer (some ⟨y, 0, none⟩))) (hk : f.kind = 0) (haf : f.af = meth FA x) (hS : StepOf ty F) (hN : NoSleeper ty) (hM : MemAt w m g s)
    (eg : ∀ vs w, (callFunc FA vs).run Try.prog w = .ok (.enter FA vs) w)
    (H : Calls Try.prog F #[.pointer (some ⟨y, 0, none⟩), .pointer (some ⟨m, 0, none⟩)] w fun e w' => e = .returned (.bool true) ∧ FlAt w' x f rest T ∧ R1 w')
    (hthen : ∀ w1 w2, R1 w1 → Kept [x] w1 w2 → FlAt w2 x f.left rest T → Calls Try.prog FA #[.pointer (some ⟨x, 0, none⟩)] w2 fun e w' => (∃ r, e = .returned r) ∧ R w')
    (hR : ∀ w', R w' → ∃ f' rest', FlAt w' x f' rest' T ∧ f'.fine ∧ f'.over = o) :
    Calls Try.prog 72 #[.pointer (some ⟨x, 0, none⟩), .pointer (some ⟨m, 0, none⟩)] w fun e w' => e = .returned (.bool o) ∧ R w' := by
  have hfine : f.fine := .inr ⟨_, _, hs⟩
  have hov : f.over = false := by unfold Fl.over; rw [hs]; simp
  have HD := fdone_any x f rest T w hb hfine
  rw [hov] at HD
  have HD := hid HD
  have HA := hid (fasleep_sub x m g f rest T ty y s w hb hs hk hN hM)
  have HH := hid H
  have HT := hid hthen
  have HRR := hid hR
  have HAF := hid haf
  obtain ⟨c0, c1, c2, c3, c4, c5, c6, c7, c8⟩ := hb.cells
  rw [hs] at c7
  have hq : ∀ w : World, (binOp .eql 95 (.iface ty (.pointer (some ⟨y, 0, none⟩))) .nilIface).run Try.prog w = .ok (.bool false) w := fun w => run_eql_held_nil w _ _ _ (by kernel_rfl)
  have hme := hS.meth y
  have hen := hS.enters
  clear hb hs hk hS hN hM H hfine hov c0 c1 c2 c3 c4 c5 c6 c8 hthen hR haf
  go_enter Try.func72, Try.ntmps72
  go_wp2_with fail
  refine HD.out.mono ?_
  rintro e w1 ⟨rfl, rfl⟩
  go_wp2_with fail
  refine HA.out.mono ?_
  rintro e w1 ⟨rfl, rfl⟩
  go_wp2_with fail
  refine HH.out.mono ?_
  rintro e w1 ⟨rfl, hb1, hR1⟩
  obtain ⟨c0, c1, c2, c3, c4, c5, c6, c7', c8⟩ := hb1.cells
  rw [HAF.out] at c8
  have hf := Blk.frozen hb1
  have hb2 : FlAt ((w1.setCell ⟨x, 7, none⟩ .nilIface).setCell ⟨x, 8, none⟩ .nilFunc) x f.left rest T := (Blk.set hb1 7 .nilIface).set 8 .nilFunc
  have hk2 : Kept [x] w1 ((w1.setCell ⟨x, 7, none⟩ .nilIface).setCell ⟨x, 8, none⟩ .nilFunc) := ((Kept.refl [x] w1).set (.inl (by simp)) _).set (.inl (by simp)) _
  have H2 := hid (HT.out w1 _ hR1 hk2 hb2)
  simp only [meth] at c8
  clear hb1 hR1 hb2 hk2 c0 c1 c2 c3 c4 c5 c6
  go_wp2_with fail
  refine H2.out.mono ?_
  rintro e w2 ⟨⟨r, rfl⟩, hR2⟩
  obtain ⟨f', rest', hb', hfine', ho⟩ := HRR.out w2 hR2
  have HD2 := fdone_any x f' rest' T w2 hb' hfine'
  rw [ho] at HD2
  have HD2 := hid HD2
  have HR2 := hid hR2
  clear hb' hR2 ho hfine'
  go_wp2_with fail
  refine HD2.out.mono ?_
  rintro e w3 ⟨rfl, rfl⟩
  go_wp2
  go_ret
  exact ⟨rfl, HR2.out⟩
end Go.Proofs.Ytnmkfmaohflejaa.Flow
end
