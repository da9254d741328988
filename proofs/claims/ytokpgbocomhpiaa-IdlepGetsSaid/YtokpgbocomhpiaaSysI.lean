/- What the laws of steps know of a world, over any machine. -/
import Derived.Test.YtokpgbocomhpiaaSys
set_option maxRecDepth 100000
set_option maxHeartbeats 4000000
set_option linter.unusedVariables false
set_option linter.unusedSimpArgs false
namespace Go.Proofs.Ytokpgbocomhpiaa.Sys
open Go.RowKit Go.Shelf Go.Proofs.Ytokpgbocomhpiaa.TK Go.Proofs.Ytokpgbocomhpiaa.Flag Go.Proofs.Ytokpgbocomhpiaa.Read Go.Proofs.Ytokpgbocomhpiaa.Grow Go.Proofs.Ytokpgbocomhpiaa.Words Go.Proofs.Ytokpgbocomhpiaa.Mem Go.Proofs.Ytokpgbocomhpiaa.Run Go.Proofs.Ytokpgbocomhpiaa.Lock Go.Proofs.Ytokpgbocomhpiaa.Flow
/-- A block of none of these types. -/
def Not (Own : List TypeId) (w : World) (i : Nat) : Prop := ∀ T ∈ Own, ∀ cs, ¬ Blk w i cs T
/-- The types of the two memories, of a run, of a list of words. -/
def theirs : List TypeId := [25, 164, 77, 69]
/-- A machine's place in a world, and what it stands on. -/
structure MachOf {σ : Type} (At : World → σ → Prop) (Own : List TypeId) : Prop where
  kept : ∀ (w w' : World) (st : σ) (S : List Nat), At w st → Kept S w w' → (∀ i ∈ S, Not Own w i) → At w' st
  own : ∀ T ∈ Own, T ∉ theirs
theorem MachOf.quiet {σ : Type} {At : World → σ → Prop} {Own : List TypeId} (h : MachOf At Own) {w w' : World} {st : σ} (hA : At w st) (hb : Below w.heap.size w w') : At w' st :=
  h.kept w w' st [] hA (Kept.of_below hb []) (by simp)
/-- What a step keeps: all but the memory's blocks, and the machine's own. -/
def KeptOwn (Own : List TypeId) (lo m g : Nat) (w w' : World) : Prop := ∃ S, Kept S w w' ∧ ∀ i ∈ S, i = m ∨ i = g ∨ (lo ≤ i ∧ ∃ T ∈ Own, ∃ cs, Blk w i cs T)
theorem not_of {Own : List TypeId} {w : World} {i : Nat} {cs : List Value} {T : TypeId} (h : Blk w i cs T) (hT : T ∉ Own) : Not Own w i :=
  fun T' hT' => blk_not h (fun e => hT (by rw [e]; exact hT'))
/-- The state behind a step, and the memory's. -/
def stepOf {σ : Type} (M : Rsys σ) (who : Int) (st : σ) (s : St) : σ × St :=
  match M.want st with
  | none => (st, s)
  | some W => if W.slp && decide ((s.peek W.at_).1 = 0) then (st, s) else (M.next st (s.acc W.kind who W.at_ W.old W.new).2, (s.acc W.kind who W.at_ W.old W.new).1)
/-- What the law knows of a world, behind n pokes. -/
structure SI {σ : Type} (M : Rsys σ) (At : World → σ → Prop) (s0 : σ) (w0 w : World) (B m g rm rg : Nat) (st : σ) (s : St) (v : Value) (got : List Int) (n : Nat) : Prop where
  low : Below w0.heap.size w0 w
  both : Both w m g rm rg s
  mach : At w st
  grow : Grow w B 25 1 (encI .u64) v got
  path : Path M s0 got st
  rng : ∀ x ∈ got, 0 ≤ x ∧ x < 18446744073709551616
  len : got.length ≤ n
  size : B ≤ w.heap.size
  clock : s.clock ≤ n ∧ s.bad ≤ n
  ltB : m < B ∧ g < B ∧ rm < B ∧ rg < B
  ge : w0.heap.size ≤ m ∧ w0.heap.size ≤ g ∧ w0.heap.size ≤ rm ∧ w0.heap.size ≤ rg ∧ w0.heap.size ≤ B
section
variable {σ : Type} {M : Rsys σ} {At : World → σ → Prop} {Own : List TypeId} {s0 st st' : σ} {w0 w w' : World} {B m g rm rg : Nat} {s s' : St} {v v' : Value} {got got' : List Int} {n : Nat}
theorem SI.quiet (hM : MachOf At Own) (h : SI M At s0 w0 w B m g rm rg st s v got n) (hb : Below w.heap.size w w') : SI M At s0 w0 w' B m g rm rg st s v got n :=
  ⟨h.low.trans (hb.mono h.low.size), h.both.quiet hb, hM.quiet h.mach hb, h.grow.quiet hb, h.path, h.rng, h.len, Nat.le_trans h.size hb.size, h.clock, h.ltB, h.ge⟩
theorem SI.notOwn (hM : MachOf At Own) (h : SI M At s0 w0 w B m g rm rg st s v got n) : ∀ i ∈ [m, g, rm, rg], Not Own w i := by
  obtain ⟨_, _, a1, a2, _⟩ := h.both.rmem.ex
  obtain ⟨_, _, b1, b2, _⟩ := h.both.mem.ex
  have q : ∀ T, T ∈ theirs → T ∉ Own := fun T hT hO => hM.own T hO hT
  intro i hi
  simp at hi
  rcases hi with rfl | rfl | rfl | rfl
  · exact not_of b1 (q _ (by decide))
  · exact not_of b2 (q _ (by decide))
  · exact not_of a1 (q _ (by decide))
  · exact not_of a2 (q _ (by decide))
theorem SI.ownLow (h : SI M At s0 w0 w B m g rm rg st s v got n) {i : Nat} (hi : i < B) : i ∉ v.ownBlock.toList := by
  have := own_low h.grow hi
  simpa using this
/-- An access by both. -/
theorem SI.poke (hM : MachOf At Own) (h : SI M At s0 w0 w B m g rm rg st s v got n) (hB : Both w' m g rm rg s') (hK : Kept [m, g, rm, rg] w w') (hc : s'.clock = s.clock + 1 ∧ s'.bad ≤ s.bad + 1) : SI M At s0 w0 w' B m g rm rg st s' v got (n + 1) := by
  obtain ⟨l1, l2, l3, l4⟩ := h.ltB
  obtain ⟨g1, g2, g3, g4, g5⟩ := h.ge
  obtain ⟨c1, c2⟩ := h.clock
  refine ⟨below_kept h.low hK (by simp; omega) h.low.size, hB, hM.kept _ _ _ _ h.mach hK (h.notOwn hM), Grow.kept h.grow hK (by simp; omega), h.path, h.rng, Nat.le_succ_of_le h.len, Nat.le_trans h.size hK.size, ⟨by push_cast; omega, by push_cast; omega⟩, h.ltB, h.ge⟩
/-- The document's turn. -/
theorem SI.turn (hM : MachOf At Own) (h : SI M At s0 w0 w B m g rm rg st s v got n) (hK : Kept ([rm, rg] ++ v.ownBlock.toList) w w') : MemAt w' m g s ∧ At w' st ∧ Below w0.heap.size w0 w' := by
  obtain ⟨l1, l2, l3, l4⟩ := h.ltB
  obtain ⟨g1, g2, g3, g4, g5⟩ := h.ge
  have q := h.both.neR
  refine ⟨h.both.mem.kept hK (by simp only [List.mem_append, List.mem_cons, List.not_mem_nil, or_false]; rintro (h1 | h1); rcases h1 with h1 | h1; exact q.1 h1; exact h.both.n1 h1; exact h.ownLow l1 h1) (by simp only [List.mem_append, List.mem_cons, List.not_mem_nil, or_false]; rintro (h1 | h1); rcases h1 with h1 | h1; exact q.2 h1; exact h.both.n2 h1; exact h.ownLow l2 h1), hM.kept _ _ _ _ h.mach hK ?_, ?_⟩
  · intro i hi
    rcases List.mem_append.1 hi with hi | hi
    · exact h.notOwn hM i (by simp at hi; rcases hi with rfl | rfl <;> simp)
    · intro T hT
      exact own_after h.grow (fun e => hM.own T hT (by rw [← e]; decide)) i hi
  · refine below_kept h.low hK ?_ h.low.size
    intro i hi
    rcases List.mem_append.1 hi with hi | hi
    · simp at hi; omega
    · have := own_le h.grow i (by simpa using hi)
      omega
/-- A run's block. -/
theorem SI.side {r : Nat} {cs : List Value} (hM : MachOf At Own) (h : SI M At s0 w0 w B m g rm rg st s v got n) (hK : Kept [r] w w') (hr : B ≤ r) (hb : Blk w r cs 69) : SI M At s0 w0 w' B m g rm rg st s v got n := by
  obtain ⟨l1, l2, l3, l4⟩ := h.ltB
  obtain ⟨g1, g2, g3, g4, g5⟩ := h.ge
  have ho := own_type h.grow hb (by decide)
  exact ⟨below_kept h.low hK (by simp; omega) h.low.size, ⟨h.both.mem.kept hK (by simp; omega) (by simp; omega), h.both.rmem.kept hK (by simp; omega) (by simp; omega), h.both.n1, h.both.n2⟩, hM.kept _ _ _ _ h.mach hK (by intro i hi; simp at hi; subst hi; exact not_of hb (fun hO => hM.own _ hO (by decide))), Grow.keptB h.grow hK (by intro i hi; simp at hi; subst hi; exact ho), h.path, h.rng, h.len, Nat.le_trans h.size hK.size, h.clock, h.ltB, h.ge⟩
/-- A turn of the document's, and a step. -/
theorem SI.stepped {w1 w2 : World} (hM : MachOf At Own) (h : SI M At s0 w0 w B m g rm rg st s v got n) (hlow : Below w0.heap.size w0 w1) (hG : Grow w1 B 25 1 (encI .u64) v' got') (hR : RMemAt w1 rm rg s') (hS : w.heap.size ≤ w1.heap.size) (hA : At w2 st') (hMm : MemAt w2 m g s') (hK : KeptOwn Own w0.heap.size m g w1 w2) (hp : Path M s0 got' st') (hrng : ∀ x ∈ got', 0 ≤ x ∧ x < 18446744073709551616) (hln : got'.length ≤ n + 1) (hc : s'.clock ≤ s.clock + 1 ∧ s'.bad ≤ s.bad + 1) : SI M At s0 w0 w2 B m g rm rg st' s' v' got' (n + 1) := by
  obtain ⟨l1, l2, l3, l4⟩ := h.ltB
  obtain ⟨g1, g2, g3, g4, g5⟩ := h.ge
  obtain ⟨c1, c2⟩ := h.clock
  have q := h.both.neR
  have q1 := h.both.n1
  have q2 := h.both.n2
  obtain ⟨S, hK, hS2⟩ := hK
  obtain ⟨_, _, a1, a2, _⟩ := hR.ex
  have nr : ∀ {i : Nat} {T : TypeId} {cs : List Value}, Blk w1 i cs T → T ∈ theirs → i ≠ m → i ≠ g → i ∉ S := by
    intro i T cs hb hT hm hg hi
    rcases hS2 i hi with rfl | rfl | ⟨_, T', hT', cs', hb'⟩
    · exact hm rfl
    · exact hg rfl
    · exact Blk.ne hb hb' (fun e => hM.own T' hT' (by rw [← e]; exact hT)) rfl
  refine ⟨below_kept hlow hK ?_ hlow.size, ⟨hMm, hR.kept hK (nr a1 (by decide) (Ne.symm q.1) (Ne.symm q.2)) (nr a2 (by decide) (Ne.symm q1) (Ne.symm q2)), q1, q2⟩, hA, Grow.keptB hG hK ?_, hp, hrng, hln, Nat.le_trans h.size (Nat.le_trans hS hK.size), ⟨by push_cast; omega, by push_cast; omega⟩, h.ltB, h.ge⟩
  · intro i hi
    rcases hS2 i hi with rfl | rfl | ⟨h1, _⟩
    · exact g1
    · exact g2
    · exact h1
  · intro i hi
    rcases hS2 i hi with rfl | rfl | ⟨h1, T', hT', cs', hb'⟩
    · exact own_low hG l1
    · exact own_low hG l2
    · exact own_type hG hb' (fun e => hM.own T' hT' (by rw [← e]; decide))
end
/-- It is asleep. -/
def asleepOf {σ : Type} (M : Rsys σ) (st : σ) (s : St) : Bool := match M.want st with | none => false | some W => W.slp && decide ((s.peek W.at_).1 = 0)
theorem stepOf_go {σ : Type} {M : Rsys σ} {who : Int} {st : σ} {s : St} {kd ad o nw : Int} {slp : Bool} (h : M.want st = some ⟨kd, ad, o, nw, slp⟩) (ht : (slp && decide ((s.peek ad).1 = 0)) = false) : stepOf M who st s = (M.next st (s.acc kd who ad o nw).2, (s.acc kd who ad o nw).1) := by
  unfold stepOf
  rw [h]
  simp only
  rw [if_neg (by rw [ht]; simp)]
theorem acc_clock2 (s : St) (k who a o w : Int) : (s.acc k who a o w).1.clock ≤ s.clock + 1 ∧ (s.acc k who a o w).1.bad ≤ s.bad + 1 := by
  have := acc_clock s k who a o w
  omega
theorem rng_snoc {got : List Int} {a : Int} (h : ∀ x ∈ got, 0 ≤ x ∧ x < 18446744073709551616) (ha : 0 ≤ a ∧ a < 18446744073709551616) : ∀ x ∈ got ++ [a], 0 ≤ x ∧ x < 18446744073709551616 := by
  intro x hx
  rcases List.mem_append.1 hx with hx | hx
  · exact h x hx
  · simp at hx; subst hx; exact ha
/-- A turn, of a run that stopped. -/
theorem turn_go (B rm rg : Nat) (v : Value) (got : List Int) (W : Wnt) (s : St) (who : Int) (w : World) (h : Grow w B 25 1 (encI .u64) v got) (hR : RMemAt w rm rg s) (ht : (W.slp && decide ((s.peek W.at_).1 = 0)) = false) (hlen : got.length ≤ 100000)
    (hk : W.kind = 1 ∨ W.kind = 2 ∨ W.kind = 3 ∨ W.kind = 4) (hx : 0 ≤ W.new ∧ W.new < 18446744073709551616) (hc : s.clock < 1000000) (hb : s.bad < 1000000) (hB : B ≤ w.heap.size) (h1 : rm < B) (h2 : rg < B) :
    Calls Try.prog 46 #[.pointer (some ⟨rm, 0, none⟩), .agg #[v, .int .i64 (got.length : Int), .bool true, .int .i64 W.kind, .int .i64 0, .int .i64 W.at_, .int .u64 W.old, .int .u64 W.new, .bool false, .bool W.slp], .int .i64 who] w fun e w' => ∃ v', e = .returned v' ∧ Grow w' B 25 1 (encI .u64) v' (got ++ [(s.acc W.kind who W.at_ W.old W.new).2]) ∧ RMemAt w' rm rg (s.acc W.kind who W.at_ W.old W.new).1 ∧ Kept ([rm, rg] ++ v.ownBlock.toList) w w' :=
  turn_yes B 0 rm rg v (stop0 got W) s who w h hR (by unfold RunSt.turns stop0 Wnt.acc; simp only; rw [ht]; rfl) hlen hk hx hc hb hB h1 h2
theorem turn_off (B rm rg : Nat) (v : Value) (got : List Int) (s : St) (who : Int) (w : World) (h : Grow w B 25 1 (encI .u64) v got) (hR : RMemAt w rm rg s) :
    Calls Try.prog 46 #[.pointer (some ⟨rm, 0, none⟩), .agg #[v, .int .i64 (got.length : Int), .bool false, .int .i64 0, .int .i64 0, .int .i64 0, .int .u64 0, .int .u64 0, .bool false, .bool false], .int .i64 who] w fun e w' => e = .returned v ∧ Below w.heap.size w w' :=
  turn_no B 0 rm rg v (runU got got.length) s who w h hR rfl
theorem turn_sleep (B rm rg : Nat) (v : Value) (got : List Int) (W : Wnt) (s : St) (who : Int) (w : World) (h : Grow w B 25 1 (encI .u64) v got) (hR : RMemAt w rm rg s) (ht : (W.slp && decide ((s.peek W.at_).1 = 0)) = true) :
    Calls Try.prog 46 #[.pointer (some ⟨rm, 0, none⟩), .agg #[v, .int .i64 (got.length : Int), .bool true, .int .i64 W.kind, .int .i64 0, .int .i64 W.at_, .int .u64 W.old, .int .u64 W.new, .bool false, .bool W.slp], .int .i64 who] w fun e w' => e = .returned v ∧ Below w.heap.size w w' :=
  turn_no B 0 rm rg v (stop0 got W) s who w h hR (by unfold RunSt.turns stop0 Wnt.acc; simp only; rw [ht]; rfl)
end Go.Proofs.Ytokpgbocomhpiaa.Sys
