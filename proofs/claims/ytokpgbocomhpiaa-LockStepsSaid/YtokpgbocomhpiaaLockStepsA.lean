/- The walk of LockSteps: what is known of a world. -/
import Derived.Test.YtokpgbocomhpiaaAcqRef
import Derived.Test.YtokpgbocomhpiaaNoteWakesW
import Derived.Deep.DeepCutAuto
set_option maxRecDepth 100000
set_option maxHeartbeats 4000000
set_option linter.unusedVariables false
set_option linter.unusedSimpArgs false
namespace Go.Proofs.Ytokpgbocomhpiaa.Lock
open Go.RowKit Go.Shelf Go.Proofs.Ytokpgbocomhpiaa.TK Go.Proofs.Ytokpgbocomhpiaa.Flag Go.Proofs.Ytokpgbocomhpiaa.Words Go.Proofs.Ytokpgbocomhpiaa.Mem Go.Proofs.Ytokpgbocomhpiaa.Flow Go.Proofs.Ytokpgbocomhpiaa.Layout Go.Proofs.Ytokpgbocomhpiaa.Run Go.Proofs.Ytokpgbocomhpiaa.Read Go.Proofs.Ytokpgbocomhpiaa.Grow
/-- How far it is by what its accesses answered. -/
def AcqGot : AcqSt → List Int → Prop
  | .ask, got => got = []
  | .wait t, got => ∃ t0 ls, got = t0 :: (ls ++ []) ∧ (0 ≤ t0 ∧ t0 < 18446744073709551616) ∧ t = turnOf t0 ∧ ∀ x ∈ ls, x ≠ turnOf t0
  | .own t, got => ∃ t0 ls, got = t0 :: (ls ++ [turnOf t0]) ∧ (0 ≤ t0 ∧ t0 < 18446744073709551616) ∧ t = turnOf t0 ∧ ∀ x ∈ ls, x ≠ turnOf t0
  | .done t, got => ∃ t0 ls z, got = t0 :: (ls ++ [turnOf t0, z]) ∧ (0 ≤ t0 ∧ t0 < 18446744073709551616) ∧ t = turnOf t0 ∧ ∀ x ∈ ls, x ≠ turnOf t0
/-- What the law knows of a world, behind n pokes. -/
structure AI (w0 w : World) (B l m g rm rg x : Nat) (k who : Int) (st : AcqSt) (s : St) (v : Value) (got : List Int) (n : Nat) : Prop where
  low : Below w0.heap.size w0 w
  both : Both w m g rm rg s
  rl : AcqAt w x l k who st
  grow : Grow w B 25 1 (encI .u64) v got
  rep : AcqGot st got
  len : got.length ≤ n
  size : B ≤ w.heap.size
  clock : s.clock ≤ n ∧ s.bad ≤ n
  ltB : x < B ∧ m < B ∧ g < B ∧ rm < B ∧ rg < B
  ge : w0.heap.size ≤ x ∧ w0.heap.size ≤ m ∧ w0.heap.size ≤ g ∧ w0.heap.size ≤ rm ∧ w0.heap.size ≤ rg ∧ w0.heap.size ≤ B
section
variable {w0 w w' : World} {B l m g rm rg x : Nat} {k who : Int} {st st' : AcqSt} {s s' : St} {v v' : Value} {got got' : List Int} {n : Nat}
theorem AI.quiet (h : AI w0 w B l m g rm rg x k who st s v got n) (hb : Below w.heap.size w w') : AI w0 w' B l m g rm rg x k who st s v got n :=
  ⟨h.low.trans (hb.mono h.low.size), h.both.quiet hb, h.rl.quiet hb, h.grow.quiet hb, h.rep, h.len, Nat.le_trans h.size hb.size, h.clock, h.ltB, h.ge⟩
theorem AI.neX (h : AI w0 w B l m g rm rg x k who st s v got n) : x ≠ m ∧ x ≠ g ∧ x ≠ rm ∧ x ≠ rg := by
  obtain ⟨f, hf, _⟩ := h.rl.fl
  obtain ⟨_, _, a1, a2, _⟩ := h.both.rmem.ex
  exact ⟨h.both.mem.neT hf (by decide), h.both.mem.neG hf (by decide), Blk.ne hf a1 (by decide), Blk.ne hf a2 (by decide)⟩
theorem AI.noAfter (h : AI w0 w B l m g rm rg x k who st s v got n) : ∀ i ∈ [m, g, rm, rg], ∀ cs, ¬ Blk w i cs 1 := by
  obtain ⟨_, _, a1, a2, _⟩ := h.both.rmem.ex
  obtain ⟨_, _, b1, b2, _⟩ := h.both.mem.ex
  intro i hi
  simp at hi
  rcases hi with rfl | rfl | rfl | rfl
  · exact blk_not b1 (by decide)
  · exact blk_not b2 (by decide)
  · exact blk_not a1 (by decide)
  · exact blk_not a2 (by decide)
theorem AI.ownLow (h : AI w0 w B l m g rm rg x k who st s v got n) {i : Nat} (hi : i < B) : i ∉ v.ownBlock.toList := by
  have := own_low h.grow hi
  simpa using this
/-- An access by both. -/
theorem AI.poke (h : AI w0 w B l m g rm rg x k who st s v got n) (hB : Both w' m g rm rg s') (hK : Kept [m, g, rm, rg] w w') (hc : s'.clock = s.clock + 1 ∧ s'.bad ≤ s.bad + 1) : AI w0 w' B l m g rm rg x k who st s' v got (n + 1) := by
  obtain ⟨x1, x2, x3, x4⟩ := h.neX
  obtain ⟨l1, l2, l3, l4, l5⟩ := h.ltB
  obtain ⟨g1, g2, g3, g4, g5, g6⟩ := h.ge
  obtain ⟨c1, c2⟩ := h.clock
  refine ⟨below_kept h.low hK (by simp; omega) h.low.size, hB, h.rl.kept hK (by simp [x1, x2, x3, x4]) h.noAfter, Grow.kept h.grow hK (by simp; omega), h.rep, Nat.le_succ_of_le h.len, Nat.le_trans h.size hK.size, ⟨by push_cast; omega, by push_cast; omega⟩, h.ltB, h.ge⟩
/-- The document's turn. -/
theorem AI.turn (h : AI w0 w B l m g rm rg x k who st s v got n) (hR : RMemAt w' rm rg s') (hK : Kept ([rm, rg] ++ v.ownBlock.toList) w w') : MemAt w' m g s ∧ AcqAt w' x l k who st ∧ Below w0.heap.size w0 w' := by
  obtain ⟨x1, x2, x3, x4⟩ := h.neX
  obtain ⟨l1, l2, l3, l4, l5⟩ := h.ltB
  obtain ⟨g1, g2, g3, g4, g5, g6⟩ := h.ge
  have q := h.both.neR
  refine ⟨h.both.mem.kept hK (by simp only [List.mem_append, List.mem_cons, List.not_mem_nil, or_false]; rintro (h1 | h1); rcases h1 with h1 | h1; exact q.1 h1; exact h.both.n1 h1; exact h.ownLow l2 h1) (by simp only [List.mem_append, List.mem_cons, List.not_mem_nil, or_false]; rintro (h1 | h1); rcases h1 with h1 | h1; exact q.2 h1; exact h.both.n2 h1; exact h.ownLow l3 h1), h.rl.kept hK (by simp only [List.mem_append, List.mem_cons, List.not_mem_nil, or_false]; rintro (h1 | h1); rcases h1 with h1 | h1; exact x3 h1; exact x4 h1; exact h.ownLow l1 h1) ?_, ?_⟩
  · intro i hi
    rcases List.mem_append.1 hi with hi | hi
    · exact h.noAfter i (by simp at hi; rcases hi with rfl | rfl <;> simp)
    · exact own_after h.grow (by decide) i hi
  · refine below_kept h.low hK ?_ h.low.size
    intro i hi
    rcases List.mem_append.1 hi with hi | hi
    · simp at hi; omega
    · have := own_le h.grow i (by simpa using hi)
      omega
/-- A block of another's turns. -/
theorem AI.side {r : Nat} (h : AI w0 w B l m g rm rg x k who st s v got n) (hK : Kept [r] w w') (hr : B ≤ r) (ho : v.ownBlock ≠ some r) (hT : ∀ cs, ¬ Blk w r cs 1) : AI w0 w' B l m g rm rg x k who st s v got n := by
  obtain ⟨l1, l2, l3, l4, l5⟩ := h.ltB
  obtain ⟨g1, g2, g3, g4, g5, g6⟩ := h.ge
  exact ⟨below_kept h.low hK (by simp; omega) h.low.size, ⟨h.both.mem.kept hK (by simp; omega) (by simp; omega), h.both.rmem.kept hK (by simp; omega) (by simp; omega), h.both.n1, h.both.n2⟩, h.rl.kept hK (by simp; omega) (by intro i hi; simp at hi; subst hi; exact hT), Grow.keptB h.grow hK (by intro i hi; simp at hi; subst hi; exact ho), h.rep, h.len, Nat.le_trans h.size hK.size, h.clock, h.ltB, h.ge⟩
/-- A turn of the document's, and a step. -/
theorem AI.stepped {w1 w2 : World} (h : AI w0 w B l m g rm rg x k who st s v got n) (hlow : Below w0.heap.size w0 w1) (hG : Grow w1 B 25 1 (encI .u64) v' got') (hR : RMemAt w1 rm rg s') (hS : w.heap.size ≤ w1.heap.size) (hA : AcqAt w2 x l k who st') (hM : MemAt w2 m g s') (hK : Kept [x, m, g] w1 w2) (hg : AcqGot st' got') (hln : got'.length ≤ n + 1) (hc : s'.clock ≤ s.clock + 1 ∧ s'.bad ≤ s.bad + 1) : AI w0 w2 B l m g rm rg x k who st' s' v' got' (n + 1) := by
  obtain ⟨x1, x2, x3, x4⟩ := h.neX
  obtain ⟨l1, l2, l3, l4, l5⟩ := h.ltB
  obtain ⟨g1, g2, g3, g4, g5, g6⟩ := h.ge
  obtain ⟨c1, c2⟩ := h.clock
  have q := h.both.neR
  have q1 := h.both.n1
  have q2 := h.both.n2
  exact ⟨below_kept hlow hK (by simp; omega) hlow.size, ⟨hM, hR.kept hK (by simp; exact ⟨x3.symm, q.1.symm, q.2.symm⟩) (by simp; exact ⟨x4.symm, q1.symm, q2.symm⟩), q1, q2⟩, hA, Grow.kept hG hK (by simp; omega), hg, hln, Nat.le_trans h.size (Nat.le_trans hS hK.size), ⟨by push_cast; omega, by push_cast; omega⟩, h.ltB, h.ge⟩
end
end Go.Proofs.Ytokpgbocomhpiaa.Lock
