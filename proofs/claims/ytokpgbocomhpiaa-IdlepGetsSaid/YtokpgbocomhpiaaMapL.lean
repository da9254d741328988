/- A list that is gone through by its links, and the numbers that were seen, in a map of the call's own. -/
import Derived.Test.YtokpgbocomhpiaaIdlemC
import Derived.Maps.OwnOps
import Derived.Maps.Views
set_option maxRecDepth 100000
set_option maxHeartbeats 4000000
set_option linter.unusedVariables false
set_option linter.unusedSimpArgs false
namespace Go.Proofs.Ytokpgbocomhpiaa.Grow
open Go.RowKit Go.Proofs.Ytokpgbocomhpiaa.TK Go.Proofs.Ytokpgbocomhpiaa.Read
variable {α : Type} {P : Program}
/-- As app_one; what is kept told as the kit tells it. -/
theorem app_oneG {w : World} {B : Nat} {T S : TypeId} {z : Value} {size bytes : Nat} {enc : α → List Value} {v : Value} {xs : List α} (x : α) {U : TypeId} {cs : Array Value}
    (hG : Grow w B T size enc v xs) (hE : Elem P T z size bytes) (hS : P.underlying S = some (.slice T)) (hzs : z.cells.size = size) (hsz : 0 < size) (hbz : bytes ≤ 1000)
    {ops : Array Oper} {rest : List Oper} {o : Oper} {a : Act} {Q : Exit → Act → World → Prop}
    (hgd : o.guard = none) (s x' : Operand) (ho : o.op = .call { callee := .builtin .append, args := #[s, x'], argTypes := #[S, S] }) (hs : a.eval s = v) (hx : a.eval x' = .slice (some ⟨w.heap.size, 0, none⟩) 1 1)
    (hc : cs.toList = enc x) (hl : (enc x).length = size) (h1 : ∀ u ∈ enc x, u.oneCell' = true) (hm : xs.length ≤ 1000000) (hB : B ≤ w.heap.size)
    (h : ∀ v' w', Grow w' B T size enc v' (xs ++ [x]) → w.grownBy w' v.ownBlock → wpList P ops Q rest (a.put o.dst v') w') :
    wpList P ops Q (o :: rest) a (w.alloc (.cells cs U)) := by
  obtain ⟨i0, hi, hz0, hz1, hz2⟩ := info_parts hE
  have hb1 : (xs.length + 1) * bytes ≤ 1000001 * 1000 := Nat.mul_le_mul (by omega) hbz
  refine wpList_append_own _ hgd s x' S ho B T i0 _ size bytes hS hi hz0 hz1 hz2 hzs hsz v xs.length (xs.flatMap enc) hs (World.ownsRow.alloc hG _) ⟨w.heap.size, 0, none⟩ 1 1 (enc x) hx (by rw [hl, Nat.one_mul]) ?_ h1 (by unfold maxLen; omega) (by omega) (by simp; omega) ?_
  · intro j u hj
    have hb : Blk (w.alloc (.cells cs U)) w.heap.size cs.toList U := by
      have := Blk.new w cs.toList U
      simpa using this
    have e1 : (⟨w.heap.size, 0, none⟩ : Addr).add j = ⟨w.heap.size, j, none⟩ := by unfold Addr.add; split <;> simp_all
    rw [e1, hb.cell j, hc]
    exact hj
  · intro v' w' hown hgrow _
    refine h v' w' ?_ ((World.grownBy_alloc _ _ _).trans hgrow)
    unfold Grow
    rw [List.length_append, List.flatMap_append]
    simpa using hown
end Go.Proofs.Ytokpgbocomhpiaa.Grow
namespace Go.Proofs.Ytokpgbocomhpiaa.MapL
open Go.RowKit Go.Shelf Go.Proofs.Ytokpgbocomhpiaa.TK Go.Proofs.Ytokpgbocomhpiaa.Flag Go.Proofs.Ytokpgbocomhpiaa.Read Go.Proofs.Ytokpgbocomhpiaa.Grow Go.Proofs.Ytokpgbocomhpiaa.Words Go.Proofs.Ytokpgbocomhpiaa.Mem Go.Proofs.Ytokpgbocomhpiaa.Layout Go.Proofs.Ytokpgbocomhpiaa.Mach
/-- The number that a word tells of. -/
def nOf (a : Int) : Int := IntKind.i64.wrap (IntKind.i64.wrap a - 1)
/-- What is told of a list: its numbers, and whether it is right; rd: what a link says, and whether it is there. -/
def wlk (rd : Int → Int × Bool) : Nat → Int → List Int → List Int × Bool
  | 0, x, out => (out, decide (x = 0))
  | f + 1, x, out => if x = 0 then (out, true) else if (rd (nOf x)).2 = false ∨ nOf x ∈ out then (out, false) else wlk rd f (rd (nOf x)).1 (out ++ [nOf x])
theorem wlk_zero (rd : Int → Int × Bool) (f : Nat) (out : List Int) : wlk rd f 0 out = (out, true) := by cases f <;> simp [wlk]
/-- Unlike numbers below N are at most N. -/
theorem pigeon : ∀ (N : Nat) (xs : List Int), xs.Nodup → (∀ t ∈ xs, 0 ≤ t ∧ t < (N : Int)) → xs.length ≤ N := by
  intro N
  induction N with
  | zero =>
    intro xs _ h
    cases xs with
    | nil => simp
    | cons a l => have := h a (by simp); omega
  | succ N ih =>
    intro xs hn h
    by_cases hm : (N : Int) ∈ xs
    · have h1 := ih (xs.erase (N : Int)) (hn.erase _) (by
        intro t ht
        have h2 := (hn.mem_erase_iff).1 ht
        have := h t h2.2
        have := h2.1
        omega)
      rw [List.length_erase_of_mem hm] at h1
      omega
    · have := ih xs hn (by
        intro t ht
        have h2 := h t ht
        have : t ≠ (N : Int) := fun e => hm (by rw [← e]; exact ht)
        omega)
      omega
theorem law : Go.Maps.Keyed Try.prog 3 := Go.Maps.int_keyed Try.underlying3
theorem zeroE (w : World) : (zeroValue 3).run Try.prog w = .ok (.int .i64 0) w := by kernel_rfl
/-- The map in block b has these numbers, each with 1. -/
def Seen (w : World) (b n : Nat) (out : List Int) : Prop := ∃ D : DataW Unit, w.ownsMap Try.prog 3 (plainElem Try.prog 3) b n D ∧ Go.Maps.IsMap D ∧ ∀ t, (Lit.int .i64 t).wf = true → D.atKey (.int .i64 t) (.lit (.int .i64 0)) = .lit (.int .i64 (if t ∈ out then 1 else 0))
theorem Seen.new (w : World) : Seen (w.alloc (.map #[] 0)) w.heap.size 0 [] := ⟨.map [], World.ownsMap_made _ _ _ _, Go.Maps.isMap_empty, fun t _ => rfl⟩
theorem Seen.quiet {w w' : World} {b n : Nat} {out : List Int} (h : Seen w b n out) (hb : Below w.heap.size w w') : Seen w' b n out := by
  obtain ⟨D, ⟨es, clock, h1, h2⟩, h3⟩ := h
  exact ⟨D, ⟨es, clock, (hb.block b (lt_of_block h1)).trans h1, h2⟩, h3⟩
theorem Seen.grown {w w' : World} {b n : Nat} {out : List Int} {row : Option Nat} (h : Seen w b n out) (hg : w.grownBy w' row) (hne : some b ≠ row) : Seen w' b n out := by
  obtain ⟨D, h1, h3⟩ := h
  exact ⟨D, h1.kept hg hne, h3⟩
theorem Seen.look {w : World} {b n : Nat} {out : List Int} (h : Seen w b n out) {t : Int} (ht : (Lit.int .i64 t).wf = true) : (Instr.lookup 189 (.map (some b)) (.int .i64 t) false).run Try.prog w = .ok (.int .i64 (if t ∈ out then 1 else 0)) w := by
  obtain ⟨D, h1, h2, h3⟩ := h
  obtain ⟨c, hrun, hat, _⟩ := h1.lookup_int law Try.underlying189 Try.underlying3 (zeroE _) (Go.Maps.keyOf_int_mk Try.underlying3 ht)
  rw [h3 t ht] at hat
  injection hat with hat
  injection hat with _ hat
  rw [hat]
  exact hrun
theorem Seen.put {w : World} {b n : Nat} {out : List Int} {t : Int} (ht : (Lit.int .i64 t).wf = true) {D : DataW Unit} (h2 : Go.Maps.IsMap D) (h3 : ∀ t, (Lit.int .i64 t).wf = true → D.atKey (.int .i64 t) (.lit (.int .i64 0)) = .lit (.int .i64 (if t ∈ out then 1 else 0))) (h1 : w.ownsMap Try.prog 3 (plainElem Try.prog 3) b (n + 1) (D.put (.int .i64 t) (.lit (.int .i64 1)))) : Seen w b (n + 1) (out ++ [t]) := by
  refine ⟨_, h1, h2.put _ _, ?_⟩
  intro u hu
  by_cases he : u = t
  · subst he
    rw [Go.Maps.atKey_put_same (k := .int .i64 u) h2 trivial]
    simp
  · rw [Go.Maps.atKey_put_other (by intro h; injection h with _ h; exact he h), h3 u hu]
    simp [he]
theorem wrap_wf (x : Int) : (Lit.int .i64 (IntKind.i64.wrap x)).wf = true := by
  rw [IntKind.wrap_i64]
  simp [Lit.wf, IntKind.min, IntKind.max, IntKind.signed, IntKind.bits]
  omega
theorem wlk_len (rd : Int → Int × Bool) : ∀ (f : Nat) (x : Int) (out : List Int), (wlk rd f x out).1.length ≤ out.length + f := by
  intro f
  induction f with
  | zero => intro x out; simp [wlk]
  | succ f ih =>
    intro x out
    unfold wlk
    split
    · simp
    · split
      · simp
      · have := ih (rd (nOf x)).1 (out ++ [nOf x])
        simp at this
        omega
/-- A slice's length. -/
def lenV : Value → Nat
  | .slice _ n _ => n
  | _ => 0
end Go.Proofs.Ytokpgbocomhpiaa.MapL
