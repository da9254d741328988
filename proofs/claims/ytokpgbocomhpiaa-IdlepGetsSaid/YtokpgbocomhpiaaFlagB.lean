/- More steps of a walk over a region whose order is open. -/
import Derived.Test.YtokpgbocomhpiaaFlag
set_option linter.unusedVariables false
namespace Go.Proofs.Ytokpgbocomhpiaa.Flag
section
variable {P : Program} {ops : Array Oper} {md : Region.Mode} {ix : List Nat} {D : List Bool → World → Prop} {Q : Act → Prop} {o : Oper} {rest : List Oper} {k : Nat} {a : Act}
theorem walkD_read1 {v : Value} (bs : List Bool) (hp : poss md ops ix k = [bs]) (hw : Region.wanted o (yielded ops a.tmps) = true) (hk : ix.contains k = false) (hr : ∀ w, D bs w → (execOp a.eval o).run P w = .ok (.value v) w)
    (h : ∀ K : Act → Prop, (∀ a, walkD P md ops ix D Q rest (k + 1) a → K a) → K (a.put o.dst v)) : walkD P md ops ix D Q (o :: rest) k a :=
  walkD_read hw hk (fun b hb w hD => by rw [hp] at hb; obtain rfl := List.mem_singleton.1 hb; exact hr w hD) h
theorem walkD_turn1 {v : Value} (bs : List Bool) (hp : poss md ops ix k = [bs]) (hw : Region.wanted o (yielded ops a.tmps) = true) (hv : ∀ w, D bs w → opAt P o a (D (came ix k bs)) w v)
    (h : ∀ K : Act → Prop, (∀ a, walkD P md ops ix D Q rest (k + 1) a → K a) → K (a.put o.dst v)) : walkD P md ops ix D Q (o :: rest) k a :=
  walkD_turn hw (fun b hb w hD => by rw [hp] at hb; obtain rfl := List.mem_singleton.1 hb; exact hv w hD) h
theorem walkD_turn2 {v : Value} (b1 b2 : List Bool) (hp : poss md ops ix k = [b1, b2]) (hw : Region.wanted o (yielded ops a.tmps) = true) (h1 : ∀ w, D b1 w → opAt P o a (D (came ix k b1)) w v) (h2 : ∀ w, D b2 w → opAt P o a (D (came ix k b2)) w v)
    (h : ∀ K : Act → Prop, (∀ a, walkD P md ops ix D Q rest (k + 1) a → K a) → K (a.put o.dst v)) : walkD P md ops ix D Q (o :: rest) k a :=
  walkD_turn hw (fun b hb w hD => by
    rw [hp] at hb
    simp only [List.mem_cons, List.not_mem_nil, or_false] at hb
    rcases hb with rfl | rfl
    · exact h1 w hD
    · exact h2 w hD) h
end
section
open Go.RowKit Go.Proofs.Ytokpgbocomhpiaa.TK
variable {P : Program} {w : World} {l : List Oper} {a : Act} {Q : Exit → Act → World → Prop} {id : Nat}
/-- Ahead of the turning operation, and behind it. -/
def tcl (I R : World → Prop) (bs : List Bool) (w : World) : Prop := if bs.getD 0 false = true then R w else I w
/-- A region of reads and quiet calls, of which one operation, that waits for all it needs, turns the world. -/
theorem wp_region_T (k : Nat) (I R : World → Prop) (hm : P.follows .mixedOrders = true) (hB : Region.lexB .any l.toArray = true) (hix : [k].all (· < l.length) = true)
    (hac : (List.range l.length).all (fun i => ((l.toArray[i]?).map (fun o => o.after.toList.all (fun e => !Region.binds .any e || e.on < i))).getD true) = true)
    (hI : I w.drew) (h : walkD P .any l.toArray [k] (tcl I R) (fun a' => ∀ w', R w' → Q .normal a' w') l 0 a) : (Code.region id l.toArray true).wp P Q a w :=
  wp_region_D [k] (tcl I R) hm hB hix hac hI h
theorem wp_region_T0 (k : Nat) (I R : World → Prop) (hix : [k].all (· < l.length) = true)
    (hac : (List.range l.length).all (fun i => ((l.toArray[i]?).map (fun o => o.after.toList.all (fun e => !Region.binds .any e || e.on < i))).getD true) = true)
    (hI : I w) (h : walkD P .any l.toArray [k] (tcl I R) (fun a' => ∀ w', R w' → Q .normal a' w') l 0 a) : (Code.region id l.toArray false).wp P Q a w :=
  wp_region_D0 [k] (tcl I R) hix hac hI h
end
end Go.Proofs.Ytokpgbocomhpiaa.Flag
namespace Go.Proofs.Ytokpgbocomhpiaa.TK
theorem add_next (x : Addr) (m j : Nat) : x.add (m + (j + 1)) = ⟨x.block, (x.add m).off + (j + 1), none⟩ := by
  unfold Addr.add
  by_cases hm : m = 0 <;> simp [hm, Nat.add_assoc]
end Go.Proofs.Ytokpgbocomhpiaa.TK
