/- More steps of a walk over a region whose order is open. -/
import Derived.Test.YtlchnmkmepippaaFlag
set_option linter.unusedVariables false
namespace Go.Proofs.Ytlchnmkmepippaa.Flag
section
variable {P : Program} {ops : Array Oper} {md : Region.Mode} {ix : List Nat} {D : List Bool → World → Prop} {Q : Act → Prop} {o : Oper} {rest : List Oper} {k : Nat} {a : Act}
theorem walkD_read1 {v : Value} (bs : List Bool) (hp : poss md ops ix k = [bs]) (hw : Region.wanted o (yielded ops a.tmps) = true) (hk : ix.contains k = false) (hr : ∀ w, D bs w → (execOp a.eval o).run P w = .ok (.value v) w)
    (h : ∀ K : Act → Prop, (∀ a, walkD P md ops ix D Q rest (k + 1) a → K a) → K (a.put o.dst v)) : walkD P md ops ix D Q (o :: rest) k a :=
  walkD_read hw hk (fun b hb w hD => by rw [hp] at hb; obtain rfl := List.mem_singleton.1 hb; exact hr w hD) h
theorem walkD_turn1 {v : Value} (bs : List Bool) (hp : poss md ops ix k = [bs]) (hw : Region.wanted o (yielded ops a.tmps) = true) (hv : ∀ w, D bs w → opAt P o a (D (came ix k bs)) w v)
    (h : ∀ K : Act → Prop, (∀ a, walkD P md ops ix D Q rest (k + 1) a → K a) → K (a.put o.dst v)) : walkD P md ops ix D Q (o :: rest) k a :=
  walkD_turn hw (fun b hb w hD => by rw [hp] at hb; obtain rfl := List.mem_singleton.1 hb; exact hv w hD) h
end
end Go.Proofs.Ytlchnmkmepippaa.Flag
namespace Go.Proofs.Ytlchnmkmepippaa.TK
theorem add_next (x : Addr) (m j : Nat) : x.add (m + (j + 1)) = ⟨x.block, (x.add m).off + (j + 1), none⟩ := by
  unfold Addr.add
  by_cases hm : m = 0 <;> simp [hm, Nat.add_assoc]
end Go.Proofs.Ytlchnmkmepippaa.TK
