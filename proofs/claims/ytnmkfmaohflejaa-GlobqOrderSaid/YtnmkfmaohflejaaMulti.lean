/- Machines of one type beside each other: what a step keeps, told by blocks. -/
import Derived.Test.YtnmkfmaohflejaaSub
set_option maxRecDepth 100000
set_option maxHeartbeats 4000000
set_option linter.unusedVariables false
set_option linter.unusedSimpArgs false
namespace Go.Proofs.Ytnmkfmaohflejaa.Mach
open Go.RowKit Go.Shelf Go.Proofs.Ytnmkfmaohflejaa.TK Go.Proofs.Ytnmkfmaohflejaa.Flag Go.Proofs.Ytnmkfmaohflejaa.Words Go.Proofs.Ytnmkfmaohflejaa.Mem Go.Proofs.Ytnmkfmaohflejaa.Flow Go.Proofs.Ytnmkfmaohflejaa.Layout Go.Proofs.Ytnmkfmaohflejaa.Lock Go.Proofs.Ytnmkfmaohflejaa.Run Go.Proofs.Ytnmkfmaohflejaa.Sys
theorem Pend.keptX {w w' : World} {x : Nat} {who : Int} {rest : List Value} {T : TypeId} {n : Nx} {S : List Nat} (h : Pend w x who rest T n) (hk : Kept S w w') (hx : x ∉ S) (hS : ∀ i ∈ S, Not [1, 166] w i) : Pend w' x who rest T n := by
  cases n with
  | load a m => rcases h with h | ⟨af, h⟩; exact .inl (h.kept hk hx); exact .inr ⟨af, h.kept hk hx⟩
  | add a v m => obtain ⟨af, h⟩ := h; exact ⟨af, h.kept hk hx⟩
  | store a v m => obtain ⟨af, b, h, h2⟩ := h; exact ⟨af, b, h.kept hk hx, h2.kept hk (fun hi => hS b hi _ (by simp) _ h2)⟩
  | swap a o v m => obtain ⟨af, b, h, h2⟩ := h; exact ⟨af, b, h.kept hk hx, h2.kept hk (fun hi => hS b hi _ (by simp) _ h2)⟩
  | done => obtain ⟨f, h, h1⟩ := h; exact ⟨f, h.kept hk hx, h1⟩
section
variable {σ ε : Type} {K : Mch2 σ ε} {lo l x m mg : Nat} {p t g who : Int} {st : σ} {s : St} {w : World}
theorem m2_fstepX (G : Goes2 K lo l x p t g who) (hon : ∀ st e, ∃ n, K.nx st e = .own n) (hA : K.at_ lo l x p t g who w st) (hM : MemAt w m mg s) (hc : s.clock < 1000000) (hbd : s.bad < 1000000) :
    Calls Try.prog 72 #[.pointer (some ⟨x, 0, none⟩), .pointer (some ⟨m, 0, none⟩)] w fun e w' => e = .returned (.bool (K.sys.want (stepOf K.sys who st s).1).isNone) ∧ K.at_ lo l x p t g who w' (stepOf K.sys who st s).1 ∧ MemAt w' m mg (stepOf K.sys who st s).2 ∧ Kept [x, m, mg] w w' := by
  obtain ⟨⟨e, hp, hi⟩, hlo, hL, hok⟩ := hA
  obtain ⟨f0, hb, hfine, hfo⟩ := hp.blk
  have hT : K.T ∉ theirs := G.own K.T (List.mem_append.2 (.inl G.mem))
  have n1 : K.T ≠ 108 := fun e => hT (by rw [e]; decide)
  have n2 : K.T ≠ 31 := fun e => hT (by rw [e]; decide)
  have hxm : x ≠ m := hM.neT hb n1
  have hxg : x ≠ mg := hM.neG hb n2
  have nl : K.T ≠ 143 := fun e => G.neq.2.2 (by rw [← e]; exact G.mem)
  have na : K.T ≠ 1 := fun e => G.neq.1 (by rw [← e]; exact G.mem)
  have ns : K.T ≠ 166 := fun e => G.neq.2.1 (by rw [← e]; exact G.mem)
  have hlx : l ≠ x := Blk.ne hL.1 hb (fun e => nl e.symm)
  have hlm := hM.neT hL.1 (by decide)
  have hlg := hM.neG hL.1 (by decide)
  have hg := G.goes st e hok
  have hwant := G.want st e
  have hxs : lo ≤ w.heap.size := Nat.le_trans hlo (Nat.le_of_lt (Blk.lt hb))
  have hmne : ∀ T ∈ K.invT st, T ≠ 108 ∧ T ≠ 31 ∧ T ≠ K.T := by
    intro T hT
    have h1 := G.inT st T hT
    have h2 := G.own T h1.1
    exact ⟨fun e => h2 (by rw [e]; decide), fun e => h2 (by rw [e]; decide), h1.2⟩
  have hmem : ∀ (Own : List TypeId), (∀ T ∈ Own, T ≠ 108 ∧ T ≠ 31) → Not Own w m ∧ Not Own w mg := by
    intro Own hO
    obtain ⟨_, _, b1, b2, _⟩ := hM.ex
    exact ⟨not_of b1 (fun h => (hO _ h).1 rfl), not_of b2 (fun h => (hO _ h).2 rfl)⟩
  have ovr : ∀ (w' : World) (st' : σ), K.at_ lo l x p t g who w' st' → ∃ f' rest', FlAt w' x f' rest' K.T ∧ f'.fine ∧ f'.over = (K.sys.want st').isNone := by
    rintro w' st' ⟨⟨e2, hp2, _⟩, _⟩
    obtain ⟨f', a, b, c⟩ := hp2.blk
    exact ⟨f', _, a, b, by rw [c, G.want]⟩
  obtain ⟨n, hnx⟩ := hon st e
  rw [hnx] at hp hg hwant
  have hp : Pend w x who (K.rest st e) K.T n := hp
  cases hw : n.want with
  | none =>
    have hwt : K.sys.want st = none := by rw [← hwant]; exact hw
    have hst : stepOf K.sys who st s = (st, s) := by unfold stepOf; rw [hwt]
    rw [hst]
    have hd : n = .done := by cases n <;> first | rfl | cases hw
    subst hd
    obtain ⟨f, hf, q1, q2, q3, q4⟩ := hp
    refine (fstep_done x f _ _ _ w hf q2 q4).mono ?_
    rintro e2 w' ⟨rfl, rfl⟩
    refine ⟨by simp only [hwt]; rfl, ⟨⟨e, by show Pend2 w x who (K.rest st e) K.T (K.nx st e); rw [hnx]; exact ⟨f, hf, q1, q2, q3, q4⟩, hi⟩, hlo, hL, hok⟩, hM, Kept.refl _ _⟩
  | some W =>
    have hwt : K.sys.want st = some W := by rw [← hwant]; exact hw
    rcases hg with hd | ⟨hv, hen, hgo⟩
    · subst hd; cases hw
    have hsl : W.slp = false := by cases n <;> first | (obtain rfl := Option.some.inj hw; rfl) | cases hw
    have hst : stepOf K.sys who st s = (K.sys.next st (s.acc W.kind who W.at_ W.old W.new).2, (s.acc W.kind who W.at_ W.old W.new).1) := by
      obtain ⟨kd, ad, o, nw, slp⟩ := W
      simp only at hsl
      subst hsl
      exact stepOf_go hwt rfl
    rw [hst]
    refine pend_fstep hp ⟨hT, na, ns⟩ hM hc hbd hw hv hen ?_ (fun w' h => ovr w' _ h.1)
    intro w1 q1 q2 hr q3
    have hi1 := G.invk st e w w1 _ hi q3 (by
      intro i hi2
      simp at hi2
      have hm2 := hmem (K.invT st) (fun T hT => ⟨(hmne T hT).1, (hmne T hT).2.1⟩)
      rcases hi2 with rfl | rfl | rfl
      · exact not_of hb (fun h => (hmne _ h).2.2 rfl)
      · exact hm2.1
      · exact hm2.2)
    have hL1 := hL.kept q3 (by simp [hlx, hlm, hlg])
    refine (hgo _ w1 hr (Nat.le_trans hxs q3.size) q1 hi1 hL1).mono ?_
    rintro e2 w2 ⟨he, hp2, hK2⟩
    exact ⟨he, ⟨hp2, hlo, hL1.kept hK2 (by simp [hlx]), G.ok st _ hok hr⟩, q2.kept hK2 (by simp; omega) (by simp; omega), q3.trans hK2 (by intro i hi; simp at hi; subst hi; exact .inl (by simp))⟩
theorem m2_stepX {F : Nat} (ht : Thru F) (G : Goes2 K lo l x p t g who) (hon : ∀ st e, ∃ n, K.nx st e = .own n) (hA : K.at_ lo l x p t g who w st) (hM : MemAt w m mg s) (hc : s.clock < 1000000) (hbd : s.bad < 1000000) :
    Calls Try.prog F #[.pointer (some ⟨x, 0, none⟩), .pointer (some ⟨m, 0, none⟩)] w fun e w' => e = .returned (.bool (K.sys.want (stepOf K.sys who st s).1).isNone) ∧ K.at_ lo l x p t g who w' (stepOf K.sys who st s).1 ∧ MemAt w' m mg (stepOf K.sys who st s).2 ∧ Kept [x, m, mg] w w' :=
  ht x _ _ w _ (m2_fstepX G hon hA hM hc hbd)
end
end Go.Proofs.Ytnmkfmaohflejaa.Mach
