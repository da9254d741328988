/- The document's runs of a routine: what its accesses answered, and where it stops. -/
import Derived.Test.YtokpgbocomhpiaaRef
set_option maxRecDepth 100000
set_option maxHeartbeats 4000000
set_option linter.unusedVariables false
set_option linter.unusedSimpArgs false
namespace Go.Proofs.Ytokpgbocomhpiaa.Run
open Go.RowKit Go.Shelf Go.Proofs.Ytokpgbocomhpiaa.TK Go.Proofs.Ytokpgbocomhpiaa.Flag Go.Proofs.Ytokpgbocomhpiaa.Read Go.Proofs.Ytokpgbocomhpiaa.Grow Go.Proofs.Ytokpgbocomhpiaa.Words Go.Proofs.Ytokpgbocomhpiaa.Mem

theorem Grow.keptB {α : Type} {w w' : World} {B : Nat} {T : TypeId} {size : Nat} {enc : α → List Value} {v : Value} {xs : List α} {S : List Nat} (h : Grow w B T size enc v xs) (hk : Kept S w w') (hS : ∀ i ∈ S, v.ownBlock ≠ some i) : Grow w' B T size enc v xs := by
  refine ⟨h.1, ?_⟩
  rcases h.2 with h2 | ⟨g, cap, cur, hv, hg, hh, h3⟩
  · exact .inl h2
  · refine .inr ⟨g, cap, cur, hv, hg, ?_, h3⟩
    rw [hk.block g (lt_of_block hh) (fun hm => hS g hm (by rw [hv]; rfl))]
    exact hh
theorem own_type {α : Type} {w : World} {B : Nat} {T : TypeId} {size : Nat} {enc : α → List Value} {v : Value} {xs : List α} {r : Nat} {cs : List Value} {T' : TypeId} (h : Grow w B T size enc v xs) (hb : Blk w r cs T') (hT : T ≠ T') : v.ownBlock ≠ some r := by
  intro e
  rcases h.2 with ⟨hv, _⟩ | ⟨g, cap, cur, hv, hg, hh, h3⟩
  · rw [hv] at e; cases e
  · rw [hv] at e
    simp [Value.ownBlock] at e
    subst e
    unfold Blk at hb
    rw [hh] at hb
    injection hb with hb
    injection hb with _ h2
    exact hT h2
theorem own_low {α : Type} {w : World} {B : Nat} {T : TypeId} {size : Nat} {enc : α → List Value} {v : Value} {xs : List α} {r : Nat} (h : Grow w B T size enc v xs) (hr : r < B) : v.ownBlock ≠ some r := fun e => by have := own_le h r e; omega
theorem info64' : Elem Try.prog 25 (.int .u64 0) 1 8 := by unfold Elem; kernel_rfl
theorem encI_len (x : Int) : (encI .u64 x).length = 1 := rfl
theorem encI_one (x : Int) : ∀ u ∈ encI .u64 x, u.oneCell' = true := by intro u hu; simp [encI] at hu; subst hu; rfl

structure RunSt where
  got : List Int
  used : Nat
  stop : Bool
  want : Acc
  sleep : Bool
def runCells (v : Value) (st : RunSt) : List Value := v :: .int .i64 (st.used : Int) :: .bool st.stop :: .int .i64 st.want.kind :: .int .i64 st.want.who :: .int .i64 st.want.at_ :: .int .u64 st.want.old :: .int .u64 st.want.new :: .bool st.want.done :: [.bool st.sleep]
structure RunAt (w : World) (B r : Nat) (v : Value) (st : RunSt) : Prop where
  blk : Blk w r (runCells v st) 69
  grow : Grow w B 25 1 (encI .u64) v st.got
  le : st.used ≤ st.got.length
  len : st.got.length ≤ 100000
theorem RunAt.kept {w w' : World} {B r : Nat} {v : Value} {st : RunSt} {S : List Nat} (h : RunAt w B r v st) (hk : Kept S w w') (hr : r ∉ S) (hS : ∀ i ∈ S, v.ownBlock ≠ some i) : RunAt w' B r v st :=
  ⟨h.blk.kept hk hr, Grow.keptB h.grow hk hS, h.le, h.len⟩
theorem RunAt.quiet {w w' : World} {B r : Nat} {v : Value} {st : RunSt} (h : RunAt w B r v st) (hb : Below w.heap.size w w') : RunAt w' B r v st := h.kept (Kept.of_below hb []) (by simp) (by simp)
def RunSt.dox (st : RunSt) (A : Acc) : RunSt × Int :=
  if st.stop then (st, 0) else if st.used < st.got.length then ({ st with used := st.used + 1 }, st.got.getD st.used 0) else ({ st with stop := true, want := A }, 0)
theorem dox_got (st : RunSt) (A : Acc) : (st.dox A).1.got = st.got := by unfold RunSt.dox; split; rfl; split <;> rfl
theorem dox_le (st : RunSt) (A : Acc) (h : st.used ≤ st.got.length) : (st.dox A).1.used ≤ (st.dox A).1.got.length := by
  unfold RunSt.dox; split
  · exact h
  · split
    · simp only; omega
    · exact h
theorem rundo_run (B r : Nat) (v : Value) (st : RunSt) (A : Acc) (w : World) (h : RunAt w B r v st) :
    Calls Try.prog 210 #[.pointer (some ⟨r, 0, none⟩), .agg #[.int .i64 A.kind, .int .i64 A.who, .int .i64 A.at_, .int .u64 A.old, .int .u64 A.new, .bool A.done]] w fun e w' => e = .returned (.int .u64 (st.dox A).2) ∧ RunAt w' B r v (st.dox A).1 ∧ Kept [r] w w' := by
  have hG := h.grow
  have hT := own_type hG h.blk (by decide)
  have hlt := h.blk.lt
  have hle := h.le
  have hlen := h.len
  obtain ⟨a, cap, rfl, hrow, _, _⟩ := hG.row encI_len
  have H := hid h
  have c0 := h.blk.cell 0
  have c1 := h.blk.cell 1
  have c2 := h.blk.cell 2
  have c3 := h.blk.cell 3
  have c4 := h.blk.cell 4
  have c5 := h.blk.cell 5
  have c6 := h.blk.cell 6
  have c7 := h.blk.cell 7
  have c8 := h.blk.cell 8
  have hf := h.blk.frozen
  simp only [runCells, List.getElem?_cons_zero, List.getElem?_cons_succ] at c0 c1 c2 c3 c4 c5 c6 c7 c8
  have HT := hid hT
  clear h hG hT
  cases hs : st.stop with
  | true =>
    have HD := hid (show st.dox A = (st, 0) by unfold RunSt.dox; rw [if_pos hs])
    rw [hs] at c2
    clear hs hrow
    go_enter Try.func210, Try.ntmps210
    go_wp2
    go_ret
    exact ⟨by rw [HD.out]; rfl, by rw [HD.out]; exact H.out.quiet (below_one _ _), (Kept.refl _ _).alloc _⟩
  | false =>
    rw [hs] at c2
    by_cases hu : st.used < st.got.length
    · have HD := hid (show st.dox A = ({ st with used := st.used + 1 }, st.got.getD st.used 0) by unfold RunSt.dox; rw [if_neg (by rw [hs]; simp), if_pos hu])
      obtain ⟨x, rfl, hx⟩ := hrow st.used hu
      have hx0 := hx 0 _ rfl
      rw [Nat.mul_one, Nat.add_zero] at hx0
      have HV := hid (show st.got.getD st.used 0 = st.got[st.used] by rw [List.getD_eq_getElem?_getD, List.getElem?_eq_getElem hu]; rfl)
      have hxb : x.block ≠ r := fun e => HT.out (by
        obtain ⟨cap', hcap'⟩ : ∃ c, c = cap := ⟨_, rfl⟩
        rcases H.out.grow.2 with ⟨hv, _⟩ | ⟨g, cap2, cur, hv, _⟩
        · cases hv
        · cases hv; simp [Value.ownBlock]; exact e)
      obtain ⟨val, hvd⟩ : ∃ val, st.got[st.used] = val := ⟨_, rfl⟩
      rw [hvd] at hx0
      have HL := hid (HV.out.trans hvd)
      have HB := hid (show RunAt (((w.alloc (.cells #[.int .i64 A.kind, .int .i64 A.who, .int .i64 A.at_, .int .u64 A.old, .int .u64 A.new, .bool A.done] 67))).setCell ⟨r, 1, none⟩ (.int .i64 ((st.used : Int) + 1))) B r (.slice (some x) st.got.length cap) { st with used := st.used + 1 } from
        ⟨(H.out.blk.alloc _).set 1 (.int .i64 ((st.used : Int) + 1)), Grow.keptB (S := [r]) H.out.grow (((Kept.refl _ _).alloc _).set (.inl (by simp)) _) (by intro i hi; simp at hi; subst hi; exact HT.out), hu, hlen⟩)
      obtain ⟨u, hud⟩ : ∃ u, u = st.used := ⟨_, rfl⟩
      obtain ⟨n, hnd⟩ : ∃ n, n = st.got.length := ⟨_, rfl⟩
      have HU := hid hud
      have HN := hid hnd
      clear hvd hx
      rw [← hud] at hle hu hx0 c1 HB
      rw [← hnd] at hle hlen hu c0 HB ⊢
      have u0 : (0 : Int) ≤ (u : Int) := by omega
      have u1 : (u : Int) < (n : Int) := by omega
      have hw1 : IntKind.i64.wrap ((u : Int) + 1 - 1) = (u : Int) := by rw [IntKind.wrap_i64]; omega
      have hxl : x.block < w.heap.size := by simpa using cell_lt hx0
      clear hs hrow hud hnd
      go_enter Try.func210, Try.ntmps210
      go_wp2_with fail
      go_quiet (fail)
      go_wp2_with fail
      obtain ⟨W5, hW5⟩ : ∃ W5, W5 = (((w.alloc (.cells #[.int .i64 A.kind, .int .i64 A.who, .int .i64 A.at_, .int .u64 A.old, .int .u64 A.new, .bool A.done] 67)).drewN nq).setCell ⟨r, 1, none⟩ (.int .i64 ((u : Int) + 1))) := ⟨_, rfl⟩
      have B5 : RunAt W5 B r (.slice (some x) n cap) { st with used := u + 1 } := by
        rw [hW5]
        have h5 := HB.out
        exact ⟨h5.blk, h5.grow, h5.le, h5.len⟩
      have K5 : Kept [r] w W5 := by rw [hW5]; exact (((Kept.refl _ _).alloc _).drewN _).set (.inl (by simp)) _
      have x5 : W5.cell? (x.add u) = some (.int .u64 val) := K5.cell hx0 (by simpa using hxb)
      rw [← hW5]
      clear hW5 c0 c1 c2 c3 c4 c5 c6 c7 c8 hf hx0 HB H
      have c0 := B5.blk.cell 0
      have c1 := B5.blk.cell 1
      simp only [runCells, List.getElem?_cons_zero, List.getElem?_cons_succ, Int.natCast_add, Int.natCast_one] at c0 c1
      have HB5 := hid B5
      clear B5
      go_quiet (fail)
      go_wp2
      go_ret
      exact ⟨by rw [HD.out]; exact congrArg (fun z => Ending.returned (.int .u64 z)) HL.out.symm, by rw [HD.out, ← HU.out]; exact HB5.out.quiet (below_drewN (Below.refl _ _) _), K5.drewN _⟩
    · have HD := hid (show st.dox A = ({ st with stop := true, want := A }, 0) by unfold RunSt.dox; rw [if_neg (by rw [hs]; simp), if_neg hu])
      have hd : decide ((st.used : Int) < (st.got.length : Int)) = false := decide_eq_false (by omega)
      clear hs hrow
      go_enter Try.func210, Try.ntmps210
      go_wp2_with fail
      go_quiet (fail)
      go_wp2
      go_ret
      refine ⟨by rw [HD.out]; rfl, ?_, ?_⟩
      · rw [HD.out]
        have hk : Kept [r] w ((((((((w.alloc (.cells #[.int .i64 A.kind, .int .i64 A.who, .int .i64 A.at_, .int .u64 A.old, .int .u64 A.new, .bool A.done] 67)).drewN nq).setCell ⟨r, 2, none⟩ (.bool true)).setCell ⟨r, 3, none⟩ (.int .i64 A.kind)).setCell ⟨r, 4, none⟩ (.int .i64 A.who)).setCell ⟨r, 5, none⟩ (.int .i64 A.at_)).setCell ⟨r, 6, none⟩ (.int .u64 A.old)).setCell ⟨r, 7, none⟩ (.int .u64 A.new)) := ((((((((Kept.refl _ _).alloc _).drewN _).set (.inl (by simp)) _).set (.inl (by simp)) _).set (.inl (by simp)) _).set (.inl (by simp)) _).set (.inl (by simp)) _).set (.inl (by simp)) _
        have hb := ((((((((H.out.blk.alloc (.cells #[.int .i64 A.kind, .int .i64 A.who, .int .i64 A.at_, .int .u64 A.old, .int .u64 A.new, .bool A.done] 67)).drewN nq).set 2 (.bool true)).set 3 (.int .i64 A.kind)).set 4 (.int .i64 A.who)).set 5 (.int .i64 A.at_)).set 6 (.int .u64 A.old)).set 7 (.int .u64 A.new)).set 8 (.bool A.done)
        exact ⟨hb, Grow.keptB (S := [r]) H.out.grow (hk.set (p := ⟨r, 8, none⟩) (.inl (by simp)) (.bool A.done)) (by intro i hi; simp at hi; subst hi; exact HT.out), H.out.le, H.out.len⟩
      · exact (((((((((Kept.refl _ _).alloc _).drewN _).set (.inl (by simp)) _).set (.inl (by simp)) _).set (.inl (by simp)) _).set (.inl (by simp)) _).set (.inl (by simp)) _).set (.inl (by simp)) _).set (.inl (by simp)) _
end Go.Proofs.Ytokpgbocomhpiaa.Run
