/- Texts of mine, laid into one: Mem, MemB, MemC, Flow, FlowB, FlowC, Lock, LockB. -/
import Derived.Test.YtnmkfmaohflejaaProg
import Derived.Test.YtnmkfmaohflejaaBase1
import Derived.Handy
import Derived.Shelf.Abstract
import Derived.Laws.EntriesVeiled
import Derived.WideLaws
section
/- Contracts of a memory: its accesses, one by one. -/
set_option maxRecDepth 100000
set_option maxHeartbeats 4000000
set_option linter.unusedVariables false
set_option linter.unusedSimpArgs false
namespace Go.Proofs.Ytnmkfmaohflejaa.Mem
open Go.RowKit Go.Proofs.Ytnmkfmaohflejaa.TK Go.Proofs.Ytnmkfmaohflejaa.Flag Go.Proofs.Ytnmkfmaohflejaa.Words

/-- An access as it was. -/
structure Acc where
  kind : Int
  who : Int
  at_ : Int
  old : Int
  new : Int
  done : Bool
def accCells (a : Acc) : List Value := [.int .i64 a.kind, .int .i64 a.who, .int .i64 a.at_, .int .u64 a.old, .int .u64 a.new, .bool a.done]
/-- A memory's state. -/
structure St where
  ws : List Int
  clock : Int
  bad : Int
  last : Acc
def headOf (g n cap : Nat) (clock bad : Int) (a : Acc) : List Value := .slice (some ⟨g, 0, none⟩) n cap :: .int .i64 clock :: .int .i64 bad :: accCells a
/-- What is known of a memory at block m, its words in block g. -/
structure MemAt (w : World) (m g : Nat) (s : St) : Prop where
  ex : ∃ cap spare, Blk w m (headOf g s.ws.length cap s.clock s.bad s.last) 108 ∧ Blk w g (u64s s.ws ++ spare) 31 ∧ s.ws.length ≤ cap
  ne : m ≠ g
  wf : ∀ x ∈ s.ws, 0 ≤ x ∧ x < 18446744073709551616
  len : s.ws.length ≤ 1000000
  clock : 0 ≤ s.clock ∧ s.clock ≤ 1000000
  bad : 0 ≤ s.bad ∧ s.bad ≤ 1000000
theorem MemAt.kept {w w' : World} {m g : Nat} {s : St} {S : List Nat} (h : MemAt w m g s) (hk : Kept S w w') (h1 : m ∉ S) (h2 : g ∉ S) : MemAt w' m g s := by
  obtain ⟨cap, spare, a, b, c⟩ := h.ex
  exact ⟨⟨cap, spare, a.kept hk h1, b.kept hk h2, c⟩, h.ne, h.wf, h.len, h.clock, h.bad⟩
theorem MemAt.quiet {w w' : World} {m g : Nat} {s : St} (h : MemAt w m g s) (hb : Below w.heap.size w w') : MemAt w' m g s := h.kept (Kept.of_below hb []) (by simp) (by simp)
theorem MemAt.ltm {w : World} {m g : Nat} {s : St} (h : MemAt w m g s) : m < w.heap.size := by obtain ⟨_, _, a, _, _⟩ := h.ex; exact a.lt
theorem MemAt.ltg {w : World} {m g : Nat} {s : St} (h : MemAt w m g s) : g < w.heap.size := by obtain ⟨_, _, _, a, _⟩ := h.ex; exact a.lt

/-- What an access that is in range leaves: what was there, what is there now, what 'New' tells. -/
def St.does (s : St) (i : Nat) (a : Acc) (nv : Int) (d : Bool) : St :=
  { s with ws := s.ws.set i nv, clock := s.clock + 1, last := { a with old := s.ws.getD i 0, done := d } }
def St.fails (s : St) (a : Acc) : St := { s with clock := s.clock + 1, bad := s.bad + 1, last := a }

theorem u64s_set' (ys : List Int) (spare : List Value) (k : Nat) (x : Int) (h : k < ys.length) : (u64s ys ++ spare).set k (.int .u64 x) = u64s (ys.set k x) ++ spare := by
  unfold u64s; rw [List.set_append_left _ _ (by simpa using h)]; simp

theorem does_bad (m g : Nat) (s : St) (a : Acc) (fv : Value) (w : World) (hM : MemAt w m g s) (h : a.at_ < 0 ∨ (s.ws.length : Int) ≤ a.at_) :
    Calls Try.prog 175 #[.pointer (some ⟨m, 0, none⟩), .agg (accCells a).toArray, fv] w fun e w' => (∃ r, e = .returned r) ∧ Kept [m] w w' ∧
      ∃ cap spare, Blk w' m (headOf g s.ws.length cap (s.clock + 1) (s.bad + 1) a) 108 ∧ Blk w' g (u64s s.ws ++ spare) 31 ∧ s.ws.length ≤ cap := by
  obtain ⟨cap, spare, hm, hg, hcap⟩ := hM.ex
  have hne := hM.ne
  have hcl := hM.clock
  have hbd := hM.bad
  have hln := hM.len
  have hmlt := hm.lt
  obtain ⟨k, wh, at_, old, new, dn⟩ := a
  have c0 := hm.cell 0
  have c1 := hm.cell 1
  have c2 := hm.cell 2
  have c3 := hm.cell 3
  have c4 := hm.cell 4
  have c5 := hm.cell 5
  have c6 := hm.cell 6
  have c7 := hm.cell 7
  have c8 := hm.cell 8
  have hf := hm.frozen
  simp only [headOf, accCells, List.getElem?_cons_zero, List.getElem?_cons_succ] at c0 c1 c2 c3 c4 c5 c6 c7 c8
  simp only [accCells] at *
  clear hM
  go_enter Try.func175, Try.ntmps175
  go_wp2_with fail
  have B1 : Blk ((((((((w.setCell ⟨m, 1, none⟩ (.int .i64 (s.clock + 1))).setCell ⟨m, 3, none⟩ (.int .i64 k)).setCell ⟨m, 4, none⟩ (.int .i64 wh)).setCell ⟨m, 5, none⟩ (.int .i64 at_)).setCell ⟨m, 6, none⟩ (.int .u64 old)).setCell ⟨m, 7, none⟩ (.int .u64 new)).setCell ⟨m, 8, none⟩ (.bool dn)).alloc (.cells #[.int .i64 k, .int .i64 wh, .int .i64 at_, .int .u64 old, .int .u64 new, .bool dn] 106)) m (headOf g s.ws.length cap (s.clock + 1) s.bad ⟨k, wh, at_, old, new, dn⟩) 108 := (((((((hm.set 1 _).set 3 _).set 4 _).set 5 _).set 6 _).set 7 _).set 8 _).alloc _
  have G1 : Blk ((((((((w.setCell ⟨m, 1, none⟩ (.int .i64 (s.clock + 1))).setCell ⟨m, 3, none⟩ (.int .i64 k)).setCell ⟨m, 4, none⟩ (.int .i64 wh)).setCell ⟨m, 5, none⟩ (.int .i64 at_)).setCell ⟨m, 6, none⟩ (.int .u64 old)).setCell ⟨m, 7, none⟩ (.int .u64 new)).setCell ⟨m, 8, none⟩ (.bool dn)).alloc (.cells #[.int .i64 k, .int .i64 wh, .int .i64 at_, .int .u64 old, .int .u64 new, .bool dn] 106)) g (u64s s.ws ++ spare) 31 := (((((((hg.far (Ne.symm hne) _).far (Ne.symm hne) _).far (Ne.symm hne) _).far (Ne.symm hne) _).far (Ne.symm hne) _).far (Ne.symm hne) _).far (Ne.symm hne) _).alloc _
  have X1 : Blk ((((((((w.setCell ⟨m, 1, none⟩ (.int .i64 (s.clock + 1))).setCell ⟨m, 3, none⟩ (.int .i64 k)).setCell ⟨m, 4, none⟩ (.int .i64 wh)).setCell ⟨m, 5, none⟩ (.int .i64 at_)).setCell ⟨m, 6, none⟩ (.int .u64 old)).setCell ⟨m, 7, none⟩ (.int .u64 new)).setCell ⟨m, 8, none⟩ (.bool dn)).alloc (.cells #[.int .i64 k, .int .i64 wh, .int .i64 at_, .int .u64 old, .int .u64 new, .bool dn] 106)) w.heap.size (accCells ⟨k, wh, at_, old, new, dn⟩) 106 := Blk.new_at (accCells ⟨k, wh, at_, old, new, dn⟩) _ (by simp [World.setCell])
  have K1 : Kept [m] w ((((((((w.setCell ⟨m, 1, none⟩ (.int .i64 (s.clock + 1))).setCell ⟨m, 3, none⟩ (.int .i64 k)).setCell ⟨m, 4, none⟩ (.int .i64 wh)).setCell ⟨m, 5, none⟩ (.int .i64 at_)).setCell ⟨m, 6, none⟩ (.int .u64 old)).setCell ⟨m, 7, none⟩ (.int .u64 new)).setCell ⟨m, 8, none⟩ (.bool dn)).alloc (.cells #[.int .i64 k, .int .i64 wh, .int .i64 at_, .int .u64 old, .int .u64 new, .bool dn] 106)) := ((((((((Kept.refl [m] w).set (.inl (by simp)) _).set (.inl (by simp)) _).set (.inl (by simp)) _).set (.inl (by simp)) _).set (.inl (by simp)) _).set (.inl (by simp)) _).set (.inl (by simp)) _).alloc _
  obtain ⟨W1, hW1⟩ : ∃ W1, W1 = ((((((((w.setCell ⟨m, 1, none⟩ (.int .i64 (s.clock + 1))).setCell ⟨m, 3, none⟩ (.int .i64 k)).setCell ⟨m, 4, none⟩ (.int .i64 wh)).setCell ⟨m, 5, none⟩ (.int .i64 at_)).setCell ⟨m, 6, none⟩ (.int .u64 old)).setCell ⟨m, 7, none⟩ (.int .u64 new)).setCell ⟨m, 8, none⟩ (.bool dn)).alloc (.cells #[.int .i64 k, .int .i64 wh, .int .i64 at_, .int .u64 old, .int .u64 new, .bool dn] 106)) := ⟨_, rfl⟩
  rw [← hW1] at B1 G1 X1 K1 ⊢
  clear hW1 hm hg c0 c1 c2 c3 c4 c5 c6 c7 c8 hf
  have c0 := B1.cell 0
  have c2 := B1.cell 2
  have x2 := X1.cell 2
  have hf := B1.frozen 2
  simp only [headOf, accCells, List.getElem?_cons_zero, List.getElem?_cons_succ] at c0 c2 x2
  rcases h with h | h
  · have hd : decide (at_ < 0) = true := decide_eq_true h
    go_quiet (fail)
    go_wp2
    go_returns
    exact ⟨⟨_, rfl⟩, (K1.drewN _).set (.inl (by simp)) _, cap, spare, (B1.drewN nq).set 2 (.int .i64 (s.bad + 1)), (G1.drewN nq).far (Ne.symm hne) _, hcap⟩
  · have hd : decide (at_ < 0) = false := decide_eq_false (by omega)
    go_quiet (fail)
    go_wp2
    go_returns
    exact ⟨⟨_, rfl⟩, (K1.drewN _).set (.inl (by simp)) _, cap, spare, (B1.drewN nq).set 2 (.int .i64 (s.bad + 1)), (G1.drewN nq).far (Ne.symm hne) _, hcap⟩

/-- The words, and the head, whichever store has come up. -/
def DD (m g n cap bx : Nat) (clock bad : Int) (a ab : Acc) (ws : List Int) (spare : List Value) (i : Nat) (nv : Int) (d : Bool) (w : World) (bs : List Bool) (w' : World) : Prop :=
  Blk w' m (headOf g n cap clock bad { a with done := if bs.getD 1 false then d else a.done }) 108 ∧ Blk w' g (u64s (if bs.getD 0 false then ws.set i nv else ws) ++ spare) 31 ∧ Blk w' bx (accCells ab) 106 ∧ Kept [m, g] w w'
theorem does_run (m g i : Nat) (s : St) (a : Acc) (f : Nat) (lb : Array Value) (nv v : Int) (d : Bool) (w : World) (hv0 : s.ws.getD i 0 = v) (hM : MemAt w m g s) (hi : i < s.ws.length) (hat : a.at_ = i)
    (eg : ∀ args w, (callFunc f args).run Try.prog w = .ok (.enter f args) w)
    (hdo : ∀ w', Kept [m, g] w w' → Calls Try.prog f (#[.int .u64 v] ++ lb) w' fun e w'' => e = .returned (.tuple #[.int .u64 nv, .bool d]) ∧ w' = w'') :
    Calls Try.prog 175 #[.pointer (some ⟨m, 0, none⟩), .agg (accCells a).toArray, .func (.func f) #[] lb] w fun e w' => (∃ r, e = .returned r) ∧ Kept [m, g] w w' ∧
      ∃ cap spare, Blk w' m (headOf g s.ws.length cap (s.clock + 1) s.bad { a with old := v, done := d }) 108 ∧ Blk w' g (u64s (s.ws.set i nv) ++ spare) 31 ∧ s.ws.length ≤ cap := by
  have HDO := hid hdo
  have HV0 := hid hv0
  clear hdo hv0
  obtain ⟨cap, spare, hm, hg, hcap⟩ := hM.ex
  have hne := hM.ne
  have hcl := hM.clock
  have hbd := hM.bad
  have hln := hM.len
  have hmlt := hm.lt
  obtain ⟨k, wh, at_, old, new, dn⟩ := a
  have c0 := hm.cell 0
  have c1 := hm.cell 1
  have c2 := hm.cell 2
  have c3 := hm.cell 3
  have c4 := hm.cell 4
  have c5 := hm.cell 5
  have c6 := hm.cell 6
  have c7 := hm.cell 7
  have c8 := hm.cell 8
  have hf := hm.frozen
  simp only [headOf, accCells, List.getElem?_cons_zero, List.getElem?_cons_succ] at c0 c1 c2 c3 c4 c5 c6 c7 c8
  simp only [accCells] at *
  have hgl := hg.lt
  have a0 : 0 ≤ at_ := by omega
  have a1 : at_ < (s.ws.length : Int) := by omega
  have at2 : at_.toNat = i := by omega
  clear hM hat
  go_enter Try.func175, Try.ntmps175
  go_wp2_with fail
  have B1 : Blk ((((((((w.setCell ⟨m, 1, none⟩ (.int .i64 (s.clock + 1))).setCell ⟨m, 3, none⟩ (.int .i64 k)).setCell ⟨m, 4, none⟩ (.int .i64 wh)).setCell ⟨m, 5, none⟩ (.int .i64 at_)).setCell ⟨m, 6, none⟩ (.int .u64 old)).setCell ⟨m, 7, none⟩ (.int .u64 new)).setCell ⟨m, 8, none⟩ (.bool dn)).alloc (.cells #[.int .i64 k, .int .i64 wh, .int .i64 at_, .int .u64 old, .int .u64 new, .bool dn] 106)) m (headOf g s.ws.length cap (s.clock + 1) s.bad ⟨k, wh, at_, old, new, dn⟩) 108 := (((((((hm.set 1 _).set 3 _).set 4 _).set 5 _).set 6 _).set 7 _).set 8 _).alloc _
  have G1 : Blk ((((((((w.setCell ⟨m, 1, none⟩ (.int .i64 (s.clock + 1))).setCell ⟨m, 3, none⟩ (.int .i64 k)).setCell ⟨m, 4, none⟩ (.int .i64 wh)).setCell ⟨m, 5, none⟩ (.int .i64 at_)).setCell ⟨m, 6, none⟩ (.int .u64 old)).setCell ⟨m, 7, none⟩ (.int .u64 new)).setCell ⟨m, 8, none⟩ (.bool dn)).alloc (.cells #[.int .i64 k, .int .i64 wh, .int .i64 at_, .int .u64 old, .int .u64 new, .bool dn] 106)) g (u64s s.ws ++ spare) 31 := (((((((hg.far (Ne.symm hne) _).far (Ne.symm hne) _).far (Ne.symm hne) _).far (Ne.symm hne) _).far (Ne.symm hne) _).far (Ne.symm hne) _).far (Ne.symm hne) _).alloc _
  have X1 : Blk ((((((((w.setCell ⟨m, 1, none⟩ (.int .i64 (s.clock + 1))).setCell ⟨m, 3, none⟩ (.int .i64 k)).setCell ⟨m, 4, none⟩ (.int .i64 wh)).setCell ⟨m, 5, none⟩ (.int .i64 at_)).setCell ⟨m, 6, none⟩ (.int .u64 old)).setCell ⟨m, 7, none⟩ (.int .u64 new)).setCell ⟨m, 8, none⟩ (.bool dn)).alloc (.cells #[.int .i64 k, .int .i64 wh, .int .i64 at_, .int .u64 old, .int .u64 new, .bool dn] 106)) w.heap.size (accCells ⟨k, wh, at_, old, new, dn⟩) 106 := Blk.new_at (accCells ⟨k, wh, at_, old, new, dn⟩) _ (by simp [World.setCell])
  have K1 : Kept [m] w ((((((((w.setCell ⟨m, 1, none⟩ (.int .i64 (s.clock + 1))).setCell ⟨m, 3, none⟩ (.int .i64 k)).setCell ⟨m, 4, none⟩ (.int .i64 wh)).setCell ⟨m, 5, none⟩ (.int .i64 at_)).setCell ⟨m, 6, none⟩ (.int .u64 old)).setCell ⟨m, 7, none⟩ (.int .u64 new)).setCell ⟨m, 8, none⟩ (.bool dn)).alloc (.cells #[.int .i64 k, .int .i64 wh, .int .i64 at_, .int .u64 old, .int .u64 new, .bool dn] 106)) := ((((((((Kept.refl [m] w).set (.inl (by simp)) _).set (.inl (by simp)) _).set (.inl (by simp)) _).set (.inl (by simp)) _).set (.inl (by simp)) _).set (.inl (by simp)) _).set (.inl (by simp)) _).alloc _
  obtain ⟨W1, hW1⟩ : ∃ W1, W1 = ((((((((w.setCell ⟨m, 1, none⟩ (.int .i64 (s.clock + 1))).setCell ⟨m, 3, none⟩ (.int .i64 k)).setCell ⟨m, 4, none⟩ (.int .i64 wh)).setCell ⟨m, 5, none⟩ (.int .i64 at_)).setCell ⟨m, 6, none⟩ (.int .u64 old)).setCell ⟨m, 7, none⟩ (.int .u64 new)).setCell ⟨m, 8, none⟩ (.bool dn)).alloc (.cells #[.int .i64 k, .int .i64 wh, .int .i64 at_, .int .u64 old, .int .u64 new, .bool dn] 106)) := ⟨_, rfl⟩
  rw [← hW1] at B1 G1 X1 K1 ⊢
  clear hW1 hm hg c0 c1 c2 c3 c4 c5 c6 c7 c8 hf
  have c0 := B1.cell 0
  have c6 := B1.cell 6
  have x2 := X1.cell 2
  have hf := B1.frozen 6
  have gi := (G1.cell i).trans (List.getElem?_append_left (by rw [u64s_length]; exact hi))
  rw [u64s_get s.ws i hi] at gi
  simp only [headOf, accCells, List.getElem?_cons_zero, List.getElem?_cons_succ] at c0 c6 x2
  have hd0 : decide (at_ < 0) = false := decide_eq_false (by omega)
  have hd1 : decide ((s.ws.length : Int) ≤ at_) = false := decide_eq_false (by omega)
  go_quiet (fail)
  obtain ⟨q1, rfl⟩ : ∃ q1 : Nat, q1 = nq := ⟨_, rfl⟩
  go_wp2
  go_quiet (fail)
  go_wp2_with fail
  have hv : s.ws[i] = v := by rw [← HV0.out, List.getD_eq_getElem?_getD, List.getElem?_eq_getElem hi]; rfl
  rw [hv] at gi ⊢
  clear hv hd0 hd1 c0 c6 x2 hf
  have B2 := (B1.drewN (q1 + nq)).set 6 (.int .u64 v)
  have G2 := (G1.drewN (q1 + nq)).far (p := ⟨m, 6, none⟩) (Ne.symm hne) (.int .u64 v)
  have X2 := (X1.drewN (q1 + nq)).far (p := ⟨m, 6, none⟩) (by simp; omega) (.int .u64 v)
  have K2 := (K1.drewN (q1 + nq)).set (p := ⟨m, 6, none⟩) (.inl (by simp)) (.int .u64 v)
  obtain ⟨W2, hW2⟩ : ∃ W2, W2 = (W1.drewN (q1 + nq)).setCell ⟨m, 6, none⟩ (.int .u64 v) := ⟨_, rfl⟩
  rw [← hW2] at B2 G2 X2 K2 ⊢
  have h0 : DD m g s.ws.length cap w.heap.size (s.clock + 1) s.bad ⟨k, wh, at_, v, new, dn⟩ ⟨k, wh, at_, old, new, dn⟩ s.ws spare i nv d w [false, false] W2.drew := ⟨B2, G2, X2, (K2.mono (by simp)).drew⟩
  clear hW2 B1 G1 X1 K1 B2 G2 X2 K2 gi
  refine wp_region_D [14, 18] (DD m g s.ws.length cap w.heap.size (s.clock + 1) s.bad ⟨k, wh, at_, v, new, dn⟩ ⟨k, wh, at_, old, new, dn⟩ s.ws spare i nv d w) (by kernel_rfl) (by kernel_rfl) rfl (by kernel_rfl) h0 ?_
  repeat (first | (apply walkD_pure; rfl; rfl; (intro _; go_simp; first | done | rfl); (intro K hK; go_simp; refine hK _ ?_; clear hK K)) | (apply walkD_skip; rfl; rfl; (intro K hK; go_simp; refine hK _ ?_; clear hK K)) | (apply walkD_read; rfl; rfl; (intro bs hbs w' hD; have y0 := hD.1.cell 0; have y1 := hD.2.2.1.cell 2; simp only [headOf, accCells, List.getElem?_cons_zero, List.getElem?_cons_succ] at y0 y1; go_simp; rfl); (intro K hK; go_simp; refine hK _ ?_; clear hK K)))
  apply walkD_call; rfl; (intro _; go_simp; first | rfl | exact ⟨rfl, rfl⟩)
  · intro bs hbs w' hD
    refine (HDO.out w' hD.2.2.2).mono ?_
    rintro e w2 ⟨rfl, rfl⟩
    exact ⟨rfl, by rw [came_poss (md := .any) rfl hbs]; exact hD⟩
  (intro K hK; go_simp; refine hK _ ?_; clear hK K)
  repeat (first | (apply walkD_pure; rfl; rfl; (intro _; go_simp; first | done | rfl); (intro K hK; go_simp; refine hK _ ?_; clear hK K)) | (apply walkD_skip; rfl; rfl; (intro K hK; go_simp; refine hK _ ?_; clear hK K)) | (apply walkD_read; rfl; rfl; (intro bs hbs w' hD; have y0 := hD.1.cell 0; have y1 := hD.2.2.1.cell 2; simp only [headOf, accCells, List.getElem?_cons_zero, List.getElem?_cons_succ] at y0 y1; go_simp; rfl); (intro K hK; go_simp; refine hK _ ?_; clear hK K)))
  apply walkD_turn1 (v := undef) [false, false] (by kernel_rfl); rfl
  · intro w' hD
    have y0 := (hD.2.1.cell i).trans (List.getElem?_append_left (by simp [u64s]; exact hi))
    rw [show (if [false, false].getD 0 false = true then s.ws.set i nv else s.ws) = s.ws from rfl, u64s_get s.ws i hi] at y0
    have y1 := hD.2.1.frozen i
    unfold opAt
    go_simp
    refine ⟨⟨hD.1.far (by simpa using hne) _, ?_, hD.2.2.1.far ?_ _, hD.2.2.2.set (.inl (by simp)) _⟩, rfl⟩
    · have := hD.2.1.set i (.int .u64 nv)
      rw [show (if [false, false].getD 0 false = true then s.ws.set i nv else s.ws) = s.ws from rfl, u64s_set' _ _ _ _ hi] at this
      exact this
    · have := hgl; simp; omega
  (intro K hK; go_simp; refine hK _ ?_; clear hK K)
  repeat (first | (apply walkD_pure; rfl; rfl; (intro _; go_simp; first | done | rfl); (intro K hK; go_simp; refine hK _ ?_; clear hK K)) | (apply walkD_skip; rfl; rfl; (intro K hK; go_simp; refine hK _ ?_; clear hK K)) | (apply walkD_read; rfl; rfl; (intro bs hbs w' hD; have y0 := hD.1.cell 0; have y1 := hD.2.2.1.cell 2; simp only [headOf, accCells, List.getElem?_cons_zero, List.getElem?_cons_succ] at y0 y1; go_simp; rfl); (intro K hK; go_simp; refine hK _ ?_; clear hK K)))
  apply walkD_turn1 (v := undef) [true, false] (by kernel_rfl); rfl
  · intro w' hD
    have y0 := hD.1.cell 8
    have y1 := hD.1.frozen 8
    simp only [headOf, accCells, List.getElem?_cons_zero, List.getElem?_cons_succ] at y0
    unfold opAt
    go_simp
    refine ⟨⟨hD.1.set 8 (.bool d), hD.2.1.far (by simpa using Ne.symm hne) _, hD.2.2.1.far (by simp; omega) _, hD.2.2.2.set (.inl (by simp)) _⟩, rfl⟩
  (intro K hK; go_simp; refine hK _ ?_; clear hK K)
  repeat (first | (apply walkD_pure; rfl; rfl; (intro _; go_simp; first | done | rfl); (intro K hK; go_simp; refine hK _ ?_; clear hK K)) | (apply walkD_skip; rfl; rfl; (intro K hK; go_simp; refine hK _ ?_; clear hK K)))
  intro w' hD
  go_wp2
  go_returns
  exact ⟨⟨_, rfl⟩, hD.2.2.2, cap, spare, hD.1, hD.2.1, hcap⟩
end Go.Proofs.Ytnmkfmaohflejaa.Mem
end

section
/- Contracts of a memory: load, store, swap, add, and what is asked of it. -/
set_option maxRecDepth 100000
set_option maxHeartbeats 4000000
set_option linter.unusedVariables false
set_option linter.unusedSimpArgs false
namespace Go.Proofs.Ytnmkfmaohflejaa.Mem
open Go.RowKit Go.Shelf Go.Proofs.Ytnmkfmaohflejaa.TK Go.Proofs.Ytnmkfmaohflejaa.Flag Go.Proofs.Ytnmkfmaohflejaa.Words

/-- An access of a kind (others than 2, 3, 4: a load): the state behind it, and what is answered. -/
def St.inr (s : St) (at_ : Int) : Bool := decide (0 ≤ at_ ∧ at_ < s.ws.length)
def St.word (s : St) (at_ : Int) : Int := s.ws.getD at_.toNat 0
def St.acc (s : St) (kind who at_ old w : Int) : St × Int :=
  if s.inr at_ then
    if kind = 2 then ({ s with ws := s.ws.set at_.toNat w, clock := s.clock + 1, last := ⟨2, who, at_, s.word at_, w, true⟩ }, 0)
    else if kind = 3 then
      if s.word at_ = old then ({ s with ws := s.ws.set at_.toNat w, clock := s.clock + 1, last := ⟨3, who, at_, s.word at_, w, true⟩ }, 1)
      else ({ s with clock := s.clock + 1, last := ⟨3, who, at_, s.word at_, w, false⟩ }, 0)
    else if kind = 4 then ({ s with ws := s.ws.set at_.toNat ((s.word at_ + w) % 4294967296), clock := s.clock + 1, last := ⟨4, who, at_, s.word at_, (s.word at_ + w) % 4294967296, true⟩ }, (s.word at_ + w) % 4294967296)
    else ({ s with clock := s.clock + 1, last := ⟨1, who, at_, s.word at_, 0, true⟩ }, s.word at_)
  else ({ s with clock := s.clock + 1, bad := s.bad + 1, last := ⟨if kind = 2 then 2 else if kind = 3 then 3 else if kind = 4 then 4 else 1, who, at_, 0, if kind = 2 ∨ kind = 3 ∨ kind = 4 then w else 0, false⟩ }, 0)
theorem inr_spec {s : St} {at_ : Int} (h : s.inr at_ = true) : 0 ≤ at_ ∧ at_.toNat < s.ws.length ∧ at_ = at_.toNat ∧ s.ws[at_.toNat]? = some (s.word at_) := by
  unfold St.inr at h
  have h' := of_decide_eq_true h
  have hl : at_.toNat < s.ws.length := by omega
  refine ⟨by omega, hl, by omega, ?_⟩
  unfold St.word
  rw [List.getD_eq_getElem?_getD, List.getElem?_eq_getElem hl]; rfl
theorem inr_not {s : St} {at_ : Int} (h : s.inr at_ = false) : at_ < 0 ∨ (s.ws.length : Int) ≤ at_ := by
  unfold St.inr at h
  have h' := of_decide_eq_false h
  omega
theorem word_range {s : St} (hw : ∀ x ∈ s.ws, 0 ≤ x ∧ x < 18446744073709551616) (at_ : Int) : 0 ≤ s.word at_ ∧ s.word at_ < 18446744073709551616 := by
  unfold St.word
  rw [List.getD_eq_getElem?_getD]
  cases h : s.ws[at_.toNat]? with
  | none => simp
  | some x => exact hw x (List.mem_of_getElem? h)
theorem set_word {s : St} {at_ : Int} (h : s.inr at_ = true) : s.ws.set at_.toNat (s.word at_) = s.ws := by
  obtain ⟨_, hl, _, hg⟩ := inr_spec h
  rw [List.getElem?_eq_getElem hl] at hg
  have : s.word at_ = s.ws[at_.toNat] := by simpa using hg.symm
  rw [this, List.set_getElem_self]
theorem wf_set {ws : List Int} (hw : ∀ x ∈ ws, 0 ≤ x ∧ x < 18446744073709551616) (i : Nat) {v : Int} (hv : 0 ≤ v ∧ v < 18446744073709551616) : ∀ x ∈ ws.set i v, 0 ≤ x ∧ x < 18446744073709551616 := by
  intro x hx
  rcases List.mem_or_eq_of_mem_set hx with h | h
  · exact hw x h
  · rw [h]; exact hv
theorem acc_len (s : St) (kind who at_ old w : Int) : (s.acc kind who at_ old w).1.ws.length = s.ws.length := by
  unfold St.acc
  split
  · split
    · simp
    · split
      · split <;> simp
      · split <;> simp
  · rfl
theorem acc_clock (s : St) (kind who at_ old w : Int) : (s.acc kind who at_ old w).1.clock = s.clock + 1 ∧ s.bad ≤ (s.acc kind who at_ old w).1.bad ∧ (s.acc kind who at_ old w).1.bad ≤ s.bad + 1 := by
  unfold St.acc
  (repeat' split) <;> (refine ⟨rfl, ?_, ?_⟩ <;> dsimp only <;> omega)
theorem acc_wf {s : St} (hw : ∀ x ∈ s.ws, 0 ≤ x ∧ x < 18446744073709551616) (kind who at_ old : Int) {w : Int} (h : 0 ≤ w ∧ w < 18446744073709551616) : (∀ x ∈ (s.acc kind who at_ old w).1.ws, 0 ≤ x ∧ x < 18446744073709551616) ∧ 0 ≤ (s.acc kind who at_ old w).2 ∧ (s.acc kind who at_ old w).2 < 18446744073709551616 := by
  have hr := word_range hw at_
  unfold St.acc
  split
  · split
    · exact ⟨wf_set hw _ h, by simp⟩
    · split
      · split
        · exact ⟨wf_set hw _ h, by simp⟩
        · exact ⟨hw, by simp⟩
      · split
        · exact ⟨wf_set hw _ (by omega), by simp only; omega⟩
        · exact ⟨hw, hr⟩
  · exact ⟨hw, by simp⟩
theorem mem_of {w w' : World} {m g : Nat} {s s' : St} {cap : Nat} {spare : List Value} (hM : MemAt w m g s) (h1 : Blk w' m (headOf g s'.ws.length cap s'.clock s'.bad s'.last) 108) (h2 : Blk w' g (u64s s'.ws ++ spare) 31) (hl : s'.ws.length = s.ws.length) (hcap : s.ws.length ≤ cap)
    (hw : ∀ x ∈ s'.ws, 0 ≤ x ∧ x < 18446744073709551616) (hc : s'.clock = s.clock + 1) (hc' : s.clock < 1000000) (hb : s.bad ≤ s'.bad ∧ s'.bad ≤ s.bad + 1) (hb' : s.bad < 1000000) : MemAt w' m g s' :=
  ⟨⟨cap, spare, h1, h2, by omega⟩, hM.ne, hw, by have := hM.len; omega, by have := hM.clock; omega, by have := hM.bad; omega⟩
theorem acc_mem {w w' : World} {m g : Nat} {s : St} {cap : Nat} {spare : List Value} {kind who at_ old nw : Int} (hM : MemAt w m g s) (hnw : 0 ≤ nw ∧ nw < 18446744073709551616) (hc : s.clock < 1000000) (hb : s.bad < 1000000) (hcap : s.ws.length ≤ cap)
    (h1 : Blk w' m (headOf g s.ws.length cap (s.acc kind who at_ old nw).1.clock (s.acc kind who at_ old nw).1.bad (s.acc kind who at_ old nw).1.last) 108) (h2 : Blk w' g (u64s (s.acc kind who at_ old nw).1.ws ++ spare) 31) : MemAt w' m g (s.acc kind who at_ old nw).1 := by
  have hk := acc_clock s kind who at_ old nw
  exact mem_of hM (by rw [acc_len]; exact h1) h2 (acc_len _ _ _ _ _ _) hcap (acc_wf hM.wf kind who at_ old hnw).1 hk.1 hc hk.2 hb

theorem load1_run (v : Int) (w : World) : Calls Try.prog 179 #[.int .u64 v] w fun e w' => e = .returned (.tuple #[.int .u64 v, .bool true]) ∧ w = w' := by
  go_enter Try.func179, Try.ntmps179
  go_wp2
  go_ret2
  exact ⟨rfl, rfl⟩
theorem store1_run (v x : Int) (b : Nat) (w : World) (hb : Blk w b [.int .u64 x] 31) : Calls Try.prog 176 #[.int .u64 v, .pointer (some ⟨b, 0, none⟩)] w fun e w' => e = .returned (.tuple #[.int .u64 x, .bool true]) ∧ w = w' := by
  have c := hb.cell 0
  simp only [List.getElem?_cons_zero] at c
  go_enter Try.func176, Try.ntmps176
  go_wp2
  go_ret2
  exact ⟨rfl, rfl⟩
theorem swap1_run (v o x : Int) (b1 b2 : Nat) (w : World) (hb1 : Blk w b1 [.int .u64 o] 31) (hb2 : Blk w b2 [.int .u64 x] 31) : Calls Try.prog 177 #[.int .u64 v, .pointer (some ⟨b1, 0, none⟩), .pointer (some ⟨b2, 0, none⟩)] w fun e w' => e = .returned (.tuple #[.int .u64 (if v = o then x else v), .bool (decide (v = o))]) ∧ w = w' := by
  have c := hb1.cell 0
  have c2 := hb2.cell 0
  simp only [List.getElem?_cons_zero] at c c2
  by_cases h : v = o
  · have hd : (v != o) = false := by simp [h]
    have HX := hid h
    rw [if_pos h, decide_eq_true h]
    clear h
    go_enter Try.func177, Try.ntmps177
    go_wp2
    go_ret2
    exact ⟨rfl, rfl⟩
  · have hd : (v != o) = true := by simp [h]
    rw [if_neg h, decide_eq_false h]
    clear h
    go_enter Try.func177, Try.ntmps177
    go_wp2
    go_ret2
    exact ⟨rfl, rfl⟩
theorem add_mod (v x : Int) (hv : 0 ≤ v) (hx : 0 ≤ x) : (IntKind.u64.wrap (v.tmod 4294967296 + x.tmod 4294967296)).tmod 4294967296 = (v + x) % 4294967296 := by
  rw [Int.tmod_eq_emod_of_nonneg hv, Int.tmod_eq_emod_of_nonneg hx]
  have : IntKind.u64.wrap (v % 4294967296 + x % 4294967296) = (v % 4294967296 + x % 4294967296) % 18446744073709551616 := rfl
  rw [this, Int.tmod_eq_emod_of_nonneg (by omega)]
  omega
theorem ret_tup {a b : Int} {c : Bool} (h : a = b) : Ending.returned (.tuple #[.int .u64 a, .bool c]) = .returned (.tuple #[.int .u64 b, .bool c]) := by rw [h]
theorem add1_run (v x : Int) (b : Nat) (w : World) (hv : 0 ≤ v) (hx : 0 ≤ x) (hb : Blk w b [.int .u64 x] 31) : Calls Try.prog 178 #[.int .u64 v, .pointer (some ⟨b, 0, none⟩)] w fun e w' => e = .returned (.tuple #[.int .u64 ((v + x) % 4294967296), .bool true]) ∧ w = w' := by
  have c := hb.cell 0
  simp only [List.getElem?_cons_zero] at c
  go_enter Try.func178, Try.ntmps178
  go_wp2
  go_ret2
  exact ⟨ret_tup (by omega), rfl⟩

theorem enters_load : ∀ args w, (callFunc 179 args).run Try.prog w = .ok (.enter 179 args) w := enters_of Try.func179 (by kernel_rfl) rfl
theorem enters_store : ∀ args w, (callFunc 176 args).run Try.prog w = .ok (.enter 176 args) w := enters_of Try.func176 (by kernel_rfl) rfl
theorem enters_swap : ∀ args w, (callFunc 177 args).run Try.prog w = .ok (.enter 177 args) w := enters_of Try.func177 (by kernel_rfl) rfl
theorem enters_add : ∀ args w, (callFunc 178 args).run Try.prog w = .ok (.enter 178 args) w := enters_of Try.func178 (by kernel_rfl) rfl

/-- What an access at one of the memory's own functions leaves, as a law on the state. -/
theorem does_in {kind who at_ nw nv : Int} {d : Bool} {f : Nat} {lb : Array Value} {m g : Nat} {s : St} {w : World} (hM : MemAt w m g s) (h : s.inr at_ = true)
    (eg : ∀ args w, (callFunc f args).run Try.prog w = .ok (.enter f args) w)
    (hdo : ∀ w', Kept [m, g] w w' → Calls Try.prog f (#[.int .u64 (s.word at_)] ++ lb) w' fun e w'' => e = .returned (.tuple #[.int .u64 nv, .bool d]) ∧ w' = w'') :
    Calls Try.prog 175 #[.pointer (some ⟨m, 0, none⟩), .agg #[.int .i64 kind, .int .i64 who, .int .i64 at_, .int .u64 0, .int .u64 nw, .bool false], .func (.func f) #[] lb] w fun e w' => (∃ r, e = .returned r) ∧ Kept [m, g] w w' ∧
      ∃ cap spare, Blk w' m (headOf g s.ws.length cap (s.clock + 1) s.bad ⟨kind, who, at_, s.word at_, nw, d⟩) 108 ∧ Blk w' g (u64s (s.ws.set at_.toNat nv) ++ spare) 31 ∧ s.ws.length ≤ cap :=
  does_run m g at_.toNat s ⟨kind, who, at_, 0, nw, false⟩ f lb nv (s.word at_) d w rfl hM (inr_spec h).2.1 (inr_spec h).2.2.1 eg hdo
theorem mload_run (m g : Nat) (s : St) (who at_ : Int) (w : World) (hM : MemAt w m g s) (hc : s.clock < 1000000) (hb : s.bad < 1000000) :
    Calls Try.prog 159 #[.pointer (some ⟨m, 0, none⟩), .int .i64 who, .int .i64 at_] w fun e w' => e = .returned (.int .u64 (s.acc 1 who at_ 0 0).2) ∧ MemAt w' m g (s.acc 1 who at_ 0 0).1 ∧ Kept [m, g] w w' := by
  cases h : s.inr at_ with
  | true =>
    have HA := hid (show s.acc 1 who at_ 0 0 = ({ s with clock := s.clock + 1, last := ⟨1, who, at_, s.word at_, 0, true⟩ }, s.word at_) by unfold St.acc; rw [if_pos h]; simp)
    have HS := hid (set_word h)
    have H := hid h
    clear h
    go_enter Try.func159, Try.ntmps159
    go_wp2_with fail
    refine (does_in hM H.out enters_load (nv := s.word at_) (d := true) (lb := #[]) (fun w' _ => load1_run _ _)).mono ?_
    rintro e w1 ⟨⟨r, rfl⟩, hK, cap, spare, h1, h2, hcap⟩
    rw [HS.out] at h2
    have c := h1.cell 6
    simp only [headOf, accCells, List.getElem?_cons_zero, List.getElem?_cons_succ] at c
    have hM1 : MemAt w1 m g (s.acc 1 who at_ 0 0).1 := acc_mem hM (by omega) hc hb hcap (by rw [HA.out]; exact h1) (by rw [HA.out]; exact h2)
    clear h1 h2
    go_wp2
    go_ret
    exact ⟨by rw [HA.out]; rfl, hM1, hK⟩
  | false =>
    have HA := hid (show s.acc 1 who at_ 0 0 = ({ s with clock := s.clock + 1, bad := s.bad + 1, last := ⟨1, who, at_, 0, 0, false⟩ }, 0) by unfold St.acc; rw [if_neg (by rw [h]; simp)]; simp)
    have H := hid (inr_not h)
    clear h
    go_enter Try.func159, Try.ntmps159
    go_wp2_with fail
    refine (does_bad m g s ⟨1, who, at_, 0, 0, false⟩ _ _ hM H.out).mono ?_
    rintro e w1 ⟨⟨r, rfl⟩, hK, cap, spare, h1, h2, hcap⟩
    have c := h1.cell 6
    simp only [headOf, accCells, List.getElem?_cons_zero, List.getElem?_cons_succ] at c
    have hM1 : MemAt w1 m g (s.acc 1 who at_ 0 0).1 := acc_mem hM (by omega) hc hb hcap (by rw [HA.out]; exact h1) (by rw [HA.out]; exact h2)
    clear h1 h2
    go_wp2
    go_ret
    exact ⟨by rw [HA.out]; rfl, hM1, hK.mono (by simp)⟩
theorem mload_nil (who at_ : Int) (w : World) : Calls Try.prog 159 #[.pointer none, .int .i64 who, .int .i64 at_] w fun e w' => e = .returned (.int .u64 0) ∧ w = w' := by
  go_enter Try.func159, Try.ntmps159
  go_wp2
  go_ret
  exact ⟨rfl, rfl⟩

theorem mstore_run (m g : Nat) (s : St) (who at_ x : Int) (w : World) (hx : 0 ≤ x ∧ x < 18446744073709551616) (hM : MemAt w m g s) (hc : s.clock < 1000000) (hb : s.bad < 1000000) :
    Calls Try.prog 156 #[.pointer (some ⟨m, 0, none⟩), .int .i64 who, .int .i64 at_, .int .u64 x] w fun e w' => e = .returned (.tuple #[]) ∧ MemAt w' m g (s.acc 2 who at_ 0 x).1 ∧ Kept [m, g] w w' := by
  have hmw := hM.ltm
  have hgw := hM.ltg
  have HX := hid hx
  clear hx
  cases h : s.inr at_ with
  | true =>
    have HA := hid (show s.acc 2 who at_ 0 x = ({ s with ws := s.ws.set at_.toNat x, clock := s.clock + 1, last := ⟨2, who, at_, s.word at_, x, true⟩ }, 0) by unfold St.acc; rw [if_pos h]; simp)
    have H := hid h
    clear h
    go_enter Try.func156, Try.ntmps156
    go_wp2_with fail
    have hB := Blk.new w [.int .u64 x] 31
    refine (does_in (hM.quiet (below_one _ _)) H.out enters_store (nv := x) (d := true) (lb := #[.pointer (some ⟨w.heap.size, 0, none⟩)]) (fun w' hk => store1_run _ _ _ _ (hB.kept hk (by simp; omega)))).mono ?_
    rintro e w1 ⟨⟨r, rfl⟩, hK, cap, spare, h1, h2, hcap⟩
    have hM1 : MemAt w1 m g (s.acc 2 who at_ 0 x).1 := acc_mem hM HX.out hc hb hcap (by rw [HA.out]; simp only [List.length_set]; exact h1) (by rw [HA.out]; exact h2)
    clear h1 h2
    go_wp2
    go_returns
    exact ⟨rfl, hM1, (((Kept.refl [m, g] w).alloc _).trans hK (by intro i hi; exact .inl hi))⟩
  | false =>
    have HA := hid (show s.acc 2 who at_ 0 x = ({ s with clock := s.clock + 1, bad := s.bad + 1, last := ⟨2, who, at_, 0, x, false⟩ }, 0) by unfold St.acc; rw [if_neg (by rw [h]; simp)]; simp)
    have H := hid (inr_not h)
    clear h
    go_enter Try.func156, Try.ntmps156
    go_wp2_with fail
    refine (does_bad m g s ⟨2, who, at_, 0, x, false⟩ _ _ (hM.quiet (below_one _ _)) H.out).mono ?_
    rintro e w1 ⟨⟨r, rfl⟩, hK, cap, spare, h1, h2, hcap⟩
    have hM1 : MemAt w1 m g (s.acc 2 who at_ 0 x).1 := acc_mem hM HX.out hc hb hcap (by rw [HA.out]; exact h1) (by rw [HA.out]; exact h2)
    clear h1 h2
    go_wp2
    go_returns
    exact ⟨rfl, hM1, (((Kept.refl [m, g] w).alloc _).trans hK (by intro i hi; exact .inl (by simp at hi; simp [hi])))⟩
end Go.Proofs.Ytnmkfmaohflejaa.Mem
end

section
/- Contracts of a memory: swap, add, and what is asked of it. -/
set_option maxRecDepth 100000
set_option maxHeartbeats 4000000
set_option linter.unusedVariables false
set_option linter.unusedSimpArgs false
namespace Go.Proofs.Ytnmkfmaohflejaa.Mem
open Go.RowKit Go.Shelf Go.Proofs.Ytnmkfmaohflejaa.TK Go.Proofs.Ytnmkfmaohflejaa.Flag Go.Proofs.Ytnmkfmaohflejaa.Words

theorem mswap_run (m g : Nat) (s : St) (who at_ o x : Int) (w : World) (hx : 0 ≤ x ∧ x < 18446744073709551616) (hM : MemAt w m g s) (hc : s.clock < 1000000) (hb : s.bad < 1000000) :
    Calls Try.prog 157 #[.pointer (some ⟨m, 0, none⟩), .int .i64 who, .int .i64 at_, .int .u64 o, .int .u64 x] w fun e w' => e = .returned (.bool (decide ((s.acc 3 who at_ o x).2 = 1))) ∧ MemAt w' m g (s.acc 3 who at_ o x).1 ∧ Kept [m, g] w w' := by
  have hmw := hM.ltm
  have hgw := hM.ltg
  have HX := hid hx
  clear hx
  have hM2 : MemAt ((w.alloc (.cells #[.int .u64 o] 31)).alloc (.cells #[.int .u64 x] 31)) m g s := (hM.quiet (below_one _ _)).quiet (below_one _ _)
  have hB1 : Blk ((w.alloc (.cells #[.int .u64 o] 31)).alloc (.cells #[.int .u64 x] 31)) w.heap.size [.int .u64 o] 31 := (Blk.new w [.int .u64 o] 31).alloc _
  have hB2 : Blk ((w.alloc (.cells #[.int .u64 o] 31)).alloc (.cells #[.int .u64 x] 31)) (w.heap.size + 1) [.int .u64 x] 31 := Blk.new_at (w := w.alloc (.cells #[.int .u64 o] 31)) [.int .u64 x] _ (by simp)
  cases h : s.inr at_ with
  | true =>
    by_cases ho : s.word at_ = o
    · have HA := hid (show s.acc 3 who at_ o x = ({ s with ws := s.ws.set at_.toNat x, clock := s.clock + 1, last := ⟨3, who, at_, s.word at_, x, true⟩ }, 1) by unfold St.acc; rw [if_pos h]; simp [ho])
      have H := hid h
      have HO := hid ho
      clear h ho
      have hdec : decide (s.word at_ = o) = true := decide_eq_true HO.out
      have HD := hid hdec
      clear hdec
      go_enter Try.func157, Try.ntmps157
      go_wp2_with fail
      refine (does_in hM2 H.out enters_swap (nv := x) (d := true) (lb := #[.pointer (some ⟨w.heap.size, 0, none⟩), .pointer (some ⟨w.heap.size + 1, 0, none⟩)]) (fun w' hk => by
        have := swap1_run (s.word at_) o x _ _ w' (hB1.kept hk (by simp; omega)) (hB2.kept hk (by simp; omega))
        rw [if_pos HO.out, HD.out] at this; exact this)).mono ?_
      rintro e w1 ⟨⟨r, rfl⟩, hK, cap, spare, h1, h2, hcap⟩
      have c := h1.cell 8
      simp only [headOf, accCells, List.getElem?_cons_zero, List.getElem?_cons_succ] at c
      have hM1 : MemAt w1 m g (s.acc 3 who at_ o x).1 := acc_mem hM HX.out hc hb hcap (by rw [HA.out]; simp only [List.length_set]; exact h1) (by rw [HA.out]; exact h2)
      clear h1 h2 hM2 hB1 hB2
      go_wp2
      go_ret
      exact ⟨by rw [HA.out]; rfl, hM1, ((((Kept.refl [m, g] w).alloc _).alloc _).trans hK (by intro i hi; exact .inl hi))⟩
    · have HA := hid (show s.acc 3 who at_ o x = ({ s with clock := s.clock + 1, last := ⟨3, who, at_, s.word at_, x, false⟩ }, 0) by unfold St.acc; rw [if_pos h]; simp [ho])
      have HS := hid (set_word h)
      have H := hid h
      have HO := hid ho
      have HD := hid (decide_eq_false ho : decide (s.word at_ = o) = false)
      clear h ho
      go_enter Try.func157, Try.ntmps157
      go_wp2_with fail
      refine (does_in hM2 H.out enters_swap (nv := s.word at_) (d := false) (lb := #[.pointer (some ⟨w.heap.size, 0, none⟩), .pointer (some ⟨w.heap.size + 1, 0, none⟩)]) (fun w' hk => by
        have := swap1_run (s.word at_) o x _ _ w' (hB1.kept hk (by simp; omega)) (hB2.kept hk (by simp; omega))
        rw [if_neg HO.out, HD.out] at this; exact this)).mono ?_
      rintro e w1 ⟨⟨r, rfl⟩, hK, cap, spare, h1, h2, hcap⟩
      rw [HS.out] at h2
      have c := h1.cell 8
      simp only [headOf, accCells, List.getElem?_cons_zero, List.getElem?_cons_succ] at c
      have hM1 : MemAt w1 m g (s.acc 3 who at_ o x).1 := acc_mem hM HX.out hc hb hcap (by rw [HA.out]; exact h1) (by rw [HA.out]; exact h2)
      clear h1 h2 hM2 hB1 hB2
      go_wp2
      go_ret
      exact ⟨by rw [HA.out]; rfl, hM1, ((((Kept.refl [m, g] w).alloc _).alloc _).trans hK (by intro i hi; exact .inl hi))⟩
  | false =>
    have HA := hid (show s.acc 3 who at_ o x = ({ s with clock := s.clock + 1, bad := s.bad + 1, last := ⟨3, who, at_, 0, x, false⟩ }, 0) by unfold St.acc; rw [if_neg (by rw [h]; simp)]; simp)
    have H := hid (inr_not h)
    clear h
    go_enter Try.func157, Try.ntmps157
    go_wp2_with fail
    refine (does_bad m g s ⟨3, who, at_, 0, x, false⟩ _ _ hM2 H.out).mono ?_
    rintro e w1 ⟨⟨r, rfl⟩, hK, cap, spare, h1, h2, hcap⟩
    have c := h1.cell 8
    simp only [headOf, accCells, List.getElem?_cons_zero, List.getElem?_cons_succ] at c
    have hM1 : MemAt w1 m g (s.acc 3 who at_ o x).1 := acc_mem hM HX.out hc hb hcap (by rw [HA.out]; exact h1) (by rw [HA.out]; exact h2)
    clear h1 h2 hM2 hB1 hB2
    go_wp2
    go_ret
    exact ⟨by rw [HA.out]; rfl, hM1, ((((Kept.refl [m, g] w).alloc _).alloc _).trans hK (by intro i hi; exact .inl (by simp at hi; simp [hi])))⟩

theorem u64s_get_set (ws : List Int) (i : Nat) (v : Int) (h : i < ws.length) : (u64s (ws.set i v))[i]? = some (.int .u64 v) := by
  rw [u64s_get _ _ (by simpa using h)]; simp
theorem madd_run (m g : Nat) (s : St) (who at_ x : Int) (w : World) (hx : 0 ≤ x ∧ x < 18446744073709551616) (hM : MemAt w m g s) (hc : s.clock < 1000000) (hb : s.bad < 1000000) :
    Calls Try.prog 158 #[.pointer (some ⟨m, 0, none⟩), .int .i64 who, .int .i64 at_, .int .u64 x] w fun e w' => e = .returned (.int .u64 (s.acc 4 who at_ 0 x).2) ∧ MemAt w' m g (s.acc 4 who at_ 0 x).1 ∧ Kept [m, g] w w' := by
  have hmw := hM.ltm
  have hgw := hM.ltg
  have hne := hM.ne
  have HX := hid hx
  clear hx
  cases h : s.inr at_ with
  | true =>
    have HR := hid (word_range hM.wf at_)
    have HA := hid (show s.acc 4 who at_ 0 x = ({ s with ws := s.ws.set at_.toNat ((s.word at_ + x) % 4294967296), clock := s.clock + 1, last := ⟨4, who, at_, s.word at_, (s.word at_ + x) % 4294967296, true⟩ }, (s.word at_ + x) % 4294967296) by unfold St.acc; rw [if_pos h]; simp)
    have H := hid h
    clear h
    obtain ⟨a0, a1, a2, _⟩ := inr_spec H.out
    have HB1 := hid (show at_ < (s.ws.length : Int) by omega)
    clear a2
    obtain ⟨r0, hr0⟩ : ∃ r0, r0 = (s.word at_ + x) % 4294967296 := ⟨_, rfl⟩
    rw [← hr0] at HA
    have HR0 := hid hr0
    clear hr0
    go_enter Try.func158, Try.ntmps158
    go_wp2_with fail
    have hB := Blk.new w [.int .u64 x] 31
    refine (does_in (hM.quiet (below_one _ _)) H.out enters_add (nv := r0) (d := true) (lb := #[.pointer (some ⟨w.heap.size, 0, none⟩)]) (fun w' hk => by
      have := add1_run (s.word at_) x _ w' HR.out.1 HX.out.1 (hB.kept hk (by simp; omega))
      rw [← HR0.out] at this; exact this)).mono ?_
    rintro e w1 ⟨⟨r, rfl⟩, hK, cap, spare, h1, h2, hcap⟩
    have c := h1.cell 8
    have c0 := h1.cell 0
    have c7 := h1.cell 7
    have f7 := h1.frozen 7
    simp only [headOf, accCells, List.getElem?_cons_zero, List.getElem?_cons_succ] at c c0 c7
    have cg := ((h2.cell at_.toNat).trans (List.getElem?_append_left (by simp [u64s]; exact a1))).trans (u64s_get_set s.ws at_.toNat r0 a1)
    have b0 : 0 ≤ at_ := a0
    have b1 := HB1.out
    have hK2 : Kept [m, g] w (w1.setCell ⟨m, 7, none⟩ (.int .u64 r0)) := (((Kept.refl [m, g] w).alloc _).trans hK (by intro i hi; exact .inl hi)).set (.inl (by simp)) _
    have hM1 : MemAt (w1.setCell ⟨m, 7, none⟩ (.int .u64 r0)) m g (s.acc 4 who at_ 0 x).1 := acc_mem hM HX.out hc hb hcap (by rw [HA.out]; exact h1.set 7 (.int .u64 r0)) (by rw [HA.out]; exact h2.far (by simpa using Ne.symm hne) _)
    have HM1 := hid hM1
    have HK2 := hid hK2
    clear h1 h2 a0 a1 hM1 hK2 hM
    go_wp2
    go_ret
    exact ⟨by rw [HA.out]; rfl, HM1.out, HK2.out⟩
  | false =>
    have HA := hid (show s.acc 4 who at_ 0 x = ({ s with clock := s.clock + 1, bad := s.bad + 1, last := ⟨4, who, at_, 0, x, false⟩ }, 0) by unfold St.acc; rw [if_neg (by rw [h]; simp)]; simp)
    have H := hid (inr_not h)
    clear h
    go_enter Try.func158, Try.ntmps158
    go_wp2_with fail
    refine (does_bad m g s ⟨4, who, at_, 0, x, false⟩ _ _ (hM.quiet (below_one _ _)) H.out).mono ?_
    rintro e w1 ⟨⟨r, rfl⟩, hK, cap, spare, h1, h2, hcap⟩
    have c := h1.cell 8
    simp only [headOf, accCells, List.getElem?_cons_zero, List.getElem?_cons_succ] at c
    have hM1 : MemAt w1 m g (s.acc 4 who at_ 0 x).1 := acc_mem hM HX.out hc hb hcap (by rw [HA.out]; exact h1) (by rw [HA.out]; exact h2)
    clear h1 h2
    go_wp2
    go_ret
    exact ⟨by rw [HA.out]; rfl, hM1, (((Kept.refl [m, g] w).alloc _).trans hK (by intro i hi; exact .inl (by simp at hi; simp [hi])))⟩

/-- What is asked of it. -/
def St.peek (s : St) (at_ : Int) : Int × Bool := if s.inr at_ then (s.word at_, true) else (0, false)
theorem mpeek_run (m g : Nat) (s : St) (at_ : Int) (w : World) (hM : MemAt w m g s) :
    Calls Try.prog 16 #[.pointer (some ⟨m, 0, none⟩), .int .i64 at_] w fun e w' => e = .returned (.tuple #[.int .u64 (s.peek at_).1, .bool (s.peek at_).2]) ∧ w = w' := by
  obtain ⟨cap, spare, h1, h2, hcap⟩ := hM.ex
  have c0 := h1.cell 0
  simp only [headOf, List.getElem?_cons_zero, List.getElem?_cons_succ] at c0
  cases h : s.inr at_ with
  | true =>
    have HP := hid (show s.peek at_ = (s.word at_, true) by unfold St.peek; rw [if_pos h])
    obtain ⟨a0, a1, a2, a3⟩ := inr_spec h
    have cg := (h2.cell at_.toNat).trans (List.getElem?_append_left (by simp [u64s]; exact a1))
    rw [u64s_get _ _ a1] at cg
    rw [List.getElem?_eq_getElem a1] at a3
    injection a3 with a3
    rw [a3] at cg
    have d0 : decide (at_ < 0) = false := decide_eq_false (by omega)
    have d1 : decide ((s.ws.length : Int) ≤ at_) = false := decide_eq_false (by omega)
    have b1 : at_ < (s.ws.length : Int) := by omega
    clear h h1 h2 a2 a3 hM
    go_enter Try.func16, Try.ntmps16
    go_wp2
    go_ret2
    exact ⟨by rw [HP.out]; rfl, rfl⟩
  | false =>
    have HP := hid (show s.peek at_ = (0, false) by unfold St.peek; rw [if_neg (by rw [h]; simp)])
    have h' := inr_not h
    clear h h1 h2 hM
    by_cases d0 : at_ < 0
    · clear h'
      go_enter Try.func16, Try.ntmps16
      go_wp2
      go_ret2
      exact ⟨by rw [HP.out]; rfl, rfl⟩
    · have d1 : (s.ws.length : Int) ≤ at_ := by omega
      have d2 : decide (at_ < 0) = false := decide_eq_false d0
      clear h' d0
      go_enter Try.func16, Try.ntmps16
      go_wp2
      go_ret2
      exact ⟨by rw [HP.out]; rfl, rfl⟩
theorem mpeek_nil (at_ : Int) (w : World) :
    Calls Try.prog 16 #[.pointer none, .int .i64 at_] w fun e w' => e = .returned (.tuple #[.int .u64 0, .bool false]) ∧ w = w' := by
  go_enter Try.func16, Try.ntmps16
  go_wp2
  go_ret2
  exact ⟨rfl, rfl⟩
theorem mbad_run (m g : Nat) (s : St) (w : World) (hM : MemAt w m g s) :
    Calls Try.prog 26 #[.pointer (some ⟨m, 0, none⟩)] w fun e w' => e = .returned (.int .i64 s.bad) ∧ w = w' := by
  obtain ⟨cap, spare, h1, h2, hcap⟩ := hM.ex
  have c0 := h1.cell 2
  simp only [headOf, List.getElem?_cons_zero, List.getElem?_cons_succ] at c0
  clear h1 h2 hM
  go_enter Try.func26, Try.ntmps26
  go_wp2
  go_ret
  exact ⟨rfl, rfl⟩
theorem mof_run (ad : Addr) (c : Nat) (xs : List Int) (w : World) (hbig : xs.length ≤ 100000) (hwf : ∀ x ∈ xs, 0 ≤ x ∧ x < 18446744073709551616) (hc : ∀ i (h : i < xs.length), w.cell? (ad.add i) = some (.int .u64 xs[i])) :
    Calls Try.prog 65 #[.slice (some ad) xs.length c] w fun e w' => ∃ m g, e = .returned (.tuple #[.pointer (some ⟨m, 0, none⟩), .int .i64 0]) ∧ w.heap.size ≤ m ∧ w.heap.size ≤ g ∧ MemAt w' m g ⟨xs, 0, 0, ⟨0, 0, 0, 0, 0, false⟩⟩ ∧ Below w.heap.size w w' := by
  have HC := hid hc
  have HW := hid hwf
  have hd : decide ((262144 : Int) < (xs.length : Int)) = false := decide_eq_false (by omega)
  clear hc hwf
  go_enter Try.func65, Try.ntmps65
  go_wp2_with fail
  refine (clone_run ad c xs _ (by omega) HC.out).mono ?_
  rintro e w1 ⟨v, b, rfl, hb, ⟨cap, spare, rfl, hcap, hbb⟩, hbl⟩
  have hblt := hbb.lt
  go_wp2
  go_ret2
  refine ⟨w1.heap.size, b, rfl, hbl.size, hb, ⟨⟨cap, spare, ?_, hbb.alloc _, hcap⟩, by omega, HW.out, by simp only; omega, by simp, by simp⟩, hbl.alloc hbl.size _⟩
  exact Blk.new w1 (headOf b xs.length cap 0 0 ⟨0, 0, 0, 0, 0, false⟩) _
end Go.Proofs.Ytnmkfmaohflejaa.Mem
end

section
/- Contracts of a flow: what comes next, and what is told of it. -/
set_option maxRecDepth 100000
set_option maxHeartbeats 4000000
set_option linter.unusedVariables false
set_option linter.unusedSimpArgs false
namespace Go.Proofs.Ytnmkfmaohflejaa.Flow
open Go.RowKit Go.Shelf Go.Proofs.Ytnmkfmaohflejaa.TK Go.Proofs.Ytnmkfmaohflejaa.Flag Go.Proofs.Ytnmkfmaohflejaa.Words Go.Proofs.Ytnmkfmaohflejaa.Mem

/-- A flow's cells, at the head of a machine's block. -/
structure Fl where
  who : Int
  kind : Int
  at_ : Int
  old : Int
  nw : Int
  th : Value
  asleep : Bool
  sub : Value
  af : Value
def fl (f : Fl) : List Value := [.int .i64 f.who, .int .i64 f.kind, .int .i64 f.at_, .int .u64 f.old, .int .u64 f.nw, f.th, .bool f.asleep, f.sub, f.af]
/-- The flow as it is made. -/
def fl0 : Fl := ⟨0, 0, 0, 0, 0, .nilFunc, false, .nilIface, .nilFunc⟩
def FlAt (w : World) (x : Nat) (f : Fl) (rest : List Value) (T : TypeId) : Prop := Blk w x (fl f ++ rest) T
section
variable {w w' : World} {x : Nat} {f : Fl} {rest : List Value} {T : TypeId} {S : List Nat}
theorem FlAt.kept (h : FlAt w x f rest T) (hk : Kept S w w') (hne : x ∉ S) : FlAt w' x f rest T := Blk.kept h hk hne
theorem FlAt.quiet (h : FlAt w x f rest T) (hb : Below w.heap.size w w') : FlAt w' x f rest T := Blk.quiet h hb
theorem FlAt.lt (h : FlAt w x f rest T) : x < w.heap.size := Blk.lt h
theorem FlAt.cells (h : FlAt w x f rest T) : w.cell? ⟨x, 0, none⟩ = some (.int .i64 f.who) ∧ w.cell? ⟨x, 1, none⟩ = some (.int .i64 f.kind) ∧ w.cell? ⟨x, 2, none⟩ = some (.int .i64 f.at_) ∧ w.cell? ⟨x, 3, none⟩ = some (.int .u64 f.old) ∧ w.cell? ⟨x, 4, none⟩ = some (.int .u64 f.nw) ∧ w.cell? ⟨x, 5, none⟩ = some f.th ∧ w.cell? ⟨x, 6, none⟩ = some (.bool f.asleep) ∧ w.cell? ⟨x, 7, none⟩ = some f.sub ∧ w.cell? ⟨x, 8, none⟩ = some f.af :=
  ⟨Blk.cell h 0, Blk.cell h 1, Blk.cell h 2, Blk.cell h 3, Blk.cell h 4, Blk.cell h 5, Blk.cell h 6, Blk.cell h 7, Blk.cell h 8⟩
end
theorem fof_run (x : Nat) (f : Fl) (rest : List Value) (T : TypeId) (v : Int) (w : World) (hb : FlAt w x f rest T) :
    Calls Try.prog 68 #[.pointer (some ⟨x, 0, none⟩), .int .i64 v] w fun e w' => e = .returned (.tuple #[]) ∧ FlAt w' x { f with who := v } rest T ∧ Kept [x] w w' := by
  obtain ⟨c0, c1, c2, c3, c4, c5, c6, c7, c8⟩ := hb.cells
  have hf := Blk.frozen hb
  have HB := hid hb
  clear hb
  go_enter Try.func68, Try.ntmps68
  go_wp2
  go_returns
  exact ⟨rfl, HB.out.set 0 (.int .i64 v), (Kept.refl [x] w).set (.inl (by simp)) _⟩
theorem fwho_run (x : Nat) (f : Fl) (rest : List Value) (T : TypeId) (w : World) (hb : FlAt w x f rest T) :
    Calls Try.prog 135 #[.pointer (some ⟨x, 0, none⟩)] w fun e w' => e = .returned (.int .i64 f.who) ∧ w = w' := by
  obtain ⟨c0, c1, c2, c3, c4, c5, c6, c7, c8⟩ := hb.cells
  clear hb
  go_enter Try.func135, Try.ntmps135
  go_wp2
  go_ret
  exact ⟨rfl, rfl⟩
theorem comes_run (x : Nat) (f : Fl) (rest : List Value) (T : TypeId) (kind at_ old nw : Int) (fn : Fn) (first captured : Array Value) (w : World) (hb : FlAt w x f rest T) :
    Calls Try.prog 106 #[.pointer (some ⟨x, 0, none⟩), .int .i64 kind, .int .i64 at_, .int .u64 old, .int .u64 nw, .func fn first captured] w fun e w' => e = .returned (.tuple #[]) ∧ FlAt w' x { f with kind := kind, at_ := at_, old := old, nw := nw, th := .func fn first captured } rest T ∧ Kept [x] w w' := by
  obtain ⟨c0, c1, c2, c3, c4, c5, c6, c7, c8⟩ := hb.cells
  have hf := Blk.frozen hb
  have HB := hid hb
  clear hb
  go_enter Try.func106, Try.ntmps106
  go_wp2
  go_returns
  exact ⟨rfl, ((((HB.out.set 1 (.int .i64 kind)).set 2 (.int .i64 at_)).set 3 (.int .u64 old)).set 4 (.int .u64 nw)).set 5 (.func fn first captured), (((((Kept.refl [x] w).set (.inl (by simp)) _).set (.inl (by simp)) _).set (.inl (by simp)) _).set (.inl (by simp)) _).set (.inl (by simp)) _⟩
theorem fload_run (x : Nat) (f : Fl) (rest : List Value) (T : TypeId) (at_ : Int) (fn : Fn) (first captured : Array Value) (w : World) (hb : FlAt w x f rest T) :
    Calls Try.prog 76 #[.pointer (some ⟨x, 0, none⟩), .int .i64 at_, .func fn first captured] w fun e w' => e = .returned (.tuple #[]) ∧ FlAt w' x { f with kind := 1, at_ := at_, old := 0, nw := 0, th := .func fn first captured } rest T ∧ Kept [x] w w' := by
  go_enter Try.func76, Try.ntmps76
  go_wp2_with fail
  refine (comes_run x f rest T 1 at_ 0 0 fn first captured _ hb).mono ?_
  rintro e w1 ⟨rfl, hB, hK⟩
  go_wp2
  go_returns
  exact ⟨rfl, hB, hK⟩
theorem fadd_run (x : Nat) (f : Fl) (rest : List Value) (T : TypeId) (at_ nw : Int) (fn : Fn) (first captured : Array Value) (w : World) (hb : FlAt w x f rest T) :
    Calls Try.prog 69 #[.pointer (some ⟨x, 0, none⟩), .int .i64 at_, .int .u64 nw, .func fn first captured] w fun e w' => e = .returned (.tuple #[]) ∧ FlAt w' x { f with kind := 4, at_ := at_, old := 0, nw := nw, th := .func fn first captured } rest T ∧ Kept [x] w w' := by
  go_enter Try.func69, Try.ntmps69
  go_wp2_with fail
  refine (comes_run x f rest T 4 at_ 0 nw fn first captured _ hb).mono ?_
  rintro e w1 ⟨rfl, hB, hK⟩
  go_wp2
  go_returns
  exact ⟨rfl, hB, hK⟩
theorem fstore_run (x : Nat) (f : Fl) (rest : List Value) (T : TypeId) (at_ nw : Int) (fn : Fn) (first captured : Array Value) (w : World) (hb : FlAt w x f rest T) :
    Calls Try.prog 73 #[.pointer (some ⟨x, 0, none⟩), .int .i64 at_, .int .u64 nw, .func fn first captured] w fun e w' => e = .returned (.tuple #[]) ∧ ∃ b, FlAt w' x { f with kind := 2, at_ := at_, old := 0, nw := nw, th := .func (.func 112) #[] #[.pointer (some ⟨b, 0, none⟩)] } rest T ∧ Blk w' b [.func fn first captured] 1 ∧ w.heap.size ≤ b ∧ Kept [x] w w' := by
  have hlt := hb.lt
  have hB : FlAt (w.alloc (.cells #[.func fn first captured] 1)) x f rest T := hb.quiet (below_one _ _)
  have hX := Blk.new w [.func fn first captured] 1
  go_enter Try.func73, Try.ntmps73
  go_wp2_with fail
  refine (comes_run x f rest T 2 at_ 0 nw (.func 112) #[] #[.pointer (some ⟨w.heap.size, 0, none⟩)] _ hB).mono ?_
  rintro e w1 ⟨rfl, hB1, hK⟩
  go_wp2
  go_returns
  exact ⟨rfl, w.heap.size, hB1, hX.kept hK (by simp; omega), Nat.le_refl _, ((Kept.refl [x] w).alloc _).trans hK (by intro i hi; exact .inl hi)⟩
theorem fswap_run (x : Nat) (f : Fl) (rest : List Value) (T : TypeId) (at_ old nw : Int) (fn : Fn) (first captured : Array Value) (w : World) (hb : FlAt w x f rest T) :
    Calls Try.prog 151 #[.pointer (some ⟨x, 0, none⟩), .int .i64 at_, .int .u64 old, .int .u64 nw, .func fn first captured] w fun e w' => e = .returned (.tuple #[]) ∧ ∃ b, FlAt w' x { f with kind := 3, at_ := at_, old := old, nw := nw, th := .func (.func 170) #[] #[.pointer (some ⟨b, 0, none⟩)] } rest T ∧ Blk w' b [.func fn first captured] 166 ∧ w.heap.size ≤ b ∧ Kept [x] w w' := by
  have hlt := hb.lt
  have hB : FlAt (w.alloc (.cells #[.func fn first captured] 166)) x f rest T := hb.quiet (below_one _ _)
  have hX := Blk.new w [.func fn first captured] 166
  go_enter Try.func151, Try.ntmps151
  go_wp2_with fail
  refine (comes_run x f rest T 3 at_ old nw (.func 170) #[] #[.pointer (some ⟨w.heap.size, 0, none⟩)] _ hB).mono ?_
  rintro e w1 ⟨rfl, hB1, hK⟩
  go_wp2
  go_returns
  exact ⟨rfl, w.heap.size, hB1, hX.kept hK (by simp; omega), Nat.le_refl _, ((Kept.refl [x] w).alloc _).trans hK (by intro i hi; exact .inl hi)⟩
/-- Nothing is to come. -/
def Fl.done (f : Fl) : Bool := decide (f.kind = 0) && (f.sub matches .nilIface)
theorem fdone_nil (w : World) : Calls Try.prog 67 #[.pointer none] w fun e w' => e = .returned (.bool true) ∧ w = w' := by
  go_enter Try.func67, Try.ntmps67
  go_wp2
  go_ret
  exact ⟨rfl, rfl⟩
/-- A flow without a machine in it. -/
theorem fdone_run (x : Nat) (f : Fl) (rest : List Value) (T : TypeId) (w : World) (hb : FlAt w x f rest T) (hs : f.sub = .nilIface) :
    Calls Try.prog 67 #[.pointer (some ⟨x, 0, none⟩)] w fun e w' => e = .returned (.bool (decide (f.kind = 0))) ∧ w = w' := by
  obtain ⟨c0, c1, c2, c3, c4, c5, c6, c7, c8⟩ := hb.cells
  rw [hs] at c7
  clear hb hs
  by_cases hk : f.kind = 0
  · have hd : ((f.kind : Int) == 0) = true := by simp [hk]
    have HK := hid hk
    clear hk
    go_enter Try.func67, Try.ntmps67
    go_wp2
    go_ret
    exact ⟨ret_yes HK.out, rfl⟩
  · have hd : ((f.kind : Int) == 0) = false := by simp [hk]
    have HK := hid hk
    clear hk
    go_enter Try.func67, Try.ntmps67
    go_wp2
    go_ret
    exact ⟨ret_no HK.out, rfl⟩
end Go.Proofs.Ytnmkfmaohflejaa.Flow
end

section
/- Contracts of a flow: its access, and a step, over whatever follows. -/
set_option maxRecDepth 100000
set_option maxHeartbeats 4000000
set_option linter.unusedVariables false
set_option linter.unusedSimpArgs false
namespace Go.Proofs.Ytnmkfmaohflejaa.Flow
open Go.RowKit Go.Shelf Go.Proofs.Ytnmkfmaohflejaa.TK Go.Proofs.Ytnmkfmaohflejaa.Flag Go.Proofs.Ytnmkfmaohflejaa.Words Go.Proofs.Ytnmkfmaohflejaa.Mem

/-- It is asleep: it waits at a word that was 0, and is. -/
def Fl.sleeps (f : Fl) (s : St) : Bool := decide (f.kind = 5) && f.asleep && decide ((s.peek f.at_).1 = 0)
theorem fasleep_nil (m : Option Addr) (w : World) : Calls Try.prog 110 #[.pointer none, .pointer m] w fun e w' => e = .returned (.bool false) ∧ w = w' := by
  go_enter Try.func110, Try.ntmps110
  go_wp2
  go_ret
  exact ⟨rfl, rfl⟩
theorem fasleep_run (x m g : Nat) (f : Fl) (rest : List Value) (T : TypeId) (s : St) (w : World) (hb : FlAt w x f rest T) (hs : f.sub = .nilIface) (hM : MemAt w m g s) :
    Calls Try.prog 110 #[.pointer (some ⟨x, 0, none⟩), .pointer (some ⟨m, 0, none⟩)] w fun e w' => e = .returned (.bool (f.sleeps s)) ∧ w = w' := by
  obtain ⟨c0, c1, c2, c3, c4, c5, c6, c7, c8⟩ := hb.cells
  rw [hs] at c7
  have hta : ∀ w : World, (Instr.typeAssert .nilIface 95 160 true).run Try.prog w = .ok (.tuple #[.nilIface, .bool false]) w := fun w => by kernel_rfl
  clear hb hs
  obtain ⟨pk, hpk⟩ : ∃ pk, pk = s.peek f.at_ := ⟨_, rfl⟩
  have HS : Hid (f.sleeps s = (decide (f.kind = 5) && f.asleep && decide (pk.1 = 0))) := by unfold Hid Fl.sleeps; rw [hpk]
  have HP := hid hpk
  clear hpk
  obtain ⟨a, hasl⟩ : ∃ a, a = f.asleep := ⟨_, rfl⟩
  obtain ⟨k, hkd⟩ : ∃ k, k = f.kind := ⟨_, rfl⟩
  rw [← hasl] at c6 HS
  rw [← hkd] at c1 HS
  clear hasl hkd
  by_cases hk : k = 5
  · have hd : ((k : Int) == 5) = true := by simp [hk]
    have HK := hid (decide_eq_true hk)
    clear hk
    cases a with
    | false =>
      go_enter Try.func110, Try.ntmps110
      go_wp2_with fail
      refine (mpeek_run m g s _ _ hM).mono ?_
      rintro e w1 ⟨rfl, rfl⟩
      go_wp2
      go_ret
      exact ⟨by rw [HS.out]; simp, rfl⟩
    | true =>
      by_cases hz : pk.1 = 0
      · have hz' : ((pk.1 : Int) == 0) = true := by simp [hz]
        have HZ := hid (decide_eq_true hz)
        clear hz
        go_enter Try.func110, Try.ntmps110
        go_wp2_with fail
        refine (mpeek_run m g s _ _ hM).mono ?_
        rintro e w1 ⟨rfl, rfl⟩
        rw [← HP.out]
        go_wp2
        go_ret
        exact ⟨by rw [HS.out, HK.out, HZ.out]; rfl, rfl⟩
      · have hz' : ((pk.1 : Int) == 0) = false := by simp [hz]
        have HZ := hid (decide_eq_false hz)
        clear hz
        go_enter Try.func110, Try.ntmps110
        go_wp2_with fail
        refine (mpeek_run m g s _ _ hM).mono ?_
        rintro e w1 ⟨rfl, rfl⟩
        rw [← HP.out]
        go_wp2
        go_ret
        exact ⟨by rw [HS.out, HK.out, HZ.out]; rfl, rfl⟩
  · have hd : ((k : Int) == 5) = false := by simp [hk]
    have HK := hid (decide_eq_false hk)
    clear hk
    go_enter Try.func110, Try.ntmps110
    go_wp2_with fail
    refine (mpeek_run m g s _ _ hM).mono ?_
    rintro e w1 ⟨rfl, rfl⟩
    go_wp2
    go_ret
    exact ⟨by rw [HS.out, HK.out]; simp, rfl⟩

theorem acc5 (s : St) (k who at_ o x : Int) (h2 : k ≠ 2) (h3 : k ≠ 3) (h4 : k ≠ 4) : s.acc k who at_ o x = s.acc 1 who at_ 0 0 := by
  unfold St.acc; simp [h2, h3, h4]
theorem acc2_ans (s : St) (who at_ o x : Int) : (s.acc 2 who at_ o x).2 = 0 := by
  unfold St.acc; split <;> simp
theorem acc3_ans (s : St) (who at_ o x : Int) : (s.acc 3 who at_ o x).2 = if (s.acc 3 who at_ o x).2 = 1 then 1 else 0 := by
  unfold St.acc; split
  · simp; split <;> simp
  · simp
theorem fdoes_run (x m g : Nat) (f : Fl) (rest : List Value) (T : TypeId) (s : St) (w : World) (hb : FlAt w x f rest T) (hM : MemAt w m g s) (hnw : 0 ≤ f.nw ∧ f.nw < 18446744073709551616) (hc : s.clock < 1000000) (hbd : s.bad < 1000000) :
    Calls Try.prog 137 #[.pointer (some ⟨x, 0, none⟩), .pointer (some ⟨m, 0, none⟩)] w fun e w' => e = .returned (.int .u64 (s.acc f.kind f.who f.at_ f.old f.nw).2) ∧ MemAt w' m g (s.acc f.kind f.who f.at_ f.old f.nw).1 ∧ Kept [m, g] w w' := by
  obtain ⟨who, kind, at_, old, nw, th, asl, sub, af⟩ := f
  simp only at hnw ⊢
  have HN := hid hnw
  have I0 : FlAt w.drew x ⟨who, kind, at_, old, nw, th, asl, sub, af⟩ rest T ∧ MemAt w.drew m g s ∧ Kept [m, g] w w.drew := ⟨hb, hM.quiet (below_drewN (Below.refl _ _) 1), (Kept.refl _ _).drew⟩
  obtain ⟨c0, c1, c2, c3, c4, c5, c6, c7, c8⟩ := hb.cells
  simp only at c0 c1 c2 c3 c4
  clear hb hM hnw
  by_cases k2 : kind = 2
  · subst k2
    go_enter Try.func137, Try.ntmps137
    go_wp2_with fail
    refine wp_region_T 13 (fun w' => FlAt w' x ⟨who, 2, at_, old, nw, th, asl, sub, af⟩ rest T ∧ MemAt w' m g s ∧ Kept [m, g] w w') (fun w' => MemAt w' m g (s.acc 2 who at_ old nw).1 ∧ Kept [m, g] w w') (by kernel_rfl) (by kernel_rfl) rfl (by kernel_rfl) I0 ?_
    repeat (first | (apply walkD_pure; rfl; rfl; (intro _; go_simp; first | done | rfl); (intro K hK; go_simp; refine hK _ ?_; clear hK K)) | (apply walkD_skip; rfl; rfl; (intro K hK; go_simp; refine hK _ ?_; clear hK K)) | (apply walkD_read1 [false] (by kernel_rfl); rfl; rfl; (intro w' hD; obtain ⟨y0, y1, y2, y3, y4, _⟩ := FlAt.cells hD.1; simp only at y0 y1 y2 y3 y4; go_simp; rfl); (intro K hK; go_simp; refine hK _ ?_; clear hK K)) | (apply walkD_call1 [false] (by kernel_rfl); rfl; (intro _; go_simp; first | rfl | exact ⟨rfl, rfl⟩); (intro w' hD; refine (mstore_run m g s who at_ nw _ HN.out hD.2.1 hc hbd).mono ?_; rintro e w2 ⟨rfl, hM2, hK⟩; exact ⟨rfl, hM2, hD.2.2.trans hK (by intro i hi; exact .inl hi)⟩); (intro K hK; go_simp; refine hK _ ?_; clear hK K)))
    intro w1 hR
    go_wp2
    go_ret
    exact ⟨ret_int (acc2_ans _ _ _ _ _).symm, hR⟩
  · by_cases k3 : kind = 3
    · subst k3
      obtain ⟨d, hd⟩ : ∃ d, d = decide ((s.acc 3 who at_ old nw).2 = 1) := ⟨_, rfl⟩
      have HD := hid hd
      have HA := hid (acc3_ans s who at_ old nw)
      clear hd k2
      go_enter Try.func137, Try.ntmps137
      go_wp2_with fail
      refine wp_region_T 17 (fun w' => FlAt w' x ⟨who, 3, at_, old, nw, th, asl, sub, af⟩ rest T ∧ MemAt w' m g s ∧ Kept [m, g] w w') (fun w' => MemAt w' m g (s.acc 3 who at_ old nw).1 ∧ Kept [m, g] w w') (by kernel_rfl) (by kernel_rfl) rfl (by kernel_rfl) I0 ?_
      repeat (first | (apply walkD_pure; rfl; rfl; (intro _; go_simp; first | done | rfl); (intro K hK; go_simp; refine hK _ ?_; clear hK K)) | (apply walkD_skip; rfl; rfl; (intro K hK; go_simp; refine hK _ ?_; clear hK K)) | (apply walkD_read1 [false] (by kernel_rfl); rfl; rfl; (intro w' hD; obtain ⟨y0, y1, y2, y3, y4, _⟩ := FlAt.cells hD.1; simp only at y0 y1 y2 y3 y4; go_simp; rfl); (intro K hK; go_simp; refine hK _ ?_; clear hK K)) | (apply walkD_call1 [false] (by kernel_rfl); rfl; (intro _; go_simp; first | rfl | exact ⟨rfl, rfl⟩); (intro w' hD; refine (mswap_run m g s who at_ old nw _ HN.out hD.2.1 hc hbd).mono ?_; rintro e w2 ⟨rfl, hM2, hK⟩; rw [← HD.out]; exact ⟨rfl, hM2, hD.2.2.trans hK (by intro i hi; exact .inl hi)⟩); (intro K hK; go_simp; refine hK _ ?_; clear hK K)))
      intro w1 hR
      cases d with
      | true =>
        go_wp2
        go_ret
        exact ⟨ret_int (by have h := HA.out; rw [if_pos (of_decide_eq_true HD.out.symm)] at h; exact h.symm), hR⟩
      | false =>
        go_wp2
        go_ret
        exact ⟨ret_int (by have h := HA.out; rw [if_neg (of_decide_eq_false HD.out.symm)] at h; exact h.symm), hR⟩
    · by_cases k4 : kind = 4
      · subst k4
        clear k2 k3
        go_enter Try.func137, Try.ntmps137
        go_wp2_with fail
        refine wp_region_T 13 (fun w' => FlAt w' x ⟨who, 4, at_, old, nw, th, asl, sub, af⟩ rest T ∧ MemAt w' m g s ∧ Kept [m, g] w w') (fun w' => MemAt w' m g (s.acc 4 who at_ old nw).1 ∧ Kept [m, g] w w') (by kernel_rfl) (by kernel_rfl) rfl (by kernel_rfl) I0 ?_
        repeat (first | (apply walkD_pure; rfl; rfl; (intro _; go_simp; first | done | rfl); (intro K hK; go_simp; refine hK _ ?_; clear hK K)) | (apply walkD_skip; rfl; rfl; (intro K hK; go_simp; refine hK _ ?_; clear hK K)) | (apply walkD_read1 [false] (by kernel_rfl); rfl; rfl; (intro w' hD; obtain ⟨y0, y1, y2, y3, y4, _⟩ := FlAt.cells hD.1; simp only at y0 y1 y2 y3 y4; go_simp; rfl); (intro K hK; go_simp; refine hK _ ?_; clear hK K)) | (apply walkD_call1 [false] (by kernel_rfl); rfl; (intro _; go_simp; first | rfl | exact ⟨rfl, rfl⟩); (intro w' hD; refine (madd_run m g s who at_ nw _ HN.out hD.2.1 hc hbd).mono ?_; rintro e w2 ⟨rfl, hM2, hK⟩; exact ⟨rfl, hM2, hD.2.2.trans hK (by intro i hi; exact .inl hi)⟩); (intro K hK; go_simp; refine hK _ ?_; clear hK K)))
        intro w1 hR
        go_wp2
        go_ret
        exact ⟨rfl, hR⟩
      · have d2 : ((kind : Int) == 2) = false := by simp [k2]
        have d3 : ((kind : Int) == 3) = false := by simp [k3]
        have d4 : ((kind : Int) == 4) = false := by simp [k4]
        rw [acc5 s kind who at_ old nw k2 k3 k4]
        clear k2 k3 k4
        go_enter Try.func137, Try.ntmps137
        go_wp2_with fail
        refine wp_region_T 9 (fun w' => FlAt w' x ⟨who, kind, at_, old, nw, th, asl, sub, af⟩ rest T ∧ MemAt w' m g s ∧ Kept [m, g] w w') (fun w' => MemAt w' m g (s.acc 1 who at_ 0 0).1 ∧ Kept [m, g] w w') (by kernel_rfl) (by kernel_rfl) rfl (by kernel_rfl) I0 ?_
        repeat (first | (apply walkD_pure; rfl; rfl; (intro _; go_simp; first | done | rfl); (intro K hK; go_simp; refine hK _ ?_; clear hK K)) | (apply walkD_skip; rfl; rfl; (intro K hK; go_simp; refine hK _ ?_; clear hK K)) | (apply walkD_read1 [false] (by kernel_rfl); rfl; rfl; (intro w' hD; obtain ⟨y0, y1, y2, y3, y4, _⟩ := FlAt.cells hD.1; simp only at y0 y1 y2 y3 y4; go_simp; rfl); (intro K hK; go_simp; refine hK _ ?_; clear hK K)) | (apply walkD_call1 [false] (by kernel_rfl); rfl; (intro _; go_simp; first | rfl | exact ⟨rfl, rfl⟩); (intro w' hD; refine (mload_run m g s who at_ _ hD.2.1 hc hbd).mono ?_; rintro e w2 ⟨rfl, hM2, hK⟩; exact ⟨rfl, hM2, hD.2.2.trans hK (by intro i hi; exact .inl hi)⟩); (intro K hK; go_simp; refine hK _ ?_; clear hK K)))
        intro w1 hR
        go_wp2
        go_ret
        exact ⟨rfl, hR⟩

/-- The flow as what follows an access finds it. -/
def Fl.cleared (f : Fl) : Fl := { f with kind := 0, th := .nilFunc, asleep := false }
/-- An access that sleeps on. -/
theorem fone_sleeps (x m g : Nat) (f : Fl) (rest : List Value) (T : TypeId) (s : St) (w : World) (hb : FlAt w x f rest T) (hM : MemAt w m g s) (hxm : x ≠ m) (hxg : x ≠ g) (hnw : 0 ≤ f.nw ∧ f.nw < 18446744073709551616) (hc : s.clock < 1000000) (hbd : s.bad < 1000000)
    (hk : f.kind = 5) (hz : (s.acc f.kind f.who f.at_ f.old f.nw).2 = 0) :
    Calls Try.prog 111 #[.pointer (some ⟨x, 0, none⟩), .pointer (some ⟨m, 0, none⟩)] w fun e w' => e = .returned (.tuple #[]) ∧ FlAt w' x { f with asleep := true } rest T ∧ MemAt w' m g (s.acc f.kind f.who f.at_ f.old f.nw).1 ∧ Kept [x, m, g] w w' := by
  have HK := hid hk
  have HZ := hid hz
  clear hk hz
  go_enter Try.func111, Try.ntmps111
  go_wp2_with fail
  refine (fdoes_run x m g f rest T s _ hb hM hnw hc hbd).mono ?_
  rintro e w1 ⟨rfl, hM1, hK1⟩
  rw [HZ.out]
  have hb1 := hb.kept hK1 (by simp; omega)
  obtain ⟨c0, c1, c2, c3, c4, c5, c6, c7, c8⟩ := hb1.cells
  rw [HK.out] at c1
  have hf := Blk.frozen hb1
  have hb2 : FlAt (w1.setCell ⟨x, 6, none⟩ (.bool true)) x { f with asleep := true } rest T := Blk.set hb1 6 (.bool true)
  have hM2 : MemAt (w1.setCell ⟨x, 6, none⟩ (.bool true)) m g (s.acc f.kind f.who f.at_ f.old f.nw).1 := hM1.kept (S := [x]) ((Kept.refl [x] w1).set (.inl (by simp)) _) (by simp; omega) (by simp; omega)
  clear hb hb1 hM hM1
  go_wp2
  go_returns
  exact ⟨rfl, hb2, hM2, (hK1.mono (by intro i hi; exact .inl (List.mem_cons_of_mem _ hi))).set (.inl (by simp)) _⟩
end Go.Proofs.Ytnmkfmaohflejaa.Flow
end

section
/- A step of a flow, over whatever follows its access. -/
set_option maxRecDepth 100000
set_option maxHeartbeats 4000000
set_option linter.unusedVariables false
set_option linter.unusedSimpArgs false
namespace Go.Proofs.Ytnmkfmaohflejaa.Flow
open Go.RowKit Go.Shelf Go.Proofs.Ytnmkfmaohflejaa.TK Go.Proofs.Ytnmkfmaohflejaa.Flag Go.Proofs.Ytnmkfmaohflejaa.Words Go.Proofs.Ytnmkfmaohflejaa.Mem

/-- What follows an access: the function value th, called with the answer a in the world w. -/
def After (th : Value) (a : Int) (w : World) (R : World → Prop) : Prop :=
  ∃ (F : Nat) (first lb : Array Value), th = .func (.func F) first lb ∧ (∀ vs w, (callFunc F vs).run Try.prog w = .ok (.enter F vs) w) ∧ Calls Try.prog F (first.push (.int .u64 a) ++ lb) w fun e w' => (∃ r, e = .returned r) ∧ R w'

theorem fone_goes (x m g : Nat) (f : Fl) (rest : List Value) (T : TypeId) (s : St) (w : World) (R : World → Prop) (hb : FlAt w x f rest T) (hM : MemAt w m g s) (hxm : x ≠ m) (hxg : x ≠ g) (hnw : 0 ≤ f.nw ∧ f.nw < 18446744073709551616) (hc : s.clock < 1000000) (hbd : s.bad < 1000000)
    (hz : f.kind ≠ 5 ∨ (s.acc f.kind f.who f.at_ f.old f.nw).2 ≠ 0)
    (F : Nat) (first lb : Array Value) (hth : f.th = .func (.func F) first lb) (eg : ∀ vs w, (callFunc F vs).run Try.prog w = .ok (.enter F vs) w)
    (hthen : ∀ w1, FlAt w1 x f.cleared rest T → MemAt w1 m g (s.acc f.kind f.who f.at_ f.old f.nw).1 → Kept [x, m, g] w w1 → Calls Try.prog F (first.push (.int .u64 (s.acc f.kind f.who f.at_ f.old f.nw).2) ++ lb) w1 fun e w' => (∃ r, e = .returned r) ∧ R w') :
    Calls Try.prog 111 #[.pointer (some ⟨x, 0, none⟩), .pointer (some ⟨m, 0, none⟩)] w fun e w' => e = .returned (.tuple #[]) ∧ R w' := by
  have HT := hid hthen
  have HTH := hid hth
  clear hthen hth
  by_cases hk : f.kind = 5
  · have hd : ((s.acc f.kind f.who f.at_ f.old f.nw).2 == 0) = false := by
      rcases hz with h | h
      · exact absurd hk h
      · simpa using h
    have HK := hid hk
    obtain ⟨ac, hac⟩ : ∃ ac, ac = s.acc f.kind f.who f.at_ f.old f.nw := ⟨_, rfl⟩
    rw [← hac] at hd HT
    have HAC := hid hac
    clear hk hac hz
    go_enter Try.func111, Try.ntmps111
    go_wp2_with fail
    refine (fdoes_run x m g f rest T s _ hb hM hnw hc hbd).mono ?_
    rintro e w1 ⟨rfl, hM1, hK1⟩
    rw [← HAC.out] at hM1 ⊢
    have hb1 := hb.kept hK1 (by simp; omega)
    obtain ⟨c0, c1, c2, c3, c4, c5, c6, c7, c8⟩ := hb1.cells
    rw [HK.out] at c1
    rw [HTH.out] at c5
    have hf := Blk.frozen hb1
    have hb2 : FlAt (((w1.setCell ⟨x, 1, none⟩ (.int .i64 0)).setCell ⟨x, 5, none⟩ .nilFunc).setCell ⟨x, 6, none⟩ (.bool false)) x f.cleared rest T := ((Blk.set hb1 1 (.int .i64 0)).set 5 .nilFunc).set 6 (.bool false)
    have hM2 : MemAt (((w1.setCell ⟨x, 1, none⟩ (.int .i64 0)).setCell ⟨x, 5, none⟩ .nilFunc).setCell ⟨x, 6, none⟩ (.bool false)) m g ac.1 := hM1.kept (S := [x]) ((((Kept.refl [x] w1).set (.inl (by simp)) _).set (.inl (by simp)) _).set (.inl (by simp)) _) (by simp; omega) (by simp; omega)
    have hK2 : Kept [x, m, g] w (((w1.setCell ⟨x, 1, none⟩ (.int .i64 0)).setCell ⟨x, 5, none⟩ .nilFunc).setCell ⟨x, 6, none⟩ (.bool false)) := (((hK1.mono (by intro i hi; exact .inl (List.mem_cons_of_mem _ hi))).set (.inl (by simp)) _).set (.inl (by simp)) _).set (.inl (by simp)) _
    clear hb hb1 hM hM1
    go_wp2_with fail
    refine (HT.out _ hb2 hM2 hK2).mono ?_
    rintro e w2 ⟨⟨r, rfl⟩, hR⟩
    go_wp2
    go_returns
    exact ⟨rfl, hR⟩
  · have hd : ((f.kind : Int) == 5) = false := by simpa using hk
    obtain ⟨ac, hac⟩ : ∃ ac, ac = s.acc f.kind f.who f.at_ f.old f.nw := ⟨_, rfl⟩
    rw [← hac] at HT
    have HAC := hid hac
    clear hk hac hz
    go_enter Try.func111, Try.ntmps111
    go_wp2_with fail
    refine (fdoes_run x m g f rest T s _ hb hM hnw hc hbd).mono ?_
    rintro e w1 ⟨rfl, hM1, hK1⟩
    rw [← HAC.out] at hM1 ⊢
    have hb1 := hb.kept hK1 (by simp; omega)
    obtain ⟨c0, c1, c2, c3, c4, c5, c6, c7, c8⟩ := hb1.cells
    rw [HTH.out] at c5
    have hf := Blk.frozen hb1
    have hb2 : FlAt (((w1.setCell ⟨x, 1, none⟩ (.int .i64 0)).setCell ⟨x, 5, none⟩ .nilFunc).setCell ⟨x, 6, none⟩ (.bool false)) x f.cleared rest T := ((Blk.set hb1 1 (.int .i64 0)).set 5 .nilFunc).set 6 (.bool false)
    have hM2 : MemAt (((w1.setCell ⟨x, 1, none⟩ (.int .i64 0)).setCell ⟨x, 5, none⟩ .nilFunc).setCell ⟨x, 6, none⟩ (.bool false)) m g ac.1 := hM1.kept (S := [x]) ((((Kept.refl [x] w1).set (.inl (by simp)) _).set (.inl (by simp)) _).set (.inl (by simp)) _) (by simp; omega) (by simp; omega)
    have hK2 : Kept [x, m, g] w (((w1.setCell ⟨x, 1, none⟩ (.int .i64 0)).setCell ⟨x, 5, none⟩ .nilFunc).setCell ⟨x, 6, none⟩ (.bool false)) := (((hK1.mono (by intro i hi; exact .inl (List.mem_cons_of_mem _ hi))).set (.inl (by simp)) _).set (.inl (by simp)) _).set (.inl (by simp)) _
    clear hb hb1 hM hM1
    go_wp2_with fail
    refine (HT.out _ hb2 hM2 hK2).mono ?_
    rintro e w2 ⟨⟨r, rfl⟩, hR⟩
    go_wp2
    go_returns
    exact ⟨rfl, hR⟩

/-- Nothing is to come of it. -/
def Fl.over (f : Fl) : Bool := decide (f.kind = 0) && (match f.sub with | .nilIface => true | _ => false)
/-- A machine's flow behind a step: no machine is run, or one is. -/
def Fl.fine (f : Fl) : Prop := f.sub = .nilIface ∨ ∃ t v, f.sub = .iface t v
theorem fdone_any (x : Nat) (f : Fl) (rest : List Value) (T : TypeId) (w : World) (hb : FlAt w x f rest T) (hs : f.fine) :
    Calls Try.prog 67 #[.pointer (some ⟨x, 0, none⟩)] w fun e w' => e = .returned (.bool f.over) ∧ w = w' := by
  rcases hs with h | ⟨t, v, h⟩
  · have := fdone_run x f rest T w hb h
    have e : f.over = decide (f.kind = 0) := by unfold Fl.over; rw [h]; simp
    rw [e]; exact this
  · obtain ⟨c0, c1, c2, c3, c4, c5, c6, c7, c8⟩ := hb.cells
    have HO := hid (show f.over = false by unfold Fl.over; rw [h]; simp)
    rw [h] at c7
    clear hb h
    have hq : ∀ w : World, (binOp .eql 95 (.iface t v) .nilIface).run Try.prog w = .ok (.bool false) w := fun w => run_eql_held_nil w _ _ _ (by kernel_rfl)
    by_cases hk : f.kind = 0
    · have hd : ((f.kind : Int) == 0) = true := by simp [hk]
      clear hk
      go_enter Try.func67, Try.ntmps67
      go_wp2
      go_ret
      exact ⟨by rw [HO.out]; rfl, rfl⟩
    · have hd : ((f.kind : Int) == 0) = false := by simp [hk]
      clear hk
      go_enter Try.func67, Try.ntmps67
      go_wp2
      go_ret
      exact ⟨by rw [HO.out]; rfl, rfl⟩

theorem fstep_nil (x : Nat) (f : Fl) (rest : List Value) (T : TypeId) (w : World) (hb : FlAt w x f rest T) (hs : f.fine) :
    Calls Try.prog 72 #[.pointer (some ⟨x, 0, none⟩), .pointer none] w fun e w' => e = .returned (.bool f.over) ∧ w = w' := by
  obtain ⟨o, ho⟩ : ∃ o, o = f.over := ⟨_, rfl⟩
  have HD := hid (fdone_any x f rest T w hb hs)
  rw [← ho] at HD ⊢
  clear ho hb hs
  cases o with
  | true =>
    go_enter Try.func72, Try.ntmps72
    go_wp2_with fail
    refine HD.out.mono ?_
    rintro e w1 ⟨rfl, rfl⟩
    go_wp2_with fail
    refine HD.out.mono ?_
    rintro e w1 ⟨rfl, rfl⟩
    go_wp2
    go_ret
    exact ⟨rfl, rfl⟩
  | false =>
    go_enter Try.func72, Try.ntmps72
    go_wp2_with fail
    refine HD.out.mono ?_
    rintro e w1 ⟨rfl, rfl⟩
    go_wp2_with fail
    refine HD.out.mono ?_
    rintro e w1 ⟨rfl, rfl⟩
    go_wp2
    go_ret
    exact ⟨rfl, rfl⟩
/-- A step of one that is done, or asleep. -/
theorem fstep_done (x : Nat) (f : Fl) (rest : List Value) (T : TypeId) (m : Option Addr) (w : World) (hb : FlAt w x f rest T) (hs : f.sub = .nilIface) (hk : f.kind = 0) :
    Calls Try.prog 72 #[.pointer (some ⟨x, 0, none⟩), .pointer m] w fun e w' => e = .returned (.bool true) ∧ w = w' := by
  have HD := fdone_any x f rest T w hb (.inl hs)
  rw [show f.over = true by unfold Fl.over; rw [hs, hk]; rfl] at HD
  have HD := hid HD
  clear hb hs hk
  go_enter Try.func72, Try.ntmps72
  go_wp2_with fail
  refine HD.out.mono ?_
  rintro e w1 ⟨rfl, rfl⟩
  go_wp2_with fail
  refine HD.out.mono ?_
  rintro e w1 ⟨rfl, rfl⟩
  go_wp2
  go_ret
  exact ⟨rfl, rfl⟩
theorem fstep_asleep (x m g : Nat) (f : Fl) (rest : List Value) (T : TypeId) (s : St) (w : World) (hb : FlAt w x f rest T) (hs : f.sub = .nilIface) (hM : MemAt w m g s) (hz : f.sleeps s = true) :
    Calls Try.prog 72 #[.pointer (some ⟨x, 0, none⟩), .pointer (some ⟨m, 0, none⟩)] w fun e w' => e = .returned (.bool false) ∧ w = w' := by
  have hk : f.kind = 5 := by unfold Fl.sleeps at hz; simp at hz; exact hz.1.1
  have HD := fdone_any x f rest T w hb (.inl hs)
  rw [show f.over = false by unfold Fl.over; rw [hk]; rfl] at HD
  have HD := hid HD
  have HA := fasleep_run x m g f rest T s w hb hs hM
  rw [hz] at HA
  have HA := hid HA
  clear hb hs hk hM hz
  go_enter Try.func72, Try.ntmps72
  go_wp2_with fail
  refine HD.out.mono ?_
  rintro e w1 ⟨rfl, rfl⟩
  go_wp2_with fail
  refine HA.out.mono ?_
  rintro e w1 ⟨rfl, rfl⟩
  go_wp2_with fail
  refine HD.out.mono ?_
  rintro e w1 ⟨rfl, rfl⟩
  go_wp2
  go_ret
  exact ⟨rfl, rfl⟩
/-- A step that is an access that sleeps on. -/
theorem fstep_sleeps (x m g : Nat) (f : Fl) (rest : List Value) (T : TypeId) (s : St) (w : World) (hb : FlAt w x f rest T) (hs : f.sub = .nilIface) (hM : MemAt w m g s) (hxm : x ≠ m) (hxg : x ≠ g) (hnw : 0 ≤ f.nw ∧ f.nw < 18446744073709551616) (hc : s.clock < 1000000) (hbd : s.bad < 1000000)
    (hk : f.kind = 5) (hn : f.sleeps s = false) (hz : (s.acc f.kind f.who f.at_ f.old f.nw).2 = 0) :
    Calls Try.prog 72 #[.pointer (some ⟨x, 0, none⟩), .pointer (some ⟨m, 0, none⟩)] w fun e w' => e = .returned (.bool false) ∧ FlAt w' x { f with asleep := true } rest T ∧ MemAt w' m g (s.acc f.kind f.who f.at_ f.old f.nw).1 ∧ Kept [x, m, g] w w' := by
  have HD := fdone_any x f rest T w hb (.inl hs)
  rw [show f.over = false by unfold Fl.over; rw [hk]; rfl] at HD
  have HD := hid HD
  have HA := fasleep_run x m g f rest T s w hb hs hM
  rw [hn] at HA
  have HA := hid HA
  have HONE := hid (fone_sleeps x m g f rest T s w hb hM hxm hxg hnw hc hbd hk hz)
  obtain ⟨c0, c1, c2, c3, c4, c5, c6, c7, c8⟩ := hb.cells
  rw [hs] at c7
  have HK := hid hk
  have HS := hid hs
  clear hb hs hk hM hn hz c1
  go_enter Try.func72, Try.ntmps72
  go_wp2_with fail
  refine HD.out.mono ?_
  rintro e w1 ⟨rfl, rfl⟩
  go_wp2_with fail
  refine HA.out.mono ?_
  rintro e w1 ⟨rfl, rfl⟩
  go_wp2_with fail
  refine HONE.out.mono ?_
  rintro e w1 ⟨rfl, hb1, hM1, hK1⟩
  go_wp2_with fail
  refine (fdone_any x _ rest T w1 hb1 (.inl HS.out)).mono ?_
  rintro e w2 ⟨rfl, rfl⟩
  rw [show Fl.over { f with asleep := true } = false by unfold Fl.over; simp only; rw [HK.out]; rfl]
  go_wp2
  go_ret
  exact ⟨rfl, hb1, hM1, hK1⟩
/-- A step that is an access, behind which the machine goes on. -/
theorem fstep_goes (x m g : Nat) (f : Fl) (rest : List Value) (T : TypeId) (s : St) (w : World) (R : World → Prop) (hb : FlAt w x f rest T) (hs : f.sub = .nilIface) (hM : MemAt w m g s) (hxm : x ≠ m) (hxg : x ≠ g) (hnw : 0 ≤ f.nw ∧ f.nw < 18446744073709551616) (hc : s.clock < 1000000) (hbd : s.bad < 1000000)
    (hk : f.kind ≠ 0) (hn : f.sleeps s = false) (hz : f.kind ≠ 5 ∨ (s.acc f.kind f.who f.at_ f.old f.nw).2 ≠ 0)
    (F : Nat) (first lb : Array Value) (hth : f.th = .func (.func F) first lb) (eg : ∀ vs w, (callFunc F vs).run Try.prog w = .ok (.enter F vs) w)
    (hthen : ∀ w1, FlAt w1 x f.cleared rest T → MemAt w1 m g (s.acc f.kind f.who f.at_ f.old f.nw).1 → Kept [x, m, g] w w1 → Calls Try.prog F (first.push (.int .u64 (s.acc f.kind f.who f.at_ f.old f.nw).2) ++ lb) w1 fun e w' => (∃ r, e = .returned r) ∧ R w')
    (hR : ∀ w', R w' → ∃ f' rest', FlAt w' x f' rest' T ∧ f'.fine) :
    Calls Try.prog 72 #[.pointer (some ⟨x, 0, none⟩), .pointer (some ⟨m, 0, none⟩)] w fun e w' => R w' ∧ ∃ f' rest', FlAt w' x f' rest' T ∧ e = .returned (.bool f'.over) := by
  have HD := fdone_any x f rest T w hb (.inl hs)
  rw [show f.over = false by unfold Fl.over; rw [decide_eq_false hk]; rfl] at HD
  have HD := hid HD
  have HA := fasleep_run x m g f rest T s w hb hs hM
  rw [hn] at HA
  have HA := hid HA
  have HONE := hid (fone_goes x m g f rest T s w R hb hM hxm hxg hnw hc hbd hz F first lb hth eg hthen)
  obtain ⟨c0, c1, c2, c3, c4, c5, c6, c7, c8⟩ := hb.cells
  rw [hs] at c7
  have HR := hid hR
  clear hb hs hk hM hn hz c1 hthen hth eg hR
  go_enter Try.func72, Try.ntmps72
  go_wp2_with fail
  refine HD.out.mono ?_
  rintro e w1 ⟨rfl, rfl⟩
  go_wp2_with fail
  refine HA.out.mono ?_
  rintro e w1 ⟨rfl, rfl⟩
  go_wp2_with fail
  refine HONE.out.mono ?_
  rintro e w1 ⟨rfl, hR1⟩
  go_wp2_with fail
  obtain ⟨f', rest', hb', hfine⟩ := HR.out w1 hR1
  refine (fdone_any x f' rest' T w1 hb' hfine).mono ?_
  rintro e w2 ⟨rfl, rfl⟩
  have HB := hid hb'
  clear hb'
  go_wp2
  go_ret
  exact ⟨hR1, f', rest', HB.out, rfl⟩
/-- What follows a store, and a swap. -/
theorem fstore1_run (a : Int) (b F : Nat) (first lb : Array Value) (w : World) (R : World → Prop) (hb : Blk w b [.func (.func F) first lb] 1) (eg : ∀ vs w, (callFunc F vs).run Try.prog w = .ok (.enter F vs) w)
    (h : Calls Try.prog F (first ++ lb) w fun e w' => (∃ r, e = .returned r) ∧ R w') :
    Calls Try.prog 112 #[.int .u64 a, .pointer (some ⟨b, 0, none⟩)] w fun e w' => (∃ r, e = .returned r) ∧ R w' := by
  have c := hb.cell 0
  simp only [List.getElem?_cons_zero] at c
  have H := hid h
  clear hb h
  go_enter Try.func112, Try.ntmps112
  go_wp2_with fail
  refine H.out.mono ?_
  rintro e w1 ⟨⟨r, rfl⟩, hR⟩
  go_wp2
  go_returns
  exact ⟨⟨_, rfl⟩, hR⟩
theorem fswap1_run (a : Int) (b F : Nat) (first lb : Array Value) (w : World) (R : World → Prop) (hb : Blk w b [.func (.func F) first lb] 166) (eg : ∀ vs w, (callFunc F vs).run Try.prog w = .ok (.enter F vs) w)
    (h : Calls Try.prog F (first.push (.bool (a == 1)) ++ lb) w fun e w' => (∃ r, e = .returned r) ∧ R w') :
    Calls Try.prog 170 #[.int .u64 a, .pointer (some ⟨b, 0, none⟩)] w fun e w' => (∃ r, e = .returned r) ∧ R w' := by
  have c := hb.cell 0
  simp only [List.getElem?_cons_zero] at c
  have H := hid h
  clear hb h
  go_enter Try.func170, Try.ntmps170
  go_wp2_with fail
  refine H.out.mono ?_
  rintro e w1 ⟨⟨r, rfl⟩, hR⟩
  go_wp2
  go_returns
  exact ⟨⟨_, rfl⟩, hR⟩
end Go.Proofs.Ytnmkfmaohflejaa.Flow
end

section
/- Locks: acquiring one, state by state. -/
set_option maxRecDepth 100000
set_option maxHeartbeats 4000000
set_option linter.unusedVariables false
set_option linter.unusedSimpArgs false
namespace Go.Proofs.Ytnmkfmaohflejaa.Lock
open Go.RowKit Go.Shelf Go.Proofs.Ytnmkfmaohflejaa.TK Go.Proofs.Ytnmkfmaohflejaa.Flag Go.Proofs.Ytnmkfmaohflejaa.Words Go.Proofs.Ytnmkfmaohflejaa.Mem Go.Proofs.Ytnmkfmaohflejaa.Flow Go.Proofs.Ytnmkfmaohflejaa.Layout

def tk (k : Int) : Int := placeN true 0 k 2 3 0 3
def sv (k : Int) : Int := placeN true 0 k 2 3 1 3
def ow (k : Int) : Int := placeN true 0 k 2 3 2 3
def acqR (l : Nat) (k turn : Int) (known : Bool) : List Value := [.pointer (some ⟨l, 0, none⟩), .int .i64 k, .int .u64 turn, .bool known]
def meth (f x : Nat) : Value := .func (.func f) #[.pointer (some ⟨x, 0, none⟩)] #[]

theorem acq_new (l : Nat) (k who : Int) (w : World) :
    Calls Try.prog 12 #[.pointer (some ⟨l, 0, none⟩), .int .i64 k, .int .i64 who] w fun e w' => e = .returned (.pointer (some ⟨w.heap.size, 0, none⟩)) ∧ FlAt w' w.heap.size ⟨who, 4, tk k, 0, 1, meth 71 w.heap.size, false, .nilIface, .nilFunc⟩ (acqR l k 0 false) 101 ∧ Below w.heap.size w w' := by
  have h0 : FlAt (w.alloc (.cells (fl fl0 ++ acqR l k 0 false).toArray 101)) w.heap.size fl0 (acqR l k 0 false) 101 := Blk.new w _ _
  go_enter Try.func12, Try.ntmps12
  go_wp2_with fail
  refine (fof_run w.heap.size fl0 (acqR l k 0 false) 101 who _ h0).mono ?_
  rintro e w1 ⟨rfl, h1, hK⟩
  have hlow : Below w.heap.size w w1 := (below_one _ _).trans (hK.below (by simp) (by simp))
  clear h0 hK
  go_wp2_with fail
  refine wp_region_T 8 (fun w' => FlAt w' w.heap.size { fl0 with who := who } (acqR l k 0 false) 101 ∧ Below w.heap.size w w') (fun w' => FlAt w' w.heap.size ⟨who, 4, tk k, 0, 1, meth 71 w.heap.size, false, .nilIface, .nilFunc⟩ (acqR l k 0 false) 101 ∧ Below w.heap.size w w') (by kernel_rfl) (by kernel_rfl) rfl (by kernel_rfl) ⟨h1, hlow.drew⟩ ?_
  clear h1 hlow
  repeat (first | (apply walkD_pure; rfl; rfl; (intro _; go_simp; first | done | rfl); (intro K hK; go_simp; refine hK _ ?_; clear hK K)) | (apply walkD_skip; rfl; rfl; (intro K hK; go_simp; refine hK _ ?_; clear hK K)) | (apply walkD_call1 [false] (by kernel_rfl); rfl; (intro _; go_simp; first | rfl | exact ⟨rfl, rfl⟩); (intro w' hD; first | (go_at_call 70; refine (ticket_run l k _).mono ?_; rintro e w2 ⟨rfl, rfl⟩; exact ⟨rfl, hD⟩) | (go_at_call 69; refine (fadd_run w.heap.size _ _ _ _ _ _ _ _ _ hD.1).mono ?_; rintro e w2 ⟨rfl, hF, hK⟩; exact ⟨rfl, hF, hD.2.trans (hK.below (by simp) hD.2.size)⟩)); (intro K hK; go_simp; refine hK _ ?_; clear hK K)))
  rintro w2 ⟨hF, hlow⟩
  go_wp2
  go_ret
  exact ⟨rfl, hF, hlow⟩

/-- The turn that a ticket's answer tells. -/
def turnOf (a : Int) : Int := (a + 4294967295) % 4294967296
theorem turn_wrap (a : Int) (h : 0 ≤ a ∧ a < 18446744073709551616) : IntKind.u64.wrap (IntKind.u64.wrap (a + 4294967296) - 1) = (a + 4294967295) % 18446744073709551616 ∧ ((a + 4294967295) % 18446744073709551616).tmod 4294967296 = turnOf a ∧ (0 ≤ turnOf a ∧ turnOf a < 4294967296) ∧ IntKind.u64.wrap (turnOf a) = turnOf a := by
  have e1 : 0 ≤ turnOf a ∧ turnOf a < 4294967296 := by unfold turnOf; omega
  refine ⟨?_, ?_, e1, ?_⟩
  · rw [IntKind.wrap_u64, IntKind.wrap_u64]; omega
  · rw [Int.tmod_eq_emod_of_nonneg (by omega)]; unfold turnOf; omega
  · rw [IntKind.wrap_u64]; omega

theorem asked_run (x l : Nat) (k turn a : Int) (kn : Bool) (f : Fl) (w : World) (hb : FlAt w x f (acqR l k turn kn) 101) (ha : 0 ≤ a ∧ a < 18446744073709551616) :
    Calls Try.prog 71 #[.pointer (some ⟨x, 0, none⟩), .int .u64 a] w fun e w' => e = .returned (.tuple #[]) ∧ FlAt w' x { f with kind := 1, at_ := sv k, old := 0, nw := 0, th := meth 109 x } (acqR l k (turnOf a) true) 101 ∧ Kept [x] w w' := by
  have hf := Blk.frozen hb
  have b1 : FlAt ((w.setCell ⟨x, 11, none⟩ (.int .u64 (turnOf a))).setCell ⟨x, 12, none⟩ (.bool true)) x f (acqR l k (turnOf a) true) 101 := (Blk.set hb 11 (.int .u64 (turnOf a))).set 12 (.bool true)
  have hK : Kept [x] w ((w.setCell ⟨x, 11, none⟩ (.int .u64 (turnOf a))).setCell ⟨x, 12, none⟩ (.bool true)) := ((Kept.refl [x] w).set (.inl (by simp)) _).set (.inl (by simp)) _
  obtain ⟨e1, e2, e3, e4⟩ := turn_wrap a ha
  have z1 := Blk.cell hb 11
  have z2 := Blk.cell hb 12
  simp only [fl, acqR, List.cons_append, List.nil_append, List.getElem?_cons_zero, List.getElem?_cons_succ] at z1 z2
  obtain ⟨t, ht⟩ : ∃ t, t = turnOf a := ⟨_, rfl⟩
  rw [← ht] at b1 hK e2 e4 ⊢
  have HT := hid ht
  clear hb ht e3 ha
  go_enter Try.func71, Try.ntmps71
  go_wp2_with fail
  refine wp_region_T 14 (fun w' => FlAt w' x f (acqR l k t true) 101 ∧ Kept [x] w w') (fun w' => FlAt w' x { f with kind := 1, at_ := sv k, old := 0, nw := 0, th := meth 109 x } (acqR l k t true) 101 ∧ Kept [x] w w') (by kernel_rfl) (by kernel_rfl) rfl (by kernel_rfl) ⟨b1, hK.drew⟩ ?_
  clear b1 hK z1 z2 e1 e2 e4 hf
  repeat (first | (apply walkD_pure; rfl; rfl; (intro _; go_simp; first | done | rfl); (intro K hK; go_simp; refine hK _ ?_; clear hK K)) | (apply walkD_skip; rfl; rfl; (intro K hK; go_simp; refine hK _ ?_; clear hK K)) | (apply walkD_read1 [false] (by kernel_rfl); rfl; rfl; (intro w' hD; have y0 := Blk.cell hD.1 9; have y1 := Blk.cell hD.1 10; have y2 := Blk.cell hD.1 11; simp only [fl, acqR, List.cons_append, List.nil_append, List.getElem?_cons_zero, List.getElem?_cons_succ] at y0 y1 y2; go_simp; rfl); (intro K hK; go_simp; refine hK _ ?_; clear hK K)) | (apply walkD_call1 [false] (by kernel_rfl); rfl; (intro _; go_simp; first | rfl | exact ⟨rfl, rfl⟩); (intro w' hD; first | (go_at_call 108; refine (serving_run l k _).mono ?_; rintro e w2 ⟨rfl, rfl⟩; exact ⟨rfl, hD⟩) | (go_at_call 76; refine (fload_run x _ _ _ _ _ _ _ _ hD.1).mono ?_; rintro e w2 ⟨rfl, hF, hK⟩; exact ⟨rfl, hF, hD.2.trans hK (by intro i hi; exact .inl hi)⟩)); (intro K hK; go_simp; refine hK _ ?_; clear hK K)))
  rintro w2 ⟨hF, hK⟩
  go_wp2
  go_returns
  exact ⟨rfl, hF, hK⟩

theorem waits_again (x l : Nat) (k turn a : Int) (f : Fl) (w : World) (hb : FlAt w x f (acqR l k turn true) 101) (hne : a ≠ turn) :
    Calls Try.prog 109 #[.pointer (some ⟨x, 0, none⟩), .int .u64 a] w fun e w' => e = .returned (.tuple #[]) ∧ FlAt w' x { f with kind := 1, at_ := sv k, old := 0, nw := 0, th := meth 109 x } (acqR l k turn true) 101 ∧ Kept [x] w w' := by
  have hd : ((a : Int) == turn) = false := by simpa using hne
  have z1 := Blk.cell hb 11
  simp only [fl, acqR, List.cons_append, List.nil_append, List.getElem?_cons_zero, List.getElem?_cons_succ] at z1
  have HB := hid hb
  clear hb hne
  go_enter Try.func109, Try.ntmps109
  go_wp2_with fail
  refine wp_region_T 14 (fun w' => FlAt w' x f (acqR l k turn true) 101 ∧ Kept [x] w w') (fun w' => FlAt w' x { f with kind := 1, at_ := sv k, old := 0, nw := 0, th := meth 109 x } (acqR l k turn true) 101 ∧ Kept [x] w w') (by kernel_rfl) (by kernel_rfl) rfl (by kernel_rfl) ⟨HB.out, (Kept.refl [x] w).drew⟩ ?_
  clear HB z1 hd
  repeat (first | (apply walkD_pure; rfl; rfl; (intro _; go_simp; first | done | rfl); (intro K hK; go_simp; refine hK _ ?_; clear hK K)) | (apply walkD_skip; rfl; rfl; (intro K hK; go_simp; refine hK _ ?_; clear hK K)) | (apply walkD_read1 [false] (by kernel_rfl); rfl; rfl; (intro w' hD; have y0 := Blk.cell hD.1 9; have y1 := Blk.cell hD.1 10; have y2 := Blk.cell hD.1 11; simp only [fl, acqR, List.cons_append, List.nil_append, List.getElem?_cons_zero, List.getElem?_cons_succ] at y0 y1 y2; go_simp; rfl); (intro K hK; go_simp; refine hK _ ?_; clear hK K)) | (apply walkD_call1 [false] (by kernel_rfl); rfl; (intro _; go_simp; first | rfl | exact ⟨rfl, rfl⟩); (intro w' hD; first | (go_at_call 108; refine (serving_run l k _).mono ?_; rintro e w2 ⟨rfl, rfl⟩; exact ⟨rfl, hD⟩) | (go_at_call 76; refine (fload_run x _ _ _ _ _ _ _ _ hD.1).mono ?_; rintro e w2 ⟨rfl, hF, hK⟩; exact ⟨rfl, hF, hD.2.trans hK (by intro i hi; exact .inl hi)⟩)); (intro K hK; go_simp; refine hK _ ?_; clear hK K)))
  rintro w2 ⟨hF, hK⟩
  go_wp2
  go_returns
  exact ⟨rfl, hF, hK⟩
theorem waits_has (x l : Nat) (k turn : Int) (f : Fl) (w : World) (hb : FlAt w x f (acqR l k turn true) 101) (hw : 0 ≤ f.who ∧ f.who ≤ 1000) :
    Calls Try.prog 109 #[.pointer (some ⟨x, 0, none⟩), .int .u64 turn] w fun e w' => e = .returned (.tuple #[]) ∧ ∃ b, FlAt w' x { f with kind := 2, at_ := ow k, old := 0, nw := f.who + 1, th := .func (.func 112) #[] #[.pointer (some ⟨b, 0, none⟩)] } (acqR l k turn true) 101 ∧ Blk w' b [meth 136 x] 1 ∧ w.heap.size ≤ b ∧ Kept [x] w w' := by
  have hd : ((turn : Int) == turn) = true := by simp
  have z1 := Blk.cell hb 11
  simp only [fl, acqR, List.cons_append, List.nil_append, List.getElem?_cons_zero, List.getElem?_cons_succ] at z1
  have n1 : IntKind.u64.wrap f.who = f.who := by rw [IntKind.wrap_u64]; omega
  have n2 : IntKind.u64.wrap (f.who + 1) = f.who + 1 := by rw [IntKind.wrap_u64]; omega
  obtain ⟨who, hwho⟩ : ∃ who, who = f.who := ⟨_, rfl⟩
  rw [← hwho] at n1 n2
  have HW := hid hwho
  have HB := hid hb
  clear hb hw hwho
  go_enter Try.func109, Try.ntmps109
  go_wp2_with fail
  refine wp_region_T 20 (fun w' => FlAt w' x f (acqR l k turn true) 101 ∧ Kept [x] w w') (fun w' => ∃ b, FlAt w' x { f with kind := 2, at_ := ow k, old := 0, nw := f.who + 1, th := .func (.func 112) #[] #[.pointer (some ⟨b, 0, none⟩)] } (acqR l k turn true) 101 ∧ Blk w' b [meth 136 x] 1 ∧ w.heap.size ≤ b ∧ Kept [x] w w') (by kernel_rfl) (by kernel_rfl) rfl (by kernel_rfl) ⟨HB.out, (Kept.refl [x] w).drew⟩ ?_
  clear HB z1 hd
  repeat (first | (apply walkD_pure; rfl; rfl; (intro _; go_simp; first | done | rfl); (intro K hK; go_simp; refine hK _ ?_; clear hK K)) | (apply walkD_skip; rfl; rfl; (intro K hK; go_simp; refine hK _ ?_; clear hK K)) | (apply walkD_read1 [false] (by kernel_rfl); rfl; rfl; (intro w' hD; have y0 := Blk.cell hD.1 9; have y1 := Blk.cell hD.1 10; have y2 := Blk.cell hD.1 11; simp only [fl, acqR, List.cons_append, List.nil_append, List.getElem?_cons_zero, List.getElem?_cons_succ] at y0 y1 y2; go_simp; rfl); (intro K hK; go_simp; refine hK _ ?_; clear hK K)) | (apply walkD_call1 [false] (by kernel_rfl); rfl; (intro _; go_simp; first | rfl | exact ⟨rfl, rfl⟩); (intro w' hD; first | (go_at_call 74; refine (owner_run l k _).mono ?_; rintro e w2 ⟨rfl, rfl⟩; exact ⟨rfl, hD⟩) | (go_at_call 135; refine (fwho_run x _ _ _ _ hD.1).mono ?_; rintro e w2 ⟨rfl, rfl⟩; rw [← HW.out]; exact ⟨rfl, hD⟩) | (go_at_call 73; refine (fstore_run x _ _ _ _ _ _ _ _ _ hD.1).mono ?_; rintro e w2 ⟨rfl, b, hF, hX, hle, hK⟩; rw [HW.out] at hF; exact ⟨rfl, b, hF, hX, Nat.le_trans hD.2.size hle, hD.2.trans hK (by intro i hi; exact .inl hi)⟩)); (intro K hK; go_simp; refine hK _ ?_; clear hK K)))
  rintro w2 ⟨b, hF, hX, hle, hK⟩
  go_wp2
  go_returns
  exact ⟨rfl, b, hF, hX, hle, hK⟩
theorem aends_run (x : Value) (w : World) : Calls Try.prog 136 #[x] w fun e w' => (∃ r, e = .returned r) ∧ w = w' := by
  go_enter Try.func136, Try.ntmps136
  go_wp2
  go_returns
  exact ⟨⟨_, rfl⟩, rfl⟩
end Go.Proofs.Ytnmkfmaohflejaa.Lock
end

section
/- Acquiring a lock: a step, from any state. -/
set_option maxRecDepth 100000
set_option maxHeartbeats 4000000
set_option linter.unusedVariables false
set_option linter.unusedSimpArgs false
namespace Go.Proofs.Ytnmkfmaohflejaa.Flow
open Go.RowKit Go.Shelf Go.Proofs.Ytnmkfmaohflejaa.TK Go.Proofs.Ytnmkfmaohflejaa.Flag Go.Proofs.Ytnmkfmaohflejaa.Words Go.Proofs.Ytnmkfmaohflejaa.Mem
theorem over_one {w : World} {x : Nat} {f f' : Fl} {rest rest' : List Value} {T T' : TypeId} (h : FlAt w x f rest T) (h' : FlAt w x f' rest' T') : f.over = f'.over := by
  have a := h.cells
  have b := h'.cells
  have h1 : f.kind = f'.kind := by
    have := a.2.1.symm.trans b.2.1
    simpa using this
  have h2 : f.sub = f'.sub := by
    have := a.2.2.2.2.2.2.2.1.symm.trans b.2.2.2.2.2.2.2.1
    simpa using this
  unfold Fl.over
  rw [h1, h2]
/-- A step that is an access, behind which the machine goes on; o: it is over then. -/
theorem fstep_then (o : Bool) (x m g : Nat) (f : Fl) (rest : List Value) (T : TypeId) (s : St) (w : World) (R : World → Prop) (hb : FlAt w x f rest T) (hs : f.sub = .nilIface) (hM : MemAt w m g s) (hxm : x ≠ m) (hxg : x ≠ g) (hnw : 0 ≤ f.nw ∧ f.nw < 18446744073709551616) (hc : s.clock < 1000000) (hbd : s.bad < 1000000)
    (hk : f.kind ≠ 0) (hn : f.sleeps s = false) (hz : f.kind ≠ 5 ∨ (s.acc f.kind f.who f.at_ f.old f.nw).2 ≠ 0)
    (F : Nat) (first lb : Array Value) (hth : f.th = .func (.func F) first lb) (eg : ∀ vs w, (callFunc F vs).run Try.prog w = .ok (.enter F vs) w)
    (hthen : ∀ w1, FlAt w1 x f.cleared rest T → MemAt w1 m g (s.acc f.kind f.who f.at_ f.old f.nw).1 → Kept [x, m, g] w w1 → Calls Try.prog F (first.push (.int .u64 (s.acc f.kind f.who f.at_ f.old f.nw).2) ++ lb) w1 fun e w' => (∃ r, e = .returned r) ∧ R w')
    (hR : ∀ w', R w' → ∃ f' rest', FlAt w' x f' rest' T ∧ f'.fine ∧ f'.over = o) :
    Calls Try.prog 72 #[.pointer (some ⟨x, 0, none⟩), .pointer (some ⟨m, 0, none⟩)] w fun e w' => e = .returned (.bool o) ∧ R w' := by
  refine (fstep_goes x m g f rest T s w R hb hs hM hxm hxg hnw hc hbd hk hn hz F first lb hth eg hthen (fun w' h => by obtain ⟨f', r', a, b, _⟩ := hR w' h; exact ⟨f', r', a, b⟩)).mono ?_
  rintro e w' ⟨hr, f', r', hb', rfl⟩
  obtain ⟨f2, r2, h2, _, ho⟩ := hR w' hr
  rw [over_one hb' h2, ho]
  exact ⟨rfl, hr⟩
theorem _root_.Go.Proofs.Ytnmkfmaohflejaa.Mem.MemAt.neT {w : World} {m g i : Nat} {s : St} {cs : List Value} {T : TypeId} (hM : MemAt w m g s) (h : Blk w i cs T) (hT : T ≠ 108) : i ≠ m := by
  obtain ⟨_, _, a, _, _⟩ := hM.ex
  exact Blk.ne h a hT
theorem _root_.Go.Proofs.Ytnmkfmaohflejaa.Mem.MemAt.neG {w : World} {m g i : Nat} {s : St} {cs : List Value} {T : TypeId} (hM : MemAt w m g s) (h : Blk w i cs T) (hT : T ≠ 31) : i ≠ g := by
  obtain ⟨_, _, _, b, _⟩ := hM.ex
  exact Blk.ne h b hT
theorem blk_not {w : World} {i : Nat} {cs : List Value} {T T' : TypeId} (h : Blk w i cs T) (hT : T ≠ T') : ∀ cs', ¬ Blk w i cs' T' := fun cs' h' => Blk.ne h h' hT rfl
end Go.Proofs.Ytnmkfmaohflejaa.Flow
namespace Go.Proofs.Ytnmkfmaohflejaa.Lock
open Go.RowKit Go.Shelf Go.Proofs.Ytnmkfmaohflejaa.TK Go.Proofs.Ytnmkfmaohflejaa.Flag Go.Proofs.Ytnmkfmaohflejaa.Words Go.Proofs.Ytnmkfmaohflejaa.Mem Go.Proofs.Ytnmkfmaohflejaa.Flow Go.Proofs.Ytnmkfmaohflejaa.Layout
inductive AcqSt
  | ask
  | wait (t : Int)
  | own (t : Int)
  | done (t : Int)
def AcqAt (w : World) (x l : Nat) (k who : Int) : AcqSt → Prop
  | .ask => FlAt w x ⟨who, 4, tk k, 0, 1, meth 71 x, false, .nilIface, .nilFunc⟩ (acqR l k 0 false) 101
  | .wait t => FlAt w x ⟨who, 1, sv k, 0, 0, meth 109 x, false, .nilIface, .nilFunc⟩ (acqR l k t true) 101
  | .own t => ∃ b, FlAt w x ⟨who, 2, ow k, 0, who + 1, .func (.func 112) #[] #[.pointer (some ⟨b, 0, none⟩)], false, .nilIface, .nilFunc⟩ (acqR l k t true) 101 ∧ Blk w b [meth 136 x] 1
  | .done t => ∃ a n, FlAt w x ⟨who, 0, a, 0, n, .nilFunc, false, .nilIface, .nilFunc⟩ (acqR l k t true) 101
def AcqSt.over : AcqSt → Bool
  | .done _ => true
  | _ => false
def AcqSt.turn : AcqSt → Int
  | .ask => 0
  | .wait t => t
  | .own t => t
  | .done t => t
def AcqSt.known : AcqSt → Bool
  | .ask => false
  | _ => true
theorem AcqAt.fl {w : World} {x l : Nat} {k who : Int} {st : AcqSt} (h : AcqAt w x l k who st) : ∃ f, FlAt w x f (acqR l k st.turn st.known) 101 ∧ f.sub = .nilIface ∧ f.over = st.over ∧ f.fine := by
  cases st with
  | ask => exact ⟨_, h, rfl, rfl, .inl rfl⟩
  | wait t => exact ⟨_, h, rfl, rfl, .inl rfl⟩
  | own t => obtain ⟨b, h, _⟩ := h; exact ⟨_, h, rfl, rfl, .inl rfl⟩
  | done t => obtain ⟨a, n, h⟩ := h; exact ⟨_, h, rfl, rfl, .inl rfl⟩
theorem AcqAt.kept {w w' : World} {x l : Nat} {k who : Int} {st : AcqSt} {S : List Nat} (h : AcqAt w x l k who st) (hk : Kept S w w') (hx : x ∉ S) (hS : ∀ i ∈ S, ∀ cs, ¬ Blk w i cs 1) : AcqAt w' x l k who st := by
  cases st with
  | ask => exact FlAt.kept h hk hx
  | wait t => exact FlAt.kept h hk hx
  | own t => obtain ⟨b, h, h2⟩ := h; exact ⟨b, h.kept hk hx, h2.kept hk (fun hb => hS b hb _ h2)⟩
  | done t => obtain ⟨a, n, h⟩ := h; exact ⟨a, n, h.kept hk hx⟩
theorem AcqAt.quiet {w w' : World} {x l : Nat} {k who : Int} {st : AcqSt} (h : AcqAt w x l k who st) (hb : Below w.heap.size w w') : AcqAt w' x l k who st := h.kept (Kept.of_below hb []) (by simp) (by simp)
def AcqSt.step (st : AcqSt) (k who : Int) (s : St) : AcqSt × St :=
  match st with
  | .ask => (.wait (turnOf (s.acc 4 who (tk k) 0 1).2), (s.acc 4 who (tk k) 0 1).1)
  | .wait t => (if (s.acc 1 who (sv k) 0 0).2 = t then .own t else .wait t, (s.acc 1 who (sv k) 0 0).1)
  | .own t => (.done t, (s.acc 2 who (ow k) 0 (who + 1)).1)
  | .done t => (.done t, s)
theorem acq_fstep (x l m g : Nat) (k who : Int) (st : AcqSt) (s : St) (w : World) (hA : AcqAt w x l k who st) (hM : MemAt w m g s) (hw : 0 ≤ who ∧ who ≤ 1000) (hc : s.clock < 1000000) (hbd : s.bad < 1000000) :
    Calls Try.prog 72 #[.pointer (some ⟨x, 0, none⟩), .pointer (some ⟨m, 0, none⟩)] w fun e w' => e = .returned (.bool (st.step k who s).1.over) ∧ AcqAt w' x l k who (st.step k who s).1 ∧ MemAt w' m g (st.step k who s).2 ∧ Kept [x, m, g] w w' := by
  obtain ⟨f0, hF0, hz0, hz1, hz2⟩ := hA.fl
  have hxm : x ≠ m := hM.neT hF0 (by decide)
  have hxg : x ≠ g := hM.neG hF0 (by decide)
  clear hF0 hz0 hz1 hz2 f0
  have hwf := hM.wf
  cases st with
  | ask =>
    have ha := (acc_wf hwf 4 who (tk k) 0 (w := 1) (by omega)).2
    refine fstep_then false x m g _ _ _ s w _ hA rfl hM hxm hxg ⟨by simp, by simp⟩ hc hbd (by simp) rfl (.inl (by simp)) _ _ _ rfl (enters_of Try.func71 (by kernel_rfl) rfl) ?_ ?_
    · intro w1 h1 h2 h3
      refine (asked_run x l k 0 _ false _ w1 h1 ha).mono ?_
      rintro e w2 ⟨rfl, h4, h5⟩
      exact ⟨⟨_, rfl⟩, h4, h2.kept h5 (by simp; omega) (by simp; omega), h3.trans h5 (by intro i hi; simp at hi; subst hi; exact .inl (by simp))⟩
    · rintro w' ⟨h, _⟩
      exact ⟨_, _, h, .inl rfl, rfl⟩
  | wait t =>
    by_cases he : (s.acc 1 who (sv k) 0 0).2 = t
    · simp only [AcqSt.step, if_pos he]
      refine fstep_then false x m g _ _ _ s w _ hA rfl hM hxm hxg ⟨by simp, by simp⟩ hc hbd (by simp) rfl (.inl (by simp)) _ _ _ rfl (enters_of Try.func109 (by kernel_rfl) rfl) ?_ ?_
      · intro w1 h1 h2 h3
        simp only at h2 ⊢
        rw [he]
        refine (waits_has x l k t _ w1 h1 hw).mono ?_
        rintro e w2 ⟨rfl, b, h4, h6, _, h5⟩
        exact ⟨⟨_, rfl⟩, ⟨b, h4, h6⟩, h2.kept h5 (by simp; omega) (by simp; omega), h3.trans h5 (by intro i hi; simp at hi; subst hi; exact .inl (by simp))⟩
      · rintro w' ⟨⟨b, h, _⟩, _⟩
        exact ⟨_, _, h, .inl rfl, rfl⟩
    · simp only [AcqSt.step, if_neg he]
      refine fstep_then false x m g _ _ _ s w _ hA rfl hM hxm hxg ⟨by simp, by simp⟩ hc hbd (by simp) rfl (.inl (by simp)) _ _ _ rfl (enters_of Try.func109 (by kernel_rfl) rfl) ?_ ?_
      · intro w1 h1 h2 h3
        refine (waits_again x l k t _ _ w1 h1 he).mono ?_
        rintro e w2 ⟨rfl, h4, h5⟩
        exact ⟨⟨_, rfl⟩, h4, h2.kept h5 (by simp; omega) (by simp; omega), h3.trans h5 (by intro i hi; simp at hi; subst hi; exact .inl (by simp))⟩
      · rintro w' ⟨h, _⟩
        exact ⟨_, _, h, .inl rfl, rfl⟩
  | own t =>
    obtain ⟨b, hF, hB⟩ := hA
    refine fstep_then true x m g _ _ _ s w _ hF rfl hM hxm hxg ⟨by simp only; omega, by simp only; omega⟩ hc hbd (by simp) rfl (.inl (by simp)) _ _ _ rfl (enters_of Try.func112 (by kernel_rfl) rfl) ?_ ?_
    · intro w1 h1 h2 h3
      have hbx : b ∉ [x, m, g] := by
        have n1 := Blk.ne hB hF (by decide)
        have n2 := hM.neT hB (by decide)
        have n3 := hM.neG hB (by decide)
        simp [n1, n2, n3]
      refine fstore1_run _ b _ _ _ w1 _ (hB.kept h3 hbx) (enters_of Try.func136 (by kernel_rfl) rfl) ?_
      refine (aends_run _ w1).mono ?_
      rintro e w2 ⟨hr, rfl⟩
      exact ⟨hr, ⟨_, _, h1⟩, h2, h3⟩
    · rintro w' ⟨⟨a, n, h⟩, _⟩
      exact ⟨_, _, h, .inl rfl, rfl⟩
  | done t =>
    obtain ⟨a, n, hF⟩ := hA
    refine (fstep_done x _ _ _ _ w hF rfl rfl).mono ?_
    rintro e w' ⟨rfl, rfl⟩
    exact ⟨rfl, ⟨_, _, hF⟩, hM, Kept.refl _ _⟩
end Go.Proofs.Ytnmkfmaohflejaa.Lock
end
