/- Contracts of a memory: its accesses, one by one. -/
import Derived.Test.YtokpgbocomhpiaaProg
import Derived.Test.YtokpgbocomhpiaaWords
import Derived.Test.YtokpgbocomhpiaaFlagB
import Derived.Handy
set_option maxRecDepth 100000
set_option maxHeartbeats 4000000
set_option linter.unusedVariables false
set_option linter.unusedSimpArgs false
namespace Go.Proofs.Ytokpgbocomhpiaa.Mem
open Go.RowKit Go.Proofs.Ytokpgbocomhpiaa.TK Go.Proofs.Ytokpgbocomhpiaa.Flag Go.Proofs.Ytokpgbocomhpiaa.Words

/-- An access as it was. -/
structure Acc where
  kind : Int
  who : Int
  at_ : Int
  old : Int
  new : Int
  done : Bool
def accCells (a : Acc) : List Value := [.int .i64 a.kind, .int .i64 a.who, .int .i64 a.at_, .int .u64 a.old, .int .u64 a.new, .bool a.done]
/-- A memory's state. -/
structure St where
  ws : List Int
  clock : Int
  bad : Int
  last : Acc
def headOf (g n cap : Nat) (clock bad : Int) (a : Acc) : List Value := .slice (some ⟨g, 0, none⟩) n cap :: .int .i64 clock :: .int .i64 bad :: accCells a
/-- What is known of a memory at block m, its words in block g. -/
structure MemAt (w : World) (m g : Nat) (s : St) : Prop where
  ex : ∃ cap spare, Blk w m (headOf g s.ws.length cap s.clock s.bad s.last) 164 ∧ Blk w g (u64s s.ws ++ spare) 25 ∧ s.ws.length ≤ cap
  ne : m ≠ g
  wf : ∀ x ∈ s.ws, 0 ≤ x ∧ x < 18446744073709551616
  len : s.ws.length ≤ 1000000
  clock : 0 ≤ s.clock ∧ s.clock ≤ 1000000
  bad : 0 ≤ s.bad ∧ s.bad ≤ 1000000
theorem MemAt.kept {w w' : World} {m g : Nat} {s : St} {S : List Nat} (h : MemAt w m g s) (hk : Kept S w w') (h1 : m ∉ S) (h2 : g ∉ S) : MemAt w' m g s := by
  obtain ⟨cap, spare, a, b, c⟩ := h.ex
  exact ⟨⟨cap, spare, a.kept hk h1, b.kept hk h2, c⟩, h.ne, h.wf, h.len, h.clock, h.bad⟩
theorem MemAt.quiet {w w' : World} {m g : Nat} {s : St} (h : MemAt w m g s) (hb : Below w.heap.size w w') : MemAt w' m g s := h.kept (Kept.of_below hb []) (by simp) (by simp)
theorem MemAt.ltm {w : World} {m g : Nat} {s : St} (h : MemAt w m g s) : m < w.heap.size := by obtain ⟨_, _, a, _, _⟩ := h.ex; exact a.lt
theorem MemAt.ltg {w : World} {m g : Nat} {s : St} (h : MemAt w m g s) : g < w.heap.size := by obtain ⟨_, _, _, a, _⟩ := h.ex; exact a.lt

/-- What an access that is in range leaves: what was there, what is there now, what 'New' tells. -/
def St.does (s : St) (i : Nat) (a : Acc) (nv : Int) (d : Bool) : St :=
  { s with ws := s.ws.set i nv, clock := s.clock + 1, last := { a with old := s.ws.getD i 0, done := d } }
def St.fails (s : St) (a : Acc) : St := { s with clock := s.clock + 1, bad := s.bad + 1, last := a }

theorem u64s_set' (ys : List Int) (spare : List Value) (k : Nat) (x : Int) (h : k < ys.length) : (u64s ys ++ spare).set k (.int .u64 x) = u64s (ys.set k x) ++ spare := by
  unfold u64s; rw [List.set_append_left _ _ (by simpa using h)]; simp

theorem does_bad (m g : Nat) (s : St) (a : Acc) (fv : Value) (w : World) (hM : MemAt w m g s) (h : a.at_ < 0 ∨ (s.ws.length : Int) ≤ a.at_) :
    Calls Try.prog 205 #[.pointer (some ⟨m, 0, none⟩), .agg (accCells a).toArray, fv] w fun e w' => (∃ r, e = .returned r) ∧ Kept [m] w w' ∧
      ∃ cap spare, Blk w' m (headOf g s.ws.length cap (s.clock + 1) (s.bad + 1) a) 164 ∧ Blk w' g (u64s s.ws ++ spare) 25 ∧ s.ws.length ≤ cap := by
  obtain ⟨cap, spare, hm, hg, hcap⟩ := hM.ex
  have hne := hM.ne
  have hcl := hM.clock
  have hbd := hM.bad
  have hln := hM.len
  have hmlt := hm.lt
  obtain ⟨k, wh, at_, old, new, dn⟩ := a
  have c0 := hm.cell 0
  have c1 := hm.cell 1
  have c2 := hm.cell 2
  have c3 := hm.cell 3
  have c4 := hm.cell 4
  have c5 := hm.cell 5
  have c6 := hm.cell 6
  have c7 := hm.cell 7
  have c8 := hm.cell 8
  have hf := hm.frozen
  simp only [headOf, accCells, List.getElem?_cons_zero, List.getElem?_cons_succ] at c0 c1 c2 c3 c4 c5 c6 c7 c8
  simp only [accCells] at *
  clear hM
  go_enter Try.func205, Try.ntmps205
  go_wp2_with fail
  have B1 : Blk ((((((((w.setCell ⟨m, 1, none⟩ (.int .i64 (s.clock + 1))).setCell ⟨m, 3, none⟩ (.int .i64 k)).setCell ⟨m, 4, none⟩ (.int .i64 wh)).setCell ⟨m, 5, none⟩ (.int .i64 at_)).setCell ⟨m, 6, none⟩ (.int .u64 old)).setCell ⟨m, 7, none⟩ (.int .u64 new)).setCell ⟨m, 8, none⟩ (.bool dn)).alloc (.cells #[.int .i64 k, .int .i64 wh, .int .i64 at_, .int .u64 old, .int .u64 new, .bool dn] 67)) m (headOf g s.ws.length cap (s.clock + 1) s.bad ⟨k, wh, at_, old, new, dn⟩) 164 := (((((((hm.set 1 _).set 3 _).set 4 _).set 5 _).set 6 _).set 7 _).set 8 _).alloc _
  have G1 : Blk ((((((((w.setCell ⟨m, 1, none⟩ (.int .i64 (s.clock + 1))).setCell ⟨m, 3, none⟩ (.int .i64 k)).setCell ⟨m, 4, none⟩ (.int .i64 wh)).setCell ⟨m, 5, none⟩ (.int .i64 at_)).setCell ⟨m, 6, none⟩ (.int .u64 old)).setCell ⟨m, 7, none⟩ (.int .u64 new)).setCell ⟨m, 8, none⟩ (.bool dn)).alloc (.cells #[.int .i64 k, .int .i64 wh, .int .i64 at_, .int .u64 old, .int .u64 new, .bool dn] 67)) g (u64s s.ws ++ spare) 25 := (((((((hg.far (Ne.symm hne) _).far (Ne.symm hne) _).far (Ne.symm hne) _).far (Ne.symm hne) _).far (Ne.symm hne) _).far (Ne.symm hne) _).far (Ne.symm hne) _).alloc _
  have X1 : Blk ((((((((w.setCell ⟨m, 1, none⟩ (.int .i64 (s.clock + 1))).setCell ⟨m, 3, none⟩ (.int .i64 k)).setCell ⟨m, 4, none⟩ (.int .i64 wh)).setCell ⟨m, 5, none⟩ (.int .i64 at_)).setCell ⟨m, 6, none⟩ (.int .u64 old)).setCell ⟨m, 7, none⟩ (.int .u64 new)).setCell ⟨m, 8, none⟩ (.bool dn)).alloc (.cells #[.int .i64 k, .int .i64 wh, .int .i64 at_, .int .u64 old, .int .u64 new, .bool dn] 67)) w.heap.size (accCells ⟨k, wh, at_, old, new, dn⟩) 67 := Blk.new_at (accCells ⟨k, wh, at_, old, new, dn⟩) _ (by simp [World.setCell])
  have K1 : Kept [m] w ((((((((w.setCell ⟨m, 1, none⟩ (.int .i64 (s.clock + 1))).setCell ⟨m, 3, none⟩ (.int .i64 k)).setCell ⟨m, 4, none⟩ (.int .i64 wh)).setCell ⟨m, 5, none⟩ (.int .i64 at_)).setCell ⟨m, 6, none⟩ (.int .u64 old)).setCell ⟨m, 7, none⟩ (.int .u64 new)).setCell ⟨m, 8, none⟩ (.bool dn)).alloc (.cells #[.int .i64 k, .int .i64 wh, .int .i64 at_, .int .u64 old, .int .u64 new, .bool dn] 67)) := ((((((((Kept.refl [m] w).set (.inl (by simp)) _).set (.inl (by simp)) _).set (.inl (by simp)) _).set (.inl (by simp)) _).set (.inl (by simp)) _).set (.inl (by simp)) _).set (.inl (by simp)) _).alloc _
  obtain ⟨W1, hW1⟩ : ∃ W1, W1 = ((((((((w.setCell ⟨m, 1, none⟩ (.int .i64 (s.clock + 1))).setCell ⟨m, 3, none⟩ (.int .i64 k)).setCell ⟨m, 4, none⟩ (.int .i64 wh)).setCell ⟨m, 5, none⟩ (.int .i64 at_)).setCell ⟨m, 6, none⟩ (.int .u64 old)).setCell ⟨m, 7, none⟩ (.int .u64 new)).setCell ⟨m, 8, none⟩ (.bool dn)).alloc (.cells #[.int .i64 k, .int .i64 wh, .int .i64 at_, .int .u64 old, .int .u64 new, .bool dn] 67)) := ⟨_, rfl⟩
  rw [← hW1] at B1 G1 X1 K1 ⊢
  clear hW1 hm hg c0 c1 c2 c3 c4 c5 c6 c7 c8 hf
  have c0 := B1.cell 0
  have c2 := B1.cell 2
  have x2 := X1.cell 2
  have hf := B1.frozen 2
  simp only [headOf, accCells, List.getElem?_cons_zero, List.getElem?_cons_succ] at c0 c2 x2
  rcases h with h | h
  · have hd : decide (at_ < 0) = true := decide_eq_true h
    go_quiet (fail)
    go_wp2
    go_returns
    exact ⟨⟨_, rfl⟩, (K1.drewN _).set (.inl (by simp)) _, cap, spare, (B1.drewN nq).set 2 (.int .i64 (s.bad + 1)), (G1.drewN nq).far (Ne.symm hne) _, hcap⟩
  · have hd : decide (at_ < 0) = false := decide_eq_false (by omega)
    go_quiet (fail)
    go_wp2
    go_returns
    exact ⟨⟨_, rfl⟩, (K1.drewN _).set (.inl (by simp)) _, cap, spare, (B1.drewN nq).set 2 (.int .i64 (s.bad + 1)), (G1.drewN nq).far (Ne.symm hne) _, hcap⟩

/-- The words, and the head, whichever store has come up. -/
def DD (m g n cap bx : Nat) (clock bad : Int) (a ab : Acc) (ws : List Int) (spare : List Value) (i : Nat) (nv : Int) (d : Bool) (w : World) (bs : List Bool) (w' : World) : Prop :=
  Blk w' m (headOf g n cap clock bad { a with done := if bs.getD 1 false then d else a.done }) 164 ∧ Blk w' g (u64s (if bs.getD 0 false then ws.set i nv else ws) ++ spare) 25 ∧ Blk w' bx (accCells ab) 67 ∧ Kept [m, g] w w'
theorem does_run (m g i : Nat) (s : St) (a : Acc) (f : Nat) (lb : Array Value) (nv v : Int) (d : Bool) (w : World) (hv0 : s.ws.getD i 0 = v) (hM : MemAt w m g s) (hi : i < s.ws.length) (hat : a.at_ = i)
    (eg : ∀ args w, (callFunc f args).run Try.prog w = .ok (.enter f args) w)
    (hdo : ∀ w', Kept [m, g] w w' → Calls Try.prog f (#[.int .u64 v] ++ lb) w' fun e w'' => e = .returned (.tuple #[.int .u64 nv, .bool d]) ∧ w' = w'') :
    Calls Try.prog 205 #[.pointer (some ⟨m, 0, none⟩), .agg (accCells a).toArray, .func (.func f) #[] lb] w fun e w' => (∃ r, e = .returned r) ∧ Kept [m, g] w w' ∧
      ∃ cap spare, Blk w' m (headOf g s.ws.length cap (s.clock + 1) s.bad { a with old := v, done := d }) 164 ∧ Blk w' g (u64s (s.ws.set i nv) ++ spare) 25 ∧ s.ws.length ≤ cap := by
  have HDO := hid hdo
  have HV0 := hid hv0
  clear hdo hv0
  obtain ⟨cap, spare, hm, hg, hcap⟩ := hM.ex
  have hne := hM.ne
  have hcl := hM.clock
  have hbd := hM.bad
  have hln := hM.len
  have hmlt := hm.lt
  obtain ⟨k, wh, at_, old, new, dn⟩ := a
  have c0 := hm.cell 0
  have c1 := hm.cell 1
  have c2 := hm.cell 2
  have c3 := hm.cell 3
  have c4 := hm.cell 4
  have c5 := hm.cell 5
  have c6 := hm.cell 6
  have c7 := hm.cell 7
  have c8 := hm.cell 8
  have hf := hm.frozen
  simp only [headOf, accCells, List.getElem?_cons_zero, List.getElem?_cons_succ] at c0 c1 c2 c3 c4 c5 c6 c7 c8
  simp only [accCells] at *
  have hgl := hg.lt
  have a0 : 0 ≤ at_ := by omega
  have a1 : at_ < (s.ws.length : Int) := by omega
  have at2 : at_.toNat = i := by omega
  clear hM hat
  go_enter Try.func205, Try.ntmps205
  go_wp2_with fail
  have B1 : Blk ((((((((w.setCell ⟨m, 1, none⟩ (.int .i64 (s.clock + 1))).setCell ⟨m, 3, none⟩ (.int .i64 k)).setCell ⟨m, 4, none⟩ (.int .i64 wh)).setCell ⟨m, 5, none⟩ (.int .i64 at_)).setCell ⟨m, 6, none⟩ (.int .u64 old)).setCell ⟨m, 7, none⟩ (.int .u64 new)).setCell ⟨m, 8, none⟩ (.bool dn)).alloc (.cells #[.int .i64 k, .int .i64 wh, .int .i64 at_, .int .u64 old, .int .u64 new, .bool dn] 67)) m (headOf g s.ws.length cap (s.clock + 1) s.bad ⟨k, wh, at_, old, new, dn⟩) 164 := (((((((hm.set 1 _).set 3 _).set 4 _).set 5 _).set 6 _).set 7 _).set 8 _).alloc _
  have G1 : Blk ((((((((w.setCell ⟨m, 1, none⟩ (.int .i64 (s.clock + 1))).setCell ⟨m, 3, none⟩ (.int .i64 k)).setCell ⟨m, 4, none⟩ (.int .i64 wh)).setCell ⟨m, 5, none⟩ (.int .i64 at_)).setCell ⟨m, 6, none⟩ (.int .u64 old)).setCell ⟨m, 7, none⟩ (.int .u64 new)).setCell ⟨m, 8, none⟩ (.bool dn)).alloc (.cells #[.int .i64 k, .int .i64 wh, .int .i64 at_, .int .u64 old, .int .u64 new, .bool dn] 67)) g (u64s s.ws ++ spare) 25 := (((((((hg.far (Ne.symm hne) _).far (Ne.symm hne) _).far (Ne.symm hne) _).far (Ne.symm hne) _).far (Ne.symm hne) _).far (Ne.symm hne) _).far (Ne.symm hne) _).alloc _
  have X1 : Blk ((((((((w.setCell ⟨m, 1, none⟩ (.int .i64 (s.clock + 1))).setCell ⟨m, 3, none⟩ (.int .i64 k)).setCell ⟨m, 4, none⟩ (.int .i64 wh)).setCell ⟨m, 5, none⟩ (.int .i64 at_)).setCell ⟨m, 6, none⟩ (.int .u64 old)).setCell ⟨m, 7, none⟩ (.int .u64 new)).setCell ⟨m, 8, none⟩ (.bool dn)).alloc (.cells #[.int .i64 k, .int .i64 wh, .int .i64 at_, .int .u64 old, .int .u64 new, .bool dn] 67)) w.heap.size (accCells ⟨k, wh, at_, old, new, dn⟩) 67 := Blk.new_at (accCells ⟨k, wh, at_, old, new, dn⟩) _ (by simp [World.setCell])
  have K1 : Kept [m] w ((((((((w.setCell ⟨m, 1, none⟩ (.int .i64 (s.clock + 1))).setCell ⟨m, 3, none⟩ (.int .i64 k)).setCell ⟨m, 4, none⟩ (.int .i64 wh)).setCell ⟨m, 5, none⟩ (.int .i64 at_)).setCell ⟨m, 6, none⟩ (.int .u64 old)).setCell ⟨m, 7, none⟩ (.int .u64 new)).setCell ⟨m, 8, none⟩ (.bool dn)).alloc (.cells #[.int .i64 k, .int .i64 wh, .int .i64 at_, .int .u64 old, .int .u64 new, .bool dn] 67)) := ((((((((Kept.refl [m] w).set (.inl (by simp)) _).set (.inl (by simp)) _).set (.inl (by simp)) _).set (.inl (by simp)) _).set (.inl (by simp)) _).set (.inl (by simp)) _).set (.inl (by simp)) _).alloc _
  obtain ⟨W1, hW1⟩ : ∃ W1, W1 = ((((((((w.setCell ⟨m, 1, none⟩ (.int .i64 (s.clock + 1))).setCell ⟨m, 3, none⟩ (.int .i64 k)).setCell ⟨m, 4, none⟩ (.int .i64 wh)).setCell ⟨m, 5, none⟩ (.int .i64 at_)).setCell ⟨m, 6, none⟩ (.int .u64 old)).setCell ⟨m, 7, none⟩ (.int .u64 new)).setCell ⟨m, 8, none⟩ (.bool dn)).alloc (.cells #[.int .i64 k, .int .i64 wh, .int .i64 at_, .int .u64 old, .int .u64 new, .bool dn] 67)) := ⟨_, rfl⟩
  rw [← hW1] at B1 G1 X1 K1 ⊢
  clear hW1 hm hg c0 c1 c2 c3 c4 c5 c6 c7 c8 hf
  have c0 := B1.cell 0
  have c6 := B1.cell 6
  have x2 := X1.cell 2
  have hf := B1.frozen 6
  have gi := (G1.cell i).trans (List.getElem?_append_left (by rw [u64s_length]; exact hi))
  rw [u64s_get s.ws i hi] at gi
  simp only [headOf, accCells, List.getElem?_cons_zero, List.getElem?_cons_succ] at c0 c6 x2
  have hd0 : decide (at_ < 0) = false := decide_eq_false (by omega)
  have hd1 : decide ((s.ws.length : Int) ≤ at_) = false := decide_eq_false (by omega)
  go_quiet (fail)
  obtain ⟨q1, rfl⟩ : ∃ q1 : Nat, q1 = nq := ⟨_, rfl⟩
  go_wp2
  go_quiet (fail)
  go_wp2_with fail
  have hv : s.ws[i] = v := by rw [← HV0.out, List.getD_eq_getElem?_getD, List.getElem?_eq_getElem hi]; rfl
  rw [hv] at gi ⊢
  clear hv hd0 hd1 c0 c6 x2 hf
  have B2 := (B1.drewN (q1 + nq)).set 6 (.int .u64 v)
  have G2 := (G1.drewN (q1 + nq)).far (p := ⟨m, 6, none⟩) (Ne.symm hne) (.int .u64 v)
  have X2 := (X1.drewN (q1 + nq)).far (p := ⟨m, 6, none⟩) (by simp; omega) (.int .u64 v)
  have K2 := (K1.drewN (q1 + nq)).set (p := ⟨m, 6, none⟩) (.inl (by simp)) (.int .u64 v)
  obtain ⟨W2, hW2⟩ : ∃ W2, W2 = (W1.drewN (q1 + nq)).setCell ⟨m, 6, none⟩ (.int .u64 v) := ⟨_, rfl⟩
  rw [← hW2] at B2 G2 X2 K2 ⊢
  have h0 : DD m g s.ws.length cap w.heap.size (s.clock + 1) s.bad ⟨k, wh, at_, v, new, dn⟩ ⟨k, wh, at_, old, new, dn⟩ s.ws spare i nv d w [false, false] W2.drew := ⟨B2, G2, X2, (K2.mono (by simp)).drew⟩
  clear hW2 B1 G1 X1 K1 B2 G2 X2 K2 gi
  refine wp_region_D [14, 18] (DD m g s.ws.length cap w.heap.size (s.clock + 1) s.bad ⟨k, wh, at_, v, new, dn⟩ ⟨k, wh, at_, old, new, dn⟩ s.ws spare i nv d w) (by kernel_rfl) (by kernel_rfl) rfl (by kernel_rfl) h0 ?_
  repeat (first | (apply walkD_pure; rfl; rfl; (intro _; go_simp; first | done | rfl); (intro K hK; go_simp; refine hK _ ?_; clear hK K)) | (apply walkD_skip; rfl; rfl; (intro K hK; go_simp; refine hK _ ?_; clear hK K)) | (apply walkD_read; rfl; rfl; (intro bs hbs w' hD; have y0 := hD.1.cell 0; have y1 := hD.2.2.1.cell 2; simp only [headOf, accCells, List.getElem?_cons_zero, List.getElem?_cons_succ] at y0 y1; go_simp; rfl); (intro K hK; go_simp; refine hK _ ?_; clear hK K)))
  apply walkD_call; rfl; (intro _; go_simp; first | rfl | exact ⟨rfl, rfl⟩)
  · intro bs hbs w' hD
    refine (HDO.out w' hD.2.2.2).mono ?_
    rintro e w2 ⟨rfl, rfl⟩
    exact ⟨rfl, by rw [came_poss (md := .any) rfl hbs]; exact hD⟩
  (intro K hK; go_simp; refine hK _ ?_; clear hK K)
  repeat (first | (apply walkD_pure; rfl; rfl; (intro _; go_simp; first | done | rfl); (intro K hK; go_simp; refine hK _ ?_; clear hK K)) | (apply walkD_skip; rfl; rfl; (intro K hK; go_simp; refine hK _ ?_; clear hK K)) | (apply walkD_read; rfl; rfl; (intro bs hbs w' hD; have y0 := hD.1.cell 0; have y1 := hD.2.2.1.cell 2; simp only [headOf, accCells, List.getElem?_cons_zero, List.getElem?_cons_succ] at y0 y1; go_simp; rfl); (intro K hK; go_simp; refine hK _ ?_; clear hK K)))
  apply walkD_turn1 (v := undef) [false, false] (by kernel_rfl); rfl
  · intro w' hD
    have y0 := (hD.2.1.cell i).trans (List.getElem?_append_left (by simp [u64s]; exact hi))
    rw [show (if [false, false].getD 0 false = true then s.ws.set i nv else s.ws) = s.ws from rfl, u64s_get s.ws i hi] at y0
    have y1 := hD.2.1.frozen i
    unfold opAt
    go_simp
    refine ⟨⟨hD.1.far (by simpa using hne) _, ?_, hD.2.2.1.far ?_ _, hD.2.2.2.set (.inl (by simp)) _⟩, rfl⟩
    · have := hD.2.1.set i (.int .u64 nv)
      rw [show (if [false, false].getD 0 false = true then s.ws.set i nv else s.ws) = s.ws from rfl, u64s_set' _ _ _ _ hi] at this
      exact this
    · have := hgl; simp; omega
  (intro K hK; go_simp; refine hK _ ?_; clear hK K)
  repeat (first | (apply walkD_pure; rfl; rfl; (intro _; go_simp; first | done | rfl); (intro K hK; go_simp; refine hK _ ?_; clear hK K)) | (apply walkD_skip; rfl; rfl; (intro K hK; go_simp; refine hK _ ?_; clear hK K)) | (apply walkD_read; rfl; rfl; (intro bs hbs w' hD; have y0 := hD.1.cell 0; have y1 := hD.2.2.1.cell 2; simp only [headOf, accCells, List.getElem?_cons_zero, List.getElem?_cons_succ] at y0 y1; go_simp; rfl); (intro K hK; go_simp; refine hK _ ?_; clear hK K)))
  apply walkD_turn1 (v := undef) [true, false] (by kernel_rfl); rfl
  · intro w' hD
    have y0 := hD.1.cell 8
    have y1 := hD.1.frozen 8
    simp only [headOf, accCells, List.getElem?_cons_zero, List.getElem?_cons_succ] at y0
    unfold opAt
    go_simp
    refine ⟨⟨hD.1.set 8 (.bool d), hD.2.1.far (by simpa using Ne.symm hne) _, hD.2.2.1.far (by simp; omega) _, hD.2.2.2.set (.inl (by simp)) _⟩, rfl⟩
  (intro K hK; go_simp; refine hK _ ?_; clear hK K)
  repeat (first | (apply walkD_pure; rfl; rfl; (intro _; go_simp; first | done | rfl); (intro K hK; go_simp; refine hK _ ?_; clear hK K)) | (apply walkD_skip; rfl; rfl; (intro K hK; go_simp; refine hK _ ?_; clear hK K)))
  intro w' hD
  go_wp2
  go_returns
  exact ⟨⟨_, rfl⟩, hD.2.2.2, cap, spare, hD.1, hD.2.1, hcap⟩
end Go.Proofs.Ytokpgbocomhpiaa.Mem
