/- A list of numbers that a call owns; slices.Clone at []int. -/
import Derived.Test.YtnmkfmaohflejaaProg
import Derived.Test.YtnmkfmaohflejaaBase1
import Derived.Lib.SliceRun
set_option maxRecDepth 100000
set_option linter.unusedVariables false
set_option linter.unusedSimpArgs false
namespace Go.Proofs.Ytnmkfmaohflejaa.IWords
open Go.RowKit Go.Proofs.Ytnmkfmaohflejaa.TK Go.Proofs.Ytnmkfmaohflejaa.Flag

def i64s (xs : List Int) : List Value := xs.map (Value.int .i64)
theorem i64s_length (xs : List Int) : (i64s xs).length = xs.length := by simp [i64s]
theorem i64s_get (xs : List Int) (i : Nat) (h : i < xs.length) : (i64s xs)[i]? = some (.int .i64 xs[i]) := by simp [i64s, h]

/-- The slice value v holds the words xs, in block g (no block: it is nil). -/
def Holds (w : World) (v : Value) (g : Nat) (xs : List Int) : Prop :=
  ∃ (cap : Nat) (spare : List Value), v = .slice (some ⟨g, 0, none⟩) xs.length cap ∧ xs.length ≤ cap ∧ Blk w g (i64s xs ++ spare) 3
theorem Holds.cell {w : World} {v : Value} {g : Nat} {xs : List Int} (h : Holds w v g xs) (i : Nat) (hi : i < xs.length) : w.cell? ⟨g, i, none⟩ = some (.int .i64 xs[i]) := by
  obtain ⟨cap, spare, _, _, hb⟩ := h
  rw [hb.cell i, List.getElem?_append_left (by simpa [i64s] using hi)]
  exact i64s_get xs i hi
theorem Holds.frozen {w : World} {v : Value} {g : Nat} {xs : List Int} (h : Holds w v g xs) (i : Nat) : w.frozen? ⟨g, i, none⟩ = false := by
  obtain ⟨cap, spare, _, _, hb⟩ := h
  exact hb.frozen i

theorem of_own {w : World} {base : Nat} {v : Value} {xs : List Int} {n : Nat} (hn : n = xs.length) (h : w.ownsRow base 3 1 v n (i64s xs)) (hne : v ≠ .slice none 0 0) : ∃ g, base ≤ g ∧ Holds w v g xs := by
  obtain ⟨h1, h2⟩ := h
  rcases h2 with ⟨rfl, _⟩ | ⟨g, cap, cur, rfl, hg, hh, hcap, hmax, hsz, htake⟩
  · exact absurd rfl hne
  · subst hn
    refine ⟨g, hg, cap, cur.toList.drop xs.length, rfl, hcap, ?_⟩
    have e : i64s xs ++ cur.toList.drop xs.length = cur.toList := by
      rw [← htake, Nat.mul_one, List.take_append_drop]
    unfold Blk
    rw [e]
    simpa using hh

theorem info64 : (Try.prog.info? 3).map (fun i => (i.zero, i.size, i.bytes)) = some (some (.int .i64 0), 1, 8) := by kernel_rfl

set_option maxHeartbeats 2000000 in
theorem clone_run (ad : Addr) (c : Nat) (xs : List Int) (w : World) (hbig : xs.length * 8 ≤ 140737488355328) (hc : ∀ i (h : i < xs.length), w.cell? (ad.add i) = some (.int .i64 xs[i])) :
    Calls Try.prog 95 #[.slice (some ad) xs.length c] w fun e w' => ∃ v g, e = .returned v ∧ w.heap.size ≤ g ∧ Holds w' v g xs ∧ Below w.heap.size w w' := by
  obtain ⟨i0, hi, hz0, hz1, hz2⟩ := info_parts info64
  have q22 : ∀ (w : World) (a : Option Addr) (n c n' c' : Nat), (binOp .eql 49 (.slice a n c) (.slice none n' c')).run Try.prog w = .ok (.bool a.isNone) w := fun w a n c n' c' => Lib.run_eql_slice_nil w _ _ a n c n' c' Try.underlying49
  have HC := hid hc
  clear hc
  go_enter Try.func95, Try.ntmps95
  go_wp2_with (at_builtin; refine wpList_append_own _ rfl _ _ 49 rfl w.heap.size 3 i0 (.int .i64 0) 1 8 Try.underlying49 hi hz0 hz1 hz2 rfl (by decide) _ _ _ rfl (World.ownsRow_made w #[] 0 (Nat.le_refl _) (Nat.zero_le _) rfl) ad xs.length c (i64s xs) rfl ?qc1 ?qc2 ?qc3 ?qc4 ?qc5 ?qc6 ?_)
  case qc1 => simp [i64s]
  case qc2 =>
    intro j u hj
    have hjn : j < xs.length := by
      have := (List.getElem?_eq_some_iff.1 hj).1
      simpa [i64s] using this
    refine Lib.cell?_alloc_some _ ?_
    rw [HC.out j hjn]
    rw [i64s_get xs j hjn] at hj
    exact hj
  case qc3 => intro u hu; obtain ⟨x, _, rfl⟩ := List.mem_map.1 hu; rfl
  case qc4 => unfold maxLen; omega
  case qc5 => omega
  case qc6 => simp
  intro v' w1 hown hgrow hnil
  go_wp2
  go_ret
  obtain ⟨g, hg, hh⟩ := of_own (n := xs.length) (xs := xs) rfl (by simpa using hown) hnil
  exact ⟨v', g, rfl, hg, hh, ((Below.refl _ w).alloc (Nat.le_refl _) _).grown hgrow (by simp) (by intro k hk; simp [Value.ownBlock] at hk; omega)⟩
theorem clone_nil (w : World) : Calls Try.prog 95 #[.slice none 0 0] w fun e w' => e = .returned (.slice none 0 0) ∧ w = w' := by
  have q22 : ∀ (w : World) (a : Option Addr) (n c n' c' : Nat), (binOp .eql 49 (.slice a n c) (.slice none n' c')).run Try.prog w = .ok (.bool a.isNone) w := fun w a n c n' c' => Lib.run_eql_slice_nil w _ _ a n c n' c' Try.underlying49
  go_enter Try.func95, Try.ntmps95
  go_wp2
  go_ret
  exact ⟨rfl, rfl⟩
end Go.Proofs.Ytnmkfmaohflejaa.IWords
namespace Go.Proofs.Ytnmkfmaohflejaa.IWords
open Go.RowKit Go.Proofs.Ytnmkfmaohflejaa.TK Go.Proofs.Ytnmkfmaohflejaa.Flag Go.Proofs.Ytnmkfmaohflejaa.Read
/-- A list of numbers that lies in a block of its own. -/
structure RowB (w : World) (a : Option Addr) (xs : List Int) (lo : Nat) : Prop where
  row : RowOf (encI .i64) 1 w a xs
  blk : ∀ x, a = some x → (lo ≤ x.block ∧ x.block < w.heap.size) ∧ ∃ cs, Blk w x.block cs 3
  at0 : ∀ x, a = some x → x = ⟨x.block, 0, none⟩
theorem row_keptB {w w' : World} {a : Option Addr} {xs : List Int} {S : List Nat} (h : RowOf (encI .i64) 1 w a xs) (hk : Kept S w w') (hS : ∀ x, a = some x → x.block ∉ S) : RowOf (encI .i64) 1 w' a xs := by
  intro i hi
  obtain ⟨x, hx, hc⟩ := h i hi
  exact ⟨x, hx, fun j v hv => hk.cell (hc j v hv) (by simpa using hS x hx)⟩
theorem RowB.keptS {w w' : World} {a : Option Addr} {xs : List Int} {lo : Nat} {S : List Nat} (h : RowB w a xs lo) (hk : Kept S w w') (hS : ∀ i ∈ S, ∀ cs, ¬ Blk w i cs 3) : RowB w' a xs lo := by
  have hne : ∀ x, a = some x → x.block ∉ S := by
    intro x hx hm
    obtain ⟨_, cs, hb⟩ := h.blk x hx
    exact hS _ hm cs hb
  refine ⟨row_keptB h.row hk hne, ?_, h.at0⟩
  intro x hx
  obtain ⟨⟨h1, h2⟩, cs, hb⟩ := h.blk x hx
  exact ⟨⟨h1, Nat.lt_of_lt_of_le h2 hk.size⟩, cs, hb.kept hk (hne x hx)⟩
theorem RowB.lower {w : World} {a : Option Addr} {xs : List Int} {lo lo' : Nat} (h : RowB w a xs lo) (hl : lo' ≤ lo) : RowB w a xs lo' := ⟨h.row, fun x hx => ⟨⟨Nat.le_trans hl (h.blk x hx).1.1, (h.blk x hx).1.2⟩, (h.blk x hx).2⟩, h.at0⟩
theorem RowB.quiet {w w' : World} {a : Option Addr} {xs : List Int} {lo : Nat} (h : RowB w a xs lo) (hb : Below w.heap.size w w') : RowB w' a xs lo := h.keptS (Kept.of_below hb []) (by simp)
theorem RowB.at_ {w : World} {a : Option Addr} {xs : List Int} {lo : Nat} (h : RowB w a xs lo) (i : Nat) (hi : i < xs.length) : ∃ b, a = some ⟨b, 0, none⟩ ∧ w.cell? ⟨b, i, none⟩ = some (.int .i64 (xs.getD i 0)) := by
  obtain ⟨x, hx, hc⟩ := h.row i hi
  obtain ⟨b, hb⟩ : ∃ b, x = ⟨b, 0, none⟩ := ⟨_, h.at0 x hx⟩
  subst hb
  refine ⟨b, hx, ?_⟩
  have := hc 0 _ rfl
  rw [Nat.mul_one, Nat.add_zero] at this
  rw [show (⟨b, 0, none⟩ : Addr).add i = ⟨b, i, none⟩ by unfold Addr.add; split <;> simp_all] at this
  rw [this]
  simp [List.getD, hi]
/-- Clone, of whatever slice of numbers. -/
theorem iclone_any (a : Option Addr) (c : Nat) (xs : List Int) (w : World) (hn : a = none → c = 0) (hbig : xs.length * 8 ≤ 140737488355328) (hr : RowOf (encI .i64) 1 w a xs) :
    Calls Try.prog 95 #[.slice a xs.length c] w fun e w' => ∃ a' cap, e = .returned (.slice a' xs.length cap) ∧ RowB w' a' xs w.heap.size ∧ (a' = none → cap = 0) ∧ Below w.heap.size w w' := by
  cases a with
  | none =>
    obtain rfl : c = 0 := hn rfl
    have hx : xs = [] := by
      cases xs with
      | nil => rfl
      | cons x xs => obtain ⟨_, h, _⟩ := hr 0 (by simp); cases h
    subst hx
    refine (clone_nil w).mono ?_
    rintro e w' ⟨rfl, rfl⟩
    exact ⟨none, 0, rfl, ⟨hr, fun x h => (by cases h), fun x h => (by cases h)⟩, fun _ => rfl, Below.refl _ _⟩
  | some ad =>
    refine (clone_run ad c xs w hbig (fun i hi => by
      obtain ⟨x, h, hc⟩ := hr i hi
      cases h
      have := hc 0 _ rfl
      rw [Nat.mul_one, Nat.add_zero] at this
      exact this)).mono ?_
    rintro e w' ⟨v, g, rfl, hg, hh, hb⟩
    obtain ⟨cap, spare, rfl, hcap, hblk⟩ := hh
    refine ⟨some ⟨g, 0, none⟩, cap, rfl, ⟨fun i hi => ⟨_, rfl, fun j v hj => ?_⟩, fun x h => (by cases h; exact ⟨⟨hg, hblk.lt⟩, _, hblk⟩), fun x h => (by cases h; rfl)⟩, fun h => (by cases h), hb⟩
    have hj0 : j = 0 := by
      have := (List.getElem?_eq_some_iff.1 hj).1
      simp [encI] at this
      exact this
    subst hj0
    rw [show (⟨g, 0, none⟩ : Addr).add (i * 1 + 0) = ⟨g, i, none⟩ by unfold Addr.add; split <;> simp_all]
    rw [hblk.cell i, List.getElem?_append_left (by simpa [i64s] using hi), i64s_get xs i hi]
    exact hj
/-- 'append([]int{}, xs...)', of some: where the new block lies is known. -/
theorem wpList_append_new {w : World} {ops : Array Oper} {rest : List Oper} {o : Oper} {a : Act} {Q : Exit → Act → World → Prop} (hgd : o.guard = none) (s x : Operand) (ho : o.op = .call { callee := .builtin .append, args := #[s, x], argTypes := #[49, 49] })
    (g : Nat) (hs : a.eval s = .slice (some ⟨g, 0, none⟩) 0 0) (ad : Addr) (xs : List Int) (c : Nat) (hx : a.eval x = .slice (some ad) xs.length c) (hnews : ∀ j v, (i64s xs)[j]? = some v → w.cell? (ad.add j) = some v) (h0 : 0 < xs.length) (hn : xs.length ≤ 1000000)
    (h : ∀ cap w' spare, w'.heap.size = w.heap.size + 1 → Below w.heap.size w w' → Blk w' w.heap.size (i64s xs ++ spare) 3 → wpList Try.prog ops Q rest (a.put o.dst (.slice (some ⟨w.heap.size, 0, none⟩) xs.length cap)) w') :
    wpList Try.prog ops Q (o :: rest) a w := by
  obtain ⟨i0, hi, hz0, hz1, hz2⟩ := info_parts info64
  refine wpList_plain hgd fun K hK => ?_
  have hfit : Builtin.nextslicecap (0 + xs.length) 0 * i0.bytes ≤ 281474976710656 := by rw [Nat.zero_add, nextslicecap_zero h0, hz2]; omega
  have hr := run_append_grow (P := Try.prog) w 49 o.type 3 i0 (.int .i64 0) Try.underlying49 hi hz0 ⟨g, 0, none⟩ 0 0 [] (by simp) (by intro j v hj; simp at hj) ad xs.length c (i64s xs) (by rw [hz1, i64s_length, Nat.mul_one]) hnews (by omega) (by omega) hfit
  unfold Oper.wp execOp
  simp only [ho, resolve, invoke, builtin, Sem.run_bind, Sem.run_pure, Result.andThen_ok, List.map_toArray, List.map_cons, List.map_nil, hs, hx, hr]
  have hsz : w.drew.heap.size = w.heap.size := rfl
  rw [show 0 + xs.length = xs.length by omega]
  refine hK _ _ (h _ _ ((Builtin.zeroCells (Value.int .i64 0).cells (grownCap w xs.length 0 3 - xs.length)).toList) ?_ ?_ ?_)
  · simp
  · exact (below_drewN (Below.refl _ w) 1).alloc (by simp [hsz]) _
  · have hb := Blk.new w.drew (i64s xs ++ (Builtin.zeroCells (Value.int .i64 0).cells (grownCap w xs.length 0 3 - xs.length)).toList) 3
    rw [Array.empty_append, show ((i64s xs).toArray ++ Builtin.zeroCells (Value.int .i64 0).cells (grownCap w xs.length 0 3 - xs.length)) = (i64s xs ++ (Builtin.zeroCells (Value.int .i64 0).cells (grownCap w xs.length 0 3 - xs.length)).toList).toArray from by apply Array.ext'; simp]
    exact hb
theorem iclone_new (ad : Addr) (c : Nat) (xs : List Int) (w : World) (h0 : 0 < xs.length) (hn : xs.length ≤ 1000000) (hr : RowOf (encI .i64) 1 w (some ad) xs) :
    Calls Try.prog 95 #[.slice (some ad) xs.length c] w fun e w' => ∃ cap, e = .returned (.slice (some ⟨w.heap.size + 1, 0, none⟩) xs.length cap) ∧ RowB w' (some ⟨w.heap.size + 1, 0, none⟩) xs w.heap.size ∧ w'.heap.size = w.heap.size + 2 ∧ Below w.heap.size w w' := by
  have q22 : ∀ (w : World) (a : Option Addr) (n c n' c' : Nat), (binOp .eql 49 (.slice a n c) (.slice none n' c')).run Try.prog w = .ok (.bool a.isNone) w := fun w a n c n' c' => Lib.run_eql_slice_nil w _ _ a n c n' c' Try.underlying49
  have HC := hid hr
  clear hr
  go_enter Try.func95, Try.ntmps95
  go_wp2_with (at_builtin; refine wpList_append_new rfl _ _ rfl w.heap.size rfl ad xs c rfl ?qc1 h0 hn ?_)
  case qc1 =>
    intro j u hj
    have hjn : j < xs.length := by
      have := (List.getElem?_eq_some_iff.1 hj).1
      simpa [i64s] using this
    refine Lib.cell?_alloc_some _ ?_
    rw [i64s_get xs j hjn] at hj
    obtain ⟨x, hx, hc⟩ := HC.out j hjn
    cases hx
    have := hc 0 _ rfl
    rw [Nat.mul_one, Nat.add_zero] at this
    rw [this]
    exact hj
  intro cap w1 spare hs1 hb1 hblk
  have hsz : (w.alloc (.cells #[] 3)).heap.size = w.heap.size + 1 := by simp
  try rw [hsz] at hs1
  try rw [hsz] at hblk
  have HX := hid (And.intro hs1 (And.intro hblk hb1))
  clear hs1 hblk hb1
  go_wp2
  go_ret
  refine ⟨cap, by first | rfl | rw [hsz], ⟨fun i hi => ⟨_, rfl, fun j v hj => ?_⟩, fun x h => (by cases h; exact ⟨⟨by show w.heap.size ≤ w.heap.size + 1; omega, HX.out.2.1.lt⟩, _, HX.out.2.1⟩), fun x h => (by cases h; rfl)⟩, HX.out.1, ((below_one w _).trans (HX.out.2.2.mono (by simp)))⟩
  have hj0 : j = 0 := by
    have := (List.getElem?_eq_some_iff.1 hj).1
    simp [encI] at this
    exact this
  subst hj0
  rw [show (⟨w.heap.size + 1, 0, none⟩ : Addr).add (i * 1 + 0) = ⟨w.heap.size + 1, i, none⟩ by unfold Addr.add; split <;> simp_all]
  rw [HX.out.2.1.cell i, List.getElem?_append_left (by simpa [i64s] using hi), i64s_get xs i hi]
  exact hj
end Go.Proofs.Ytnmkfmaohflejaa.IWords
