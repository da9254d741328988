/- A list of words that a call owns; slices.Clone at []uint64. -/
import Derived.Test.YtokpgbocomhpiaaProg
import Derived.Test.YtokpgbocomhpiaaFlag
import Derived.Test.YtokpgbocomhpiaaRead
import Derived.Lib.SliceRun
set_option maxRecDepth 100000
set_option linter.unusedVariables false
set_option linter.unusedSimpArgs false
namespace Go.Proofs.Ytokpgbocomhpiaa.Words
open Go.RowKit Go.Proofs.Ytokpgbocomhpiaa.TK Go.Proofs.Ytokpgbocomhpiaa.Flag

def u64s (xs : List Int) : List Value := xs.map (Value.int .u64)
theorem u64s_length (xs : List Int) : (u64s xs).length = xs.length := by simp [u64s]
theorem u64s_get (xs : List Int) (i : Nat) (h : i < xs.length) : (u64s xs)[i]? = some (.int .u64 xs[i]) := by simp [u64s, h]

/-- The slice value v holds the words xs, in block g (no block: it is nil). -/
def Holds (w : World) (v : Value) (g : Nat) (xs : List Int) : Prop :=
  ∃ (cap : Nat) (spare : List Value), v = .slice (some ⟨g, 0, none⟩) xs.length cap ∧ xs.length ≤ cap ∧ Blk w g (u64s xs ++ spare) 25
theorem Holds.cell {w : World} {v : Value} {g : Nat} {xs : List Int} (h : Holds w v g xs) (i : Nat) (hi : i < xs.length) : w.cell? ⟨g, i, none⟩ = some (.int .u64 xs[i]) := by
  obtain ⟨cap, spare, _, _, hb⟩ := h
  rw [hb.cell i, List.getElem?_append_left (by simpa [u64s] using hi)]
  exact u64s_get xs i hi
theorem Holds.frozen {w : World} {v : Value} {g : Nat} {xs : List Int} (h : Holds w v g xs) (i : Nat) : w.frozen? ⟨g, i, none⟩ = false := by
  obtain ⟨cap, spare, _, _, hb⟩ := h
  exact hb.frozen i

theorem of_own {w : World} {base : Nat} {v : Value} {xs : List Int} {n : Nat} (hn : n = xs.length) (h : w.ownsRow base 25 1 v n (u64s xs)) (hne : v ≠ .slice none 0 0) : ∃ g, base ≤ g ∧ Holds w v g xs := by
  obtain ⟨h1, h2⟩ := h
  rcases h2 with ⟨rfl, _⟩ | ⟨g, cap, cur, rfl, hg, hh, hcap, hmax, hsz, htake⟩
  · exact absurd rfl hne
  · subst hn
    refine ⟨g, hg, cap, cur.toList.drop xs.length, rfl, hcap, ?_⟩
    have e : u64s xs ++ cur.toList.drop xs.length = cur.toList := by
      rw [← htake, Nat.mul_one, List.take_append_drop]
    unfold Blk
    rw [e]
    simpa using hh

theorem info64 : (Try.prog.info? 25).map (fun i => (i.zero, i.size, i.bytes)) = some (some (.int .u64 0), 1, 8) := by kernel_rfl

set_option maxHeartbeats 2000000 in
theorem clone_run (ad : Addr) (c : Nat) (xs : List Int) (w : World) (hbig : xs.length * 8 ≤ 140737488355328) (hc : ∀ i (h : i < xs.length), w.cell? (ad.add i) = some (.int .u64 xs[i])) :
    Calls Try.prog 160 #[.slice (some ad) xs.length c] w fun e w' => ∃ v g, e = .returned v ∧ w.heap.size ≤ g ∧ Holds w' v g xs ∧ Below w.heap.size w w' := by
  obtain ⟨i0, hi, hz0, hz1, hz2⟩ := info_parts info64
  have q22 : ∀ (w : World) (a : Option Addr) (n c n' c' : Nat), (binOp .eql 60 (.slice a n c) (.slice none n' c')).run Try.prog w = .ok (.bool a.isNone) w := fun w a n c n' c' => Lib.run_eql_slice_nil w _ _ a n c n' c' Try.underlying60
  have HC := hid hc
  clear hc
  go_enter Try.func160, Try.ntmps160
  go_wp2_with (at_builtin; refine wpList_append_own _ rfl _ _ 60 rfl w.heap.size 25 i0 (.int .u64 0) 1 8 Try.underlying60 hi hz0 hz1 hz2 rfl (by decide) _ _ _ rfl (World.ownsRow_made w #[] 0 (Nat.le_refl _) (Nat.zero_le _) rfl) ad xs.length c (u64s xs) rfl ?qc1 ?qc2 ?qc3 ?qc4 ?qc5 ?qc6 ?_)
  case qc1 => simp [u64s]
  case qc2 =>
    intro j u hj
    have hjn : j < xs.length := by
      have := (List.getElem?_eq_some_iff.1 hj).1
      simpa [u64s] using this
    refine Lib.cell?_alloc_some _ ?_
    rw [HC.out j hjn]
    rw [u64s_get xs j hjn] at hj
    exact hj
  case qc3 => intro u hu; obtain ⟨x, _, rfl⟩ := List.mem_map.1 hu; rfl
  case qc4 => unfold maxLen; omega
  case qc5 => omega
  case qc6 => simp
  intro v' w1 hown hgrow hnil
  go_wp2
  go_ret
  obtain ⟨g, hg, hh⟩ := of_own (n := xs.length) (xs := xs) rfl (by simpa using hown) hnil
  exact ⟨v', g, rfl, hg, hh, ((Below.refl _ w).alloc (Nat.le_refl _) _).grown hgrow (by simp) (by intro k hk; simp [Value.ownBlock] at hk; omega)⟩
theorem clone_nil (w : World) : Calls Try.prog 160 #[.slice none 0 0] w fun e w' => e = .returned (.slice none 0 0) ∧ w = w' := by
  have q22 : ∀ (w : World) (a : Option Addr) (n c n' c' : Nat), (binOp .eql 60 (.slice a n c) (.slice none n' c')).run Try.prog w = .ok (.bool a.isNone) w := fun w a n c n' c' => Lib.run_eql_slice_nil w _ _ a n c n' c' Try.underlying60
  go_enter Try.func160, Try.ntmps160
  go_wp2
  go_ret
  exact ⟨rfl, rfl⟩
end Go.Proofs.Ytokpgbocomhpiaa.Words
