/- Texts of mine, laid into one: Ref, Run, Lay, Ground, LockC, LockD, RunB, Alike. -/
import Derived.Test.YtnmkfmaohflejaaBase2
import Derived.Deep.DeepCutAuto
import Derived.Test.YtnmkfmaohflejaaBase1
import Derived.Deep.RegionHeld3
import Derived.Deep.AppendLies
import Derived.Deep.RegionLaw
import Derived.RangeFuncBox
import Derived.Maps.AppendAt
section
/- The document's memory: its accesses. -/
set_option maxRecDepth 100000
set_option maxHeartbeats 4000000
set_option linter.unusedVariables false
set_option linter.unusedSimpArgs false
namespace Go.Proofs.Ytnmkfmaohflejaa.Mem
open Go.RowKit Go.Shelf Go.Proofs.Ytnmkfmaohflejaa.TK Go.Proofs.Ytnmkfmaohflejaa.Flag Go.Proofs.Ytnmkfmaohflejaa.Words

/-- The document's memory at block m, its words in block g. -/
structure RMemAt (w : World) (m g : Nat) (s : St) : Prop where
  ex : ∃ cap spare, Blk w m (headOf g s.ws.length cap s.clock s.bad s.last) 146 ∧ Blk w g (u64s s.ws ++ spare) 31 ∧ s.ws.length ≤ cap
  ne : m ≠ g
  wf : ∀ x ∈ s.ws, 0 ≤ x ∧ x < 18446744073709551616
  len : s.ws.length ≤ 1000000
  clock : 0 ≤ s.clock ∧ s.clock ≤ 1000000
  bad : 0 ≤ s.bad ∧ s.bad ≤ 1000000
theorem RMemAt.kept {w w' : World} {m g : Nat} {s : St} {S : List Nat} (h : RMemAt w m g s) (hk : Kept S w w') (h1 : m ∉ S) (h2 : g ∉ S) : RMemAt w' m g s := by
  obtain ⟨cap, spare, a, b, c⟩ := h.ex
  exact ⟨⟨cap, spare, a.kept hk h1, b.kept hk h2, c⟩, h.ne, h.wf, h.len, h.clock, h.bad⟩
theorem RMemAt.quiet {w w' : World} {m g : Nat} {s : St} (h : RMemAt w m g s) (hb : Below w.heap.size w w') : RMemAt w' m g s := h.kept (Kept.of_below hb []) (by simp) (by simp)
theorem RMemAt.ltm {w : World} {m g : Nat} {s : St} (h : RMemAt w m g s) : m < w.heap.size := by obtain ⟨_, _, a, _, _⟩ := h.ex; exact a.lt
theorem RMemAt.ltg {w : World} {m g : Nat} {s : St} (h : RMemAt w m g s) : g < w.heap.size := by obtain ⟨_, _, _, a, _⟩ := h.ex; exact a.lt
theorem racc_mem {w w' : World} {m g : Nat} {s : St} {cap : Nat} {spare : List Value} {kind who at_ old nw : Int} (hM : RMemAt w m g s) (hnw : 0 ≤ nw ∧ nw < 18446744073709551616) (hc : s.clock < 1000000) (hb : s.bad < 1000000) (hcap : s.ws.length ≤ cap)
    (h1 : Blk w' m (headOf g s.ws.length cap (s.acc kind who at_ old nw).1.clock (s.acc kind who at_ old nw).1.bad (s.acc kind who at_ old nw).1.last) 146) (h2 : Blk w' g (u64s (s.acc kind who at_ old nw).1.ws ++ spare) 31) : RMemAt w' m g (s.acc kind who at_ old nw).1 := by
  have hk := acc_clock s kind who at_ old nw
  have hl := acc_len s kind who at_ old nw
  exact ⟨⟨cap, spare, by rw [hl]; exact h1, h2, by omega⟩, hM.ne, (acc_wf hM.wf kind who at_ old hnw).1, by have := hM.len; omega, by have := hM.clock; omega, by have := hM.bad; omega⟩
end Go.Proofs.Ytnmkfmaohflejaa.Mem
end

section
/- The document's runs of a routine: what its accesses answered, and where it stops. -/
set_option maxRecDepth 100000
set_option maxHeartbeats 4000000
set_option linter.unusedVariables false
set_option linter.unusedSimpArgs false
namespace Go.Proofs.Ytnmkfmaohflejaa.Run
open Go.RowKit Go.Shelf Go.Proofs.Ytnmkfmaohflejaa.TK Go.Proofs.Ytnmkfmaohflejaa.Flag Go.Proofs.Ytnmkfmaohflejaa.Read Go.Proofs.Ytnmkfmaohflejaa.Grow Go.Proofs.Ytnmkfmaohflejaa.Words Go.Proofs.Ytnmkfmaohflejaa.Mem

theorem Grow.keptB {α : Type} {w w' : World} {B : Nat} {T : TypeId} {size : Nat} {enc : α → List Value} {v : Value} {xs : List α} {S : List Nat} (h : Grow w B T size enc v xs) (hk : Kept S w w') (hS : ∀ i ∈ S, v.ownBlock ≠ some i) : Grow w' B T size enc v xs := by
  refine ⟨h.1, ?_⟩
  rcases h.2 with h2 | ⟨g, cap, cur, hv, hg, hh, h3⟩
  · exact .inl h2
  · refine .inr ⟨g, cap, cur, hv, hg, ?_, h3⟩
    rw [hk.block g (lt_of_block hh) (fun hm => hS g hm (by rw [hv]; rfl))]
    exact hh
theorem own_type {α : Type} {w : World} {B : Nat} {T : TypeId} {size : Nat} {enc : α → List Value} {v : Value} {xs : List α} {r : Nat} {cs : List Value} {T' : TypeId} (h : Grow w B T size enc v xs) (hb : Blk w r cs T') (hT : T ≠ T') : v.ownBlock ≠ some r := by
  intro e
  rcases h.2 with ⟨hv, _⟩ | ⟨g, cap, cur, hv, hg, hh, h3⟩
  · rw [hv] at e; cases e
  · rw [hv] at e
    simp [Value.ownBlock] at e
    subst e
    unfold Blk at hb
    rw [hh] at hb
    injection hb with hb
    injection hb with _ h2
    exact hT h2
theorem own_low {α : Type} {w : World} {B : Nat} {T : TypeId} {size : Nat} {enc : α → List Value} {v : Value} {xs : List α} {r : Nat} (h : Grow w B T size enc v xs) (hr : r < B) : v.ownBlock ≠ some r := fun e => by have := own_le h r e; omega
theorem info64' : Elem Try.prog 31 (.int .u64 0) 1 8 := by unfold Elem; kernel_rfl
theorem encI_len (x : Int) : (encI .u64 x).length = 1 := rfl
theorem encI_one (x : Int) : ∀ u ∈ encI .u64 x, u.oneCell' = true := by intro u hu; simp [encI] at hu; subst hu; rfl

structure RunSt where
  got : List Int
  used : Nat
  stop : Bool
  want : Acc
  sleep : Bool
def runCells (v : Value) (st : RunSt) : List Value := v :: .int .i64 (st.used : Int) :: .bool st.stop :: .int .i64 st.want.kind :: .int .i64 st.want.who :: .int .i64 st.want.at_ :: .int .u64 st.want.old :: .int .u64 st.want.new :: .bool st.want.done :: [.bool st.sleep]
structure RunAt (w : World) (B r : Nat) (v : Value) (st : RunSt) : Prop where
  blk : Blk w r (runCells v st) 999998
  grow : Grow w B 31 1 (encI .u64) v st.got
  le : st.used ≤ st.got.length
  len : st.got.length ≤ 100000
theorem RunAt.kept {w w' : World} {B r : Nat} {v : Value} {st : RunSt} {S : List Nat} (h : RunAt w B r v st) (hk : Kept S w w') (hr : r ∉ S) (hS : ∀ i ∈ S, v.ownBlock ≠ some i) : RunAt w' B r v st :=
  ⟨h.blk.kept hk hr, Grow.keptB h.grow hk hS, h.le, h.len⟩
theorem RunAt.quiet {w w' : World} {B r : Nat} {v : Value} {st : RunSt} (h : RunAt w B r v st) (hb : Below w.heap.size w w') : RunAt w' B r v st := h.kept (Kept.of_below hb []) (by simp) (by simp)
def RunSt.dox (st : RunSt) (A : Acc) : RunSt × Int :=
  if st.stop then (st, 0) else if st.used < st.got.length then ({ st with used := st.used + 1 }, st.got.getD st.used 0) else ({ st with stop := true, want := A }, 0)
theorem dox_got (st : RunSt) (A : Acc) : (st.dox A).1.got = st.got := by unfold RunSt.dox; split; rfl; split <;> rfl
theorem dox_le (st : RunSt) (A : Acc) (h : st.used ≤ st.got.length) : (st.dox A).1.used ≤ (st.dox A).1.got.length := by
  unfold RunSt.dox; split
  · exact h
  · split
    · simp only; omega
    · exact h
end Go.Proofs.Ytnmkfmaohflejaa.Run
end

section
/- A ground's memory, and the document's, as they are laid. -/
set_option maxRecDepth 100000
set_option maxHeartbeats 4000000
set_option linter.unusedVariables false
set_option linter.unusedSimpArgs false
namespace Go.Proofs.Ytnmkfmaohflejaa.Run
open Go.RowKit Go.Shelf Go.Proofs.Ytnmkfmaohflejaa.TK Go.Proofs.Ytnmkfmaohflejaa.Flag Go.Proofs.Ytnmkfmaohflejaa.Read Go.Proofs.Ytnmkfmaohflejaa.Grow Go.Proofs.Ytnmkfmaohflejaa.Words Go.Proofs.Ytnmkfmaohflejaa.Mem Go.Proofs.Ytnmkfmaohflejaa.Layout

theorem rnew_run (ad : Addr) (c : Nat) (xs : List Int) (w : World) (hlen : xs.length ≤ 100000) (hpos : 0 < xs.length) (hwf : ∀ x ∈ xs, 0 ≤ x ∧ x < 18446744073709551616) (hc : ∀ i (h : i < xs.length), w.cell? (ad.add i) = some (.int .u64 xs[i])) :
    Calls Try.prog 66 #[.slice (some ad) xs.length c] w fun e w' => ∃ m g, e = .returned (.pointer (some ⟨m, 0, none⟩)) ∧ w.heap.size ≤ m ∧ w.heap.size ≤ g ∧ RMemAt w' m g ⟨xs, 0, 0, ⟨0, 0, 0, 0, 0, false⟩⟩ ∧ Below w.heap.size w w' := by
  obtain ⟨i0, hi0, hz0, hz1, hz2⟩ := info_parts info64'
  have HC := hid hc
  have HW := hid hwf
  have had : ad.block < w.heap.size := by have := cell_lt (hc 0 hpos); simpa using this
  obtain ⟨n, hn⟩ : ∃ n, n = xs.length := ⟨_, rfl⟩
  rw [← hn] at hlen hpos ⊢
  have HN := hid hn
  clear hc hwf hn
  go_enter Try.func66, Try.ntmps66
  go_wp2_with fail
  go_loopw [4] (fun i wr => ∃ (k : Nat) (v : Value), k ≤ n ∧ i = .int .i64 (k : Int) ∧ Blk wr w.heap.size (v :: .int .i64 0 :: .int .i64 0 :: accCells ⟨0, 0, 0, 0, 0, false⟩) 146 ∧ Grow wr (w.heap.size + 1) 31 1 (encI .u64) v (xs.take k) ∧ Below w.heap.size w wr) (fun i _ => n - (intOf i).toNat)
  case atStart => exact ⟨0, .slice none 0 0, Nat.zero_le _, rfl, Blk.new w (.slice none 0 0 :: .int .i64 0 :: .int .i64 0 :: accCells ⟨0, 0, 0, 0, 0, false⟩) _, Grow.nil _ _ _ _ _, below_one _ _⟩
  case round =>
    obtain ⟨k, v, hk, rfl, hB, hG, hlow⟩ := hrel
    have hlt := hB.lt
    by_cases hkn : k < n
    · have hkx : k < xs.length := by rw [← HN.out]; exact hkn
      have cx0 := HC.out k hkx
      have cx := hlow.cell (p := ad.add k) (by simpa using had) |>.trans cx0
      have HT := hid (List.take_succ_eq_append_getElem hkx)
      obtain ⟨y, hy⟩ : ∃ y, xs[k] = y := ⟨_, rfl⟩
      rw [hy] at cx cx0 HT
      clear hy
      have c0 := hB.cell 0
      have f0 := hB.frozen 0
      simp only [List.getElem?_cons_zero] at c0
      have hl : (xs.take k).length = k := by rw [List.length_take]; omega
      obtain ⟨L, hL⟩ : ∃ L, L = xs.take k := ⟨_, rfl⟩
      rw [← hL] at hG HT hl
      have HL := hid hl
      have hll : L.length ≤ 100000 := by omega
      clear hL hl
      have k0 : (0 : Int) ≤ (k : Int) := by omega
      have k1 : (k : Int) < (n : Int) := by omega
      go_wp2_with fail
      have hne := own_low hG (r := w.heap.size) (by omega)
      have hcells := hB
      go_region_law ((refine step_append_lies _ (by rfl) _ _ _ (by rfl) (w.heap.size + 1) 31 i0 _ 1 8 Try.underlying85 hi0 hz0 hz1 hz2 rfl (by omega) v L.length (L.flatMap (encI .u64)) (by rfl) ((World.ownsRow.alloc hG _).drew) ⟨wr.heap.size, 0, none⟩ 1 1 [.int .u64 y] (by rfl) (by rfl) (World.news_of_block (cs := #[.int .u64 y]) (t := 31) (fr := (0, 0)) (heap_alloc_new wr _)) (by simp [Value.oneCell']) (by omega) (by unfold maxLen; omega) (by omega) (by simp; omega) (wr.heap.size + 1) (by simp) ?_; intro gg cp w1 hown1 hgrow hat hlt1; have hb1 : Blk w1 w.heap.size (v :: .int .i64 0 :: .int .i64 0 :: accCells ⟨0, 0, 0, 0, 0, false⟩) 146 := (hgrow.block w.heap.size (by simp; omega) (Ne.symm hne)).trans (hB.alloc _); have f1 := hb1.frozen 0; have d0 := hb1.cell 0; simp only [List.getElem?_cons_zero] at d0; have hl1 : Below w.heap.size w w1 := ((hlow.alloc hlow.size _).drew).grown hgrow (by simp; omega) (fun j e => by have := own_le hG j e; omega)))
      all_goals
        have hb2 : Blk (w1.setCell ⟨w.heap.size, 0, none⟩ (.slice (some ⟨gg, 0, none⟩) (L.length + 1) cp)) w.heap.size (.slice (some ⟨gg, 0, none⟩) (L.length + 1) cp :: .int .i64 0 :: .int .i64 0 :: accCells ⟨0, 0, 0, 0, 0, false⟩) 146 := hb1.set 0 _
        have hown2 := hown1.kept (grownBy_setCell' w1 w.heap.size (.slice (some ⟨gg, 0, none⟩) (L.length + 1) cp)) (.inr (fun e => by have := own_le hown1 w.heap.size (by simpa using e); omega))
        have hG2 : Grow (w1.setCell ⟨w.heap.size, 0, none⟩ (.slice (some ⟨gg, 0, none⟩) (L.length + 1) cp)) (w.heap.size + 1) 31 1 (encI .u64) (.slice (some ⟨gg, 0, none⟩) (L.length + 1) cp) (xs.take (k + 1)) := by
          rw [HT.out]; unfold Grow; rw [List.length_append, List.flatMap_append]; simpa [encI] using hown2
        have hl2 := hl1.setCell (p := ⟨w.heap.size, 0, none⟩) (Nat.le_refl _) (.slice (some ⟨gg, 0, none⟩) (L.length + 1) cp)
        have HP := hid (And.intro hb2 (And.intro hG2 hl2))
        clear hb2 hown2 hG2 hl2 hown1 hgrow hat hb1 f1 d0 hl1 hlt1 hB hG hlow
        go_wp2
        go_roundw
        case rel => exact ⟨k + 1, _, by omega, by go_num, HP.out.1, HP.out.2.1, HP.out.2.2⟩
        case measure => simp only [intOf]; omega
    · obtain rfl : k = n := by omega
      have HP := hid (And.intro hB (And.intro hG hlow))
      clear hB hG hlow
      go_wp2
      go_ret
      obtain ⟨hB, hG, hlow⟩ := HP.out
      rw [List.take_of_length_le (by rw [← HN.out]; exact Nat.le_refl _)] at hG
      rcases hG.2 with ⟨_, h0⟩ | ⟨g, cap, cur, hv, hg, hh, hcap, hmax, hsz, htake⟩
      · rw [← HN.out] at h0; omega
      · subst hv
        refine ⟨w.heap.size, g, rfl, Nat.le_refl _, by omega, ⟨⟨cap, cur.toList.drop xs.length, hB, ?_, hcap⟩, by omega, HW.out, by rw [← HN.out]; omega, by simp, by simp⟩, hlow⟩
        have e : ∀ zs : List Int, zs.flatMap (encI .u64) = u64s zs := by
          intro zs; induction zs with
          | nil => rfl
          | cons z zs ih => rw [List.flatMap_cons, ih]; rfl
        have e2 : u64s xs ++ cur.toList.drop xs.length = cur.toList := by
          rw [← e, ← htake, Nat.mul_one, List.take_append_drop]
        unfold Blk
        rw [e2]
        simpa using hh
end Go.Proofs.Ytnmkfmaohflejaa.Run
end

section
/- A ground, as it is laid. -/
set_option maxRecDepth 100000
set_option maxHeartbeats 4000000
set_option linter.unusedVariables false
set_option linter.unusedSimpArgs false
namespace Go.Proofs.Ytnmkfmaohflejaa.Layout
open Go.RowKit Go.Proofs.Ytnmkfmaohflejaa.TK
/-- Configs that statements go through. -/
def FewP (p t g : Int) : Prop := Right p t g ∧ p ≤ 4 ∧ t ≤ 8 ∧ g ≤ 60
instance (p t g : Int) : Decidable (FewP p t g) := by unfold FewP; infer_instance
theorem few_yes (p t g : Int) (w : World) (h : FewP p t g) :
    Calls Try.prog 62 #[.agg #[.int .i64 p, .int .i64 t, .int .i64 g]] w fun e w' => e = .returned (.bool true) ∧ Below w.heap.size w w' := by
  obtain ⟨hR, h1, h2, h3⟩ := h
  have hd : decide (Right p t g) = true := decide_eq_true hR
  clear hR
  go_enter Try.func62, Try.ntmps62
  go_wp2_with (first | (go_at_call 103; refine (rright_run _ _ _ _).mono ?_; rintro e w2 ⟨rfl, hb2⟩; have hB := ((Blk.new w [.int .i64 p, .int .i64 t, .int .i64 g] 30).quiet hb2); have b0 := hB.cell 0; have b1 := hB.cell 1; have b2 := hB.cell 2; simp only [List.getElem?_cons_zero, List.getElem?_cons_succ] at b0 b1 b2; clear hB))
  go_ret
  exact ⟨rfl, Below.then_ (below_one _ _) hb2⟩
theorem few_no (p t g : Int) (w : World) (h : ¬ FewP p t g) :
    Calls Try.prog 62 #[.agg #[.int .i64 p, .int .i64 t, .int .i64 g]] w fun e w' => e = .returned (.bool false) ∧ Below w.heap.size w w' := by
  by_cases hR : Right p t g
  · have hd : decide (Right p t g) = true := decide_eq_true hR
    have h' : ¬ (p ≤ 4 ∧ t ≤ 8 ∧ g ≤ 60) := fun x => h ⟨hR, x⟩
    rcases (show decide (p ≤ 4) = false ∨ (decide (p ≤ 4) = true ∧ decide (t ≤ 8) = false) ∨ (decide (p ≤ 4) = true ∧ decide (t ≤ 8) = true ∧ decide (g ≤ 60) = false) by simp only [decide_eq_false_iff_not, decide_eq_true_eq]; omega) with h1 | ⟨h1, h2⟩ | ⟨h1, h2, h3⟩
    all_goals (clear hR h h')
    all_goals go_enter Try.func62, Try.ntmps62
    all_goals go_wp2_with (first | (go_at_call 103; refine (rright_run _ _ _ _).mono ?_; rintro e w2 ⟨rfl, hb2⟩; have hB := ((Blk.new w [.int .i64 p, .int .i64 t, .int .i64 g] 30).quiet hb2); have b0 := hB.cell 0; have b1 := hB.cell 1; have b2 := hB.cell 2; simp only [List.getElem?_cons_zero, List.getElem?_cons_succ] at b0 b1 b2; clear hB))
    all_goals (go_ret; exact ⟨rfl, Below.then_ (below_one _ _) hb2⟩)
  · have hd : decide (Right p t g) = false := decide_eq_false hR
    clear hR h
    go_enter Try.func62, Try.ntmps62
    go_wp2_with (first | (go_at_call 103; refine (rright_run _ _ _ _).mono ?_; rintro e w2 ⟨rfl, hb2⟩))
    go_ret
    exact ⟨rfl, Below.then_ (below_one _ _) hb2⟩
theorem rlen_run (p t g : Int) (w : World) (h : Right p t g) :
    Calls Try.prog 63 #[.agg #[.int .i64 p, .int .i64 t, .int .i64 g]] w fun e w' => e = .returned (.int .i64 (20 + p * 264 + t * 3 + g * 2)) ∧ Below w.heap.size w w' := by
  unfold Right at h
  go_enter Try.func63, Try.ntmps63
  go_wp2
  go_ret
  exact ⟨ret_int (by omega), below_one _ _⟩


end Go.Proofs.Ytnmkfmaohflejaa.Layout
namespace Go.Proofs.Ytnmkfmaohflejaa.Run
open Go.RowKit Go.Shelf Go.Proofs.Ytnmkfmaohflejaa.TK Go.Proofs.Ytnmkfmaohflejaa.Flag Go.Proofs.Ytnmkfmaohflejaa.Read Go.Proofs.Ytnmkfmaohflejaa.Grow Go.Proofs.Ytnmkfmaohflejaa.Words Go.Proofs.Ytnmkfmaohflejaa.Mem Go.Proofs.Ytnmkfmaohflejaa.Layout

/-- The words of a ground. -/
abbrev PutT := Int × Int
def encP (q : PutT) : List Value := [.int .i64 q.1, .int .u64 q.2]
def putW (ws : List Int) (q : PutT) : List Int := if 0 ≤ q.1 ∧ q.1 < ws.length then ws.set q.1.toNat q.2 else ws
def layTo (n : Nat) (puts : List PutT) (k : Nat) : List Int := (puts.take k).foldl putW (List.replicate n 0)
def layW (n : Nat) (puts : List PutT) : List Int := layTo n puts puts.length
theorem putW_len (ws : List Int) (q : PutT) : (putW ws q).length = ws.length := by unfold putW; split <;> simp
theorem layTo_len (n : Nat) (puts : List PutT) (k : Nat) : (layTo n puts k).length = n := by
  unfold layTo
  have : ∀ (l : List PutT) (ws : List Int), (l.foldl putW ws).length = ws.length := by
    intro l; induction l with
    | nil => intro ws; rfl
    | cons q l ih => intro ws; rw [List.foldl_cons, ih, putW_len]
  rw [this]; simp
theorem layTo_succ (n : Nat) (puts : List PutT) (k : Nat) (h : k < puts.length) : layTo n puts (k + 1) = putW (layTo n puts k) puts[k] := by
  unfold layTo; rw [List.take_succ_eq_append_getElem h, List.foldl_append]; rfl
theorem layW_wf (n : Nat) (puts : List PutT) (h : ∀ q ∈ puts, 0 ≤ q.2 ∧ q.2 < 18446744073709551616) : ∀ x ∈ layW n puts, 0 ≤ x ∧ x < 18446744073709551616 := by
  unfold layW layTo
  rw [List.take_length]
  have : ∀ (l : List PutT) (ws : List Int), (∀ q ∈ l, 0 ≤ q.2 ∧ q.2 < 18446744073709551616) → (∀ x ∈ ws, 0 ≤ x ∧ x < 18446744073709551616) → ∀ x ∈ l.foldl putW ws, 0 ≤ x ∧ x < 18446744073709551616 := by
    intro l; induction l with
    | nil => intro ws _ hw; exact hw
    | cons q l ih =>
      intro ws hl hw
      rw [List.foldl_cons]
      refine ih _ (fun r hr => hl r (List.mem_cons_of_mem _ hr)) ?_
      unfold putW; split
      · exact wf_set hw _ (hl q List.mem_cons_self)
      · exact hw
  refine this puts _ h (fun x hx => ?_)
  rw [(List.mem_replicate.1 hx).2]; omega
theorem made_zero (n : Nat) : (madeCells #[Value.int .u64 0] n).toList = u64s (List.replicate n 0) := by
  have h : (madeCells #[Value.int .u64 0] n) = Array.replicate n (Value.int .u64 0) := by
    unfold madeCells
    apply Array.ext
    · simp
    · intro i h1 h2
      simp [Nat.mod_one]
  rw [h]
  simp [u64s]
theorem u64s_set (ys : List Int) (spare : List Value) (k : Nat) (x : Int) (hk : k < ys.length) : (u64s ys ++ spare).set k (.int .u64 x) = u64s (ys.set k x) ++ spare := by
  rw [List.set_append_left _ _ (by simpa [u64s] using hk)]
  simp [u64s, List.map_set]
/-- The cells of a slice that the call itself made: whatever they are, each can be written. -/
def Room (w : World) (G n : Nat) : Prop := ∃ cs : List Value, n ≤ cs.length ∧ Blk w G cs 31
theorem Room.cell {w : World} {G n : Nat} (h : Room w G n) {i : Nat} (hi : i < n) : (∃ v, w.cell? ⟨G, i, none⟩ = some v) ∧ w.frozen? ⟨G, i, none⟩ = false := by
  obtain ⟨cs, hn, hb⟩ := h
  exact ⟨⟨cs[i]'(by omega), (hb.cell i).trans (List.getElem?_eq_getElem (by omega))⟩, hb.frozen i⟩
theorem Room.set {w : World} {G n : Nat} (h : Room w G n) (i : Nat) (v : Value) : Room (w.setCell ⟨G, i, none⟩ v) G n := by
  obtain ⟨cs, hn, hb⟩ := h
  exact ⟨cs.set i v, by simpa using hn, hb.set i v⟩
/-- What the last loop's test knows. -/
def cntOf : List Bool → Int
  | [true] => 1
  | _ => 0
def lenOf (p t g : Int) : Nat := (20 + p * 264 + t * 3 + g * 2).toNat
def fresh (ws : List Int) : St := ⟨ws, 0, 0, ⟨0, 0, 0, 0, 0, false⟩⟩

theorem lay_no (p t g : Int) (a : Option Addr) (n c : Nat) (w : World) (h : ¬ FewP p t g ∨ 400 < n) :
    Calls Try.prog 10 #[.agg #[.int .i64 p, .int .i64 t, .int .i64 g, .slice a n c]] w fun e w' => e = .returned (.tuple #[.pointer none, .pointer none, .pointer none, .bool false]) ∧ Below w.heap.size w w' := by
  by_cases hf : FewP p t g
  · have hn : decide ((400 : Int) < (n : Int)) = true := decide_eq_true (by rcases h with h | h; exact absurd hf h; omega)
    have HF := hid hf
    clear h hf
    go_enter Try.func10, Try.ntmps10
    go_wp2_with fail
    refine (few_yes _ _ _ _ HF.out).mono ?_
    rintro e w1 ⟨rfl, hb⟩
    have hB := (Blk.new w [.int .i64 p, .int .i64 t, .int .i64 g, .slice a n c] 36).quiet hb
    have b3 := hB.cell 3
    simp only [List.getElem?_cons_zero, List.getElem?_cons_succ] at b3
    have hlow := Below.then_ (below_one w (.cells #[.int .i64 p, .int .i64 t, .int .i64 g, .slice a n c] 36)) hb
    clear hB hb
    go_wp2
    exact bodyPost_ret (v := .tuple #[.pointer none, .pointer none, .pointer none, .bool false]) (by simp [results, Try.results10, go_sem]) rfl ⟨rfl, hlow⟩
  · have HF := hid hf
    clear h hf
    go_enter Try.func10, Try.ntmps10
    go_wp2_with fail
    refine (few_no _ _ _ _ HF.out).mono ?_
    rintro e w1 ⟨rfl, hb⟩
    have hlow := Below.then_ (below_one w (.cells #[.int .i64 p, .int .i64 t, .int .i64 g, .slice a n c] 36)) hb
    clear hb
    go_wp2
    exact bodyPost_ret (v := .tuple #[.pointer none, .pointer none, .pointer none, .bool false]) (by simp [results, Try.results10, go_sem]) rfl ⟨rfl, hlow⟩

/-- What a ground is laid to. -/
structure Laid (w w' : World) (l m g rm rg : Nat) (p t gs : Int) (ws : List Int) : Prop where
  lay : Lay w' l p t gs
  mem : MemAt w' m g (fresh ws)
  rmem : RMemAt w' rm rg (fresh ws)
  low : Below w.heap.size w w'
  low5 : w.heap.size ≤ l ∧ w.heap.size ≤ m ∧ w.heap.size ≤ g ∧ w.heap.size ≤ rm ∧ w.heap.size ≤ rg
  ord : l < m ∧ l < g ∧ m < rm ∧ m < rg ∧ g < rm ∧ g < rg
theorem lay_yes (p t gs : Int) (a : Option Addr) (c : Nat) (puts : List PutT) (w : World) (h : FewP p t gs) (hn : puts.length ≤ 400) (hr : RowOf encP 2 w a puts) (hwf : ∀ q ∈ puts, 0 ≤ q.2 ∧ q.2 < 18446744073709551616) :
    Calls Try.prog 10 #[.agg #[.int .i64 p, .int .i64 t, .int .i64 gs, .slice a puts.length c]] w fun e w' => ∃ l m g rm rg, e = .returned (.tuple #[.pointer (some ⟨l, 0, none⟩), .pointer (some ⟨m, 0, none⟩), .pointer (some ⟨rm, 0, none⟩), .bool true]) ∧ Laid w w' l m g rm rg p t gs (layW (lenOf p t gs) puts) := by
  have hR : Right p t gs := h.1
  have hR' := hR
  unfold Right at hR'
  have hN : (20 + p * 264 + t * 3 + gs * 2) = ((lenOf p t gs : Nat) : Int) := by unfold lenOf; omega
  obtain ⟨N, hNd⟩ : ∃ N, N = lenOf p t gs := ⟨_, rfl⟩
  have hN1 : 20 ≤ N ∧ N ≤ 100000 := by rw [hNd]; unfold lenOf; obtain ⟨_, q1, q2, q3⟩ := h; omega
  rw [← hNd] at hN ⊢
  have HF := hid h
  have HR := hid hR
  have HN := hid hN
  have HP := hid hr
  have HW := hid (layW_wf N puts hwf)
  obtain ⟨i0, hi, hz0, hz1, hz2⟩ := info_parts info64
  have hd4 : decide ((400 : Int) < (puts.length : Int)) = false := decide_eq_false (by omega)
  clear h hR hR' hN hNd hr hwf
  go_enter Try.func10, Try.ntmps10
  go_wp2_with fail
  refine (few_yes _ _ _ _ HF.out).mono ?_
  rintro e w1 ⟨rfl, hb⟩
  have hB1 := (Blk.new w [.int .i64 p, .int .i64 t, .int .i64 gs, .slice a puts.length c] 36).quiet hb
  have hlow1 := Below.then_ (below_one w (.cells #[.int .i64 p, .int .i64 t, .int .i64 gs, .slice a puts.length c] 36)) hb
  clear hb
  have b0 := hB1.cell 0
  have b1 := hB1.cell 1
  have b2 := hB1.cell 2
  have b3 := hB1.cell 3
  simp only [List.getElem?_cons_zero, List.getElem?_cons_succ] at b0 b1 b2 b3
  go_wp2_with fail
  refine (rlen_run _ _ _ _ HR.out).mono ?_
  rintro e w2 ⟨rfl, hb⟩
  rw [HN.out]
  have hB2 := hB1.quiet hb
  have hlow2 := Below.then_ hlow1 hb
  clear hb hB1 hlow1 b0 b1 b2 b3
  have b3 := hB2.cell 3
  simp only [List.getElem?_cons_zero, List.getElem?_cons_succ] at b3
  go_wp2_with (first | (at_make; refine wpList_make_full _ rfl _ _ 85 rfl w2.heap.size 31 i0 (.int .u64 0) 1 Try.underlying85 hi hz0 hz1 .i64 .i64 N N N rfl rfl rfl rfl (by rw [hz2]; omega) (by unfold maxLen; omega) (by first | exact Nat.le_refl _ | simp) ?_))
  intro w3 hown hgrow
  rw [made_zero] at hown
  obtain ⟨g0, _, cap0, spare, he, _, hG3⟩ := of_own (n := N) (xs := List.replicate N 0) (by simp) hown (by simp)
  obtain ⟨rfl, _⟩ : w2.heap.size = g0 ∧ True := by simp at he; exact ⟨he.1, trivial⟩
  have hl3 : Below w2.heap.size w2 w3 := (Below.refl _ w2).grown hgrow (Nat.le_refl _) (by simp)
  have hB3 := hB2.quiet hl3
  have hlow3 := Below.then_ hlow2 hl3
  have hH : w.heap.size < w2.heap.size := hB2.lt
  clear he hown hgrow hB2 hl3 b3 hlow2
  have b3 := hB3.cell 3
  simp only [List.getElem?_cons_zero, List.getElem?_cons_succ] at b3
  go_wp2_with fail
  go_loopw [7] (fun i wr => ∃ k : Nat, k ≤ puts.length ∧ i = .int .i64 (k : Int) ∧ Blk wr w.heap.size [.int .i64 p, .int .i64 t, .int .i64 gs, .slice a puts.length c] 36 ∧ Blk wr w2.heap.size (u64s (layTo N puts k) ++ spare) 31 ∧ Below w.heap.size w wr) (fun i _ => puts.length - (intOf i).toNat)
  case atStart => exact ⟨0, Nat.zero_le _, rfl, hB3, hG3, hlow3⟩
  case round =>
    clear hB3 hG3 hlow3 b3
    obtain ⟨k, hk, rfl, hB, hG, hlow⟩ := hrel
    have b3 := hB.cell 3
    have hlL := layTo_len N puts k
    simp only [List.getElem?_cons_zero, List.getElem?_cons_succ] at b3
    by_cases hkn : k < puts.length
    · obtain ⟨x, rfl, hx⟩ := HP.out.quiet hlow k hkn
      have hx0 := hx 0 _ rfl
      have hx1 := hx 1 _ rfl
      have HS := hid (layTo_succ N puts k hkn)
      obtain ⟨⟨pa, pw⟩, hq⟩ : ∃ q : PutT, puts[k] = q := ⟨_, rfl⟩
      rw [hq] at hx0 hx1 HS
      rw [add_next] at hx1
      simp only [Nat.add_zero, Nat.zero_add] at hx0 hx1
      clear hq hx
      have hxb : x.block < w.heap.size := by
        obtain ⟨x', hx', hx2⟩ := HP.out k hkn
        cases hx'
        simpa using cell_lt (hx2 0 _ rfl)
      obtain ⟨L, hL⟩ : ∃ L, L = layTo N puts k := ⟨_, rfl⟩
      rw [← hL] at hG hlL HS
      clear hL
      have k0 : (0 : Int) ≤ (k : Int) := by omega
      have k1 : (k : Int) < (puts.length : Int) := by omega
      by_cases hin : 0 ≤ pa ∧ pa < (L.length : Int)
      · have HQ := hid (show putW L (pa, pw) = L.set pa.toNat pw from if_pos hin)
        obtain ⟨q0, q1⟩ := hin
        have q2 : pa < (N : Int) := by omega
        have q3 : pa.toNat < L.length := by omega
        go_wp2_with fail
        have hI : Blk wr.drew w.heap.size [.int .i64 p, .int .i64 t, .int .i64 gs, .slice (some x) puts.length c] 36 ∧ Blk wr.drew w2.heap.size (u64s L ++ spare) 31 ∧ Below w.heap.size w wr.drew ∧ wr.drew.cell? (x.add (k * 2)) = some (.int .i64 pa) ∧ wr.drew.cell? ⟨x.block, (x.add (k * 2)).off + 1, none⟩ = some (.int .u64 pw) := ⟨hB, hG, hlow.drew, hx0, hx1⟩
        refine wp_region_T 14 (fun w' => Blk w' w.heap.size [.int .i64 p, .int .i64 t, .int .i64 gs, .slice (some x) puts.length c] 36 ∧ Blk w' w2.heap.size (u64s L ++ spare) 31 ∧ Below w.heap.size w w' ∧ w'.cell? (x.add (k * 2)) = some (.int .i64 pa) ∧ w'.cell? ⟨x.block, (x.add (k * 2)).off + 1, none⟩ = some (.int .u64 pw))
          (fun w' => Blk w' w.heap.size [.int .i64 p, .int .i64 t, .int .i64 gs, .slice (some x) puts.length c] 36 ∧ Blk w' w2.heap.size (u64s (L.set pa.toNat pw) ++ spare) 31 ∧ Below w.heap.size w w') (by kernel_rfl) (by kernel_rfl) rfl (by kernel_rfl) hI ?_
        clear hB hG hlow hx0 hx1 b3 hI
        repeat (first | (apply walkD_pure; rfl; rfl; (intro _; go_simp; first | done | rfl); (intro K hK; go_simp; refine hK _ ?_; clear hK K)) | (apply walkD_skip; rfl; rfl; (intro K hK; go_simp; refine hK _ ?_; clear hK K)) | (apply walkD_read1 [false] (by kernel_rfl); rfl; rfl; (intro w' hD; have y0 := Blk.cell hD.1 3; have y1 := hD.2.2.2.1; have y2 := hD.2.2.2.2; simp only [List.getElem?_cons_zero, List.getElem?_cons_succ] at y0; go_simp; rfl); (intro K hK; go_simp; refine hK _ ?_; clear hK K)))
        apply walkD_turn1 (v := undef) [false] (by kernel_rfl); rfl
        · intro w' hD
          have y0 := (Blk.cell hD.2.1 pa.toNat).trans (List.getElem?_append_left (by rw [u64s_length]; exact q3))
          rw [u64s_get L _ q3] at y0
          have y1 := Blk.frozen hD.2.1 pa.toNat
          unfold Go.Proofs.Ytnmkfmaohflejaa.Flag.opAt
          go_simp
          refine ⟨⟨Blk.far hD.1 (by simp; omega) _, ?_, hD.2.2.1.setCell (by simp; omega) _⟩, rfl⟩
          have := Blk.set hD.2.1 pa.toNat (.int .u64 pw)
          rwa [u64s_set' _ _ _ _ q3] at this
        (intro K hK; go_simp; refine hK _ ?_; clear hK K)
        repeat (first | (apply walkD_pure; rfl; rfl; (intro _; go_simp; first | done | rfl); (intro K hK; go_simp; refine hK _ ?_; clear hK K)) | (apply walkD_skip; rfl; rfl; (intro K hK; go_simp; refine hK _ ?_; clear hK K)))
        rintro w' ⟨hB', hG', hlow'⟩
        rw [← HQ.out, ← HS.out] at hG'
        go_wp2
        go_roundw
        case rel => first | exact ⟨k + 1, by omega, by go_num, hB', hG', hlow'⟩ | ((repeat apply Exists.intro); exact ⟨⟨k + 1, by omega, by go_num, hB', hG', hlow'⟩, rfl⟩)
        case measure => simp only [intOf]; omega
      · have HQ := hid (show putW L (pa, pw) = L from if_neg hin)
        by_cases q0 : 0 ≤ pa
        · have q1 : (N : Int) ≤ pa := by omega
          rw [← HQ.out, ← HS.out] at hG
          clear hin
          go_wp2
          go_roundw
          case rel => first | exact ⟨k + 1, by omega, by go_num, hB, hG, hlow⟩ | ((repeat apply Exists.intro); exact ⟨⟨k + 1, by omega, by go_num, hB, hG, hlow⟩, rfl⟩)
          case measure => simp only [intOf]; omega
        · have q1 : pa < 0 := by omega
          have q2 : decide (0 ≤ pa) = false := decide_eq_false q0
          rw [← HQ.out, ← HS.out] at hG
          clear hin q0
          go_wp2
          go_roundw
          case rel => first | exact ⟨k + 1, by omega, by go_num, hB, hG, hlow⟩ | ((repeat apply Exists.intro); exact ⟨⟨k + 1, by omega, by go_num, hB, hG, hlow⟩, rfl⟩)
          case measure => simp only [intOf]; omega
    · obtain rfl : k = puts.length := by omega
      have hG' : Blk wr w2.heap.size (u64s (layW N puts) ++ spare) 31 := hG
      obtain ⟨L, hL⟩ : ∃ L, L = layW N puts := ⟨_, rfl⟩
      have hLl : L.length = N := by rw [hL]; exact layTo_len N puts _
      rw [← hL] at hG' HW
      have HL := hid hL
      have b0 := hB.cell 0
      have b1 := hB.cell 1
      have b2 := hB.cell 2
      simp only [List.getElem?_cons_zero, List.getElem?_cons_succ] at b0 b1 b2
      have hlt : w2.heap.size < wr.heap.size := hG.lt
      clear hL hG hkn hlL
      go_wp2_with fail
      refine (of_yes _ _ _ _ HR.out).mono ?_
      rintro e w4 ⟨l, hl0, rfl, hLay, hb⟩
      have hG4 := hG'.quiet hb
      have hlow4 := Below.then_ hlow hb
      have hll4 := hLay.1.lt
      clear hb hG' hlow b0 b1 b2 b3 hB
      have hcells : ∀ i (h : i < L.length), w4.cell? ((⟨w2.heap.size, 0, none⟩ : Addr).add i) = some (.int .u64 L[i]) := by
        intro i hi
        rw [show (⟨w2.heap.size, 0, none⟩ : Addr).add i = ⟨w2.heap.size, i, none⟩ by unfold Addr.add; split <;> simp_all]
        exact ((hG4.cell i).trans (List.getElem?_append_left (by rw [u64s_length]; exact hi))).trans (u64s_get L i hi)
      have HC := hid hcells
      have HLL := hid hLl
      have HNl := hid hN1
      clear hcells hLl hG4 hN1
      go_wp2_with fail
      rw [← HLL.out]
      refine (mof_run ⟨w2.heap.size, 0, none⟩ _ L _ (by have := HLL.out; have := HNl.out; omega) HW.out HC.out).mono ?_
      rintro e w5 ⟨m, g, rfl, hm0, hg0, hM, hb⟩
      have hLay5 := hLay.quiet hb
      have hlow5 := Below.then_ hlow4 hb
      have HC5 := hid (show ∀ i (h : i < L.length), w5.cell? ((⟨w2.heap.size, 0, none⟩ : Addr).add i) = some (.int .u64 L[i]) by
        intro i hi
        rw [hb.cell (by simp; have := hb.size; omega)]; exact HC.out i hi)
      clear hb hLay HC
      go_wp2_with fail
      refine (rnew_run ⟨w2.heap.size, 0, none⟩ _ L _ (by have := HLL.out; have := HNl.out; omega) (by have := HLL.out; have := HNl.out; omega) HW.out HC5.out).mono ?_
      rintro e w6 ⟨rm, rg, rfl, hrm, hrg, hRM, hb⟩
      have hLay6 := hLay5.quiet hb
      have hM6 := hM.quiet hb
      have hlow6 := Below.then_ hlow5 hb
      have HFIN := hid (show Laid w w6 l m g rm rg p t gs L from ⟨hLay6, hM6, hRM, hlow6, by have := hM.ltm; have := hM.ltg; have := hlow4.size; omega, by have := hM.ltm; have := hM.ltg; omega⟩)
      clear hb hLay5 hM hlow5 hLay6 hM6 hRM hlow6 HC5
      go_wp2
      exact bodyPost_ret (v := .tuple #[.pointer (some ⟨l, 0, none⟩), .pointer (some ⟨m, 0, none⟩), .pointer (some ⟨rm, 0, none⟩), .bool true]) (by simp [results, Try.results10, go_sem]) rfl ⟨l, m, g, rm, rg, rfl, HL.out ▸ HFIN.out⟩
end Go.Proofs.Ytnmkfmaohflejaa.Run
end

section
/- Acquiring a lock: what is called from outside. -/
set_option maxRecDepth 100000
set_option maxHeartbeats 4000000
set_option linter.unusedVariables false
set_option linter.unusedSimpArgs false
namespace Go.Proofs.Ytnmkfmaohflejaa.Lock
open Go.RowKit Go.Shelf Go.Proofs.Ytnmkfmaohflejaa.TK Go.Proofs.Ytnmkfmaohflejaa.Flag Go.Proofs.Ytnmkfmaohflejaa.Words Go.Proofs.Ytnmkfmaohflejaa.Mem Go.Proofs.Ytnmkfmaohflejaa.Flow Go.Proofs.Ytnmkfmaohflejaa.Layout
theorem astep_nil (m : Option Addr) (w : World) : Calls Try.prog 14 #[.pointer none, .pointer m] w fun e w' => e = .returned (.bool true) ∧ w = w' := by
  go_enter Try.func14, Try.ntmps14
  go_wp2
  go_ret
  exact ⟨rfl, rfl⟩
theorem adone_nil (w : World) : Calls Try.prog 61 #[.pointer none] w fun e w' => e = .returned (.bool true) ∧ w = w' := by
  go_enter Try.func61, Try.ntmps61
  go_wp2
  go_ret
  exact ⟨rfl, rfl⟩
theorem aturn_nil (w : World) : Calls Try.prog 15 #[.pointer none] w fun e w' => e = .returned (.tuple #[.int .u64 0, .bool false]) ∧ w = w' := by
  go_enter Try.func15, Try.ntmps15
  go_wp2
  go_ret2
  exact ⟨rfl, rfl⟩
theorem rlstep_nil (m : Option Addr) (w : World) : Calls Try.prog 13 #[.pointer none, .pointer m] w fun e w' => e = .returned (.bool true) ∧ w = w' := by
  go_enter Try.func13, Try.ntmps13
  go_wp2
  go_ret
  exact ⟨rfl, rfl⟩
theorem rldone_nil (w : World) : Calls Try.prog 11 #[.pointer none] w fun e w' => e = .returned (.bool true) ∧ w = w' := by
  go_enter Try.func11, Try.ntmps11
  go_wp2
  go_ret
  exact ⟨rfl, rfl⟩
theorem astep_run (x l m g : Nat) (k who : Int) (st : AcqSt) (s : St) (w : World) (hA : AcqAt w x l k who st) (hM : MemAt w m g s) (hw : 0 ≤ who ∧ who ≤ 1000) (hc : s.clock < 1000000) (hbd : s.bad < 1000000) :
    Calls Try.prog 14 #[.pointer (some ⟨x, 0, none⟩), .pointer (some ⟨m, 0, none⟩)] w fun e w' => e = .returned (.bool (st.step k who s).1.over) ∧ AcqAt w' x l k who (st.step k who s).1 ∧ MemAt w' m g (st.step k who s).2 ∧ Kept [x, m, g] w w' := by
  have H := hid (acq_fstep x l m g k who st s w hA hM hw hc hbd)
  generalize st.step k who s = r at H ⊢
  clear hA hM
  go_enter Try.func14, Try.ntmps14
  go_wp2_with fail
  refine H.out.mono ?_
  rintro e w1 ⟨rfl, h1, h2, h3⟩
  go_wp2
  go_ret
  exact ⟨rfl, h1, h2, h3⟩
theorem adone_run (x l : Nat) (k who : Int) (st : AcqSt) (w : World) (hA : AcqAt w x l k who st) :
    Calls Try.prog 61 #[.pointer (some ⟨x, 0, none⟩)] w fun e w' => e = .returned (.bool st.over) ∧ w = w' := by
  obtain ⟨f, hF, _, ho, hf⟩ := hA.fl
  have H := fdone_any x f _ _ w hF hf
  rw [ho] at H
  have H := hid H
  clear hA hF ho hf
  go_enter Try.func61, Try.ntmps61
  go_wp2_with fail
  refine H.out.mono ?_
  rintro e w1 ⟨rfl, rfl⟩
  go_wp2
  go_ret
  exact ⟨rfl, rfl⟩
theorem aturn_run (x l : Nat) (k who : Int) (st : AcqSt) (w : World) (hA : AcqAt w x l k who st) :
    Calls Try.prog 15 #[.pointer (some ⟨x, 0, none⟩)] w fun e w' => e = .returned (.tuple #[.int .u64 st.turn, .bool st.known]) ∧ Below w.heap.size w w' := by
  obtain ⟨f, hF, _, ho, hf⟩ := hA.fl
  have c0 := Blk.cell hF 11
  have c1 := Blk.cell hF 12
  simp only [fl, acqR, List.cons_append, List.nil_append, List.getElem?_cons_zero, List.getElem?_cons_succ] at c0 c1
  clear hA hF ho hf
  go_enter Try.func15, Try.ntmps15
  go_wp2_with fail
  go_quiet (fail)
  go_wp2
  go_ret2
  exact ⟨rfl, below_drewN (Below.refl _ _) nq⟩
end Go.Proofs.Ytnmkfmaohflejaa.Lock
end

section
/- The locks' example. -/
set_option maxRecDepth 100000
set_option maxHeartbeats 4000000
set_option linter.unusedVariables false
set_option linter.unusedSimpArgs false
namespace Go.Proofs.Ytnmkfmaohflejaa.Lock
open Go.RowKit Go.Shelf Go.Proofs.Ytnmkfmaohflejaa.TK Go.Proofs.Ytnmkfmaohflejaa.Flag Go.Proofs.Ytnmkfmaohflejaa.Words Go.Proofs.Ytnmkfmaohflejaa.Mem Go.Proofs.Ytnmkfmaohflejaa.Flow Go.Proofs.Ytnmkfmaohflejaa.Layout Go.Proofs.Ytnmkfmaohflejaa.Run
def s0 : St := fresh (layW (lenOf 1 2 1) [])
theorem few121 : FewP 1 2 1 := by unfold FewP Right; omega
theorem ex_run : (AcqSt.ask.step 1 1 s0).1.over = false ∧ ((AcqSt.ask.step 1 1 s0).1.step 1 1 (AcqSt.ask.step 1 1 s0).2).1.over = false
    ∧ (((AcqSt.ask.step 1 1 s0).1.step 1 1 (AcqSt.ask.step 1 1 s0).2).1.step 1 1 ((AcqSt.ask.step 1 1 s0).1.step 1 1 (AcqSt.ask.step 1 1 s0).2).2).1.over = true
    ∧ (((AcqSt.ask.step 1 1 s0).1.step 1 1 (AcqSt.ask.step 1 1 s0).2).1.step 1 1 ((AcqSt.ask.step 1 1 s0).1.step 1 1 (AcqSt.ask.step 1 1 s0).2).2).2.peek 5 = (2, true)
    ∧ s0.clock = 0 ∧ s0.bad = 0 ∧ (AcqSt.ask.step 1 1 s0).2.clock = 1 ∧ (AcqSt.ask.step 1 1 s0).2.bad = 0 ∧ ((AcqSt.ask.step 1 1 s0).1.step 1 1 (AcqSt.ask.step 1 1 s0).2).2.clock = 2 ∧ ((AcqSt.ask.step 1 1 s0).1.step 1 1 (AcqSt.ask.step 1 1 s0).2).2.bad = 0 := by
  refine ⟨?_, ?_, ?_, ?_, ?_, ?_, ?_, ?_, ?_, ?_⟩ <;> decide +kernel
theorem awake_run (w : World) : Calls Try.prog 9 #[] w fun e w' => e = .returned (.bool true) ∧ Below w.heap.size w w' := by
  obtain ⟨e1, e2, e3, e4, e5, e6, e7, e8, e9, e10⟩ := ex_run
  generalize hr1 : AcqSt.ask.step 1 1 s0 = r1 at *
  generalize hr2 : r1.1.step 1 1 r1.2 = r2 at *
  generalize hr3 : r2.1.step 1 1 r2.2 = r3 at *
  have HR1 := hid hr1
  have HR2 := hid hr2
  have HR3 := hid hr3
  have E1 := hid e1
  have E2 := hid e2
  have E3 := hid e3
  have E4 := hid e4
  clear hr1 hr2 hr3 e1 e2 e3 e4
  go_enter Try.func9, Try.ntmps9
  go_wp2_with fail
  refine (lay_yes 1 2 1 none 0 [] _ few121 (by simp) ?_ (by simp)).mono ?_
  · intro i hi; simp at hi
  rintro e w1 ⟨l, m, g, rm, rg, rfl, hL⟩
  have hM := hL.mem
  have hlow := hL.low
  obtain ⟨q1, q2, q3, q4, q5⟩ := hL.low5
  clear hL
  go_wp2_with fail
  refine (acq_new l 1 1 w1).mono ?_
  rintro e w2 ⟨rfl, hA, hb⟩
  replace hM := hM.quiet hb
  have hlow2 := hlow.trans (hb.mono hlow.size)
  have hA : AcqAt w2 w1.heap.size l 1 1 .ask := hA
  have q6 := hlow.size
  generalize w1.heap.size = x at *
  clear hlow hb
  go_wp2_with fail
  refine (astep_run x l m g 1 1 .ask s0 w2 hA hM (by omega) (by omega) (by omega)).mono ?_
  rintro e w3 ⟨rfl, hA3, hM3, hK3⟩
  rw [HR1.out] at hA3 hM3 ⊢
  rw [E1.out]
  go_wp2_with fail
  refine (astep_run x l m g 1 1 _ _ w3 hA3 hM3 (by omega) (by omega) (by omega)).mono ?_
  rintro e w4 ⟨rfl, hA4, hM4, hK4⟩
  rw [HR2.out] at hA4 hM4 ⊢
  rw [E2.out]
  go_wp2_with fail
  refine (astep_run x l m g 1 1 _ _ w4 hA4 hM4 (by omega) (by omega) (by omega)).mono ?_
  rintro e w5 ⟨rfl, hA5, hM5, hK5⟩
  rw [HR3.out] at hA5 hM5 ⊢
  rw [E3.out]
  have hlow5 : Below w.heap.size w w5 := hlow2.trans (((hK3.trans hK4 (by intro i hi; exact .inl hi)).trans hK5 (by intro i hi; exact .inl hi)).below (by simp; omega) hlow2.size)
  go_wp2_with fail
  refine (mpeek_run m g _ 5 w5 hM5).mono ?_
  rintro e w6 ⟨rfl, rfl⟩
  rw [E4.out]
  go_wp2_with fail
  refine (adone_run x l 1 1 _ w5 hA5).mono ?_
  rintro e w6 ⟨rfl, rfl⟩
  rw [E3.out]
  go_wp2
  go_ret
  exact ⟨rfl, hlow5⟩
end Go.Proofs.Ytnmkfmaohflejaa.Lock
end

section
/- The document's runs: its accesses by name, and a turn. -/
set_option maxRecDepth 100000
set_option maxHeartbeats 4000000
set_option linter.unusedVariables false
set_option linter.unusedSimpArgs false
namespace Go.Proofs.Ytnmkfmaohflejaa.Grow
open Go.RowKit Go.Proofs.Ytnmkfmaohflejaa.TK Go.Proofs.Ytnmkfmaohflejaa.Read
variable {α : Type} {P : Program}
theorem kept_grown {w w' : World} {row : Option Nat} (h : w.grownBy w' row) : Kept row.toList w w' :=
  ⟨h.os, h.tape, h.output, h.size, fun k hk hn => h.block k hk (by intro e; exact hn (by rw [← e]; simp))⟩
/-- As app_one; what is kept told to the block. -/
theorem app_oneK {w : World} {B : Nat} {T S : TypeId} {z : Value} {size bytes : Nat} {enc : α → List Value} {v : Value} {xs : List α} (x : α) {U : TypeId} {cs : Array Value}
    (hG : Grow w B T size enc v xs) (hE : Elem P T z size bytes) (hS : P.underlying S = some (.slice T)) (hzs : z.cells.size = size) (hsz : 0 < size) (hbz : bytes ≤ 1000)
    {ops : Array Oper} {rest : List Oper} {o : Oper} {a : Act} {Q : Exit → Act → World → Prop}
    (hgd : o.guard = none) (s x' : Operand) (ho : o.op = .call { callee := .builtin .append, args := #[s, x'], argTypes := #[S, S] }) (hs : a.eval s = v) (hx : a.eval x' = .slice (some ⟨w.heap.size, 0, none⟩) 1 1)
    (hc : cs.toList = enc x) (hl : (enc x).length = size) (h1 : ∀ u ∈ enc x, u.oneCell' = true) (hm : xs.length ≤ 1000000) (hB : B ≤ w.heap.size)
    (h : ∀ v' w', Grow w' B T size enc v' (xs ++ [x]) → Kept v.ownBlock.toList w w' → wpList P ops Q rest (a.put o.dst v') w') :
    wpList P ops Q (o :: rest) a (w.alloc (.cells cs U)) := by
  obtain ⟨i0, hi, hz0, hz1, hz2⟩ := info_parts hE
  have hb1 : (xs.length + 1) * bytes ≤ 1000001 * 1000 := Nat.mul_le_mul (by omega) hbz
  refine wpList_append_own _ hgd s x' S ho B T i0 _ size bytes hS hi hz0 hz1 hz2 hzs hsz v xs.length (xs.flatMap enc) hs (World.ownsRow.alloc hG _) ⟨w.heap.size, 0, none⟩ 1 1 (enc x) hx (by rw [hl, Nat.one_mul]) ?_ h1 (by unfold maxLen; omega) (by omega) (by simp; omega) ?_
  · intro j u hj
    have hb : Blk (w.alloc (.cells cs U)) w.heap.size cs.toList U := by
      have := Blk.new w cs.toList U
      simpa using this
    have e1 : (⟨w.heap.size, 0, none⟩ : Addr).add j = ⟨w.heap.size, j, none⟩ := by unfold Addr.add; split <;> simp_all
    rw [e1, hb.cell j, hc]
    exact hj
  · intro v' w' hown hgrow _
    refine h v' w' ?_ (((Kept.refl _ w).alloc _).trans (kept_grown hgrow) (by intro i hi; exact .inl hi))
    unfold Grow
    rw [List.length_append, List.flatMap_append]
    simpa using hown
end Go.Proofs.Ytnmkfmaohflejaa.Grow
namespace Go.Proofs.Ytnmkfmaohflejaa.Run
open Go.RowKit Go.Shelf Go.Proofs.Ytnmkfmaohflejaa.TK Go.Proofs.Ytnmkfmaohflejaa.Flag Go.Proofs.Ytnmkfmaohflejaa.Read Go.Proofs.Ytnmkfmaohflejaa.Grow Go.Proofs.Ytnmkfmaohflejaa.Words Go.Proofs.Ytnmkfmaohflejaa.Mem
/-- A turn does something. -/
def RunSt.turns (st : RunSt) (s : St) : Bool := st.stop && !(st.sleep && decide ((s.peek st.want.at_).1 = 0))
end Go.Proofs.Ytnmkfmaohflejaa.Run
end

section
/- The program's memory beside the document's. -/
set_option maxRecDepth 100000
set_option maxHeartbeats 4000000
set_option linter.unusedVariables false
set_option linter.unusedSimpArgs false
namespace Go.Proofs.Ytnmkfmaohflejaa.Run
open Go.RowKit Go.Shelf Go.Proofs.Ytnmkfmaohflejaa.TK Go.Proofs.Ytnmkfmaohflejaa.Flag Go.Proofs.Ytnmkfmaohflejaa.Read Go.Proofs.Ytnmkfmaohflejaa.Grow Go.Proofs.Ytnmkfmaohflejaa.Words Go.Proofs.Ytnmkfmaohflejaa.Mem
/-- Words in a row. -/
def RowAt (w : World) (ad : Addr) (xs : List Int) : Prop := ∀ i (h : i < xs.length), w.cell? (ad.add i) = some (.int .u64 xs[i])
theorem RowAt.quiet {w w' : World} {ad : Addr} {xs : List Int} (h : RowAt w ad xs) (hb : Below w.heap.size w w') : RowAt w' ad xs := fun i hi => by rw [hb.cell (by simpa using cell_lt (h i hi))]; exact h i hi
theorem acc2_old (s : St) (who at_ o x : Int) : s.acc 2 who at_ o x = s.acc 2 who at_ 0 x := by unfold St.acc; simp
theorem acc4_old (s : St) (who at_ o x : Int) : s.acc 4 who at_ o x = s.acc 4 who at_ 0 x := by unfold St.acc; simp
/-- An access as the law gives one. -/
structure ActT where
  kind : Int
  who : Int
  at_ : Int
  old : Int
  new : Int
def ActT.on (a : ActT) (s : St) : St := if a.kind = 2 then (s.acc 2 a.who a.at_ 0 a.new).1 else if a.kind = 3 then (s.acc 3 a.who a.at_ a.old a.new).1 else if a.kind = 4 then (s.acc 4 a.who a.at_ 0 a.new).1 else (s.acc 1 a.who a.at_ 0 0).1
/-- Two memories beside one another. -/
structure Both (w : World) (m g rm rg : Nat) (s : St) : Prop where
  mem : MemAt w m g s
  rmem : RMemAt w rm rg s
  n1 : m ≠ rg
  n2 : g ≠ rg
theorem Both.neR {w : World} {m g rm rg : Nat} {s : St} (h : Both w m g rm rg s) : m ≠ rm ∧ g ≠ rm := by
  obtain ⟨_, _, a, b, _⟩ := h.mem.ex
  obtain ⟨_, _, c, d, _⟩ := h.rmem.ex
  exact ⟨Blk.ne a c (by decide), Blk.ne b c (by decide)⟩
theorem Both.quiet {w w' : World} {m g rm rg : Nat} {s : St} (h : Both w m g rm rg s) (hb : Below w.heap.size w w') : Both w' m g rm rg s := ⟨h.mem.quiet hb, h.rmem.quiet hb, h.n1, h.n2⟩
theorem acc_eq (a b c d e : Int) (f : Bool) (w : World) : (binOp .eql 106 (.agg #[.int .i64 a, .int .i64 b, .int .i64 c, .int .u64 d, .int .u64 e, .bool f]) (.agg #[.int .i64 a, .int .i64 b, .int .i64 c, .int .u64 d, .int .u64 e, .bool f])).run Try.prog w = .ok (.bool true) w := by
  simp [go_sem]
end Go.Proofs.Ytnmkfmaohflejaa.Run
end
