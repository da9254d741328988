/- A ground, as it is laid. -/
import Derived.Test.YtokpgbocomhpiaaLay
set_option maxRecDepth 100000
set_option maxHeartbeats 4000000
set_option linter.unusedVariables false
set_option linter.unusedSimpArgs false
namespace Go.Proofs.Ytokpgbocomhpiaa.Layout
open Go.RowKit Go.Proofs.Ytokpgbocomhpiaa.TK
/-- Configs that statements go through. -/
def FewP (p t g : Int) : Prop := Right p t g ∧ p ≤ 4 ∧ t ≤ 8 ∧ g ≤ 60
instance (p t g : Int) : Decidable (FewP p t g) := by unfold FewP; infer_instance
theorem few_yes (p t g : Int) (w : World) (h : FewP p t g) :
    Calls Try.prog 132 #[.agg #[.int .i64 p, .int .i64 t, .int .i64 g]] w fun e w' => e = .returned (.bool true) ∧ Below w.heap.size w w' := by
  obtain ⟨hR, h1, h2, h3⟩ := h
  have hd : decide (Right p t g) = true := decide_eq_true hR
  clear hR
  go_enter Try.func132, Try.ntmps132
  go_wp2_with (first | (go_at_call 197; refine (rright_run _ _ _ _).mono ?_; rintro e w2 ⟨rfl, hb2⟩; have hB := ((Blk.new w [.int .i64 p, .int .i64 t, .int .i64 g] 36).quiet hb2); have b0 := hB.cell 0; have b1 := hB.cell 1; have b2 := hB.cell 2; simp only [List.getElem?_cons_zero, List.getElem?_cons_succ] at b0 b1 b2; clear hB))
  go_ret
  exact ⟨rfl, Below.then_ (below_one _ _) hb2⟩
theorem few_no (p t g : Int) (w : World) (h : ¬ FewP p t g) :
    Calls Try.prog 132 #[.agg #[.int .i64 p, .int .i64 t, .int .i64 g]] w fun e w' => e = .returned (.bool false) ∧ Below w.heap.size w w' := by
  by_cases hR : Right p t g
  · have hd : decide (Right p t g) = true := decide_eq_true hR
    have h' : ¬ (p ≤ 4 ∧ t ≤ 8 ∧ g ≤ 60) := fun x => h ⟨hR, x⟩
    rcases (show decide (p ≤ 4) = false ∨ (decide (p ≤ 4) = true ∧ decide (t ≤ 8) = false) ∨ (decide (p ≤ 4) = true ∧ decide (t ≤ 8) = true ∧ decide (g ≤ 60) = false) by simp only [decide_eq_false_iff_not, decide_eq_true_eq]; omega) with h1 | ⟨h1, h2⟩ | ⟨h1, h2, h3⟩
    all_goals (clear hR h h')
    all_goals go_enter Try.func132, Try.ntmps132
    all_goals go_wp2_with (first | (go_at_call 197; refine (rright_run _ _ _ _).mono ?_; rintro e w2 ⟨rfl, hb2⟩; have hB := ((Blk.new w [.int .i64 p, .int .i64 t, .int .i64 g] 36).quiet hb2); have b0 := hB.cell 0; have b1 := hB.cell 1; have b2 := hB.cell 2; simp only [List.getElem?_cons_zero, List.getElem?_cons_succ] at b0 b1 b2; clear hB))
    all_goals (go_ret; exact ⟨rfl, Below.then_ (below_one _ _) hb2⟩)
  · have hd : decide (Right p t g) = false := decide_eq_false hR
    clear hR h
    go_enter Try.func132, Try.ntmps132
    go_wp2_with (first | (go_at_call 197; refine (rright_run _ _ _ _).mono ?_; rintro e w2 ⟨rfl, hb2⟩))
    go_ret
    exact ⟨rfl, Below.then_ (below_one _ _) hb2⟩
theorem rlen_run (p t g : Int) (w : World) (h : Right p t g) :
    Calls Try.prog 133 #[.agg #[.int .i64 p, .int .i64 t, .int .i64 g]] w fun e w' => e = .returned (.int .i64 (20 + p * 264 + t * 3 + g * 2)) ∧ Below w.heap.size w w' := by
  unfold Right at h
  go_enter Try.func133, Try.ntmps133
  go_wp2
  go_ret
  exact ⟨ret_int (by omega), below_one _ _⟩


end Go.Proofs.Ytokpgbocomhpiaa.Layout
namespace Go.Proofs.Ytokpgbocomhpiaa.Run
open Go.RowKit Go.Shelf Go.Proofs.Ytokpgbocomhpiaa.TK Go.Proofs.Ytokpgbocomhpiaa.Flag Go.Proofs.Ytokpgbocomhpiaa.Read Go.Proofs.Ytokpgbocomhpiaa.Grow Go.Proofs.Ytokpgbocomhpiaa.Words Go.Proofs.Ytokpgbocomhpiaa.Mem Go.Proofs.Ytokpgbocomhpiaa.Layout

/-- The words of a ground. -/
abbrev PutT := Int × Int
def encP (q : PutT) : List Value := [.int .i64 q.1, .int .u64 q.2]
def putW (ws : List Int) (q : PutT) : List Int := if 0 ≤ q.1 ∧ q.1 < ws.length then ws.set q.1.toNat q.2 else ws
def layTo (n : Nat) (puts : List PutT) (k : Nat) : List Int := (puts.take k).foldl putW (List.replicate n 0)
def layW (n : Nat) (puts : List PutT) : List Int := layTo n puts puts.length
theorem putW_len (ws : List Int) (q : PutT) : (putW ws q).length = ws.length := by unfold putW; split <;> simp
theorem layTo_len (n : Nat) (puts : List PutT) (k : Nat) : (layTo n puts k).length = n := by
  unfold layTo
  have : ∀ (l : List PutT) (ws : List Int), (l.foldl putW ws).length = ws.length := by
    intro l; induction l with
    | nil => intro ws; rfl
    | cons q l ih => intro ws; rw [List.foldl_cons, ih, putW_len]
  rw [this]; simp
theorem layTo_succ (n : Nat) (puts : List PutT) (k : Nat) (h : k < puts.length) : layTo n puts (k + 1) = putW (layTo n puts k) puts[k] := by
  unfold layTo; rw [List.take_succ_eq_append_getElem h, List.foldl_append]; rfl
theorem layW_wf (n : Nat) (puts : List PutT) (h : ∀ q ∈ puts, 0 ≤ q.2 ∧ q.2 < 18446744073709551616) : ∀ x ∈ layW n puts, 0 ≤ x ∧ x < 18446744073709551616 := by
  unfold layW layTo
  rw [List.take_length]
  have : ∀ (l : List PutT) (ws : List Int), (∀ q ∈ l, 0 ≤ q.2 ∧ q.2 < 18446744073709551616) → (∀ x ∈ ws, 0 ≤ x ∧ x < 18446744073709551616) → ∀ x ∈ l.foldl putW ws, 0 ≤ x ∧ x < 18446744073709551616 := by
    intro l; induction l with
    | nil => intro ws _ hw; exact hw
    | cons q l ih =>
      intro ws hl hw
      rw [List.foldl_cons]
      refine ih _ (fun r hr => hl r (List.mem_cons_of_mem _ hr)) ?_
      unfold putW; split
      · exact wf_set hw _ (hl q List.mem_cons_self)
      · exact hw
  refine this puts _ h (fun x hx => ?_)
  rw [(List.mem_replicate.1 hx).2]; omega
theorem made_zero (n : Nat) : (madeCells #[Value.int .u64 0] n).toList = u64s (List.replicate n 0) := by
  have h : (madeCells #[Value.int .u64 0] n) = Array.replicate n (Value.int .u64 0) := by
    unfold madeCells
    apply Array.ext
    · simp
    · intro i h1 h2
      simp [Nat.mod_one]
  rw [h]
  simp [u64s]
theorem u64s_set (ys : List Int) (spare : List Value) (k : Nat) (x : Int) (hk : k < ys.length) : (u64s ys ++ spare).set k (.int .u64 x) = u64s (ys.set k x) ++ spare := by
  rw [List.set_append_left _ _ (by simpa [u64s] using hk)]
  simp [u64s, List.map_set]
/-- The cells of a slice that the call itself made: whatever they are, each can be written. -/
def Room (w : World) (G n : Nat) : Prop := ∃ cs : List Value, n ≤ cs.length ∧ Blk w G cs 25
theorem Room.cell {w : World} {G n : Nat} (h : Room w G n) {i : Nat} (hi : i < n) : (∃ v, w.cell? ⟨G, i, none⟩ = some v) ∧ w.frozen? ⟨G, i, none⟩ = false := by
  obtain ⟨cs, hn, hb⟩ := h
  exact ⟨⟨cs[i]'(by omega), (hb.cell i).trans (List.getElem?_eq_getElem (by omega))⟩, hb.frozen i⟩
theorem Room.set {w : World} {G n : Nat} (h : Room w G n) (i : Nat) (v : Value) : Room (w.setCell ⟨G, i, none⟩ v) G n := by
  obtain ⟨cs, hn, hb⟩ := h
  exact ⟨cs.set i v, by simpa using hn, hb.set i v⟩
/-- What the last loop's test knows. -/
def cntOf : List Bool → Int
  | [true] => 1
  | _ => 0
def lenOf (p t g : Int) : Nat := (20 + p * 264 + t * 3 + g * 2).toNat
def fresh (ws : List Int) : St := ⟨ws, 0, 0, ⟨0, 0, 0, 0, 0, false⟩⟩

theorem lay_no (p t g : Int) (a : Option Addr) (n c : Nat) (w : World) (h : ¬ FewP p t g ∨ 400 < n) :
    Calls Try.prog 32 #[.agg #[.int .i64 p, .int .i64 t, .int .i64 g, .slice a n c]] w fun e w' => e = .returned (.tuple #[.pointer none, .pointer none, .pointer none, .bool false]) ∧ Below w.heap.size w w' := by
  by_cases hf : FewP p t g
  · have hn : decide ((400 : Int) < (n : Int)) = true := decide_eq_true (by rcases h with h | h; exact absurd hf h; omega)
    have HF := hid hf
    clear h hf
    go_enter Try.func32, Try.ntmps32
    go_wp2_with fail
    refine (few_yes _ _ _ _ HF.out).mono ?_
    rintro e w1 ⟨rfl, hb⟩
    have hB := (Blk.new w [.int .i64 p, .int .i64 t, .int .i64 g, .slice a n c] 39).quiet hb
    have b3 := hB.cell 3
    simp only [List.getElem?_cons_zero, List.getElem?_cons_succ] at b3
    have hlow := Below.then_ (below_one w (.cells #[.int .i64 p, .int .i64 t, .int .i64 g, .slice a n c] 39)) hb
    clear hB hb
    go_wp2
    exact bodyPost_ret (v := .tuple #[.pointer none, .pointer none, .pointer none, .bool false]) (by simp [results, Try.results32, go_sem]) rfl ⟨rfl, hlow⟩
  · have HF := hid hf
    clear h hf
    go_enter Try.func32, Try.ntmps32
    go_wp2_with fail
    refine (few_no _ _ _ _ HF.out).mono ?_
    rintro e w1 ⟨rfl, hb⟩
    have hlow := Below.then_ (below_one w (.cells #[.int .i64 p, .int .i64 t, .int .i64 g, .slice a n c] 39)) hb
    clear hb
    go_wp2
    exact bodyPost_ret (v := .tuple #[.pointer none, .pointer none, .pointer none, .bool false]) (by simp [results, Try.results32, go_sem]) rfl ⟨rfl, hlow⟩

/-- What a ground is laid to. -/
structure Laid (w w' : World) (l m g rm rg : Nat) (p t gs : Int) (ws : List Int) : Prop where
  lay : Lay w' l p t gs
  mem : MemAt w' m g (fresh ws)
  rmem : RMemAt w' rm rg (fresh ws)
  low : Below w.heap.size w w'
  low5 : w.heap.size ≤ l ∧ w.heap.size ≤ m ∧ w.heap.size ≤ g ∧ w.heap.size ≤ rm ∧ w.heap.size ≤ rg
  ord : l < m ∧ l < g ∧ m < rm ∧ m < rg ∧ g < rm ∧ g < rg
theorem lay_yes (p t gs : Int) (a : Option Addr) (c : Nat) (puts : List PutT) (w : World) (h : FewP p t gs) (hn : puts.length ≤ 400) (hr : RowOf encP 2 w a puts) (hwf : ∀ q ∈ puts, 0 ≤ q.2 ∧ q.2 < 18446744073709551616) :
    Calls Try.prog 32 #[.agg #[.int .i64 p, .int .i64 t, .int .i64 gs, .slice a puts.length c]] w fun e w' => ∃ l m g rm rg, e = .returned (.tuple #[.pointer (some ⟨l, 0, none⟩), .pointer (some ⟨m, 0, none⟩), .pointer (some ⟨rm, 0, none⟩), .bool true]) ∧ Laid w w' l m g rm rg p t gs (layW (lenOf p t gs) puts) := by
  have hR : Right p t gs := h.1
  have hR' := hR
  unfold Right at hR'
  have hN : (20 + p * 264 + t * 3 + gs * 2) = ((lenOf p t gs : Nat) : Int) := by unfold lenOf; omega
  obtain ⟨N, hNd⟩ : ∃ N, N = lenOf p t gs := ⟨_, rfl⟩
  have hN1 : 20 ≤ N ∧ N ≤ 100000 := by rw [hNd]; unfold lenOf; obtain ⟨_, q1, q2, q3⟩ := h; omega
  rw [← hNd] at hN ⊢
  have HF := hid h
  have HR := hid hR
  have HN := hid hN
  have HP := hid hr
  have HW := hid (layW_wf N puts hwf)
  obtain ⟨i0, hi, hz0, hz1, hz2⟩ := info_parts info64
  have hd4 : decide ((400 : Int) < (puts.length : Int)) = false := decide_eq_false (by omega)
  clear h hR hR' hN hNd hr hwf
  go_enter Try.func32, Try.ntmps32
  go_wp2_with fail
  refine (few_yes _ _ _ _ HF.out).mono ?_
  rintro e w1 ⟨rfl, hb⟩
  have hB1 := (Blk.new w [.int .i64 p, .int .i64 t, .int .i64 gs, .slice a puts.length c] 39).quiet hb
  have hlow1 := Below.then_ (below_one w (.cells #[.int .i64 p, .int .i64 t, .int .i64 gs, .slice a puts.length c] 39)) hb
  clear hb
  have b0 := hB1.cell 0
  have b1 := hB1.cell 1
  have b2 := hB1.cell 2
  have b3 := hB1.cell 3
  simp only [List.getElem?_cons_zero, List.getElem?_cons_succ] at b0 b1 b2 b3
  go_wp2_with fail
  refine (rlen_run _ _ _ _ HR.out).mono ?_
  rintro e w2 ⟨rfl, hb⟩
  rw [HN.out]
  have hB2 := hB1.quiet hb
  have hlow2 := Below.then_ hlow1 hb
  clear hb hB1 hlow1 b0 b1 b2 b3
  have b3 := hB2.cell 3
  simp only [List.getElem?_cons_zero, List.getElem?_cons_succ] at b3
  go_wp2_with (first | (at_make; refine wpList_make_full _ rfl _ _ 60 rfl w2.heap.size 25 i0 (.int .u64 0) 1 Try.underlying60 hi hz0 hz1 .i64 .i64 N N N rfl rfl rfl rfl (by rw [hz2]; omega) (by unfold maxLen; omega) (by first | exact Nat.le_refl _ | simp) ?_))
  intro w3 hown hgrow
  rw [made_zero] at hown
  obtain ⟨g0, _, cap0, spare, he, _, hG3⟩ := of_own (n := N) (xs := List.replicate N 0) (by simp) hown (by simp)
  obtain ⟨rfl, _⟩ : w2.heap.size = g0 ∧ True := by simp at he; exact ⟨he.1, trivial⟩
  have hl3 : Below w2.heap.size w2 w3 := (Below.refl _ w2).grown hgrow (Nat.le_refl _) (by simp)
  have hB3 := hB2.quiet hl3
  have hlow3 := Below.then_ hlow2 hl3
  have hH : w.heap.size < w2.heap.size := hB2.lt
  clear he hown hgrow hB2 hl3 b3 hlow2
  have b3 := hB3.cell 3
  simp only [List.getElem?_cons_zero, List.getElem?_cons_succ] at b3
  go_wp2_with fail
  go_loopw [7] (fun i wr => ∃ k : Nat, k ≤ puts.length ∧ i = .int .i64 (k : Int) ∧ Blk wr w.heap.size [.int .i64 p, .int .i64 t, .int .i64 gs, .slice a puts.length c] 39 ∧ Blk wr w2.heap.size (u64s (layTo N puts k) ++ spare) 25 ∧ Below w.heap.size w wr) (fun i _ => puts.length - (intOf i).toNat)
  case atStart => exact ⟨0, Nat.zero_le _, rfl, hB3, hG3, hlow3⟩
  case round =>
    clear hB3 hG3 hlow3 b3
    obtain ⟨k, hk, rfl, hB, hG, hlow⟩ := hrel
    have b3 := hB.cell 3
    have hlL := layTo_len N puts k
    simp only [List.getElem?_cons_zero, List.getElem?_cons_succ] at b3
    by_cases hkn : k < puts.length
    · obtain ⟨x, rfl, hx⟩ := HP.out.quiet hlow k hkn
      have hx0 := hx 0 _ rfl
      have hx1 := hx 1 _ rfl
      have HS := hid (layTo_succ N puts k hkn)
      obtain ⟨⟨pa, pw⟩, hq⟩ : ∃ q : PutT, puts[k] = q := ⟨_, rfl⟩
      rw [hq] at hx0 hx1 HS
      rw [add_next] at hx1
      simp only [Nat.add_zero, Nat.zero_add] at hx0 hx1
      clear hq hx
      have hxb : x.block < w.heap.size := by
        obtain ⟨x', hx', hx2⟩ := HP.out k hkn
        cases hx'
        simpa using cell_lt (hx2 0 _ rfl)
      obtain ⟨L, hL⟩ : ∃ L, L = layTo N puts k := ⟨_, rfl⟩
      rw [← hL] at hG hlL HS
      clear hL
      have k0 : (0 : Int) ≤ (k : Int) := by omega
      have k1 : (k : Int) < (puts.length : Int) := by omega
      by_cases hin : 0 ≤ pa ∧ pa < (L.length : Int)
      · have HQ := hid (show putW L (pa, pw) = L.set pa.toNat pw from if_pos hin)
        obtain ⟨q0, q1⟩ := hin
        have q2 : pa < (N : Int) := by omega
        have q3 : pa.toNat < L.length := by omega
        go_wp2_with fail
        have hI : Blk wr.drew w.heap.size [.int .i64 p, .int .i64 t, .int .i64 gs, .slice (some x) puts.length c] 39 ∧ Blk wr.drew w2.heap.size (u64s L ++ spare) 25 ∧ Below w.heap.size w wr.drew ∧ wr.drew.cell? (x.add (k * 2)) = some (.int .i64 pa) ∧ wr.drew.cell? ⟨x.block, (x.add (k * 2)).off + 1, none⟩ = some (.int .u64 pw) := ⟨hB, hG, hlow.drew, hx0, hx1⟩
        refine wp_region_T 14 (fun w' => Blk w' w.heap.size [.int .i64 p, .int .i64 t, .int .i64 gs, .slice (some x) puts.length c] 39 ∧ Blk w' w2.heap.size (u64s L ++ spare) 25 ∧ Below w.heap.size w w' ∧ w'.cell? (x.add (k * 2)) = some (.int .i64 pa) ∧ w'.cell? ⟨x.block, (x.add (k * 2)).off + 1, none⟩ = some (.int .u64 pw))
          (fun w' => Blk w' w.heap.size [.int .i64 p, .int .i64 t, .int .i64 gs, .slice (some x) puts.length c] 39 ∧ Blk w' w2.heap.size (u64s (L.set pa.toNat pw) ++ spare) 25 ∧ Below w.heap.size w w') (by kernel_rfl) (by kernel_rfl) rfl (by kernel_rfl) hI ?_
        clear hB hG hlow hx0 hx1 b3 hI
        repeat (first | (apply walkD_pure; rfl; rfl; (intro _; go_simp; first | done | rfl); (intro K hK; go_simp; refine hK _ ?_; clear hK K)) | (apply walkD_skip; rfl; rfl; (intro K hK; go_simp; refine hK _ ?_; clear hK K)) | (apply walkD_read1 [false] (by kernel_rfl); rfl; rfl; (intro w' hD; have y0 := Blk.cell hD.1 3; have y1 := hD.2.2.2.1; have y2 := hD.2.2.2.2; simp only [List.getElem?_cons_zero, List.getElem?_cons_succ] at y0; go_simp; rfl); (intro K hK; go_simp; refine hK _ ?_; clear hK K)))
        apply walkD_turn1 (v := undef) [false] (by kernel_rfl); rfl
        · intro w' hD
          have y0 := (Blk.cell hD.2.1 pa.toNat).trans (List.getElem?_append_left (by rw [u64s_length]; exact q3))
          rw [u64s_get L _ q3] at y0
          have y1 := Blk.frozen hD.2.1 pa.toNat
          unfold Go.Proofs.Ytokpgbocomhpiaa.Flag.opAt
          go_simp
          refine ⟨⟨Blk.far hD.1 (by simp; omega) _, ?_, hD.2.2.1.setCell (by simp; omega) _⟩, rfl⟩
          have := Blk.set hD.2.1 pa.toNat (.int .u64 pw)
          rwa [u64s_set' _ _ _ _ q3] at this
        (intro K hK; go_simp; refine hK _ ?_; clear hK K)
        repeat (first | (apply walkD_pure; rfl; rfl; (intro _; go_simp; first | done | rfl); (intro K hK; go_simp; refine hK _ ?_; clear hK K)) | (apply walkD_skip; rfl; rfl; (intro K hK; go_simp; refine hK _ ?_; clear hK K)))
        rintro w' ⟨hB', hG', hlow'⟩
        rw [← HQ.out, ← HS.out] at hG'
        go_wp2
        go_roundw
        case rel => first | exact ⟨k + 1, by omega, by go_num, hB', hG', hlow'⟩ | ((repeat apply Exists.intro); exact ⟨⟨k + 1, by omega, by go_num, hB', hG', hlow'⟩, rfl⟩)
        case measure => simp only [intOf]; omega
      · have HQ := hid (show putW L (pa, pw) = L from if_neg hin)
        by_cases q0 : 0 ≤ pa
        · have q1 : (N : Int) ≤ pa := by omega
          rw [← HQ.out, ← HS.out] at hG
          clear hin
          go_wp2
          go_roundw
          case rel => first | exact ⟨k + 1, by omega, by go_num, hB, hG, hlow⟩ | ((repeat apply Exists.intro); exact ⟨⟨k + 1, by omega, by go_num, hB, hG, hlow⟩, rfl⟩)
          case measure => simp only [intOf]; omega
        · have q1 : pa < 0 := by omega
          have q2 : decide (0 ≤ pa) = false := decide_eq_false q0
          rw [← HQ.out, ← HS.out] at hG
          clear hin q0
          go_wp2
          go_roundw
          case rel => first | exact ⟨k + 1, by omega, by go_num, hB, hG, hlow⟩ | ((repeat apply Exists.intro); exact ⟨⟨k + 1, by omega, by go_num, hB, hG, hlow⟩, rfl⟩)
          case measure => simp only [intOf]; omega
    · obtain rfl : k = puts.length := by omega
      have hG' : Blk wr w2.heap.size (u64s (layW N puts) ++ spare) 25 := hG
      obtain ⟨L, hL⟩ : ∃ L, L = layW N puts := ⟨_, rfl⟩
      have hLl : L.length = N := by rw [hL]; exact layTo_len N puts _
      rw [← hL] at hG' HW
      have HL := hid hL
      have b0 := hB.cell 0
      have b1 := hB.cell 1
      have b2 := hB.cell 2
      simp only [List.getElem?_cons_zero, List.getElem?_cons_succ] at b0 b1 b2
      have hlt : w2.heap.size < wr.heap.size := hG.lt
      clear hL hG hkn hlL
      go_wp2_with fail
      refine (of_yes _ _ _ _ HR.out).mono ?_
      rintro e w4 ⟨l, hl0, rfl, hLay, hb⟩
      have hG4 := hG'.quiet hb
      have hlow4 := Below.then_ hlow hb
      have hll4 := hLay.1.lt
      clear hb hG' hlow b0 b1 b2 b3 hB
      have hcells : ∀ i (h : i < L.length), w4.cell? ((⟨w2.heap.size, 0, none⟩ : Addr).add i) = some (.int .u64 L[i]) := by
        intro i hi
        rw [show (⟨w2.heap.size, 0, none⟩ : Addr).add i = ⟨w2.heap.size, i, none⟩ by unfold Addr.add; split <;> simp_all]
        exact ((hG4.cell i).trans (List.getElem?_append_left (by rw [u64s_length]; exact hi))).trans (u64s_get L i hi)
      have HC := hid hcells
      have HLL := hid hLl
      have HNl := hid hN1
      clear hcells hLl hG4 hN1
      go_wp2_with fail
      rw [← HLL.out]
      refine (mof_run ⟨w2.heap.size, 0, none⟩ _ L _ (by have := HLL.out; have := HNl.out; omega) HW.out HC.out).mono ?_
      rintro e w5 ⟨m, g, rfl, hm0, hg0, hM, hb⟩
      have hLay5 := hLay.quiet hb
      have hlow5 := Below.then_ hlow4 hb
      have HC5 := hid (show ∀ i (h : i < L.length), w5.cell? ((⟨w2.heap.size, 0, none⟩ : Addr).add i) = some (.int .u64 L[i]) by
        intro i hi
        rw [hb.cell (by simp; have := hb.size; omega)]; exact HC.out i hi)
      clear hb hLay HC
      go_wp2_with fail
      refine (rnew_run ⟨w2.heap.size, 0, none⟩ _ L _ (by have := HLL.out; have := HNl.out; omega) (by have := HLL.out; have := HNl.out; omega) HW.out HC5.out).mono ?_
      rintro e w6 ⟨rm, rg, rfl, hrm, hrg, hRM, hb⟩
      have hLay6 := hLay5.quiet hb
      have hM6 := hM.quiet hb
      have hlow6 := Below.then_ hlow5 hb
      have HFIN := hid (show Laid w w6 l m g rm rg p t gs L from ⟨hLay6, hM6, hRM, hlow6, by have := hM.ltm; have := hM.ltg; have := hlow4.size; omega, by have := hM.ltm; have := hM.ltg; omega⟩)
      clear hb hLay5 hM hlow5 hLay6 hM6 hRM hlow6 HC5
      go_wp2
      exact bodyPost_ret (v := .tuple #[.pointer (some ⟨l, 0, none⟩), .pointer (some ⟨m, 0, none⟩), .pointer (some ⟨rm, 0, none⟩), .bool true]) (by simp [results, Try.results32, go_sem]) rfl ⟨l, m, g, rm, rg, rfl, HL.out ▸ HFIN.out⟩
end Go.Proofs.Ytokpgbocomhpiaa.Run
