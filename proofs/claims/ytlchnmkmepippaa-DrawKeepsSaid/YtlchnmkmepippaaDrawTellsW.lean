/- The walk of DrawTells. -/
import Derived.Test.YtlchnmkmepippaaDrawSkipsW
import Derived.Test.YtlchnmkmepippaaFlagB
set_option maxRecDepth 100000
set_option maxHeartbeats 4000000
set_option linter.unusedVariables false
set_option linter.unusedSimpArgs false
namespace Go.Proofs.Ytlchnmkmepippaa.Draw
open Go.RowKit Go.Proofs.Ytlchnmkmepippaa.TK Go.Proofs.Ytlchnmkmepippaa.Flag Go.Proofs.Ytlchnmkmepippaa.Read Go.Proofs.Ytlchnmkmepippaa.Words

theorem rleft_run (a : Option Addr) (cap : Nat) (xs : List Int) (told : Int) (w : World) (h0 : 0 ≤ told) (h1 : told ≤ 1000000) (h2 : xs.length ≤ 1000000) :
    Calls Try.prog 45 #[.agg #[.slice a xs.length cap, .int .i64 told]] w fun e w' => e = .returned (.int .i64 (max ((xs.length : Int) - told) 0)) ∧ Below w.heap.size w w' := by
  go_enter Try.func45, Try.ntmps45
  go_wp2
  all_goals (go_ret; exact ⟨ret_int (by omega), below_one _ _⟩)
theorem rpeek_run (a : Option Addr) (cap : Nat) (xs : List Int) (told i : Int) (w : World) (hr : RowOf (encI .u64) 1 w a xs) (h0 : 0 ≤ told) (h1 : told ≤ 1000000) (h2 : xs.length ≤ 1000000) :
    Calls Try.prog 78 #[.agg #[.slice a xs.length cap, .int .i64 told], .int .i64 i] w fun e w' => e = .returned (.int .u64 (peekOf xs told i)) ∧ Below w.heap.size w w' := by
  by_cases hi : i < 0
  · have HX := hid (show peekOf xs told i = 0 from if_pos hi)
    go_enter Try.func78, Try.ntmps78
    go_wp2
    go_ret
    exact ⟨ret_int HX.out.symm, below_one _ _⟩
  · have hi' : 0 ≤ i := by omega
    by_cases hl : (xs.length : Int) - i ≤ told
    · have HX := hid (show peekOf xs told i = 0 by unfold peekOf; rw [if_neg hi]; exact wordAt_out _ _ (by omega))
      go_enter Try.func78, Try.ntmps78
      go_wp2
      all_goals (go_ret; exact ⟨ret_int HX.out.symm, by first | exact below_drewN (below_one _ _) _ | exact below_one _ _⟩)
    · obtain ⟨k, hk⟩ : ∃ k : Nat, told + i = k := ⟨(told + i).toNat, by omega⟩
      have hkl : k < xs.length := by omega
      have HX := hid (show peekOf xs told i = xs[k] by unfold peekOf; rw [if_neg hi, hk]; exact wordAt_in _ _ hkl)
      obtain ⟨x, rfl, hx⟩ := hr.int_at hkl
      have hlt : x.block < w.heap.size := by simpa using cell_lt hx
      clear hr
      go_enter Try.func78, Try.ntmps78
      go_wp2
      all_goals (go_ret; exact ⟨ret_int HX.out.symm, by first | exact below_drewN (below_one _ _) _ | exact below_one _ _⟩)
theorem peek_next (xs : List Int) (told : Int) (h : 0 ≤ told) : peekOf xs told 0 = wordAt xs (min told xs.length) := by
  unfold peekOf
  rw [if_neg (by omega), Int.add_zero]
  by_cases hl : told < xs.length
  · rw [Int.min_eq_left (by omega)]
  · rw [wordAt_out _ _ (by omega), wordAt_out _ _ (by omega)]
theorem peek_min (xs : List Int) (told i : Int) (h : 0 ≤ told) : peekOf xs told i = peekOf xs (min told xs.length) i := by
  unfold peekOf
  by_cases hi : i < 0
  · rw [if_pos hi, if_pos hi]
  · rw [if_neg hi, if_neg hi]
    by_cases hl : told < xs.length
    · rw [Int.min_eq_left (by omega)]
    · rw [wordAt_out _ _ (by omega), wordAt_out _ _ (by omega)]
theorem wordAt_pos (xs : List Int) (i : Int) (h : ∀ x ∈ xs, wfI .u64 x) : 0 ≤ wordAt xs i := by
  unfold wordAt
  split
  · rename_i hi
    have hl : i.toNat < xs.length := by omega
    have hw := h _ (List.getElem_mem hl)
    have := wf_u64 hw
    simp [List.getD, hl]; omega
  · omega

/-- The cursor, and the document's. -/
structure Tell (w : World) (c R : Nat) (a' a0 : Option Addr) (cap' cap0 : Nat) (xs : List Int) (told : Int) : Prop where
  cur : Cur w c a' cap' xs (min told xs.length) told
  ref : Blk w R [.slice a0 xs.length cap0, .int .i64 told] 60
  row : RowOf (encI .u64) 1 w a0 xs
  ne : c ≠ R
  na : ∀ x, a' = some x → x.block ≠ R
  nc : ∀ x, a0 = some x → 0 < xs.length → x.block ≠ c
  nr : ∀ x, a0 = some x → 0 < xs.length → x.block ≠ R
theorem Tell.quiet {w w' : World} {c R : Nat} {a' a0 : Option Addr} {cap' cap0 : Nat} {xs : List Int} {told : Int} (h : Tell w c R a' a0 cap' cap0 xs told) (hb : Below w.heap.size w w') : Tell w' c R a' a0 cap' cap0 xs told :=
  ⟨h.cur.quiet hb, h.ref.quiet hb, h.row.quiet hb, h.ne, h.na, h.nc, h.nr⟩
theorem RowOf.kept {α : Type} {enc : α → List Value} {size : Nat} {w w' : World} {a : Option Addr} {xs : List α} {S : List Nat} (h : RowOf enc size w a xs) (hk : Kept S w w') (h2 : ∀ x, a = some x → 0 < xs.length → x.block ∉ S) : RowOf enc size w' a xs := fun i hi => by
  obtain ⟨x, rfl, hc⟩ := h i hi
  exact ⟨x, rfl, fun j v hj => hk.cell (hc j v hj) (by simpa using h2 x rfl (by omega))⟩
/-- The cursor goes on by itself, then the two are told apart by the number alone. -/
theorem Tell.turn {w w1 w2 : World} {c R : Nat} {a' a0 : Option Addr} {cap' cap0 : Nat} {xs : List Int} {told n : Int} (h : Tell w c R a' a0 cap' cap0 xs told) (h1 : w1 = w.setCell ⟨R, 1, none⟩ (.int .i64 (told + n)))
    (hc : Cur w1 c a' cap' xs (min told xs.length) told → Cur w2 c a' cap' xs (min (told + n) xs.length) (told + n)) (hk : Kept [c] w1 w2) : Tell w2 c R a' a0 cap' cap0 xs (told + n) ∧ Kept [c, R] w w2 := by
  subst h1
  have k1 : Kept [R] w (w.setCell ⟨R, 1, none⟩ (.int .i64 (told + n))) := (Kept.refl [R] w).set (.inl (by simp)) _
  have c1 := h.cur.kept k1 (by simpa using h.ne) (fun x hx => by simpa using h.na x hx)
  have r1 := RowOf.kept h.row k1 (fun x hx hl => by simpa using h.nr x hx hl)
  exact ⟨⟨hc c1, (h.ref.set 1 _).kept hk (by simpa using fun e => h.ne e.symm), RowOf.kept r1 hk (fun x hx hl => by simpa using h.nc x hx hl), h.ne, h.na, h.nc, h.nr⟩,
    (k1.mono (S' := [c, R]) (by simp)).trans hk (by simp)⟩
def toldN (len told kind n : Int) : Int := if kind = 0 then told + 1 else if kind = 1 then (if n < 1 then told else told + 1) else if kind = 2 then (if n < 0 ∨ max (len - told) 0 < n then told else told + n) else told

theorem does_run (c R : Nat) (a' a0 : Option Addr) (cap' cap0 : Nat) (xs : List Int) (told kind n : Int) (w : World) (H : Tell w c R a' a0 cap' cap0 xs told) (h0 : 0 ≤ told) (h1 : told ≤ 1000) (h4 : xs.length ≤ 1000)
    (hw : ∀ x ∈ xs, wfI .u64 x) (hn : -9223372036854775808 ≤ n ∧ n ≤ 9223372036854775807) (hk : -9223372036854775808 ≤ kind ∧ kind ≤ 9223372036854775807) :
    Calls Try.prog 44 #[.pointer (some ⟨c, 0, none⟩), .pointer (some ⟨R, 0, none⟩), .agg #[.int .i64 kind, .int .i64 n]] w fun e w' => e = .returned (.bool true) ∧ Tell w' c R a' a0 cap' cap0 xs (toldN xs.length told kind n) ∧ Kept [c, R] w w' := by
  have r0 := H.ref.cell 0
  have r1 := H.ref.cell 1
  simp only [List.getElem?_cons_zero, List.getElem?_cons_succ] at r0 r1
  have hRlt := H.ref.lt
  have hClt := H.cur.blk.lt
  have hT := hid hw
  clear hw
  go_enter Try.func44, Try.ntmps44
  go_wp2_with fail
  refine (rpeek_run a0 cap0 xs told 0 _ (H.row.quiet (below_one _ _)) h0 (by omega) (by omega)).mono ?_
  rintro e w1 ⟨rfl, hb⟩
  rw [peek_next xs told h0]
  have HB := Below.then_ (below_one w _) hb
  have B1 := (Blk.new w [.int .i64 kind, .int .i64 n] 64).quiet hb
  have H1 := H.quiet HB
  have hlt1 : w.heap.size < w1.heap.size := B1.lt
  clear hb H r0 r1
  have r0 := H1.ref.cell 0
  have r1 := H1.ref.cell 1
  have f1 := H1.ref.frozen 1
  have b0 := B1.cell 0
  have b1 := B1.cell 1
  simp only [List.getElem?_cons_zero, List.getElem?_cons_succ] at r0 r1 b0 b1
  by_cases k0 : kind = 0
  · have ht := hid (show toldN xs.length told kind n = told + 1 from if_pos k0)
    subst k0
    go_wp2_with fail
    refine (cnext_run c a' cap' xs (min told xs.length) told _ (H1.cur.kept ((Kept.refl [R] w1).set (.inl (by simp)) _) (by simpa using H1.ne) (fun x hx => by simpa using H1.na x hx)) (by omega) (by omega) h0 (by omega) (by omega)).mono ?_
    rintro e w2 ⟨rfl, hC, hK⟩
    rw [show min (min told (xs.length : Int) + 1) xs.length = min (told + 1) xs.length by omega] at hC
    obtain ⟨H2, K2⟩ := H1.turn (n := 1) rfl (fun _ => hC) hK
    clear H1 hC hK
    go_wp2_with fail
    (go_ret; exact ⟨rfl, by rw [ht.out]; exact H2, (Kept.of_below HB [c, R]).trans K2 (by simp)⟩)
  · by_cases k1 : kind = 1
    · subst k1
      by_cases hn1 : n < 1
      · have ht := hid (show toldN xs.length told 1 n = told by unfold toldN; rw [if_neg (by omega), if_pos rfl, if_pos hn1])
        go_wp2_with fail
        refine (cbelow_no _ n _ hn1).mono ?_
        rintro e w2 ⟨rfl, rfl⟩
        go_wp2_with fail
        go_ret
        exact ⟨rfl, by rw [ht.out]; exact H1, Kept.of_below HB _⟩
      · have ht := hid (show toldN xs.length told 1 n = told + 1 by unfold toldN; rw [if_neg (by omega), if_pos rfl, if_neg hn1])
        have hn1' : 1 ≤ n := by omega
        have hz := u64_pos n hn1' hn.2
        have hp := wordAt_pos xs (min told xs.length) hT.out
        have hr1 := rem_eq (wordAt xs (min told xs.length)) n hp hn1' hn.2
        have hm1 := Int.emod_nonneg (wordAt xs (min told xs.length)) (show n ≠ 0 by omega)
        have hm2 := Int.emod_lt_of_pos (wordAt xs (min told xs.length)) (show 0 < n by omega)
        obtain ⟨q, hq⟩ : ∃ q, q = remOf (wordAt xs (min told xs.length)) n := ⟨_, rfl⟩
        rw [← hr1, ← hq] at hm1 hm2
        have hq' : wrap64 ((wordAt xs (min told xs.length)).tmod (IntKind.u64.wrap n)) = q := hq.symm
        have hq2 : wrap64 ((wordAt xs (min told xs.length)) % n) = q := by rw [hq, hr1]; unfold wrap64; omega
        clear hr1
        go_wp2_with fail
        refine (cbelow_run c a' cap' xs (min told xs.length) told n _ (H1.cur.kept ((Kept.refl [R] w1).set (.inl (by simp)) _) (by simpa using H1.ne) (fun x hx => by simpa using H1.na x hx)) (by omega) (by omega) h0 (by omega) (by omega) hn1' hn.2).mono ?_
        rintro e w2 ⟨rfl, hC, hK⟩
        rw [show min (min told (xs.length : Int) + 1) xs.length = min (told + 1) xs.length by omega] at hC
        obtain ⟨H2, K2⟩ := H1.turn (n := 1) rfl (fun _ => hC) hK
        have hb1 : w2.cell? ⟨w.heap.size, 1, none⟩ = some (.int .i64 n) := K2.cell b1 (by simp; omega)
        rw [← hq]
        clear H1 hC hK hq
        go_wp2_with fail
        (go_ret; exact ⟨rfl, by rw [ht.out]; exact H2, (Kept.of_below HB [c, R]).trans K2 (by simp)⟩)
    · by_cases k2 : kind = 2
      · subst k2
        by_cases hbad : n < 0 ∨ max ((xs.length : Int) - told) 0 < n
        · have ht := hid (show toldN xs.length told 2 n = told by unfold toldN; rw [if_neg (by omega), if_neg (by omega), if_pos rfl, if_pos hbad])
          have HI := ((Inv.nil w1).add B1).add H1.ref
          by_cases hn0 : n < 0
          · have hd1 : decide (n < 0) = true := decide_eq_true hn0
            clear hbad
            go_wp2_with (((first | refine wp_region_I HI (by kernel_rfl) (by kernel_rfl) (by kernel_rfl) ?_ | refine wpList_I0 HI (by kernel_rfl) rfl rfl ?_); (repeat (first | (apply walkD_pure; rfl; rfl; (intro _; go_simp; first | done | rfl); (intro K hK; go_simp; refine hK _ ?_; clear hK K)) | (apply walkD_skip; rfl; rfl; (intro K hK; go_simp; refine hK _ ?_; clear hK K)) | (apply walkD_read; rfl; rfl; (intro bs hbs w' hD; have c0 := hD.cell 0 0 rfl rfl; have c1 := hD.cell 0 1 rfl rfl; have n0 := hD.cell 1 0 rfl rfl; have n1 := hD.cell 1 1 rfl rfl; go_simp; rfl); (intro K hK; go_simp; refine hK _ ?_; clear hK K)) | (apply walkD_call; rfl; (intro _; go_simp; first | rfl | exact ⟨rfl, rfl⟩); (intro bs hbs w' hD; first | (go_at_call 45; refine (rleft_run a0 cap0 xs told _ h0 (by omega) (by omega)).mono ?_; rintro e w2 ⟨rfl, hb⟩; exact ⟨rfl, hD.quiet hb⟩)); (intro K hK; go_simp; refine hK _ ?_; clear hK K)))); clear HI; intro wz HI; have hD := HI; have c0 := hD.cell 0 0 rfl rfl; have c1 := hD.cell 0 1 rfl rfl; have n0 := hD.cell 1 0 rfl rfl; have n1 := hD.cell 1 1 rfl rfl; clear hD))
            (have H2 := H1.quiet HI.low; refine (cskip_no c a' cap' xs (min told xs.length) told n _ H2.cur (by omega) (by omega) (by omega) (by omega)).mono ?_; rintro e w3 ⟨rfl, hb3⟩; have H3 := H2.quiet hb3; have HB3 := below_step (below_step HB HI.low HB.size) hb3 (Nat.le_trans HB.size HI.low.size); clear H2 H1 HI; go_wp2_with fail; go_ret; exact ⟨rfl, by rw [ht.out]; exact H3, Kept.of_below HB3 _⟩)
          · have hn0' : 0 ≤ n := by omega
            have hn2 : max ((xs.length : Int) - told) 0 < n := by omega
            have hd1 : decide (n < 0) = false := decide_eq_false (by omega)
            have hd2 : decide (max ((xs.length : Int) - told) 0 < n) = true := decide_eq_true hn2
            clear hbad
            go_wp2_with (((first | refine wp_region_I HI (by kernel_rfl) (by kernel_rfl) (by kernel_rfl) ?_ | refine wpList_I0 HI (by kernel_rfl) rfl rfl ?_); (repeat (first | (apply walkD_pure; rfl; rfl; (intro _; go_simp; first | done | rfl); (intro K hK; go_simp; refine hK _ ?_; clear hK K)) | (apply walkD_skip; rfl; rfl; (intro K hK; go_simp; refine hK _ ?_; clear hK K)) | (apply walkD_read; rfl; rfl; (intro bs hbs w' hD; have c0 := hD.cell 0 0 rfl rfl; have c1 := hD.cell 0 1 rfl rfl; have n0 := hD.cell 1 0 rfl rfl; have n1 := hD.cell 1 1 rfl rfl; go_simp; rfl); (intro K hK; go_simp; refine hK _ ?_; clear hK K)) | (apply walkD_call; rfl; (intro _; go_simp; first | rfl | exact ⟨rfl, rfl⟩); (intro bs hbs w' hD; first | (go_at_call 45; refine (rleft_run a0 cap0 xs told _ h0 (by omega) (by omega)).mono ?_; rintro e w2 ⟨rfl, hb⟩; exact ⟨rfl, hD.quiet hb⟩)); (intro K hK; go_simp; refine hK _ ?_; clear hK K)))); clear HI; intro wz HI; have hD := HI; have c0 := hD.cell 0 0 rfl rfl; have c1 := hD.cell 0 1 rfl rfl; have n0 := hD.cell 1 0 rfl rfl; have n1 := hD.cell 1 1 rfl rfl; clear hD))
            (have H2 := H1.quiet HI.low; refine (cskip_no c a' cap' xs (min told xs.length) told n _ H2.cur (by omega) (by omega) (by omega) (by omega)).mono ?_; rintro e w3 ⟨rfl, hb3⟩; have H3 := H2.quiet hb3; have HB3 := below_step (below_step HB HI.low HB.size) hb3 (Nat.le_trans HB.size HI.low.size); clear H2 H1 HI; go_wp2_with fail; go_ret; exact ⟨rfl, by rw [ht.out]; exact H3, Kept.of_below HB3 _⟩)
        · have ht := hid (show toldN xs.length told 2 n = told + n by unfold toldN; rw [if_neg (by omega), if_neg (by omega), if_pos rfl, if_neg hbad])
          have HI := ((Inv.nil w1).add B1).add H1.ref
          have hd1 : decide (n < 0) = false := decide_eq_false (by omega)
          have hd2 : decide (max ((xs.length : Int) - told) 0 < n) = false := decide_eq_false (by omega)
          go_wp2_with (((first | refine wp_region_I HI (by kernel_rfl) (by kernel_rfl) (by kernel_rfl) ?_ | refine wpList_I0 HI (by kernel_rfl) rfl rfl ?_); (repeat (first | (apply walkD_pure; rfl; rfl; (intro _; go_simp; first | done | rfl); (intro K hK; go_simp; refine hK _ ?_; clear hK K)) | (apply walkD_skip; rfl; rfl; (intro K hK; go_simp; refine hK _ ?_; clear hK K)) | (apply walkD_read; rfl; rfl; (intro bs hbs w' hD; have c0 := hD.cell 0 0 rfl rfl; have c1 := hD.cell 0 1 rfl rfl; have n0 := hD.cell 1 0 rfl rfl; have n1 := hD.cell 1 1 rfl rfl; go_simp; rfl); (intro K hK; go_simp; refine hK _ ?_; clear hK K)) | (apply walkD_call; rfl; (intro _; go_simp; first | rfl | exact ⟨rfl, rfl⟩); (intro bs hbs w' hD; first | (go_at_call 45; refine (rleft_run a0 cap0 xs told _ h0 (by omega) (by omega)).mono ?_; rintro e w2 ⟨rfl, hb⟩; exact ⟨rfl, hD.quiet hb⟩)); (intro K hK; go_simp; refine hK _ ?_; clear hK K)))); clear HI; intro wz HI; have hD := HI; have c0 := hD.cell 0 0 rfl rfl; have c1 := hD.cell 0 1 rfl rfl; have n0 := hD.cell 1 0 rfl rfl; have n1 := hD.cell 1 1 rfl rfl; clear hD))
          obtain ⟨w2, rfl⟩ : ∃ w2, w2 = wz := ⟨_, rfl⟩
          have H2 := H1.quiet HI.low
          have HB2 := below_step HB HI.low HB.size
          have f2 := H2.ref.frozen 1
          have hn0 : 0 ≤ n := by omega
          have hn2 : n ≤ max ((xs.length : Int) - told) 0 := by omega
          clear H1 HI hbad hd1 hd2
          have H2d := H2.quiet (Below.refl w2.heap.size w2).drew
          go_region
          go_wp2_with fail
          refine (cskip_yes c a' cap' xs (min told xs.length) told n _ (H2d.cur.kept ((Kept.refl [R] w2.drew).set (p := ⟨R, 1, none⟩) (v := .int .i64 (told + n)) (.inl (by simp))) (by simpa using H2d.ne) (fun x hx => by simpa using H2d.na x hx)) (by omega) (by omega) h0 (by omega) (by omega) (by omega) (by omega)).mono ?_
          rintro e w3 ⟨rfl, hC, hK⟩
          rw [show min told (xs.length : Int) + n = min (told + n) xs.length by omega] at hC
          obtain ⟨H3, K3⟩ := H2d.turn (n := n) rfl (fun _ => hC) hK
          have HB3 := HB2.drew
          clear H2 H2d hC hK
          go_wp2_with fail
          go_ret
          exact ⟨rfl, by rw [ht.out]; exact H3, (Kept.of_below HB3 [c, R]).trans K3 (by simp)⟩
      · have ht := hid (show toldN xs.length told kind n = told by unfold toldN; rw [if_neg k0, if_neg k1, if_neg k2])
        have HI := ((Inv.nil w1).add B1).add H1.ref
        have hpm := peek_min xs told n h0
        go_wp2_with (((first | refine wp_region_I HI (by kernel_rfl) (by kernel_rfl) (by kernel_rfl) ?_ | refine wpList_I0 HI (by kernel_rfl) rfl rfl ?_); (repeat (first | (apply walkD_pure; rfl; rfl; (intro _; go_simp; first | done | rfl); (intro K hK; go_simp; refine hK _ ?_; clear hK K)) | (apply walkD_skip; rfl; rfl; (intro K hK; go_simp; refine hK _ ?_; clear hK K)) | (apply walkD_read; rfl; rfl; (intro bs hbs w' hD; have c0 := hD.cell 0 0 rfl rfl; have c1 := hD.cell 0 1 rfl rfl; have n0 := hD.cell 1 0 rfl rfl; have n1 := hD.cell 1 1 rfl rfl; go_simp; rfl); (intro K hK; go_simp; refine hK _ ?_; clear hK K)) | (apply walkD_call; rfl; (intro _; go_simp; first | rfl | exact ⟨rfl, rfl⟩); (intro bs hbs w' hD; first | (go_at_call 78; refine (rpeek_run a0 cap0 xs told n _ (H1.quiet hD.low).row h0 (by omega) (by omega)).mono ?_; rintro e w2 ⟨rfl, hb⟩; exact ⟨rfl, hD.quiet hb⟩) | (go_at_call 47; refine (cpeek_run c a' cap' xs (min told xs.length) told n _ (H1.quiet hD.low).cur (by omega) (by omega) (by omega)).mono ?_; rintro e w2 ⟨rfl, hb⟩; exact ⟨rfl, hD.quiet hb⟩)); (intro K hK; go_simp; refine hK _ ?_; clear hK K)))); clear HI; intro wz HI; have hD := HI; have c0 := hD.cell 0 0 rfl rfl; have c1 := hD.cell 0 1 rfl rfl; have n0 := hD.cell 1 0 rfl rfl; have n1 := hD.cell 1 1 rfl rfl; clear hD))
        go_ret
        exact ⟨rfl, by rw [ht.out]; exact H1.quiet HI.low, Kept.of_below (below_step HB HI.low HB.size) _⟩
theorem toldN_bounds (len told kind n : Int) (h0 : 0 ≤ told) (hl : 0 ≤ len) : 0 ≤ toldN len told kind n ∧ (toldN len told kind n ≤ told + 1 ∨ toldN len told kind n ≤ len) := by
  unfold toldN
  split
  · omega
  · split
    · split <;> omega
    · split
      · split <;> omega
      · omega
def encA (x : Int × Int) : List Value := [.int .i64 x.1, .int .i64 x.2]
theorem acts_of {w : World} {v : Value} (h : (Leaf.row [.int .i64, .int .i64]).holds w v) : ∃ (a : Option Addr) (cap : Nat) (xs : List (Int × Int)), v = .slice a xs.length cap ∧ RowOf encA 2 w a xs ∧ ∀ x ∈ xs, (Lit.int .i64 x.1).wf = true ∧ (Lit.int .i64 x.2).wf = true := by
  obtain ⟨a, cap, xs, h1, h2, h3, _⟩ := rows_of encA (fun x : Int × Int => (Lit.int .i64 x.1).wf = true ∧ (Lit.int .i64 x.2).wf = true) h (fun cs hcs => by
    obtain ⟨_, _, rfl, ⟨n, rfl, hn⟩, h1⟩ := AllB_cons hcs
    obtain ⟨_, _, rfl, ⟨m, rfl, hm⟩, h2⟩ := AllB_cons h1
    obtain rfl := AllB_nil h2
    exact ⟨(n, m), rfl, hn, hm⟩)
  exact ⟨a, cap, xs, h1, h2, h3⟩
/-- While a round's test runs: the cursor as it was, or as it is behind what was asked of it. -/
def TD (W : World) (c R : Nat) (a' a0 b : Option Addr) (cap' cap0 : Nat) (xs : List Int) (acts : List (Int × Int)) (told told' : Int) : List Bool → World → Prop
  | [false], w => Tell w c R a' a0 cap' cap0 xs told ∧ Below W.heap.size W w
  | [true], w => Tell w c R a' a0 cap' cap0 xs told' ∧ Below W.heap.size W w
  | _, _ => False

theorem tells_walk (w : World) (v0 : Value) (h0 : (Leaf.row [.int .u64]).holds w v0) (v1 : Value) (h1 : (Leaf.row [.int .i64, .int .i64]).holds w v1) :
    Calls Try.prog 9 #[v0, v1] w fun e w' => e = .returned (.bool true) ∧ Below w.heap.size w w' := by
  obtain ⟨a0, cap0, xs, rfl, hr, hwf, hlc, hm, hnil⟩ := ints_of h0
  obtain ⟨b, capb, acts, rfl, hra, hwa⟩ := acts_of h1
  clear h0 h1
  by_cases hlen : 100 < xs.length
  · go_enter Try.func9, Try.ntmps9
    go_wp2_with (first | (go_at_call 38; refine (cawake_run _).mono ?_; rintro e w' ⟨rfl, hb⟩))
    go_ret
    exact ⟨rfl, hb⟩
  · have hl : xs.length ≤ 100 := by omega
    have hd1 : decide (100 < (xs.length : Int)) = false := decide_eq_false (by omega)
    clear hlen
    by_cases hlen : 100 < acts.length
    · go_enter Try.func9, Try.ntmps9
      go_wp2_with (first | (go_at_call 38; refine (cawake_run _).mono ?_; rintro e w' ⟨rfl, hb⟩))
      go_ret
      exact ⟨rfl, hb⟩
    · have hla : acts.length ≤ 100 := by omega
      have hd2 : decide (100 < (acts.length : Int)) = false := decide_eq_false (by omega)
      clear hlen
      have HWF := hid hwf
      have HWA := hid hwa
      have HRA := hid hra
      clear hwf hwa hra
      go_enter Try.func9, Try.ntmps9
      go_wp2_with fail
      refine (cnew_run a0 cap0 xs _ hnil (by omega) hr).mono ?_
      rintro e w1 ⟨c, a', cap', rfl, hc0, HC, hb, hfa⟩
      have hr1 := hr.quiet hb
      have hlt0 : ∀ x, a0 = some x → 0 < xs.length → x.block < w.heap.size := by
        rintro x rfl hx
        exact hr.block_lt hx (by simp [encI])
      clear hr
      have HT : Tell (w1.alloc (.cells #[.slice a0 xs.length cap0, .int .i64 0] 60)) c w1.heap.size a' a0 cap' cap0 xs 0 := by
        have hb1 := below_one w1 (.cells #[.slice a0 xs.length cap0, .int .i64 0] 60)
        refine ⟨?_, Blk.new w1 [.slice a0 xs.length cap0, .int .i64 0] _, hr1.quiet hb1, ?_, ?_, ?_, ?_⟩
        · rw [Int.min_eq_left (by omega)]; exact HC.quiet hb1
        · have := HC.blk.lt; omega
        · intro x hx; have := (hfa x hx).2; omega
        · intro x hx hl; have := hlt0 x hx hl; omega
        · intro x hx hl; have := hlt0 x hx hl; have := hb.size; omega
      go_wp2_with fail
      clear HC hfa hr1 hlt0 hnil hm hlc
      have hHB := hid (Below.then_ hb (below_one w1 (.cells #[.slice a0 xs.length cap0, .int .i64 0] 60)))
      go_loopw [7] (fun i wr => ∃ (k : Nat) (told : Int), k ≤ acts.length ∧ i = .int .i64 k ∧ 0 ≤ told ∧ told ≤ 100 + k ∧ Tell wr c w1.heap.size a' a0 cap' cap0 xs told ∧ Below w.heap.size w wr) (fun i _ => acts.length - (intOf i).toNat)
      case atStart => exact ⟨0, 0, Nat.zero_le _, rfl, by omega, by omega, HT, hHB.out⟩
      case round =>
        clear HT hHB
        obtain ⟨k, told, hk, rfl, ht0, ht1, HT, HB⟩ := hrel
        by_cases hka : k < acts.length
        · obtain ⟨x, rfl, hx⟩ := HRA.out k hka
          have x0 := hx 0 _ rfl
          have x1 := hx 1 _ rfl
          have hw0 := (HWA.out _ (List.getElem_mem hka)).1
          have hw1 := (HWA.out _ (List.getElem_mem hka)).2
          obtain ⟨⟨kind, n⟩, hkn⟩ : ∃ q, q = acts[k] := ⟨_, rfl⟩
          rw [← hkn] at x0 x1 hw0 hw1
          have hb' := toldN_bounds xs.length told kind n ht0 (by omega)
          obtain ⟨told', htold⟩ : ∃ q, q = toldN xs.length told kind n := ⟨_, rfl⟩
          rw [← htold] at hb'
          have HTO := hid htold
          clear htold
          have HX := hid (And.intro x0 x1)
          have hleft : (xs.length : Int) - min told' xs.length = max ((xs.length : Int) - told') 0 := by omega
          have hn' := wf_i64 hw1
          have hk' := wf_i64 hw0
          clear hx x0 x1 hkn
          have HTD : TD w c w1.heap.size a' a0 (some x) cap' cap0 xs acts told told' [false] wr.drew := ⟨HT.quiet (Below.refl _ _).drew, HB.drew⟩
          go_wp2_with fail
          refine wp_region_D [5] (TD w c w1.heap.size a' a0 (some x) cap' cap0 xs acts told told') (by kernel_rfl) (by kernel_rfl) rfl (by kernel_rfl) HTD ?_
          clear HTD HT HB
          repeat (first | (apply walkD_pure; rfl; rfl; (intro _; go_simp; first | done | rfl); (intro K hK; go_simp; refine hK _ ?_; clear hK K)) | (apply walkD_skip; rfl; rfl; (intro K hK; go_simp; refine hK _ ?_; clear hK K)))
          apply walkD_read1 [false] (by kernel_rfl); rfl; rfl; (intro w' hD; have y0 := (hD.2.cell (p := x.add (k * 2 + 0)) (by simpa using cell_lt HX.out.1)).trans HX.out.1; have y1 := (hD.2.cell (p := x.add (k * 2 + 1)) (by simpa using cell_lt HX.out.2)).trans HX.out.2; rw [add_next] at y1; simp only [Nat.add_zero, Nat.zero_add] at y0 y1; go_simp; rfl); (intro K hK; go_simp; refine hK _ ?_; clear hK K)
          repeat (first | (apply walkD_pure; rfl; rfl; (intro _; go_simp; first | done | rfl); (intro K hK; go_simp; refine hK _ ?_; clear hK K)) | (apply walkD_skip; rfl; rfl; (intro K hK; go_simp; refine hK _ ?_; clear hK K)))
          apply walkD_call1 [false] (by kernel_rfl); rfl; (intro _; go_simp; first | rfl | exact ⟨rfl, rfl⟩)
          · intro w' hD
            refine (does_run c w1.heap.size a' a0 cap' cap0 xs told kind n w' hD.1 ht0 (by omega) (by omega) HWF.out hn' hk').mono ?_
            rintro e w2 ⟨rfl, hT, hK⟩
            exact ⟨rfl, by rw [HTO.out]; exact hT, below_kept hD.2 hK (by simp; have := hb.size; omega) hD.2.size⟩
          (intro K hK; go_simp; refine hK _ ?_; clear hK K)
          repeat (first | (apply walkD_pure; rfl; rfl; (intro _; go_simp; first | done | rfl); (intro K hK; go_simp; refine hK _ ?_; clear hK K)) | (apply walkD_skip; rfl; rfl; (intro K hK; go_simp; refine hK _ ?_; clear hK K)))
          apply walkD_call1 [true] (by kernel_rfl); rfl; (intro _; go_simp; first | rfl | exact ⟨rfl, rfl⟩)
          · intro w' hD
            refine (cleft_run c a' cap' xs (min told' xs.length) told' _ hD.1.cur (by omega) (by omega) (by omega)).mono ?_
            rintro e w2 ⟨rfl, hb2⟩
            exact ⟨rfl, hD.1.quiet hb2, Below.then_ hD.2 hb2⟩
          (intro K hK; go_simp; refine hK _ ?_; clear hK K)
          repeat (first | (apply walkD_pure; rfl; rfl; (intro _; go_simp; first | done | rfl); (intro K hK; go_simp; refine hK _ ?_; clear hK K)) | (apply walkD_skip; rfl; rfl; (intro K hK; go_simp; refine hK _ ?_; clear hK K)))
          apply walkD_read1 [true] (by kernel_rfl); rfl; rfl; (intro w' hD; have y0 := hD.1.ref.cell 0; have y1 := hD.1.ref.cell 1; simp only [List.getElem?_cons_zero, List.getElem?_cons_succ] at y0 y1; go_simp; rfl); (intro K hK; go_simp; refine hK _ ?_; clear hK K)
          repeat (first | (apply walkD_pure; rfl; rfl; (intro _; go_simp; first | done | rfl); (intro K hK; go_simp; refine hK _ ?_; clear hK K)) | (apply walkD_skip; rfl; rfl; (intro K hK; go_simp; refine hK _ ?_; clear hK K)))
          apply walkD_call1 [true] (by kernel_rfl); rfl; (intro _; go_simp; first | rfl | exact ⟨rfl, rfl⟩)
          · intro w' hD
            refine (rleft_run a0 cap0 xs told' _ (by omega) (by omega) (by omega)).mono ?_
            rintro e w2 ⟨rfl, hb2⟩
            exact ⟨rfl, hD.1.quiet hb2, Below.then_ hD.2 hb2⟩
          (intro K hK; go_simp; refine hK _ ?_; clear hK K)
          repeat (first | (apply walkD_pure; rfl; rfl; (intro _; go_simp; first | done | rfl); (intro K hK; go_simp; refine hK _ ?_; clear hK K)) | (apply walkD_skip; rfl; rfl; (intro K hK; go_simp; refine hK _ ?_; clear hK K)))
          apply walkD_call1 [true] (by kernel_rfl); rfl; (intro _; go_simp; first | rfl | exact ⟨rfl, rfl⟩)
          · intro w' hD
            refine (ctold_run c a' cap' xs (min told' xs.length) told' _ hD.1.cur).mono ?_
            rintro e w2 ⟨rfl, rfl⟩
            exact ⟨rfl, hD⟩
          (intro K hK; go_simp; refine hK _ ?_; clear hK K)
          repeat (first | (apply walkD_pure; rfl; rfl; (intro _; go_simp; first | done | rfl); (intro K hK; go_simp; refine hK _ ?_; clear hK K)) | (apply walkD_skip; rfl; rfl; (intro K hK; go_simp; refine hK _ ?_; clear hK K)))
          apply walkD_read1 [true] (by kernel_rfl); rfl; rfl; (intro w' hD; have y0 := hD.1.ref.cell 0; have y1 := hD.1.ref.cell 1; simp only [List.getElem?_cons_zero, List.getElem?_cons_succ] at y0 y1; go_simp; rfl); (intro K hK; go_simp; refine hK _ ?_; clear hK K)
          repeat (first | (apply walkD_pure; rfl; rfl; (intro _; go_simp; first | done | rfl); (intro K hK; go_simp; refine hK _ ?_; clear hK K)) | (apply walkD_skip; rfl; rfl; (intro K hK; go_simp; refine hK _ ?_; clear hK K)))
          intro w' hD
          go_wp2
          go_roundw
          case rel => first | exact ⟨k + 1, told', by omega, by go_num, by omega, by omega, hD.1, hD.2⟩ | ((repeat apply Exists.intro); exact ⟨⟨k + 1, told', by omega, by go_num, by omega, by omega, hD.1, hD.2⟩, rfl⟩)
          case measure => simp [intOf]; omega
        · go_wp2_with (first | (go_at_call 38; refine (cawake_run _).mono ?_; rintro e w' ⟨rfl, hb2⟩))
          go_ret
          exact ⟨rfl, Below.then_ HB hb2⟩
end Go.Proofs.Ytlchnmkmepippaa.Draw
