/- The walk of GlobqOrder. -/
import Derived.Test.YtnmkfmaohflejaaQueue
import Derived.Test.YtnmkfmaohflejaaQRow
import Derived.Deep.DeepCutAuto
import Derived.BigQuiet
set_option maxRecDepth 100000
set_option maxHeartbeats 1000000
set_option linter.unusedVariables false
set_option linter.unusedSimpArgs false
namespace Go.Proofs.Ytnmkfmaohflejaa.Globq
open Go.RowKit Go.Shelf Go.Proofs.Ytnmkfmaohflejaa.TK Go.Proofs.Ytnmkfmaohflejaa.Flag Go.Proofs.Ytnmkfmaohflejaa.Read Go.Proofs.Ytnmkfmaohflejaa.Grow Go.Proofs.Ytnmkfmaohflejaa.Words Go.Proofs.Ytnmkfmaohflejaa.Mem Go.Proofs.Ytnmkfmaohflejaa.Flow Go.Proofs.Ytnmkfmaohflejaa.Layout Go.Proofs.Ytnmkfmaohflejaa.Lock Go.Proofs.Ytnmkfmaohflejaa.Run Go.Proofs.Ytnmkfmaohflejaa.Sys Go.Proofs.Ytnmkfmaohflejaa.Mach Go.Proofs.Ytnmkfmaohflejaa.Doc Go.Proofs.Ytnmkfmaohflejaa.Ref05 Go.Proofs.Ytnmkfmaohflejaa.Road Go.Proofs.Ytnmkfmaohflejaa.Chain Go.Proofs.Ytnmkfmaohflejaa.QRow Go.Proofs.Ytnmkfmaohflejaa.Subs Go.Proofs.Ytnmkfmaohflejaa.IWords
open Go.Proofs.Ytnmkfmaohflejaa.Ring (after after_clock)
/-- What is known of a round's world. -/
def RW (w wr : World) (l m g B : Nat) (N : Int) (v : Value) (there : List Int) (s : St) : Prop := Lay wr l 1 1 N ∧ MemAt wr m g s ∧ QRow wr B 3 v there ∧ Below w.heap.size w wr ∧ B ≤ wr.heap.size
/-- What is known of its words: k lie there, from st on. -/
def RP (N n st k : Nat) (s : St) : Prop := ∃ f, Is s (lenOf 1 1 N) f ∧ QInv N f (cyc N st k) ∧ k ≤ N ∧ s.clock ≤ 20 * (n : Int)
theorem RW.quiet {w wr w' : World} {l m g B : Nat} {N : Int} {v : Value} {there : List Int} {s : St} (h : RW w wr l m g B N v there s) (hb : Below wr.heap.size wr w') : RW w w' l m g B N v there s := ⟨h.1.quiet hb, h.2.1.quiet hb, h.2.2.1.quiet hb, Below.then_ h.2.2.2.1 hb, Nat.le_trans h.2.2.2.2 hb.size⟩
/-- A machine of the round's own goes on. -/
theorem RW.own {w wr w' : World} {l m g B lo : Nat} {N : Int} {v : Value} {there : List Int} {s s' : St} {Own : List TypeId} (h : RW w wr l m g B N v there s) (hK : KeptOwn Own lo m g wr w') (hL : Lay w' l 1 1 N) (hM : MemAt w' m g s') (hq : w.heap.size ≤ m ∧ w.heap.size ≤ g ∧ m < B ∧ g < B) (hlo : w.heap.size ≤ lo) (hv : ∀ i, v.ownBlock = some i → i < lo) : RW w w' l m g B N v there s' := by
  refine ⟨hL, hM, ?_, keptOwn_lowW hK h.2.2.2.1 hq.1 hq.2.1 hlo h.2.2.2.1.size, Nat.le_trans h.2.2.2.2 (keptOwn_size hK)⟩
  obtain ⟨S, hK, hS⟩ := hK
  refine h.2.2.1.keptB hK ?_
  intro i hi e
  have h1 := (h.2.2.1.own_lt i e).1
  have h2 := hv i e
  rcases hS i hi with e2 | e2 | ⟨e2, _⟩ <;> omega
theorem RW.high {w wr w' : World} {l m g B Bf : Nat} {N : Int} {v : Value} {there : List Int} {s : St} {S : List Nat} (h : RW w wr l m g B N v there s) (hk : Kept S wr w') (hS : ∀ i ∈ S, Bf ≤ i) (hlo : w.heap.size ≤ Bf) (hl : l < Bf ∧ m < Bf ∧ g < Bf) (hv : ∀ i, v.ownBlock = some i → i < Bf) : RW w w' l m g B N v there s :=
  ⟨h.1.kept hk (fun hi => by have := hS _ hi; omega), h.2.1.kept hk (fun hi => by have := hS _ hi; omega) (fun hi => by have := hS _ hi; omega), h.2.2.1.keptB hk (fun i hi e => by have := hS i hi; have := hv i e; omega), below_kept h.2.2.2.1 hk (fun i hi => by have := hS i hi; omega) h.2.2.2.1.size, Nat.le_trans h.2.2.2.2 hk.size⟩
theorem cyc_get {N st n i : Nat} (h : i < (cyc N st n).length) : (cyc N st n)[i] = (((st + i) % N : Nat) : Int) := by unfold cyc; simp
theorem same12K (a b : Option Addr) (ca cb : Nat) (xs : List Int) (n : Nat) (hn : xs.length = n) (w : World) (ha : RowOf (encI .i64) 1 w a xs) (hb : RowOf (encI .i64) 1 w b xs) (hl : n ≤ 1000000) :
    Calls Try.prog 53 #[.slice a n ca, .slice b n cb] w fun e w' => e = .returned (.bool true) ∧ Below w.heap.size w w' := by
  subst hn
  exact Idlem.same12_run a b ca cb xs w ha hb hl
theorem rp_bad {N n st k : Nat} {s : St} (h : RP N n st k s) : s.bad = 0 ∧ s.clock ≤ 20 * (n : Int) ∧ k ≤ N := by
  obtain ⟨f, h1, _, h3, h4⟩ := h
  exact ⟨h1.bad, h4, h3⟩
theorem rp_list {N n st k : Nat} {s : St} (hN : 1 ≤ N ∧ N ≤ 60) (h : RP N n st k s) : qlst s 1 1 N = (cyc N st k, true) ∧ (s.peek 8).1 = (k : Int) := by
  obtain ⟨f, h1, h2, h3, h4⟩ := h
  have hn : 287 + 2 * (N : Int) ≤ ((lenOf 1 1 N : Nat) : Int) := by unfold lenOf; omega
  refine ⟨queue_list h2 h1 hN.2 hn (cyc_mem (by omega)) (cyc_nodup h3) (by rw [cyc_len]; exact h3), ?_⟩
  rw [h1.peek (by omega) (by omega), h2.size, cyc_len]
theorem rp_put {N n st k j : Nat} {s : St} (hN : 1 ≤ N ∧ N ≤ 60) (h : RP N n st k s) (hj : k + j ≤ N) (hj8 : j ≤ 8) : RP N (n + 1) st (k + j) (after (qpY 1 1 N (cyc N (st + k) j)) 0 (qpStart (cyc N (st + k) j)) s 20).2 := by
  obtain ⟨f, h1, h2, h3, h4⟩ := h
  have hn : 287 + 2 * (N : Int) ≤ ((lenOf 1 1 N : Nat) : Int) := by unfold lenOf; omega
  have hcl := (after_clock (qpY 1 1 N (cyc N (st + k) j)) 0 (qpStart (cyc N (st + k) j)) s 20).1
  by_cases hj0 : j = 0
  · subst hj0
    have hr : Road.Road (qpY 1 1 N (cyc N (st + k) 0)) (lenOf 1 1 N) .none f 0 .none f := .nil _ _
    obtain ⟨e1, e2⟩ := hr.ends rfl 0 h1 20 (by omega)
    exact ⟨f, e2, h2, hj, by omega⟩
  · have hl := cyc_len N (st + k) j
    have e0 : qpStart (cyc N (st + k) j) = .ln 0 := if_neg (by omega)
    obtain ⟨f', hr, hq⟩ := queue_put N (cyc N (st + k) j) (cyc N st k) (lenOf 1 1 N) hN.2 hn f h2 (by rw [← cyc_add]; exact cyc_mem (by omega)) (by rw [← cyc_add]; exact cyc_nodup hj) (by omega) (by rw [cyc_len, cyc_len]; omega)
    rw [← cyc_add] at hq
    rw [e0] at hcl ⊢
    obtain ⟨e1, e2⟩ := hr.ends rfl 0 h1 20 (by omega)
    exact ⟨f', e2, hq, hj, by omega⟩
theorem rp_pull {N n st k : Nat} {s : St} (hN : 1 ≤ N ∧ N ≤ 60) (h : RP N n st k s) :
    (qlM 0 1 1 N).sys.want (after (qlM 0 1 1 N).sys 0 .h s 20).1 = none ∧ (k = 0 → (after (qlM 0 1 1 N).sys 0 .h s 20).1.g = -1 ∧ RP N (n + 1) st 0 (after (qlM 0 1 1 N).sys 0 .h s 20).2) ∧
      (∀ q, k = q + 1 → (after (qlM 0 1 1 N).sys 0 .h s 20).1.g = ((st % N : Nat) : Int) ∧ RP N (n + 1) (st + 1) q (after (qlM 0 1 1 N).sys 0 .h s 20).2) := by
  obtain ⟨f, h1, h2, h3, h4⟩ := h
  have hn : 287 + 2 * (N : Int) ≤ ((lenOf 1 1 N : Nat) : Int) := by unfold lenOf; omega
  have hcl := (after_clock (qlM 0 1 1 N).sys 0 .h s 20).1
  cases k with
  | zero =>
    have hr := queue_pull0 N (lenOf 1 1 N) (by omega) f h2
    obtain ⟨e1, e2⟩ := hr.ends rfl 0 h1 20 (by omega)
    rw [e1]
    exact ⟨rfl, fun _ => ⟨rfl, f, e2, h2, by omega, by omega⟩, fun q hq => by omega⟩
  | succ q =>
    rw [cyc_succ] at h2
    obtain ⟨k, b, f', hk, hr, hg, hq⟩ := queue_pull1 N _ _ (lenOf 1 1 N) hN.2 hn f h2 (by rw [← cyc_succ]; exact cyc_mem (by omega)) (by rw [cyc_len]; omega)
    obtain ⟨e1, e2⟩ := hr.ends rfl 0 h1 20 (by omega)
    rw [e1]
    refine ⟨rfl, fun e => by omega, fun q2 hq2 => ?_⟩
    obtain rfl : q = q2 := by omega
    exact ⟨hg, f', e2, hq, by omega, by omega⟩
theorem order_walk (w : World) (G : Int) (wG : (Lit.int .i64 G).wf = true) (pv : Value) (hpv : (Leaf.row [.int .u8]).holds w pv) :
    Calls Try.prog 7 #[.int .i64 G, pv] w fun e w' => e = .returned (.bool true) ∧ Below w.heap.size w w' := by
  clear wG
  obtain ⟨a, c, xs, rfl, hr, hwf, _, _, hnil⟩ := ints_of hpv
  clear hpv
  by_cases hf : ¬ FewP 1 1 G
  · have HF := hid hf
    clear hf hr hwf hnil
    go_enter Try.func7, Try.ntmps7
    go_wp2_with fail
    refine (lay_no 1 1 G none 0 0 _ (.inl HF.out)).mono ?_
    rintro e w1 ⟨rfl, hb1⟩
    (go_wp2_with (first | (go_at_call 45; refine (awake_run _).mono ?_; rintro e w9 ⟨rfl, hb9⟩)))
    go_ret
    exact ⟨rfl, Below.then_ hb1 hb9⟩
  have hf : FewP 1 1 G := Classical.not_not.1 hf
  obtain ⟨N, rfl⟩ : ∃ N : Nat, (N : Int) = G := ⟨G.toNat, by unfold FewP Right at hf; omega⟩
  have HF := hid hf
  have HN1 := hid (show 1 ≤ N ∧ N ≤ 60 by unfold FewP Right at hf; omega)
  by_cases g3 : 60 < (xs.length : Int)
  · have d3 : decide (60 < (xs.length : Int)) = true := decide_eq_true g3
    clear hf hr hwf hnil
    go_enter Try.func7, Try.ntmps7
    go_wp2_with fail
    refine (lay_yes 1 1 N none 0 [] _ HF.out (by simp) ?_ (by simp)).mono ?_
    · intro i hi; simp at hi
    rintro e w1 ⟨l, m, g, rm, rg, rfl, hL⟩
    have hb1 := hL.low
    clear hL
    (go_wp2_with (first | (go_at_call 45; refine (awake_run _).mono ?_; rintro e w9 ⟨rfl, hb9⟩)))
    go_ret
    exact ⟨rfl, Below.then_ hb1 hb9⟩
  have d3 : decide (60 < (xs.length : Int)) = false := decide_eq_false g3
  have HN := hid (show xs.length ≤ 60 by omega)
  have HR := hid (And.intro hr hwf)
  clear g3 hr hwf hnil hf
  go_enter Try.func7, Try.ntmps7
  go_wp2_with fail
  refine (lay_yes 1 1 N none 0 [] _ HF.out (by simp) ?_ (by simp)).mono ?_
  · intro i hi; simp at hi
  rintro e w1 ⟨l, m, g, rm, rg, rfl, hL⟩
  obtain ⟨B, hB⟩ : ∃ B, B = w1.heap.size := ⟨_, rfl⟩
  have HQ := hid (show w.heap.size ≤ m ∧ w.heap.size ≤ g ∧ m < B ∧ g < B from ⟨hL.low5.2.1, hL.low5.2.2.1, by rw [hB]; exact hL.mem.ltm, by rw [hB]; exact hL.mem.ltg⟩)
  have HI := hid (show RW w w1 l m g B N (.slice none 0 0) [] (fresh (layW (lenOf 1 1 N) [])) from ⟨hL.lay, hL.mem, QRow.nil _ _ _, hL.low, by omega⟩)
  have HP := hid (show RP N 0 0 0 (fresh (layW (lenOf 1 1 N) [])) from ⟨_, is_fresh _ _, qinv_start N, by omega, by show (0 : Int) ≤ _; omega⟩)
  have HB0 := hid (show w.heap.size ≤ B ∧ l < B by rw [hB]; exact ⟨hL.low.size, hL.lay.1.lt⟩)
  clear hL hB
  go_wp2_with fail
  clear d3
  go_loopw [11, 9, 10] (fun i v nx wr => ∃ n : Nat, n ≤ xs.length ∧ i = .int .i64 (n : Int) ∧ ∃ st k s, nx = .int .i64 (((st + k) % N : Nat) : Int) ∧ RW w wr l m g B N v (cyc N st k) s ∧ RP N n st k s) (fun i _ _ _ => xs.length - (intOf i).toNat)
  case atStart => exact ⟨0, by omega, rfl, 0, 0, _, by simp, HI.out, HP.out⟩
  case round =>
    clear HI HP
    obtain ⟨n, hn, rfl, st, k, s, rfl, hI, hP⟩ := hrel
    obtain ⟨a0, c0, hv, hrow0, hnil0, hcap0, _⟩ := hI.2.2.1.row
    rw [cyc_len] at hv hcap0
    subst hv
    have HI := hid hI
    have HP := hid hP
    obtain ⟨nx, hnx⟩ : ∃ nx : Int, nx = (((st + k) % N : Nat) : Int) := ⟨_, rfl⟩
    rw [← hnx]
    have HNX := hid hnx
    clear hI hP hrow0 hnx
    by_cases hlt : n < xs.length
    · have hlt' : decide ((n : Int) < (xs.length : Int)) = true := decide_eq_true (by omega)
      obtain ⟨xa, rfl, hx⟩ := HR.out.1 n hlt
      have cxw := hx 0 _ rfl
      rw [Nat.mul_one, Nat.add_zero] at cxw
      have hxw := HR.out.2 xs[n] (List.getElem_mem _)
      obtain ⟨x, hxd⟩ : ∃ x, x = xs[n] := ⟨_, rfl⟩
      rw [← hxd] at cxw hxw
      have hx0 : 0 ≤ x ∧ x < 256 := by
        have h1 : IntKind.u8.min = 0 := rfl
        have h2 : IntKind.u8.max = 255 := rfl
        have h3 := hxw
        simp [wfI, Lit.wf] at h3
        omega
      have HXW := hid (And.intro cxw (cell_lt cxw))
      have cx := (HI.out.2.2.2.1.cell HXW.out.2).trans HXW.out.1
      clear hxw hx hxd cxw
      have k0 : (0 : Int) ≤ (n : Int) := by omega
      have k1 : (n : Int) < (xs.length : Int) := by omega
      have m1 : x.tmod 2 = x % 2 := Int.tmod_eq_emod_of_nonneg hx0.1
      have m8 : x.tmod 8 = x % 8 := Int.tmod_eq_emod_of_nonneg hx0.1
      have HC := hid (rp_bad HP.out)
      by_cases hod : x % 2 = 1
      · have e1 : (x % 2 == 1) = true := by simp [hod]
        have e2 : (x % 2 == 0) = false := by simp [hod]
        clear hod
        have HG := hid (rp_pull HN1.out HP.out)
        go_wp2_with fail
        refine (ql_new_run l 1 1 N 0 wr HI.out.1).mono ?_
        rintro e w5 ⟨rfl, hA, hb⟩
        have HVL := hid (show ∀ i, (Value.slice a0 k c0).ownBlock = some i → i < wr.heap.size from fun i hi => (HI.out.2.2.1.own_lt i hi).2)
        obtain ⟨y, hy⟩ : ∃ y, y = wr.heap.size := ⟨_, rfl⟩
        rw [← hy] at HVL
        have HY := hid (show w.heap.size ≤ y by rw [hy]; exact HI.out.2.2.2.1.size)
        have HI := hid (show (qlM l 1 1 N).at_ y l y 1 1 N 0 w5 (after (qlM 0 1 1 N).sys 0 .h s 0).1 ∧ RW w w5 l m g B N (Value.slice a0 k c0) (cyc N st k) (after (qlM 0 1 1 N).sys 0 .h s 0).2 by rw [hy]; exact ⟨⟨hA, Nat.le_refl _, HI.out.1.quiet hb, trivial⟩, HI.out.quiet hb⟩)
        rw [← hy]
        clear hA hb hy cx HP
        go_wp2_with fail
        go_loopw [18] (fun i wr => ∃ j : Nat, j ≤ 20 ∧ i = .int .i64 (j : Int) ∧ (qlM l 1 1 N).at_ y l y 1 1 N 0 wr (after (qlM 0 1 1 N).sys 0 .h s j).1 ∧ RW w wr l m g B N (Value.slice a0 k c0) (cyc N st k) (after (qlM 0 1 1 N).sys 0 .h s j).2) (fun i _ => 20 - (intOf i).toNat)
        case atStart => exact ⟨0, by omega, rfl, HI.out⟩
        case round =>
          clear HI
          obtain ⟨j, hj, rfl, hI⟩ := hrel
          have HI := hid hI
          clear hI
          by_cases hlt2 : j < 20
          · have hltj : decide ((j : Int) < 20) = true := decide_eq_true (by omega)
            have hcl := after_clock (qlM 0 1 1 N).sys 0 .h s j
            have hc0 := HC.out
            have hn0 := HN.out
            go_wp2_with fail
            refine (qlstep_run y l y m g 1 1 N 0 (ql_goes l y 1 1 N 0) HI.out.1 HI.out.2.2.1 (by omega) (by omega)).mono ?_
            rintro e w6 ⟨⟨bb, rfl⟩, hA6, hM6, hK6⟩
            have HI6 := hid (show (qlM l 1 1 N).at_ y l y 1 1 N 0 w6 (after (qlM 0 1 1 N).sys 0 .h s (j + 1)).1 ∧ RW w w6 l m g B N (Value.slice a0 k c0) (cyc N st k) (after (qlM 0 1 1 N).sys 0 .h s (j + 1)).2 from ⟨hA6, HI.out.2.own hK6 hA6.2.2.1 hM6 HQ.out HY.out HVL.out⟩)
            clear hA6 hM6 hK6 HI hcl hc0 hn0
            go_wp2_with fail
            go_roundw
            case rel => exact ⟨j + 1, by omega, by go_num, HI6.out⟩
            case measure => simp [intOf]; omega
          · obtain rfl : j = 20 := by omega
            have hltj : decide ((20 : Int) < 20) = false := by decide
            have hg := HG.out
            obtain ⟨q, hq⟩ : ∃ q, q = after (qlM 0 1 1 N).sys 0 .h s 20 := ⟨_, rfl⟩
            rw [← hq] at HI hg
            have HOV := hid (show ((qlM l 1 1 N).nx q.1).over = true by rw [mch_over]; rw [show (qlM l 1 1 N).sys.want q.1 = none from hg.1]; rfl)
            have hg := hg.2
            clear hq HG
            have hkN : k ≤ N := HC.out.2.2
            have hN60 := HN1.out
            by_cases hk0 : k = 0
            · have HQ1 := hid (hg.1 hk0).1
              have HP := hid (show RP N (n + 1) st k q.2 by rw [hk0]; exact (hg.1 hk0).2)
              have hvv : ((-1 : Int) != -1) = false := rfl
              have z1 : decide ((0 : Int) < (k : Int)) = false := decide_eq_false (by omega)
              have z2 : decide (0 < k) = false := decide_eq_false (by omega)
              clear hg hk0
              go_wp2_with (first | (go_at_call 50; refine (qldone_run HI.out.1).mono ?_; rintro e w7 ⟨rfl, rfl⟩; rw [HOV.out]) | (go_at_call 51; refine (ql_g_run HI.out.1).mono ?_; rintro e w7 ⟨rfl, rfl⟩; rw [HQ1.out]))
              obtain ⟨s, hs⟩ : ∃ s, s = q.2 := ⟨_, rfl⟩
              rw [← hs] at HI HP
              have HI := hid HI.out.2
              clear hs HQ1 HOV z1 z2
              have HPL := hid (rp_list HN1.out HP.out)
              have hn0 := HN.out
              have hN1 := HN1.out
              have hkN := (rp_bad HP.out).2.2
              have hcl : (cyc N st k).length = k := cyc_len N st k
              go_wp2_with fail
              refine (glist_run l m g 1 1 N s _ HI.out.1 HI.out.2.1).mono ?_
              rintro e w8 ⟨a8, c8, rfl, hrow8, hb8, _⟩
              rw [HPL.out.1] at hrow8 ⊢
              simp only [hcl]
              obtain ⟨a9, c9, hv9, hr9, _⟩ := HI.out.2.2.1.row
              injection hv9 with v1 v2 v3
              rw [← v1] at hr9
              have hro := hr9.quiet hb8
              clear v1 v2 v3 hr9
              have HI := hid (And.intro (HI.out.quiet hb8) (And.intro hrow8 hro))
              clear hb8 hrow8 hro
              go_wp2_with fail
              refine (mpeek_run m g s _ _ HI.out.1.2.1).mono ?_
              rintro e w9 ⟨rfl, rfl⟩
              rw [HPL.out.2]
              have hu : IntKind.u64.wrap (k : Int) = (k : Int) := by rw [IntKind.wrap_u64]; omega
              have hkk : ((k : Int) != (k : Int)) = false := by simp
              go_wp2_with (first | (go_at_call 53; refine (same12K a8 _ c8 _ (cyc N st k) k hcl _ HI.out.2.1 HI.out.2.2 (by omega)).mono ?_; rintro e w10 ⟨rfl, hb10⟩; replace HI := hid (And.intro (HI.out.1.quiet hb10) (And.intro (HI.out.2.1.quiet hb10) (HI.out.2.2.quiet hb10))); clear hb10))
              exact ⟨⟨n + 1, by omega, by go_num, st, k, s, by rw [HNX.out], HI.out.1, HP.out⟩, by simp [intOf]; omega⟩
            · obtain ⟨k, rfl⟩ : ∃ k', k = k' + 1 := ⟨k - 1, by omega⟩
              have HQ1 := hid (hg.2 k rfl).1
              have HP := hid (hg.2 k rfl).2
              have hQ : QRow wr B 3 (.slice a0 (k + 1) c0) (((st % N : Nat) : Int) :: cyc N (st + 1) k) := by rw [← cyc_succ]; exact HI.out.2.2.2.1
              obtain ⟨g9, o9, had, hkl, hc1, cz, hQ1, hQ2⟩ := hQ.tail
              subst had
              rw [cyc_len] at hQ1 hQ2
              obtain ⟨z, hz⟩ : ∃ z, z = ((st % N : Nat) : Int) := ⟨_, rfl⟩
              rw [← hz] at cz HQ1
              have hvv : (z != z) = false := by simp
              have z1 : decide ((0 : Int) < ((k + 1 : Nat) : Int)) = true := decide_eq_true (by omega)
              have z2 : decide (0 < k + 1) = true := decide_eq_true (by omega)
              have z6 : (1 : Int) ≤ (c0 : Int) := by omega
              have HNX := hid (show nx = (((st + 1 + k) % N : Nat) : Int) by rw [HNX.out, show st + 1 + k = st + (k + 1) by omega])
              by_cases hc01 : c0 = 1
              · have HQ2 := hid (hQ1 hc01)
                have hi2 := HI.out.2
                have HI2 := hid (show Lay wr l 1 1 N ∧ MemAt wr m g q.2 ∧ Below w.heap.size w wr ∧ B ≤ wr.heap.size from ⟨hi2.1, hi2.2.1, hi2.2.2.2.1, hi2.2.2.2.2⟩)
                clear hg hQ hQ1 hQ2 hz hkl hk0 hi2 hcap0 hc1 hnil0
                subst hc01
                go_wp2_with (first | (go_at_call 50; refine (qldone_run HI.out.1).mono ?_; rintro e w7 ⟨rfl, rfl⟩; rw [HOV.out]) | (go_at_call 51; refine (ql_g_run HI.out.1).mono ?_; rintro e w7 ⟨rfl, rfl⟩; rw [HQ1.out]))
                have HI := hid (show RW w wr l m g B N (.slice (some ⟨g9, o9, none⟩) k 0) (cyc N (st + 1) k) q.2 from ⟨HI2.out.1, HI2.out.2.1, HQ2.out, HI2.out.2.2⟩)
                obtain ⟨s, hs⟩ : ∃ s, s = q.2 := ⟨_, rfl⟩
                obtain ⟨st, hst⟩ : ∃ s2, s2 = st + 1 := ⟨_, rfl⟩
                rw [← hs, ← hst] at HI HP
                rw [← hst] at HNX
                clear hs hst HQ1 HQ2 HI2 HOV z1 z2 z6 hvv cz
                have HPL := hid (rp_list HN1.out HP.out)
                have hn0 := HN.out
                have hN1 := HN1.out
                have hkN := (rp_bad HP.out).2.2
                have hcl : (cyc N st k).length = k := cyc_len N st k
                go_wp2_with fail
                refine (glist_run l m g 1 1 N s _ HI.out.1 HI.out.2.1).mono ?_
                rintro e w8 ⟨a8, c8, rfl, hrow8, hb8, _⟩
                rw [HPL.out.1] at hrow8 ⊢
                simp only [hcl]
                obtain ⟨a9, c9, hv9, hr9, _⟩ := HI.out.2.2.1.row
                injection hv9 with v1 v2 v3
                rw [← v1] at hr9
                have hro := hr9.quiet hb8
                clear v1 v2 v3 hr9
                have HI := hid (And.intro (HI.out.quiet hb8) (And.intro hrow8 hro))
                clear hb8 hrow8 hro
                go_wp2_with fail
                refine (mpeek_run m g s _ _ HI.out.1.2.1).mono ?_
                rintro e w9 ⟨rfl, rfl⟩
                rw [HPL.out.2]
                have hu : IntKind.u64.wrap (k : Int) = (k : Int) := by rw [IntKind.wrap_u64]; omega
                have hkk : ((k : Int) != (k : Int)) = false := by simp
                go_wp2_with (first | (go_at_call 53; refine (same12K a8 _ c8 _ (cyc N st k) k hcl _ HI.out.2.1 HI.out.2.2 (by omega)).mono ?_; rintro e w10 ⟨rfl, hb10⟩; replace HI := hid (And.intro (HI.out.1.quiet hb10) (And.intro (HI.out.2.1.quiet hb10) (HI.out.2.2.quiet hb10))); clear hb10))
                exact ⟨⟨n + 1, by omega, by go_num, st, k, s, by rw [HNX.out], HI.out.1, HP.out⟩, by simp [intOf]; omega⟩
              · have HQ2 := hid (hQ2 hc01)
                have hi2 := HI.out.2
                have HI2 := hid (show Lay wr l 1 1 N ∧ MemAt wr m g q.2 ∧ Below w.heap.size w wr ∧ B ≤ wr.heap.size from ⟨hi2.1, hi2.2.1, hi2.2.2.2.1, hi2.2.2.2.2⟩)
                clear hg hQ hQ1 hQ2 hz hkl hk0 hi2 hcap0 hc1 hnil0
                go_wp2_with (first | (go_at_call 50; refine (qldone_run HI.out.1).mono ?_; rintro e w7 ⟨rfl, rfl⟩; rw [HOV.out]) | (go_at_call 51; refine (ql_g_run HI.out.1).mono ?_; rintro e w7 ⟨rfl, rfl⟩; rw [HQ1.out]))
                have HI := hid (show RW w wr l m g B N (.slice (some ⟨g9, o9 + 1, none⟩) k (c0 - 1)) (cyc N (st + 1) k) q.2 from ⟨HI2.out.1, HI2.out.2.1, HQ2.out, HI2.out.2.2⟩)
                obtain ⟨s, hs⟩ : ∃ s, s = q.2 := ⟨_, rfl⟩
                obtain ⟨st, hst⟩ : ∃ s2, s2 = st + 1 := ⟨_, rfl⟩
                rw [← hs, ← hst] at HI HP
                rw [← hst] at HNX
                clear hs hst HQ1 HQ2 HI2 HOV z1 z2 z6 hvv cz hc01
                have HPL := hid (rp_list HN1.out HP.out)
                have hn0 := HN.out
                have hN1 := HN1.out
                have hkN := (rp_bad HP.out).2.2
                have hcl : (cyc N st k).length = k := cyc_len N st k
                go_wp2_with fail
                refine (glist_run l m g 1 1 N s _ HI.out.1 HI.out.2.1).mono ?_
                rintro e w8 ⟨a8, c8, rfl, hrow8, hb8, _⟩
                rw [HPL.out.1] at hrow8 ⊢
                simp only [hcl]
                obtain ⟨a9, c9, hv9, hr9, _⟩ := HI.out.2.2.1.row
                injection hv9 with v1 v2 v3
                rw [← v1] at hr9
                have hro := hr9.quiet hb8
                clear v1 v2 v3 hr9
                have HI := hid (And.intro (HI.out.quiet hb8) (And.intro hrow8 hro))
                clear hb8 hrow8 hro
                go_wp2_with fail
                refine (mpeek_run m g s _ _ HI.out.1.2.1).mono ?_
                rintro e w9 ⟨rfl, rfl⟩
                rw [HPL.out.2]
                have hu : IntKind.u64.wrap (k : Int) = (k : Int) := by rw [IntKind.wrap_u64]; omega
                have hkk : ((k : Int) != (k : Int)) = false := by simp
                go_wp2_with (first | (go_at_call 53; refine (same12K a8 _ c8 _ (cyc N st k) k hcl _ HI.out.2.1 HI.out.2.2 (by omega)).mono ?_; rintro e w10 ⟨rfl, hb10⟩; replace HI := hid (And.intro (HI.out.1.quiet hb10) (And.intro (HI.out.2.1.quiet hb10) (HI.out.2.2.quiet hb10))); clear hb10))
                exact ⟨⟨n + 1, by omega, by go_num, st, k, s, by rw [HNX.out], HI.out.1, HP.out⟩, by simp [intOf]; omega⟩
      · have e1 : (x % 2 == 1) = false := by simp; omega
        have e2 : (x % 2 == 0) = true := by simp; omega
        clear hod
        have hkN : k ≤ N := HC.out.2.2
        have hN60 := HN1.out
        obtain ⟨Bf, hBf⟩ : ∃ Bf, Bf = wr.heap.size := ⟨_, rfl⟩
        have HVL := hid (show (∀ i, (Value.slice a0 k c0).ownBlock = some i → i < Bf) ∧ B ≤ Bf from ⟨fun i hi => by rw [hBf]; exact (HI.out.2.2.1.own_lt i hi).2, by rw [hBf]; exact HI.out.2.2.2.2⟩)
        have HI := hid (show RW w wr l m g B N (Value.slice a0 k c0) (cyc N st k) s ∧ Bf ≤ wr.heap.size from ⟨HI.out, by omega⟩)
        clear hBf
        go_wp2_with fail
        go_loopw [13, 12, 10] (fun kk fv nx wr => ∃ j : Nat, j ≤ 8 ∧ k + j ≤ N ∧ kk = .int .i64 (j : Int) ∧ nx = .int .i64 (((st + k + j) % N : Nat) : Int) ∧ Grow wr Bf 3 1 (encI .i64) fv (cyc N (st + k) j) ∧ RW w wr l m g B N (Value.slice a0 k c0) (cyc N st k) s ∧ Bf ≤ wr.heap.size) (fun kk _ _ _ => 8 - (intOf kk).toNat)
        case atStart => exact ⟨0, by omega, by omega, rfl, by rw [HNX.out, Nat.add_zero], Grow.nil _ _ _ _ _, HI.out⟩
        case round =>
          clear HI cx
          obtain ⟨j, hj8, hjN, rfl, rfl, hG, hI⟩ := hrel
          obtain ⟨a1, c1, hv, hrow1, hn1, hown1⟩ := hG.row encN_len
          rw [cyc_len] at hv
          subst hv
          have HI := hid (And.intro hG hI)
          have cx := (HI.out.2.1.2.2.2.1.cell HXW.out.2).trans HXW.out.1
          clear hG hI hrow1
          have hm8 : 0 ≤ x % 8 ∧ x % 8 < 8 := by omega
          obtain ⟨nx, hq⟩ : ∃ nx : Int, nx = (((st + k + j) % N : Nat) : Int) := ⟨_, rfl⟩
          rw [← hq]
          have HQQ := hid hq
          clear hq
          by_cases h : (j : Int) < x % 8 ∧ k + j < N
          · have c1d : decide ((j : Int) < x % 8) = true := decide_eq_true h.1
            have c2d : decide ((k : Int) + (j : Int) < (N : Int)) = true := decide_eq_true (by omega)
            have hG6 := HI.out.1
            have hs6 := HI.out.2.2
            have hlen6 : (cyc N (st + k) j).length ≤ 8 := by rw [cyc_len]; omega
            have hjj : j + 1 ≤ 8 := by omega
            have hkj : k + (j + 1) ≤ N := by omega
            have hq := HQQ.out
            have hq0 : 0 ≤ nx ∧ nx < (N : Int) := by have := Nat.mod_lt (st + k + j) (show 0 < N by omega); omega
            have hq1 : (nx + 1) % (N : Int) = (((st + k + (j + 1)) % N : Nat) : Int) := by
              rw [hq, show st + k + (j + 1) = st + k + j + 1 by omega]
              have e : ((st + k + j) % N + 1) % N = (st + k + j + 1) % N := by simp
              obtain ⟨r, hr⟩ : ∃ r, r = (st + k + j) % N := ⟨_, rfl⟩
              rw [← hr] at e ⊢
              rw [← e, Int.natCast_emod]
              rfl
            obtain ⟨q2, hq2⟩ : ∃ q2 : Int, q2 = (((st + k + (j + 1)) % N : Nat) : Int) := ⟨_, rfl⟩
            rw [← hq2] at hq1
            have hq3 : (nx + 1).tmod (N : Int) = q2 := by rw [Int.tmod_eq_emod_of_nonneg (by omega)]; exact hq1
            have HQ2 := hid hq2
            clear h hq hq2
            go_wp2_with (first | (at_builtin; refine app_oneK (T := 3) nx hG6 infoI Try.underlying49 rfl (by decide) (by omega) rfl _ _ rfl rfl rfl rfl (encN_len _) (encN_one _) (by omega) hs6 ?_; intro v' w7 hG7 hK7))
            have hI := HI.out.2.1.high hK7 (fun i hi => own_le hG6 i (by simpa using hi)) (by have := HB0.out; have := HVL.out.2; omega) (by have := HB0.out; have := HVL.out.2; have := HQ.out; omega) HVL.out.1
            rw [HQQ.out, ← cyc_snoc] at hG7
            exact ⟨⟨j + 1, hjj, hkj, by go_num, by rw [HQ2.out], hG7, hI, Nat.le_trans hs6 hK7.size⟩, by simp [intOf]; omega⟩
          · have stop : decide ((j : Int) < x % 8) = false ∨ (decide ((j : Int) < x % 8) = true ∧ decide ((k : Int) + (j : Int) < (N : Int)) = false) := by
              by_cases h1 : (j : Int) < x % 8
              · exact .inr ⟨decide_eq_true h1, decide_eq_false (by omega)⟩
              · exact .inl (decide_eq_false h1)
            have HGR := hid (show RowOf (encI .i64) 1 wr a1 (cyc N (st + k) j) by
              obtain ⟨a9, c9, hv9, hr9, _⟩ := HI.out.1.row encN_len
              injection hv9 with v1 v2 v3
              subst v1
              exact hr9)
            have HA1 := hid hown1
            have hN1 := hid hn1
            have HSTP := hid stop
            clear h stop hown1 hn1
            have HNN := hN1
            rcases HSTP.out with c1d | ⟨c1d, c2d⟩
            · obtain ⟨ko, hko⟩ : ∃ ko, ko = k := ⟨_, rfl⟩
              subst hko
              go_wp2_with fail
              have qa := qp_any wr.heap.size l 1 1 N 0 a1 c1 (cyc N (st + ko) j) wr HNN.out (by rw [cyc_len]; omega) HGR.out HI.out.2.1.1 (Nat.le_refl _)
              rw [cyc_len] at qa
              refine qa.mono ?_
              rintro e w5 ⟨y, rfl, hA, hb⟩
              clear qa cx c1d
              have hlo1 := HI.out.2.2
              have hA1 := HA1.out
              obtain ⟨lo, hlo⟩ : ∃ lo, lo = wr.heap.size := ⟨_, rfl⟩
              rw [← hlo] at hA hlo1 hA1
              have HPU := hid (rp_put HN1.out HP.out hjN hj8)
              have hfl := cyc_len N (st + ko) j
              have HFG := hid (fun i (hi : i < (cyc N (st + ko) j).length) => cyc_get hi)
              obtain ⟨few, hfew⟩ : ∃ few, few = cyc N (st + ko) j := ⟨_, rfl⟩
              have HR1 := hid (show RowOf (encI .i64) 1 w5 a1 few by rw [hfew]; exact HGR.out.quiet hb)
              rw [← hfew] at hA HPU hfl HFG
              replace HI := hid (show (qpM lo l 1 1 N 0 few).at_ lo l y 1 1 N 0 w5 (after (qpY 1 1 N few) 0 (qpStart few) s 0).1 ∧ RW w w5 l m g B N (Value.slice a0 ko c0) (cyc N st ko) (after (qpY 1 1 N few) 0 (qpStart few) s 0).2 ∧ RowOf (encI .i64) 1 w5 a1 few ∧ lo ≤ w5.heap.size from ⟨hA, HI.out.2.1.quiet hb, HR1.out, by rw [hlo]; exact hb.size⟩)
              have HLO := hid (show (∀ x, a1 = some x → Bf ≤ x.block ∧ x.block < lo) ∧ Bf ≤ lo from ⟨hA1, hlo1⟩)
              have HFL := hid hfl
              clear hA hb hlo hlo1 hA1 hfew HR1 HGR hfl HA1
              go_wp2_with fail
              go_loopw [15] (fun i wr => ∃ i2 : Nat, i2 ≤ 20 ∧ i = .int .i64 (i2 : Int) ∧ (qpM lo l 1 1 N 0 few).at_ lo l y 1 1 N 0 wr (after (qpY 1 1 N few) 0 (qpStart few) s i2).1 ∧ RW w wr l m g B N (Value.slice a0 ko c0) (cyc N st ko) (after (qpY 1 1 N few) 0 (qpStart few) s i2).2 ∧ RowOf (encI .i64) 1 wr a1 few ∧ lo ≤ wr.heap.size) (fun i _ => 20 - (intOf i).toNat)
              case atStart => exact ⟨0, by omega, rfl, HI.out⟩
              case round =>
                clear HI
                obtain ⟨i2, hi2, rfl, hI⟩ := hrel
                have HI := hid hI
                clear hI
                by_cases hlt2 : i2 < 20
                · have hltj : decide ((i2 : Int) < 20) = true := decide_eq_true (by omega)
                  have hcl := after_clock (qpY 1 1 N few) 0 (qpStart few) s i2
                  have hc0 := HC.out
                  have hn0 := HN.out
                  go_wp2_with fail
                  refine (m2_stepL qp_thru (qp_goes lo l y 1 1 N 0 few (by rw [HFL.out]; omega)) HI.out.1 HI.out.2.1.2.1 (by omega) (by omega)).mono ?_
                  rintro e w6 ⟨⟨bb, rfl⟩, hA6, hM6, hK6⟩
                  have HI6 := hid (show (qpM lo l 1 1 N 0 few).at_ lo l y 1 1 N 0 w6 (after (qpY 1 1 N few) 0 (qpStart few) s (i2 + 1)).1 ∧ RW w w6 l m g B N (Value.slice a0 ko c0) (cyc N st ko) (after (qpY 1 1 N few) 0 (qpStart few) s (i2 + 1)).2 ∧ RowOf (encI .i64) 1 w6 a1 few ∧ lo ≤ w6.heap.size from ⟨hA6, HI.out.2.1.own hK6 hA6.2.2.1 hM6 HQ.out (by have := HB0.out; have := HVL.out.2; have := HLO.out.2; omega) (fun i hi => by have := HVL.out.1 i hi; have := HLO.out.2; omega), keptOwn_row hK6 HI.out.2.2.1 (fun x hx => by have := HLO.out.1 x hx; have := HQ.out; have := HVL.out.2; omega), Nat.le_trans HI.out.2.2.2 (keptOwn_size hK6)⟩)
                  clear hA6 hM6 hK6 HI hcl hc0 hn0
                  go_wp2_with fail
                  go_roundw
                  case rel => exact ⟨i2 + 1, by omega, by go_num, HI6.out⟩
                  case measure => simp [intOf]; omega
                · obtain rfl : i2 = 20 := by omega
                  have hltj : decide ((20 : Int) < 20) = false := by decide
                  have hp2 := HPU.out
                  obtain ⟨s, hs2⟩ : ∃ s2, s2 = (after (qpY 1 1 N few) 0 (qpStart few) s 20).2 := ⟨_, rfl⟩
                  rw [← hs2] at hp2 HI
                  replace HP := hid hp2
                  replace HI := hid HI.out.2
                  clear hs2 hp2 HPU
                  go_wp2_with fail
                  go_loopw [16, 9] (fun kk v wr => ∃ i k : Nat, k = ko + i ∧ i ≤ j ∧ kk = .int .i64 (i : Int) ∧ RW w wr l m g B N v (cyc N st k) s ∧ RowOf (encI .i64) 1 wr a1 few ∧ (∀ b, v.ownBlock = some b → ∀ x, a1 = some x → x.block ≠ b) ∧ lo ≤ wr.heap.size) (fun kk _ _ => j - (intOf kk).toNat)
                  case atStart => exact ⟨0, ko, rfl, by omega, rfl, HI.out.1, HI.out.2.1, fun b hb x hx => by have := HVL.out.1 b hb; have := HLO.out.1 x hx; omega, HI.out.2.2⟩
                  case round =>
                    clear HI
                    obtain ⟨i, k, hki, hij, rfl, hI⟩ := hrel
                    obtain ⟨a2, c2, hv, hr2, _⟩ := hI.1.2.2.1.row
                    rw [cyc_len] at hv
                    subst hv
                    have HI := hid hI
                    have HKI := hid hki
                    clear hI hr2
                    by_cases hlt3 : i < j
                    · have hlti : decide ((i : Int) < (j : Int)) = true := decide_eq_true (by omega)
                      obtain ⟨ad1, ha1, hx1⟩ := HI.out.2.1 i (by rw [HFL.out]; exact hlt3)
                      subst ha1
                      have cz := hx1 0 _ rfl
                      rw [Nat.mul_one, Nat.add_zero] at cz
                      have hzz := HFG.out i (by rw [HFL.out]; exact hlt3)
                      obtain ⟨z, hz⟩ : ∃ z, z = few[i]'(by rw [HFL.out]; exact hlt3) := ⟨_, rfl⟩
                      rw [← hz] at cz hzz
                      have HZZ := hid hzz
                      have i0 : (0 : Int) ≤ (i : Int) := by omega
                      have i1 : (i : Int) < (j : Int) := by omega
                      have hQ6 := HI.out.1.2.2.1
                      have hs6 := HI.out.1.2.2.2.2
                      have hlen6 : (cyc N st k).length ≤ 1000 := by rw [cyc_len]; omega
                      clear hx1 hz hzz hki
                      go_wp2_with (first | (at_builtin; refine app_q (T := 3) z hQ6 infoI Try.underlying49 rfl rfl _ _ rfl rfl rfl (by omega) hs6 ?_; intro v' w7 hQ7 ho7 hK7))
                      obtain ⟨S7, hK7, hS7⟩ := hK7
                      have hi1 := HI.out.1
                      have hnew : RW w w7 l m g B N v' (cyc N st (k + 1)) s := by
                        refine ⟨hi1.1.kept hK7 (fun hi => ?_), hi1.2.1.kept hK7 (fun hi => by have := (hS7 _ hi).1; have := HQ.out; omega) (fun hi => by have := (hS7 _ hi).1; have := HQ.out; omega), ?_, below_kept hi1.2.2.2.1 hK7 (fun i hi => by have := (hS7 i hi).1; have := HB0.out; omega) hi1.2.2.2.1.size, Nat.le_trans hs6 hK7.size⟩
                        · obtain ⟨_, ⟨cs, hb⟩, _⟩ := hS7 _ hi
                          exact Blk.ne hi1.1.1 hb (by decide) rfl
                        · rw [cyc_snoc, HKI.out, ← Nat.add_assoc, ← HZZ.out, ← HKI.out]
                          exact hQ7
                      have hrow7 : RowOf (encI .i64) 1 w7 (some ad1) few := Idlep.row_kept HI.out.2.1 hK7 (fun x hx hi => HI.out.2.2.1 _ (hS7 _ hi).2.2 x hx rfl)
                      have hne7 : ∀ b, v'.ownBlock = some b → ∀ x, some ad1 = some x → x.block ≠ b := by
                        intro b hb x hx
                        rcases ho7 with e | e
                        · exact HI.out.2.2.1 b (by rw [← e]; exact hb) x hx
                        · have := e b hb
                          have := HLO.out.1 x hx
                          have := HI.out.2.2.2
                          omega
                      have HI7 := hid (And.intro hnew (And.intro hrow7 (And.intro hne7 (Nat.le_trans HI.out.2.2.2 hK7.size))))
                      clear hnew hrow7 hne7 hQ7 ho7 hK7 hS7 hi1 hQ6
                      refine ⟨?_, by simp [intOf]; omega⟩
                      (repeat apply Exists.intro); exact ⟨⟨i + 1, k + 1, by rw [HKI.out]; omega, by omega, by go_num, HI7.out⟩, rfl⟩
                    · obtain rfl : i = j := by omega
                      have hlti : decide ((i : Int) < (i : Int)) = false := decide_eq_false (by omega)
                      replace HI := hid HI.out.1
                      replace HP := hid (show RP N (n + 1) st k s by rw [HKI.out]; exact HP.out)
                      have HNX := hid (show nx = (((st + k) % N : Nat) : Int) by rw [HQQ.out, HKI.out, Nat.add_assoc])
                      clear HQQ HFG HFL HLO HVL HC hkN hm8 m8 hjN hki
                      have HPL := hid (rp_list HN1.out HP.out)
                      have hn0 := HN.out
                      have hN1 := HN1.out
                      have hkN := (rp_bad HP.out).2.2
                      have hcl : (cyc N st k).length = k := cyc_len N st k
                      go_wp2_with fail
                      refine (glist_run l m g 1 1 N s _ HI.out.1 HI.out.2.1).mono ?_
                      rintro e w8 ⟨a8, c8, rfl, hrow8, hb8, _⟩
                      rw [HPL.out.1] at hrow8 ⊢
                      simp only [hcl]
                      obtain ⟨a9, c9, hv9, hr9, _⟩ := HI.out.2.2.1.row
                      injection hv9 with v1 v2 v3
                      rw [← v1] at hr9
                      have hro := hr9.quiet hb8
                      clear v1 v2 v3 hr9
                      have HI := hid (And.intro (HI.out.quiet hb8) (And.intro hrow8 hro))
                      clear hb8 hrow8 hro
                      go_wp2_with fail
                      refine (mpeek_run m g s _ _ HI.out.1.2.1).mono ?_
                      rintro e w9 ⟨rfl, rfl⟩
                      rw [HPL.out.2]
                      have hu : IntKind.u64.wrap (k : Int) = (k : Int) := by rw [IntKind.wrap_u64]; omega
                      have hkk : ((k : Int) != (k : Int)) = false := by simp
                      go_wp2_with (first | (go_at_call 53; refine (same12K a8 _ c8 _ (cyc N st k) k hcl _ HI.out.2.1 HI.out.2.2 (by omega)).mono ?_; rintro e w10 ⟨rfl, hb10⟩; replace HI := hid (And.intro (HI.out.1.quiet hb10) (And.intro (HI.out.2.1.quiet hb10) (HI.out.2.2.quiet hb10))); clear hb10))
                      exact ⟨⟨n + 1, by omega, by go_num, st, k, s, by rw [HNX.out], HI.out.1, HP.out⟩, by simp [intOf]; omega⟩
            · obtain ⟨ko, hko⟩ : ∃ ko, ko = k := ⟨_, rfl⟩
              subst hko
              go_wp2_with fail
              have qa := qp_any wr.heap.size l 1 1 N 0 a1 c1 (cyc N (st + ko) j) wr HNN.out (by rw [cyc_len]; omega) HGR.out HI.out.2.1.1 (Nat.le_refl _)
              rw [cyc_len] at qa
              refine qa.mono ?_
              rintro e w5 ⟨y, rfl, hA, hb⟩
              clear qa cx c1d
              have hlo1 := HI.out.2.2
              have hA1 := HA1.out
              obtain ⟨lo, hlo⟩ : ∃ lo, lo = wr.heap.size := ⟨_, rfl⟩
              rw [← hlo] at hA hlo1 hA1
              have HPU := hid (rp_put HN1.out HP.out hjN hj8)
              have hfl := cyc_len N (st + ko) j
              have HFG := hid (fun i (hi : i < (cyc N (st + ko) j).length) => cyc_get hi)
              obtain ⟨few, hfew⟩ : ∃ few, few = cyc N (st + ko) j := ⟨_, rfl⟩
              have HR1 := hid (show RowOf (encI .i64) 1 w5 a1 few by rw [hfew]; exact HGR.out.quiet hb)
              rw [← hfew] at hA HPU hfl HFG
              replace HI := hid (show (qpM lo l 1 1 N 0 few).at_ lo l y 1 1 N 0 w5 (after (qpY 1 1 N few) 0 (qpStart few) s 0).1 ∧ RW w w5 l m g B N (Value.slice a0 ko c0) (cyc N st ko) (after (qpY 1 1 N few) 0 (qpStart few) s 0).2 ∧ RowOf (encI .i64) 1 w5 a1 few ∧ lo ≤ w5.heap.size from ⟨hA, HI.out.2.1.quiet hb, HR1.out, by rw [hlo]; exact hb.size⟩)
              have HLO := hid (show (∀ x, a1 = some x → Bf ≤ x.block ∧ x.block < lo) ∧ Bf ≤ lo from ⟨hA1, hlo1⟩)
              have HFL := hid hfl
              clear hA hb hlo hlo1 hA1 hfew HR1 HGR hfl HA1
              go_wp2_with fail
              go_loopw [15] (fun i wr => ∃ i2 : Nat, i2 ≤ 20 ∧ i = .int .i64 (i2 : Int) ∧ (qpM lo l 1 1 N 0 few).at_ lo l y 1 1 N 0 wr (after (qpY 1 1 N few) 0 (qpStart few) s i2).1 ∧ RW w wr l m g B N (Value.slice a0 ko c0) (cyc N st ko) (after (qpY 1 1 N few) 0 (qpStart few) s i2).2 ∧ RowOf (encI .i64) 1 wr a1 few ∧ lo ≤ wr.heap.size) (fun i _ => 20 - (intOf i).toNat)
              case atStart => exact ⟨0, by omega, rfl, HI.out⟩
              case round =>
                clear HI
                obtain ⟨i2, hi2, rfl, hI⟩ := hrel
                have HI := hid hI
                clear hI
                by_cases hlt2 : i2 < 20
                · have hltj : decide ((i2 : Int) < 20) = true := decide_eq_true (by omega)
                  have hcl := after_clock (qpY 1 1 N few) 0 (qpStart few) s i2
                  have hc0 := HC.out
                  have hn0 := HN.out
                  go_wp2_with fail
                  refine (m2_stepL qp_thru (qp_goes lo l y 1 1 N 0 few (by rw [HFL.out]; omega)) HI.out.1 HI.out.2.1.2.1 (by omega) (by omega)).mono ?_
                  rintro e w6 ⟨⟨bb, rfl⟩, hA6, hM6, hK6⟩
                  have HI6 := hid (show (qpM lo l 1 1 N 0 few).at_ lo l y 1 1 N 0 w6 (after (qpY 1 1 N few) 0 (qpStart few) s (i2 + 1)).1 ∧ RW w w6 l m g B N (Value.slice a0 ko c0) (cyc N st ko) (after (qpY 1 1 N few) 0 (qpStart few) s (i2 + 1)).2 ∧ RowOf (encI .i64) 1 w6 a1 few ∧ lo ≤ w6.heap.size from ⟨hA6, HI.out.2.1.own hK6 hA6.2.2.1 hM6 HQ.out (by have := HB0.out; have := HVL.out.2; have := HLO.out.2; omega) (fun i hi => by have := HVL.out.1 i hi; have := HLO.out.2; omega), keptOwn_row hK6 HI.out.2.2.1 (fun x hx => by have := HLO.out.1 x hx; have := HQ.out; have := HVL.out.2; omega), Nat.le_trans HI.out.2.2.2 (keptOwn_size hK6)⟩)
                  clear hA6 hM6 hK6 HI hcl hc0 hn0
                  go_wp2_with fail
                  go_roundw
                  case rel => exact ⟨i2 + 1, by omega, by go_num, HI6.out⟩
                  case measure => simp [intOf]; omega
                · obtain rfl : i2 = 20 := by omega
                  have hltj : decide ((20 : Int) < 20) = false := by decide
                  have hp2 := HPU.out
                  obtain ⟨s, hs2⟩ : ∃ s2, s2 = (after (qpY 1 1 N few) 0 (qpStart few) s 20).2 := ⟨_, rfl⟩
                  rw [← hs2] at hp2 HI
                  replace HP := hid hp2
                  replace HI := hid HI.out.2
                  clear hs2 hp2 HPU
                  go_wp2_with fail
                  go_loopw [16, 9] (fun kk v wr => ∃ i k : Nat, k = ko + i ∧ i ≤ j ∧ kk = .int .i64 (i : Int) ∧ RW w wr l m g B N v (cyc N st k) s ∧ RowOf (encI .i64) 1 wr a1 few ∧ (∀ b, v.ownBlock = some b → ∀ x, a1 = some x → x.block ≠ b) ∧ lo ≤ wr.heap.size) (fun kk _ _ => j - (intOf kk).toNat)
                  case atStart => exact ⟨0, ko, rfl, by omega, rfl, HI.out.1, HI.out.2.1, fun b hb x hx => by have := HVL.out.1 b hb; have := HLO.out.1 x hx; omega, HI.out.2.2⟩
                  case round =>
                    clear HI
                    obtain ⟨i, k, hki, hij, rfl, hI⟩ := hrel
                    obtain ⟨a2, c2, hv, hr2, _⟩ := hI.1.2.2.1.row
                    rw [cyc_len] at hv
                    subst hv
                    have HI := hid hI
                    have HKI := hid hki
                    clear hI hr2
                    by_cases hlt3 : i < j
                    · have hlti : decide ((i : Int) < (j : Int)) = true := decide_eq_true (by omega)
                      obtain ⟨ad1, ha1, hx1⟩ := HI.out.2.1 i (by rw [HFL.out]; exact hlt3)
                      subst ha1
                      have cz := hx1 0 _ rfl
                      rw [Nat.mul_one, Nat.add_zero] at cz
                      have hzz := HFG.out i (by rw [HFL.out]; exact hlt3)
                      obtain ⟨z, hz⟩ : ∃ z, z = few[i]'(by rw [HFL.out]; exact hlt3) := ⟨_, rfl⟩
                      rw [← hz] at cz hzz
                      have HZZ := hid hzz
                      have i0 : (0 : Int) ≤ (i : Int) := by omega
                      have i1 : (i : Int) < (j : Int) := by omega
                      have hQ6 := HI.out.1.2.2.1
                      have hs6 := HI.out.1.2.2.2.2
                      have hlen6 : (cyc N st k).length ≤ 1000 := by rw [cyc_len]; omega
                      clear hx1 hz hzz hki
                      go_wp2_with (first | (at_builtin; refine app_q (T := 3) z hQ6 infoI Try.underlying49 rfl rfl _ _ rfl rfl rfl (by omega) hs6 ?_; intro v' w7 hQ7 ho7 hK7))
                      obtain ⟨S7, hK7, hS7⟩ := hK7
                      have hi1 := HI.out.1
                      have hnew : RW w w7 l m g B N v' (cyc N st (k + 1)) s := by
                        refine ⟨hi1.1.kept hK7 (fun hi => ?_), hi1.2.1.kept hK7 (fun hi => by have := (hS7 _ hi).1; have := HQ.out; omega) (fun hi => by have := (hS7 _ hi).1; have := HQ.out; omega), ?_, below_kept hi1.2.2.2.1 hK7 (fun i hi => by have := (hS7 i hi).1; have := HB0.out; omega) hi1.2.2.2.1.size, Nat.le_trans hs6 hK7.size⟩
                        · obtain ⟨_, ⟨cs, hb⟩, _⟩ := hS7 _ hi
                          exact Blk.ne hi1.1.1 hb (by decide) rfl
                        · rw [cyc_snoc, HKI.out, ← Nat.add_assoc, ← HZZ.out, ← HKI.out]
                          exact hQ7
                      have hrow7 : RowOf (encI .i64) 1 w7 (some ad1) few := Idlep.row_kept HI.out.2.1 hK7 (fun x hx hi => HI.out.2.2.1 _ (hS7 _ hi).2.2 x hx rfl)
                      have hne7 : ∀ b, v'.ownBlock = some b → ∀ x, some ad1 = some x → x.block ≠ b := by
                        intro b hb x hx
                        rcases ho7 with e | e
                        · exact HI.out.2.2.1 b (by rw [← e]; exact hb) x hx
                        · have := e b hb
                          have := HLO.out.1 x hx
                          have := HI.out.2.2.2
                          omega
                      have HI7 := hid (And.intro hnew (And.intro hrow7 (And.intro hne7 (Nat.le_trans HI.out.2.2.2 hK7.size))))
                      clear hnew hrow7 hne7 hQ7 ho7 hK7 hS7 hi1 hQ6
                      refine ⟨?_, by simp [intOf]; omega⟩
                      (repeat apply Exists.intro); exact ⟨⟨i + 1, k + 1, by rw [HKI.out]; omega, by omega, by go_num, HI7.out⟩, rfl⟩
                    · obtain rfl : i = j := by omega
                      have hlti : decide ((i : Int) < (i : Int)) = false := decide_eq_false (by omega)
                      replace HI := hid HI.out.1
                      replace HP := hid (show RP N (n + 1) st k s by rw [HKI.out]; exact HP.out)
                      have HNX := hid (show nx = (((st + k) % N : Nat) : Int) by rw [HQQ.out, HKI.out, Nat.add_assoc])
                      clear HQQ HFG HFL HLO HVL HC hkN hm8 m8 hjN hki
                      have HPL := hid (rp_list HN1.out HP.out)
                      have hn0 := HN.out
                      have hN1 := HN1.out
                      have hkN := (rp_bad HP.out).2.2
                      have hcl : (cyc N st k).length = k := cyc_len N st k
                      go_wp2_with fail
                      refine (glist_run l m g 1 1 N s _ HI.out.1 HI.out.2.1).mono ?_
                      rintro e w8 ⟨a8, c8, rfl, hrow8, hb8, _⟩
                      rw [HPL.out.1] at hrow8 ⊢
                      simp only [hcl]
                      obtain ⟨a9, c9, hv9, hr9, _⟩ := HI.out.2.2.1.row
                      injection hv9 with v1 v2 v3
                      rw [← v1] at hr9
                      have hro := hr9.quiet hb8
                      clear v1 v2 v3 hr9
                      have HI := hid (And.intro (HI.out.quiet hb8) (And.intro hrow8 hro))
                      clear hb8 hrow8 hro
                      go_wp2_with fail
                      refine (mpeek_run m g s _ _ HI.out.1.2.1).mono ?_
                      rintro e w9 ⟨rfl, rfl⟩
                      rw [HPL.out.2]
                      have hu : IntKind.u64.wrap (k : Int) = (k : Int) := by rw [IntKind.wrap_u64]; omega
                      have hkk : ((k : Int) != (k : Int)) = false := by simp
                      go_wp2_with (first | (go_at_call 53; refine (same12K a8 _ c8 _ (cyc N st k) k hcl _ HI.out.2.1 HI.out.2.2 (by omega)).mono ?_; rintro e w10 ⟨rfl, hb10⟩; replace HI := hid (And.intro (HI.out.1.quiet hb10) (And.intro (HI.out.2.1.quiet hb10) (HI.out.2.2.quiet hb10))); clear hb10))
                      exact ⟨⟨n + 1, by omega, by go_num, st, k, s, by rw [HNX.out], HI.out.1, HP.out⟩, by simp [intOf]; omega⟩
    · obtain rfl : n = xs.length := by omega
      have hlt' : decide ((xs.length : Int) < (xs.length : Int)) = false := decide_eq_false (by omega)
      have HBD := hid (rp_bad HP.out).1
      go_wp2_with (first | (go_at_call 45; refine (awake_run _).mono ?_; rintro e w9 ⟨rfl, hb9⟩) | (go_at_call 26; refine (mbad_run m g s _ (HI.out.2.1.quiet hb9)).mono ?_; rintro e w10 ⟨rfl, rfl⟩; rw [HBD.out]))
      go_ret
      exact ⟨rfl, Below.then_ HI.out.2.2.2.1 hb9⟩
end Go.Proofs.Ytnmkfmaohflejaa.Globq
