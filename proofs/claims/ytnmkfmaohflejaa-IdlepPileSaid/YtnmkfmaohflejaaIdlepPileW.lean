/- The walk of IdlepPile. -/
import Derived.Test.YtnmkfmaohflejaaPile
import Derived.Test.YtnmkfmaohflejaaIdlepD
import Derived.Deep.DeepCutAuto
import Derived.BigQuiet
set_option maxRecDepth 100000
set_option maxHeartbeats 1000000
set_option linter.unusedVariables false
set_option linter.unusedSimpArgs false
namespace Go.Proofs.Ytnmkfmaohflejaa.Idlep
open Go.RowKit Go.Shelf Go.Proofs.Ytnmkfmaohflejaa.TK Go.Proofs.Ytnmkfmaohflejaa.Flag Go.Proofs.Ytnmkfmaohflejaa.Read Go.Proofs.Ytnmkfmaohflejaa.Grow Go.Proofs.Ytnmkfmaohflejaa.Words Go.Proofs.Ytnmkfmaohflejaa.Mem Go.Proofs.Ytnmkfmaohflejaa.Flow Go.Proofs.Ytnmkfmaohflejaa.Layout Go.Proofs.Ytnmkfmaohflejaa.Lock Go.Proofs.Ytnmkfmaohflejaa.Run Go.Proofs.Ytnmkfmaohflejaa.Sys Go.Proofs.Ytnmkfmaohflejaa.Mach Go.Proofs.Ytnmkfmaohflejaa.Doc Go.Proofs.Ytnmkfmaohflejaa.Ref05 Go.Proofs.Ytnmkfmaohflejaa.Road Go.Proofs.Ytnmkfmaohflejaa.Chain Go.Proofs.Ytnmkfmaohflejaa.Bits
open Go.Proofs.Ytnmkfmaohflejaa.Ring (after after_clock)
/-- What is known of a round's world. -/
def RW (w wr : World) (l m g B : Nat) (P : Int) (v : Value) (pile : List Int) (s : St) : Prop := Lay wr l P P 1 ∧ MemAt wr m g s ∧ Grow wr B 3 1 (encI .i64) v pile ∧ Below w.heap.size w wr ∧ B ≤ wr.heap.size
/-- What is known of its words. -/
def RP (P : Int) (n : Nat) (pile : List Int) (s : St) : Prop := ∃ f, Is s (lenOf P P 1) f ∧ Pile P f pile ∧ s.clock ≤ 8 * (n : Int)
theorem RW.quiet {w wr w' : World} {l m g B : Nat} {P : Int} {v : Value} {pile : List Int} {s : St} (h : RW w wr l m g B P v pile s) (hb : Below wr.heap.size wr w') : RW w w' l m g B P v pile s := ⟨h.1.quiet hb, h.2.1.quiet hb, h.2.2.1.quiet hb, Below.then_ h.2.2.2.1 hb, Nat.le_trans h.2.2.2.2 hb.size⟩
theorem RP.mono {P : Int} {n k : Nat} {pile : List Int} {s : St} (h : RP P n pile s) (hk : n ≤ k) : RP P k pile s := by
  obtain ⟨f, h1, h2, h3⟩ := h
  exact ⟨f, h1, h2, by omega⟩
theorem rp_bad {P : Int} {n : Nat} {pile : List Int} {s : St} (h : RP P n pile s) : s.bad = 0 ∧ s.clock ≤ 8 * (n : Int) := by
  obtain ⟨f, h1, _, h3⟩ := h
  exact ⟨h1.bad, h3⟩
theorem rp_len {P : Int} {n : Nat} {pile : List Int} {s : St} (hP : 1 ≤ P ∧ P ≤ 4) (h : RP P n pile s) : pile.length ≤ 4 := by
  obtain ⟨f, _, h2, _⟩ := h
  have := pile_len h2 (by omega)
  omega
theorem rp_list {P : Int} {n : Nat} {pile : List Int} {s : St} (hP : 1 ≤ P ∧ P ≤ 4) (h : RP P n pile s) : plst s P P = (pile.reverse, true) ∧ (s.peek 10).1 = (pile.length : Int) ∧ (s.peek 19).1 = mk4 pile := by
  obtain ⟨f, h1, h2, h3⟩ := h
  have hn : 20 + 264 * P ≤ ((lenOf P P 1 : Nat) : Int) := by unfold lenOf; omega
  refine ⟨pile_list h2 h1 hP hn, ?_, ?_⟩
  · rw [h1.peek (by omega) (by omega)]; exact h2.2.1
  · rw [h1.peek (by omega) (by omega)]; exact h2.2.2.1
theorem rp_put {P p : Int} {n : Nat} {pile : List Int} {s : St} (hP : 1 ≤ P ∧ P ≤ 4) (hp : 0 ≤ p ∧ p < P) (h : RP P n pile s) (hno : p ∉ pile) :
    RP P (n + 1) (pile ++ [p]) (after (ppM 0 P p).sys 0 .a s 8).2 := by
  obtain ⟨f, h1, h2, h3⟩ := h
  obtain ⟨f', hr, hc⟩ := pile_put P p (lenOf P P 1) hP hp (by unfold lenOf; omega) f pile h2 hno
  obtain ⟨e1, e2⟩ := hr.ends rfl 0 h1 8 (by omega)
  have hcl := (after_clock (ppM 0 P p).sys 0 .a s 8).1
  exact ⟨f', e2, hc, by omega⟩
theorem rp_get {P : Int} {n : Nat} {pile : List Int} {s : St} (hP : 1 ≤ P ∧ P ≤ 4) (h : RP P n pile s) :
    (pgM 0 P).sys.want (after (pgM 0 P).sys 0 .h s 8).1 = none ∧ (after (pgM 0 P).sys 0 .h s 8).1.p = pile.getLastD (-1) ∧ RP P (n + 1) pile.dropLast (after (pgM 0 P).sys 0 .h s 8).2 := by
  obtain ⟨f, h1, h2, h3⟩ := h
  have hcl := (after_clock (pgM 0 P).sys 0 .h s 8).1
  rcases List.eq_nil_or_concat pile with rfl | ⟨ys, t, rfl⟩
  · have hr := pile_get0 P (lenOf P P 1) (by unfold lenOf; omega) f h2
    obtain ⟨e1, e2⟩ := hr.ends rfl 0 h1 8 (by omega)
    rw [e1]
    exact ⟨rfl, rfl, f, e2, h2, by omega⟩
  · rw [List.concat_eq_append] at h2 ⊢
    obtain ⟨f', b, hr, hp, hc⟩ := pile_get1 P t (lenOf P P 1) hP (by unfold lenOf; omega) f ys h2
    obtain ⟨e1, e2⟩ := hr.ends rfl 0 h1 8 (by omega)
    rw [e1]
    exact ⟨rfl, by rw [hp]; simp, f', e2, by simpa using hc, by omega⟩
theorem rp_take {P : Int} {n : Nat} {pile : List Int} {s : St} (hP : 1 ≤ P ∧ P ≤ 4) (h : RP P n pile s) (k : Nat) (hk : k < pile.length) : IntKind.u64.wrap (mk4 (pile.take k) + bitOf pile[k]) = mk4 (pile.take (k + 1)) := by
  obtain ⟨f, h1, h2, h3⟩ := h
  have hin := h2.2.2.2.2 pile[k] (List.getElem_mem hk)
  have hnd := h2.2.2.2.1
  have e : pile.take (k + 1) = pile.take k ++ [pile[k]] := List.take_succ_eq_append_getElem hk
  have hno : pile[k] ∉ pile.take k := by
    intro hm
    have h4 : (pile.take (k + 1)).Nodup := hnd.sublist (List.take_sublist _ _)
    rw [e] at h4
    exact (List.nodup_append.1 h4).2.2 _ hm _ (by simp) rfl
  have hr := mk4_range (pile.take (k + 1))
  rw [e, mk4_add _ (by omega) hno]
  rw [e, mk4_add _ (by omega) hno] at hr
  rw [IntKind.wrap_u64]
  omega
theorem pile_walk (w : World) (P : Int) (wP : (Lit.int .i64 P).wf = true) (pv : Value) (hpv : (Leaf.row [.int .u8]).holds w pv) :
    Calls Try.prog 5 #[.int .i64 P, pv] w fun e w' => e = .returned (.bool true) ∧ Below w.heap.size w w' := by
  clear wP
  obtain ⟨a, c, xs, rfl, hr, hwf, _, _, hnil⟩ := ints_of hpv
  clear hpv
  by_cases g1 : P < 1
  · have d1 : decide (P < 1) = true := decide_eq_true g1
    go_enter Try.func5, Try.ntmps5
    (go_wp2_with (first | (go_at_call 27; refine (awake_run _).mono ?_; rintro e w9 ⟨rfl, hb9⟩)); go_ret; exact ⟨rfl, hb9⟩)
  have d1 : decide (P < 1) = false := decide_eq_false g1
  by_cases g2 : 4 < P
  · have d2 : decide (4 < P) = true := decide_eq_true g2
    go_enter Try.func5, Try.ntmps5
    (go_wp2_with (first | (go_at_call 27; refine (awake_run _).mono ?_; rintro e w9 ⟨rfl, hb9⟩)); go_ret; exact ⟨rfl, hb9⟩)
  have d2 : decide (4 < P) = false := decide_eq_false g2
  by_cases g3 : 100 < (xs.length : Int)
  · have d3 : decide (100 < (xs.length : Int)) = true := decide_eq_true g3
    go_enter Try.func5, Try.ntmps5
    (go_wp2_with (first | (go_at_call 27; refine (awake_run _).mono ?_; rintro e w9 ⟨rfl, hb9⟩)); go_ret; exact ⟨rfl, hb9⟩)
  have d3 : decide (100 < (xs.length : Int)) = false := decide_eq_false g3
  have HT := hid (show 1 ≤ P ∧ P ≤ 4 by omega)
  have HN := hid (show xs.length ≤ 100 by omega)
  have HR := hid (And.intro hr hwf)
  have hT0 : 1 ≤ P := by omega
  have hT1 : P ≤ 4 := by omega
  clear g1 g2 g3 hr hwf hnil
  go_enter Try.func5, Try.ntmps5
  go_wp2_with fail
  refine (lay_yes P P 1 none 0 [] _ (by have := HT.out; unfold FewP Right; omega) (by simp) ?_ (by simp)).mono ?_
  · intro i hi; simp at hi
  rintro e w1 ⟨l, m, g, rm, rg, rfl, hL⟩
  obtain ⟨B, hB⟩ : ∃ B, B = w1.heap.size := ⟨_, rfl⟩
  have HQ := hid (show w.heap.size ≤ m ∧ w.heap.size ≤ g ∧ m < B ∧ g < B from ⟨hL.low5.2.1, hL.low5.2.2.1, by rw [hB]; exact hL.mem.ltm, by rw [hB]; exact hL.mem.ltg⟩)
  have HI := hid (show RW w w1 l m g B P (.slice none 0 0) [] (fresh (layW (lenOf P P 1) [])) from ⟨hL.lay, hL.mem, Grow.nil _ _ _ _ _, hL.low, by omega⟩)
  have HP := hid (show RP P 0 [] (fresh (layW (lenOf P P 1) [])) from ⟨_, is_fresh _ _, pile_start P, by show (0 : Int) ≤ _; omega⟩)
  have HB0 := hid (show w.heap.size ≤ B by rw [hB]; exact hL.low.size)
  clear hL hB d1 d2 d3
  go_wp2_with fail
  go_loopw [10, 9] (fun i v wr => ∃ n : Nat, n ≤ xs.length ∧ i = .int .i64 (n : Int) ∧ ∃ pile s, RW w wr l m g B P v pile s ∧ RP P n pile s) (fun i _ _ => xs.length - (intOf i).toNat)
  case atStart => exact ⟨0, by omega, rfl, _, _, HI.out, HP.out⟩
  case round =>
    clear HI HP
    obtain ⟨n, hn, rfl, pile, s, hI, hP⟩ := hrel
    obtain ⟨a0, c0, hv, hrow0, _, _⟩ := hI.2.2.1.row encN_len
    subst hv
    have HI := hid hI
    have HP := hid hP
    clear hI hP hrow0
    by_cases hlt : n < xs.length
    · have hlt' : decide ((n : Int) < (xs.length : Int)) = true := decide_eq_true (by omega)
      obtain ⟨xa, rfl, hx⟩ := HR.out.1 n hlt
      have cxw := hx 0 _ rfl
      rw [Nat.mul_one, Nat.add_zero] at cxw
      have hxw := HR.out.2 xs[n] (List.getElem_mem _)
      obtain ⟨x, hxd⟩ : ∃ x, x = xs[n] := ⟨_, rfl⟩
      rw [← hxd] at cxw hxw
      have hx0 : 0 ≤ x ∧ x < 256 := by
        have h1 : IntKind.u8.min = 0 := rfl
        have h2 : IntKind.u8.max = 255 := rfl
        have h3 := hxw
        simp [wfI, Lit.wf] at h3
        omega
      have HXW := hid (And.intro cxw (cell_lt cxw))
      have cx := (HI.out.2.2.2.1.cell HXW.out.2).trans HXW.out.1
      clear hxw hx hxd cxw
      have k0 : (0 : Int) ≤ (n : Int) := by omega
      have k1 : (n : Int) < (xs.length : Int) := by omega
      have m1 : x.tmod 2 = x % 2 := Int.tmod_eq_emod_of_nonneg hx0.1
      have hpp : 0 ≤ x / 2 % P ∧ x / 2 % P < P := ⟨Int.emod_nonneg _ (by omega), Int.emod_lt_of_pos _ (by omega)⟩
      obtain ⟨p, hp⟩ : ∃ p, x / 2 % P = p := ⟨_, rfl⟩
      rw [hp] at hpp
      have HPP := hid hpp
      clear hpp
      have hlen := rp_len HT.out HP.out
      go_wp2_with fail
      go_loopw [13, 12] (fun i v wr => ∃ k : Nat, k ≤ pile.length ∧ i = .int .i64 (k : Int) ∧ v = .bool (decide (p ∈ pile.take k)) ∧ RW w wr l m g B P (Value.slice a0 pile.length c0) pile s) (fun i _ _ => pile.length - (intOf i).toNat)
      case atStart => exact ⟨0, by omega, rfl, by simp, HI.out⟩
      case round =>
        clear HI cx
        obtain ⟨k, hk, rfl, rfl, hI⟩ := hrel
        have HI := hid hI
        clear hI
        by_cases hlt2 : k < pile.length
        · have hltj : decide ((k : Int) < (pile.length : Int)) = true := decide_eq_true (by omega)
          obtain ⟨gb, cap, hv, hgB, hcell, hfro, hcap, ⟨csB, hblk⟩, hset⟩ := Grow.parts HI.out.2.2.1 (by omega)
          cases hv
          have ck := hcell k hlt2
          have htk : decide (p ∈ pile.take (k + 1)) = (decide (p ∈ pile.take k) || (pile[k] == p)) := by
            have hmem : (p ∈ pile.take (k + 1)) ↔ (p ∈ pile.take k ∨ pile[k] = p) := by
              rw [List.take_succ_eq_append_getElem hlt2, List.mem_append, List.mem_singleton]
              exact ⟨fun h => h.imp id Eq.symm, fun h => h.imp id Eq.symm⟩
            by_cases q1 : p ∈ pile.take k <;> by_cases q2 : pile[k] = p <;> simp [hmem, q1, q2]
          obtain ⟨v, hv⟩ : ∃ v, v = pile[k] := ⟨_, rfl⟩
          rw [← hv] at ck htk
          have HTK := hid htk
          have kk0 : (0 : Int) ≤ (k : Int) := by omega
          have kk1 : (k : Int) < (pile.length : Int) := by omega
          clear hv hcell hset hfro hblk hgB hcap htk
          obtain ⟨b, hb⟩ : ∃ b, decide (p ∈ pile.take k) = b := ⟨_, rfl⟩
          rw [hb] at HTK ⊢
          clear hb
          cases b with
          | true =>
            go_wp2_with fail
            exact ⟨⟨k + 1, by omega, by go_num, by rw [HTK.out]; rfl, HI.out⟩, by simp [intOf]; omega⟩
          | false =>
            go_wp2_with fail
            exact ⟨⟨k + 1, by omega, by go_num, by rw [HTK.out]; rfl, HI.out⟩, by simp [intOf]; omega⟩
        · obtain rfl : k = pile.length := by omega
          have hltj : decide ((pile.length : Int) < (pile.length : Int)) = false := decide_eq_false (by omega)
          rw [List.take_length]
          have cx := (HI.out.2.2.2.1.cell HXW.out.2).trans HXW.out.1
          by_cases hod : x % 2 = 1
          · have e1 : (x % 2 == 1) = true := by simp [hod]
            have e2 : (x % 2 == 0) = false := by simp [hod]
            have HC := hid (rp_bad HP.out)
            have HG := hid (rp_get HT.out HP.out)
            go_wp2_with fail
            refine (pg_new_run l P P 1 0 wr HI.out.1).mono ?_
            rintro e w5 ⟨rfl, hA, hb⟩
            have HI := hid (show (pgM l P).at_ w.heap.size l _ P P 1 0 w5 (after (pgM 0 P).sys 0 .h s 0).1 ∧ RW w w5 l m g B P (Value.slice a0 pile.length c0) pile (after (pgM 0 P).sys 0 .h s 0).2 from ⟨⟨hA, HI.out.2.2.2.1.size, HI.out.1.quiet hb, trivial⟩, HI.out.quiet hb⟩)
            obtain ⟨y, hy⟩ : ∃ y, y = wr.heap.size := ⟨_, rfl⟩
            rw [← hy] at HI ⊢
            clear hA hb hy cx HP
            go_wp2_with fail
            go_loopw [17] (fun i wr => ∃ j : Nat, j ≤ 8 ∧ i = .int .i64 (j : Int) ∧ (pgM l P).at_ w.heap.size l y P P 1 0 wr (after (pgM 0 P).sys 0 .h s j).1 ∧ RW w wr l m g B P (Value.slice a0 pile.length c0) pile (after (pgM 0 P).sys 0 .h s j).2) (fun i _ => 8 - (intOf i).toNat)
            case atStart => exact ⟨0, by omega, rfl, HI.out⟩
            case round =>
              clear HI
              obtain ⟨j, hj, rfl, hI⟩ := hrel
              have HI := hid hI
              clear hI
              by_cases hlt2 : j < 8
              · have hltj : decide ((j : Int) < 8) = true := decide_eq_true (by omega)
                have hcl := after_clock (pgM 0 P).sys 0 .h s j
                have hc0 := HC.out
                have hn0 := HN.out
                go_wp2_with fail
                refine (pgstep_run w.heap.size l y m g P P 1 0 (pg_goes l y P P 1 0) HI.out.1 HI.out.2.2.1 (by omega) (by omega)).mono ?_
                rintro e w6 ⟨⟨bb, rfl⟩, hA6, hM6, hK6⟩
                have HI6 := hid (show (pgM l P).at_ w.heap.size l y P P 1 0 w6 (after (pgM 0 P).sys 0 .h s (j + 1)).1 ∧ RW w w6 l m g B P (Value.slice a0 pile.length c0) pile (after (pgM 0 P).sys 0 .h s (j + 1)).2 from ⟨hA6, hA6.2.2.1, hM6, keptOwn_grow hK6 HI.out.2.2.2.1 HQ.out.2.2.1 HQ.out.2.2.2 (by decide), keptOwn_low hK6 HI.out.2.2.2.2.1 HQ.out.1 HQ.out.2.1 HI.out.2.2.2.2.1.size, Nat.le_trans HI.out.2.2.2.2.2 (keptOwn_size hK6)⟩)
                clear hA6 hM6 hK6 HI hcl hc0 hn0
                go_wp2_with fail
                go_roundw
                case rel => exact ⟨j + 1, by omega, by go_num, HI6.out⟩
                case measure => simp [intOf]; omega
              · obtain rfl : j = 8 := by omega
                have hltj : decide ((8 : Int) < 8) = false := by decide
                have hg := HG.out
                obtain ⟨q, hq⟩ : ∃ q, q = after (pgM 0 P).sys 0 .h s 8 := ⟨_, rfl⟩
                rw [← hq] at HI hg
                have HOV := hid (show ((pgM l P).nx q.1).over = true by rw [mch_over]; rw [show (pgM l P).sys.want q.1 = none from hg.1]; rfl)
                have hg := hg.2
                clear hq HG
                by_cases hz : pile.length = 0
                · have hz1 : pile = [] := List.eq_nil_of_length_eq_zero hz
                  have hdl : pile.dropLast = pile := by rw [hz1]; rfl
                  have HQ1 := hid (show q.1.p = -1 by rw [hg.1, hz1]; rfl)
                  have hP2 := hg.2
                  rw [hdl] at hP2
                  have HP := hid hP2
                  have z1 : decide ((0 : Int) < (pile.length : Int)) = false := decide_eq_false (by omega)
                  have z2 : decide (0 < pile.length) = false := decide_eq_false (by omega)
                  have hvv : ((-1 : Int) != -1) = false := rfl
                  clear hg hz hz1 hdl hP2
                  go_wp2_with (first | (go_at_call 32; refine (pgdone_run HI.out.1).mono ?_; rintro e w7 ⟨rfl, rfl⟩; rw [HOV.out]) | (go_at_call 33; refine (pg_p_run HI.out.1).mono ?_; rintro e w7 ⟨rfl, rfl⟩; rw [HQ1.out]))
                  obtain ⟨s, hs⟩ : ∃ s, s = q.2 := ⟨_, rfl⟩
                  rw [← hs] at HI HP
                  have HI := hid HI.out.2
                  clear hs HQ1 HOV z1 z2
                  have HPL := hid (rp_list HT.out HP.out)
                  have HTK := hid (rp_take HT.out HP.out)
                  have hlen := rp_len HT.out HP.out
                  have hn0 := HN.out
                  go_wp2_with fail
                  refine (plist_run l m g P P 1 s _ HI.out.1 HI.out.2.1).mono ?_
                  rintro e w8 ⟨a8, c8, rfl, hrow8, hb8, _⟩
                  rw [HPL.out.1] at hrow8 ⊢
                  have hlr : pile.reverse.length = pile.length := List.length_reverse
                  simp only [hlr]
                  have HI := hid (And.intro (HI.out.quiet hb8) hrow8)
                  clear hb8 hrow8
                  go_wp2_with fail
                  refine (mpeek_run m g s _ _ HI.out.1.2.1).mono ?_
                  rintro e w9 ⟨rfl, rfl⟩
                  rw [HPL.out.2.1]
                  go_wp2_with fail
                  refine (mpeek_run m g s _ _ HI.out.1.2.1).mono ?_
                  rintro e w9 ⟨rfl, rfl⟩
                  rw [HPL.out.2.2]
                  obtain ⟨mask, hmask⟩ : ∃ q, q = mk4 pile := ⟨_, rfl⟩
                  rw [← hmask]
                  have HMK := hid hmask
                  clear hmask
                  go_wp2_with fail
                  go_loopw [27, 26] (fun i b wr => ∃ k : Nat, k ≤ pile.length ∧ i = .int .i64 (k : Int) ∧ b = .int .u64 (mk4 (pile.take k)) ∧ RW w wr l m g B P (Value.slice a0 pile.length c0) pile s ∧ RowOf (encI .i64) 1 wr a8 pile.reverse) (fun i _ _ => pile.length - (intOf i).toNat)
                  case atStart => exact ⟨0, by omega, rfl, rfl, HI.out⟩
                  case round =>
                    clear HI
                    obtain ⟨k, hk, rfl, rfl, hI⟩ := hrel
                    have HI := hid hI
                    clear hI
                    by_cases hlt2 : k < pile.length
                    · have hltj : decide ((k : Int) < (pile.length : Int)) = true := decide_eq_true (by omega)
                      have hge : decide ((pile.length : Int) ≤ (k : Int)) = false := decide_eq_false (by omega)
                      obtain ⟨gb, cap, hv, hgB, hcell, hfro, hcap, ⟨csB, hblk⟩, hset⟩ := Grow.parts HI.out.1.2.2.1 (by omega)
                      cases hv
                      have ck := hcell k hlt2
                      obtain ⟨ad, had, hx⟩ := HI.out.2 (pile.length - 1 - k) (by rw [hlr]; omega)
                      subst had
                      have cl := hx 0 _ rfl
                      rw [Nat.mul_one, Nat.add_zero] at cl
                      have er : pile.reverse[pile.length - 1 - k]'(by rw [hlr]; omega) = pile[k] := by
                        rw [List.getElem_reverse]
                        congr 1
                        omega
                      rw [er] at cl
                      have hbt := HTK.out k hlt2
                      obtain ⟨v, hv⟩ : ∃ v, v = pile[k] := ⟨_, rfl⟩
                      obtain ⟨b, hb⟩ : ∃ b, b = mk4 (pile.take k) := ⟨_, rfl⟩
                      obtain ⟨b2, hb2⟩ : ∃ b, b = mk4 (pile.take (k + 1)) := ⟨_, rfl⟩
                      obtain ⟨q, hq⟩ : ∃ q, q = pile.length - 1 - k := ⟨_, rfl⟩
                      rw [← hv] at ck cl hbt
                      rw [← hb, ← hb2] at hbt
                      rw [← hb]
                      rw [← hq] at cl
                      have HB2 := hid hb2
                      have hql : (q : Int) < (pile.length : Int) := by omega
                      have hq0 : (0 : Int) ≤ (q : Int) := by omega
                      have l1 : (pile.length : Int) - 1 - (k : Int) = (q : Int) := by omega
                      have l2 : IntKind.i64.wrap ((pile.length : Int) - 1) = (pile.length : Int) - 1 := by rw [IntKind.wrap_i64]; omega
                      have l3 : IntKind.i64.wrap ((pile.length : Int) - 1 - (k : Int)) = (q : Int) := by rw [IntKind.wrap_i64]; omega
                      have l4 : wrap64 ((pile.length : Int) - 1) = (pile.length : Int) - 1 := by rw [← IntWalk.i64_left]; exact l2
                      have l5 : wrap64 ((pile.length : Int) - 1 - (k : Int)) = (q : Int) := by rw [← IntWalk.i64_left]; exact l3
                      have l6 : IntKind.i64.wrap (q : Int) = (q : Int) := by rw [IntKind.wrap_i64]; omega
                      have hge2 : decide (pile.length ≤ k) = false := decide_eq_false (by omega)
                      have kk0 : (0 : Int) ≤ (k : Int) := by omega
                      have kk1 : (k : Int) < (pile.length : Int) := by omega
                      have hvv : (v != v) = false := by simp
                      clear hv hb hb2 hq er hx hcell hset hfro hblk hgB hcap
                      go_wp2_with (first | (go_at_call 35; refine (rbit_run _ _).mono ?_; rintro e w2 ⟨rfl, rfl⟩))
                      go_quiet (fail)
                      go_wp2_with fail
                      exact ⟨⟨k + 1, by omega, by go_num, by rw [HB2.out], HI.out.1.quiet (below_drewN (Below.refl _ _) _), HI.out.2.quiet (below_drewN (Below.refl _ _) _)⟩, by simp [intOf]; omega⟩
                    · obtain rfl : k = pile.length := by omega
                      have hltj : decide ((pile.length : Int) < (pile.length : Int)) = false := decide_eq_false (by omega)
                      have hu : IntKind.u64.wrap (pile.length : Int) = (pile.length : Int) := by rw [IntKind.wrap_u64]; omega
                      rw [List.take_length, ← HMK.out]
                      go_wp2_with fail
                      exact ⟨⟨n + 1, by omega, by go_num, pile, s, HI.out.1, HP.out⟩, by simp [intOf]; omega⟩
                · have z1 : decide ((0 : Int) < (pile.length : Int)) = true := decide_eq_true (by omega)
                  have z2 : decide (0 < pile.length) = true := decide_eq_true (by omega)
                  obtain ⟨gb2, cap2, hv2, hgB, hcell, hfro, hcap, ⟨csB, hblk⟩, hset⟩ := Grow.parts HI.out.2.2.2.1 (by omega)
                  cases hv2
                  obtain ⟨qq, hqq⟩ : ∃ q, pile.length = q + 1 := ⟨pile.length - 1, by omega⟩
                  have cz := hcell qq (by omega)
                  obtain ⟨z, hz⟩ : ∃ z, z = pile[qq]'(by omega) := ⟨_, rfl⟩
                  rw [← hz] at cz
                  have el : pile.getLastD (-1) = z := by
                    rw [hz, List.getLastD_eq_getLast?, List.getLast?_eq_getElem?, List.getElem?_eq_getElem (by omega)]
                    simp [hqq]
                  have HQ1 := hid (show q.1.p = z from hg.1.trans el)
                  have hP2 := hg.2
                  have l1 : (pile.length : Int) - 1 = (qq : Int) := by omega
                  have l2 : IntKind.i64.wrap ((pile.length : Int) - 1) = (qq : Int) := by rw [IntKind.wrap_i64]; omega
                  have l3 : wrap64 ((pile.length : Int) - 1) = (qq : Int) := by rw [← IntWalk.i64_left]; exact l2
                  have q0 : (0 : Int) ≤ (qq : Int) := by omega
                  have q1 : (qq : Int) < (pile.length : Int) := by omega
                  have q2 : (qq : Int) ≤ (c0 : Int) := by omega
                  have hvv : (z != z) = false := by simp
                  have HHQ := hid hqq
                  have hdl : pile.dropLast = pile.take qq := by rw [List.dropLast_eq_take, hqq]; rfl
                  rw [hdl] at hP2
                  have HP := hid hP2
                  clear hz hqq el hg hP2 hgB hcell hfro hcap hblk hset hdl
                  go_wp2_with (first | (go_at_call 32; refine (pgdone_run HI.out.1).mono ?_; rintro e w7 ⟨rfl, rfl⟩; rw [HOV.out]) | (go_at_call 33; refine (pg_p_run HI.out.1).mono ?_; rintro e w7 ⟨rfl, rfl⟩; rw [HQ1.out]))
                  have hi2 := HI.out.2
                  have hgr : Grow wr B 3 1 (encI .i64) (.slice (some ⟨gb2, 0, none⟩) qq c0) (pile.take qq) := Grow.take (xs := pile) (a := some ⟨gb2, 0, none⟩) (cap := c0) hi2.2.2.1 encN_len qq (by omega)
                  have HI := hid (show RW w wr l m g B P (.slice (some ⟨gb2, 0, none⟩) qq c0) (pile.take qq) q.2 from ⟨hi2.1, hi2.2.1, hgr, hi2.2.2.2.1, hi2.2.2.2.2⟩)
                  obtain ⟨pile3, hh⟩ : ∃ h, h = pile.take qq := ⟨_, rfl⟩
                  have hlq : qq = pile3.length := by rw [hh]; simp; omega
                  obtain ⟨s2, hs⟩ : ∃ s, s = q.2 := ⟨_, rfl⟩
                  rw [← hh, ← hs] at HI HP
                  clear hs HQ1 HOV z1 z2 hi2 hgr HHQ cz l1 l2 l3 q0 q1 q2 hvv hh
                  subst hlq
                  obtain ⟨pile, hh⟩ : ∃ h, h = pile3 := ⟨_, rfl⟩
                  obtain ⟨a0, hh2⟩ : ∃ h, h = some (⟨gb2, 0, none⟩ : Addr) := ⟨_, rfl⟩
                  obtain ⟨s, hh4⟩ : ∃ h, h = s2 := ⟨_, rfl⟩
                  rw [← hh, ← hh4] at HP
                  rw [← hh, ← hh2, ← hh4] at HI
                  rw [← hh, ← hh2]
                  clear hh hh2 hh4 hlen
                  have HPL := hid (rp_list HT.out HP.out)
                  have HTK := hid (rp_take HT.out HP.out)
                  have hlen := rp_len HT.out HP.out
                  have hn0 := HN.out
                  go_wp2_with fail
                  refine (plist_run l m g P P 1 s _ HI.out.1 HI.out.2.1).mono ?_
                  rintro e w8 ⟨a8, c8, rfl, hrow8, hb8, _⟩
                  rw [HPL.out.1] at hrow8 ⊢
                  have hlr : pile.reverse.length = pile.length := List.length_reverse
                  simp only [hlr]
                  have HI := hid (And.intro (HI.out.quiet hb8) hrow8)
                  clear hb8 hrow8
                  go_wp2_with fail
                  refine (mpeek_run m g s _ _ HI.out.1.2.1).mono ?_
                  rintro e w9 ⟨rfl, rfl⟩
                  rw [HPL.out.2.1]
                  go_wp2_with fail
                  refine (mpeek_run m g s _ _ HI.out.1.2.1).mono ?_
                  rintro e w9 ⟨rfl, rfl⟩
                  rw [HPL.out.2.2]
                  obtain ⟨mask, hmask⟩ : ∃ q, q = mk4 pile := ⟨_, rfl⟩
                  rw [← hmask]
                  have HMK := hid hmask
                  clear hmask
                  go_wp2_with fail
                  go_loopw [27, 26] (fun i b wr => ∃ k : Nat, k ≤ pile.length ∧ i = .int .i64 (k : Int) ∧ b = .int .u64 (mk4 (pile.take k)) ∧ RW w wr l m g B P (Value.slice a0 pile.length c0) pile s ∧ RowOf (encI .i64) 1 wr a8 pile.reverse) (fun i _ _ => pile.length - (intOf i).toNat)
                  case atStart => exact ⟨0, by omega, rfl, rfl, HI.out⟩
                  case round =>
                    clear HI
                    obtain ⟨k, hk, rfl, rfl, hI⟩ := hrel
                    have HI := hid hI
                    clear hI
                    by_cases hlt2 : k < pile.length
                    · have hltj : decide ((k : Int) < (pile.length : Int)) = true := decide_eq_true (by omega)
                      have hge : decide ((pile.length : Int) ≤ (k : Int)) = false := decide_eq_false (by omega)
                      obtain ⟨gb, cap, hv, hgB, hcell, hfro, hcap, ⟨csB, hblk⟩, hset⟩ := Grow.parts HI.out.1.2.2.1 (by omega)
                      cases hv
                      have ck := hcell k hlt2
                      obtain ⟨ad, had, hx⟩ := HI.out.2 (pile.length - 1 - k) (by rw [hlr]; omega)
                      subst had
                      have cl := hx 0 _ rfl
                      rw [Nat.mul_one, Nat.add_zero] at cl
                      have er : pile.reverse[pile.length - 1 - k]'(by rw [hlr]; omega) = pile[k] := by
                        rw [List.getElem_reverse]
                        congr 1
                        omega
                      rw [er] at cl
                      have hbt := HTK.out k hlt2
                      obtain ⟨v, hv⟩ : ∃ v, v = pile[k] := ⟨_, rfl⟩
                      obtain ⟨b, hb⟩ : ∃ b, b = mk4 (pile.take k) := ⟨_, rfl⟩
                      obtain ⟨b2, hb2⟩ : ∃ b, b = mk4 (pile.take (k + 1)) := ⟨_, rfl⟩
                      obtain ⟨q, hq⟩ : ∃ q, q = pile.length - 1 - k := ⟨_, rfl⟩
                      rw [← hv] at ck cl hbt
                      rw [← hb, ← hb2] at hbt
                      rw [← hb]
                      rw [← hq] at cl
                      have HB2 := hid hb2
                      have hql : (q : Int) < (pile.length : Int) := by omega
                      have hq0 : (0 : Int) ≤ (q : Int) := by omega
                      have l1 : (pile.length : Int) - 1 - (k : Int) = (q : Int) := by omega
                      have l2 : IntKind.i64.wrap ((pile.length : Int) - 1) = (pile.length : Int) - 1 := by rw [IntKind.wrap_i64]; omega
                      have l3 : IntKind.i64.wrap ((pile.length : Int) - 1 - (k : Int)) = (q : Int) := by rw [IntKind.wrap_i64]; omega
                      have l4 : wrap64 ((pile.length : Int) - 1) = (pile.length : Int) - 1 := by rw [← IntWalk.i64_left]; exact l2
                      have l5 : wrap64 ((pile.length : Int) - 1 - (k : Int)) = (q : Int) := by rw [← IntWalk.i64_left]; exact l3
                      have l6 : IntKind.i64.wrap (q : Int) = (q : Int) := by rw [IntKind.wrap_i64]; omega
                      have hge2 : decide (pile.length ≤ k) = false := decide_eq_false (by omega)
                      have kk0 : (0 : Int) ≤ (k : Int) := by omega
                      have kk1 : (k : Int) < (pile.length : Int) := by omega
                      have hvv : (v != v) = false := by simp
                      clear hv hb hb2 hq er hx hcell hset hfro hblk hgB hcap
                      go_wp2_with (first | (go_at_call 35; refine (rbit_run _ _).mono ?_; rintro e w2 ⟨rfl, rfl⟩))
                      go_quiet (fail)
                      go_wp2_with fail
                      exact ⟨⟨k + 1, by omega, by go_num, by rw [HB2.out], HI.out.1.quiet (below_drewN (Below.refl _ _) _), HI.out.2.quiet (below_drewN (Below.refl _ _) _)⟩, by simp [intOf]; omega⟩
                    · obtain rfl : k = pile.length := by omega
                      have hltj : decide ((pile.length : Int) < (pile.length : Int)) = false := decide_eq_false (by omega)
                      have hu : IntKind.u64.wrap (pile.length : Int) = (pile.length : Int) := by rw [IntKind.wrap_u64]; omega
                      rw [List.take_length, ← HMK.out]
                      go_wp2_with fail
                      exact ⟨⟨n + 1, by omega, by go_num, pile, s, HI.out.1, HP.out⟩, by simp [intOf]; omega⟩
          · have e1 : (x % 2 == 1) = false := by simp; omega
            have e2 : (x % 2 == 0) = true := by simp; omega
            by_cases hin : p ∈ pile
            · have e3 : decide (p ∈ pile) = true := decide_eq_true hin
              have HP := hid (HP.out.mono (Nat.le_succ n))
              rw [e3]
              clear e3 hin
              have HPL := hid (rp_list HT.out HP.out)
              have HTK := hid (rp_take HT.out HP.out)
              have hlen := rp_len HT.out HP.out
              have hn0 := HN.out
              go_wp2_with fail
              refine (plist_run l m g P P 1 s _ HI.out.1 HI.out.2.1).mono ?_
              rintro e w8 ⟨a8, c8, rfl, hrow8, hb8, _⟩
              rw [HPL.out.1] at hrow8 ⊢
              have hlr : pile.reverse.length = pile.length := List.length_reverse
              simp only [hlr]
              have HI := hid (And.intro (HI.out.quiet hb8) hrow8)
              clear hb8 hrow8
              go_wp2_with fail
              refine (mpeek_run m g s _ _ HI.out.1.2.1).mono ?_
              rintro e w9 ⟨rfl, rfl⟩
              rw [HPL.out.2.1]
              go_wp2_with fail
              refine (mpeek_run m g s _ _ HI.out.1.2.1).mono ?_
              rintro e w9 ⟨rfl, rfl⟩
              rw [HPL.out.2.2]
              obtain ⟨mask, hmask⟩ : ∃ q, q = mk4 pile := ⟨_, rfl⟩
              rw [← hmask]
              have HMK := hid hmask
              clear hmask
              go_wp2_with fail
              go_loopw [27, 26] (fun i b wr => ∃ k : Nat, k ≤ pile.length ∧ i = .int .i64 (k : Int) ∧ b = .int .u64 (mk4 (pile.take k)) ∧ RW w wr l m g B P (Value.slice a0 pile.length c0) pile s ∧ RowOf (encI .i64) 1 wr a8 pile.reverse) (fun i _ _ => pile.length - (intOf i).toNat)
              case atStart => exact ⟨0, by omega, rfl, rfl, HI.out⟩
              case round =>
                clear HI
                obtain ⟨k, hk, rfl, rfl, hI⟩ := hrel
                have HI := hid hI
                clear hI
                by_cases hlt2 : k < pile.length
                · have hltj : decide ((k : Int) < (pile.length : Int)) = true := decide_eq_true (by omega)
                  have hge : decide ((pile.length : Int) ≤ (k : Int)) = false := decide_eq_false (by omega)
                  obtain ⟨gb, cap, hv, hgB, hcell, hfro, hcap, ⟨csB, hblk⟩, hset⟩ := Grow.parts HI.out.1.2.2.1 (by omega)
                  cases hv
                  have ck := hcell k hlt2
                  obtain ⟨ad, had, hx⟩ := HI.out.2 (pile.length - 1 - k) (by rw [hlr]; omega)
                  subst had
                  have cl := hx 0 _ rfl
                  rw [Nat.mul_one, Nat.add_zero] at cl
                  have er : pile.reverse[pile.length - 1 - k]'(by rw [hlr]; omega) = pile[k] := by
                    rw [List.getElem_reverse]
                    congr 1
                    omega
                  rw [er] at cl
                  have hbt := HTK.out k hlt2
                  obtain ⟨v, hv⟩ : ∃ v, v = pile[k] := ⟨_, rfl⟩
                  obtain ⟨b, hb⟩ : ∃ b, b = mk4 (pile.take k) := ⟨_, rfl⟩
                  obtain ⟨b2, hb2⟩ : ∃ b, b = mk4 (pile.take (k + 1)) := ⟨_, rfl⟩
                  obtain ⟨q, hq⟩ : ∃ q, q = pile.length - 1 - k := ⟨_, rfl⟩
                  rw [← hv] at ck cl hbt
                  rw [← hb, ← hb2] at hbt
                  rw [← hb]
                  rw [← hq] at cl
                  have HB2 := hid hb2
                  have hql : (q : Int) < (pile.length : Int) := by omega
                  have hq0 : (0 : Int) ≤ (q : Int) := by omega
                  have l1 : (pile.length : Int) - 1 - (k : Int) = (q : Int) := by omega
                  have l2 : IntKind.i64.wrap ((pile.length : Int) - 1) = (pile.length : Int) - 1 := by rw [IntKind.wrap_i64]; omega
                  have l3 : IntKind.i64.wrap ((pile.length : Int) - 1 - (k : Int)) = (q : Int) := by rw [IntKind.wrap_i64]; omega
                  have l4 : wrap64 ((pile.length : Int) - 1) = (pile.length : Int) - 1 := by rw [← IntWalk.i64_left]; exact l2
                  have l5 : wrap64 ((pile.length : Int) - 1 - (k : Int)) = (q : Int) := by rw [← IntWalk.i64_left]; exact l3
                  have l6 : IntKind.i64.wrap (q : Int) = (q : Int) := by rw [IntKind.wrap_i64]; omega
                  have hge2 : decide (pile.length ≤ k) = false := decide_eq_false (by omega)
                  have kk0 : (0 : Int) ≤ (k : Int) := by omega
                  have kk1 : (k : Int) < (pile.length : Int) := by omega
                  have hvv : (v != v) = false := by simp
                  clear hv hb hb2 hq er hx hcell hset hfro hblk hgB hcap
                  go_wp2_with (first | (go_at_call 35; refine (rbit_run _ _).mono ?_; rintro e w2 ⟨rfl, rfl⟩))
                  go_quiet (fail)
                  go_wp2_with fail
                  exact ⟨⟨k + 1, by omega, by go_num, by rw [HB2.out], HI.out.1.quiet (below_drewN (Below.refl _ _) _), HI.out.2.quiet (below_drewN (Below.refl _ _) _)⟩, by simp [intOf]; omega⟩
                · obtain rfl : k = pile.length := by omega
                  have hltj : decide ((pile.length : Int) < (pile.length : Int)) = false := decide_eq_false (by omega)
                  have hu : IntKind.u64.wrap (pile.length : Int) = (pile.length : Int) := by rw [IntKind.wrap_u64]; omega
                  rw [List.take_length, ← HMK.out]
                  go_wp2_with fail
                  exact ⟨⟨n + 1, by omega, by go_num, pile, s, HI.out.1, HP.out⟩, by simp [intOf]; omega⟩
            · have e3 : decide (p ∈ pile) = false := decide_eq_false hin
              have HC := hid (rp_bad HP.out)
              have HPU := hid (rp_put HT.out HPP.out HP.out hin)
              rw [e3]
              clear e3 hin
              go_wp2_with fail
              refine (pp_new_run l P P 1 0 p wr HI.out.1).mono ?_
              rintro e w5 ⟨rfl, hA, hb⟩
              have HI := hid (show (ppM l P p).at_ w.heap.size l _ P P 1 0 w5 (after (ppM 0 P p).sys 0 .a s 0).1 ∧ RW w w5 l m g B P (Value.slice a0 pile.length c0) pile (after (ppM 0 P p).sys 0 .a s 0).2 from ⟨⟨hA, HI.out.2.2.2.1.size, HI.out.1.quiet hb, trivial⟩, HI.out.quiet hb⟩)
              obtain ⟨y, hy⟩ : ∃ y, y = wr.heap.size := ⟨_, rfl⟩
              rw [← hy] at HI ⊢
              clear hA hb hy cx HP
              go_wp2_with fail
              go_loopw [15] (fun i wr => ∃ j : Nat, j ≤ 8 ∧ i = .int .i64 (j : Int) ∧ (ppM l P p).at_ w.heap.size l y P P 1 0 wr (after (ppM 0 P p).sys 0 .a s j).1 ∧ RW w wr l m g B P (Value.slice a0 pile.length c0) pile (after (ppM 0 P p).sys 0 .a s j).2) (fun i _ => 8 - (intOf i).toNat)
              case atStart => exact ⟨0, by omega, rfl, HI.out⟩
              case round =>
                clear HI
                obtain ⟨j, hj, rfl, hI⟩ := hrel
                have HI := hid hI
                clear hI
                by_cases hlt2 : j < 8
                · have hltj : decide ((j : Int) < 8) = true := decide_eq_true (by omega)
                  have hcl := after_clock (ppM 0 P p).sys 0 .a s j
                  have hc0 := HC.out
                  have hn0 := HN.out
                  go_wp2_with fail
                  refine (ppstep_run w.heap.size l y m g P P 1 0 p (pp_goes l y P p P 1 0) HI.out.1 HI.out.2.2.1 (by omega) (by omega)).mono ?_
                  rintro e w6 ⟨⟨bb, rfl⟩, hA6, hM6, hK6⟩
                  have HI6 := hid (show (ppM l P p).at_ w.heap.size l y P P 1 0 w6 (after (ppM 0 P p).sys 0 .a s (j + 1)).1 ∧ RW w w6 l m g B P (Value.slice a0 pile.length c0) pile (after (ppM 0 P p).sys 0 .a s (j + 1)).2 from ⟨hA6, hA6.2.2.1, hM6, keptOwn_grow hK6 HI.out.2.2.2.1 HQ.out.2.2.1 HQ.out.2.2.2 (by decide), keptOwn_low hK6 HI.out.2.2.2.2.1 HQ.out.1 HQ.out.2.1 HI.out.2.2.2.2.1.size, Nat.le_trans HI.out.2.2.2.2.2 (keptOwn_size hK6)⟩)
                  clear hA6 hM6 hK6 HI hcl hc0 hn0
                  go_wp2_with fail
                  go_roundw
                  case rel => exact ⟨j + 1, by omega, by go_num, HI6.out⟩
                  case measure => simp [intOf]; omega
                · obtain rfl : j = 8 := by omega
                  have hltj : decide ((8 : Int) < 8) = false := by decide
                  have hp2 := HPU.out
                  have hi2 := HI.out.2
                  obtain ⟨s2, hs2⟩ : ∃ s2, s2 = (after (ppM 0 P p).sys 0 .a s 8).2 := ⟨_, rfl⟩
                  rw [← hs2] at hp2 hi2
                  have hG6 := hi2.2.2.1
                  have hs6 := hi2.2.2.2.2
                  have HP := hid hp2
                  have HI := hid hi2
                  have cx := (HI.out.2.2.2.1.cell HXW.out.2).trans HXW.out.1
                  have HCX := hid cx
                  clear hs2 hp2 hi2 cx
                  go_wp2_with (first | (at_builtin; refine app_oneK (T := 3) p hG6 infoI Try.underlying49 rfl (by decide) (by omega) rfl _ _ rfl rfl rfl rfl (encN_len _) (encN_one _) (by omega) hs6 ?_; intro v' w7 hG7 hK7; have hlow7 : Below w.heap.size w w7 := below_kept HI.out.2.2.2.1 hK7 (fun i hi => by have := own_le hG6 i (by simpa using hi); have := HB0.out; omega) HI.out.2.2.2.1.size; have cx7 := (hlow7.cell HXW.out.2).trans HXW.out.1))
                  have own1 : ∀ i ∈ (Value.slice a0 pile.length c0).ownBlock.toList, B ≤ i ∧ ∀ cs T', T' ≠ 3 → ¬ Blk wr i cs T' := by
                    intro i hi
                    refine ⟨own_le hG6 i (by simpa using hi), ?_⟩
                    intro cs T' hT hb
                    have := own_type hG6 hb (Ne.symm hT)
                    simp at hi
                    exact this hi
                  obtain ⟨pile2, hh⟩ : ∃ h, h = pile ++ [p] := ⟨_, rfl⟩
                  rw [← hh] at hG7 HP
                  obtain ⟨a7, c7, hv7, _, _, _⟩ := hG7.row encN_len
                  subst hv7
                  have hi2 := HI.out
                  have HI := hid (show RW w w7 l m g B P (.slice a7 pile2.length c7) pile2 s2 from ⟨hi2.1.kept hK7 (fun hi => (own1 _ hi).2 _ _ (by decide) hi2.1.1), hi2.2.1.kept hK7 (fun hi => by have := (own1 _ hi).1; have := HQ.out; omega) (fun hi => by have := (own1 _ hi).1; have := HQ.out; omega), hG7, hlow7, Nat.le_trans hs6 hK7.size⟩)
                  clear hh hi2 own1 hG7 hK7 hG6 hs6 hlow7 cx7 HCX HPU hlen
                  obtain ⟨pile, hh⟩ : ∃ h, h = pile2 := ⟨_, rfl⟩
                  obtain ⟨a0, hh2⟩ : ∃ h, h = a7 := ⟨_, rfl⟩
                  obtain ⟨c0, hh3⟩ : ∃ h, h = c7 := ⟨_, rfl⟩
                  obtain ⟨s, hh4⟩ : ∃ h, h = s2 := ⟨_, rfl⟩
                  rw [← hh, ← hh4] at HP
                  rw [← hh, ← hh2, ← hh3, ← hh4] at HI
                  rw [← hh, ← hh2, ← hh3]
                  clear hh hh2 hh3 hh4
                  have HPL := hid (rp_list HT.out HP.out)
                  have HTK := hid (rp_take HT.out HP.out)
                  have hlen := rp_len HT.out HP.out
                  have hn0 := HN.out
                  go_wp2_with fail
                  refine (plist_run l m g P P 1 s _ HI.out.1 HI.out.2.1).mono ?_
                  rintro e w8 ⟨a8, c8, rfl, hrow8, hb8, _⟩
                  rw [HPL.out.1] at hrow8 ⊢
                  have hlr : pile.reverse.length = pile.length := List.length_reverse
                  simp only [hlr]
                  have HI := hid (And.intro (HI.out.quiet hb8) hrow8)
                  clear hb8 hrow8
                  go_wp2_with fail
                  refine (mpeek_run m g s _ _ HI.out.1.2.1).mono ?_
                  rintro e w9 ⟨rfl, rfl⟩
                  rw [HPL.out.2.1]
                  go_wp2_with fail
                  refine (mpeek_run m g s _ _ HI.out.1.2.1).mono ?_
                  rintro e w9 ⟨rfl, rfl⟩
                  rw [HPL.out.2.2]
                  obtain ⟨mask, hmask⟩ : ∃ q, q = mk4 pile := ⟨_, rfl⟩
                  rw [← hmask]
                  have HMK := hid hmask
                  clear hmask
                  go_wp2_with fail
                  go_loopw [27, 26] (fun i b wr => ∃ k : Nat, k ≤ pile.length ∧ i = .int .i64 (k : Int) ∧ b = .int .u64 (mk4 (pile.take k)) ∧ RW w wr l m g B P (Value.slice a0 pile.length c0) pile s ∧ RowOf (encI .i64) 1 wr a8 pile.reverse) (fun i _ _ => pile.length - (intOf i).toNat)
                  case atStart => exact ⟨0, by omega, rfl, rfl, HI.out⟩
                  case round =>
                    clear HI
                    obtain ⟨k, hk, rfl, rfl, hI⟩ := hrel
                    have HI := hid hI
                    clear hI
                    by_cases hlt2 : k < pile.length
                    · have hltj : decide ((k : Int) < (pile.length : Int)) = true := decide_eq_true (by omega)
                      have hge : decide ((pile.length : Int) ≤ (k : Int)) = false := decide_eq_false (by omega)
                      obtain ⟨gb, cap, hv, hgB, hcell, hfro, hcap, ⟨csB, hblk⟩, hset⟩ := Grow.parts HI.out.1.2.2.1 (by omega)
                      cases hv
                      have ck := hcell k hlt2
                      obtain ⟨ad, had, hx⟩ := HI.out.2 (pile.length - 1 - k) (by rw [hlr]; omega)
                      subst had
                      have cl := hx 0 _ rfl
                      rw [Nat.mul_one, Nat.add_zero] at cl
                      have er : pile.reverse[pile.length - 1 - k]'(by rw [hlr]; omega) = pile[k] := by
                        rw [List.getElem_reverse]
                        congr 1
                        omega
                      rw [er] at cl
                      have hbt := HTK.out k hlt2
                      obtain ⟨v, hv⟩ : ∃ v, v = pile[k] := ⟨_, rfl⟩
                      obtain ⟨b, hb⟩ : ∃ b, b = mk4 (pile.take k) := ⟨_, rfl⟩
                      obtain ⟨b2, hb2⟩ : ∃ b, b = mk4 (pile.take (k + 1)) := ⟨_, rfl⟩
                      obtain ⟨q, hq⟩ : ∃ q, q = pile.length - 1 - k := ⟨_, rfl⟩
                      rw [← hv] at ck cl hbt
                      rw [← hb, ← hb2] at hbt
                      rw [← hb]
                      rw [← hq] at cl
                      have HB2 := hid hb2
                      have hql : (q : Int) < (pile.length : Int) := by omega
                      have hq0 : (0 : Int) ≤ (q : Int) := by omega
                      have l1 : (pile.length : Int) - 1 - (k : Int) = (q : Int) := by omega
                      have l2 : IntKind.i64.wrap ((pile.length : Int) - 1) = (pile.length : Int) - 1 := by rw [IntKind.wrap_i64]; omega
                      have l3 : IntKind.i64.wrap ((pile.length : Int) - 1 - (k : Int)) = (q : Int) := by rw [IntKind.wrap_i64]; omega
                      have l4 : wrap64 ((pile.length : Int) - 1) = (pile.length : Int) - 1 := by rw [← IntWalk.i64_left]; exact l2
                      have l5 : wrap64 ((pile.length : Int) - 1 - (k : Int)) = (q : Int) := by rw [← IntWalk.i64_left]; exact l3
                      have l6 : IntKind.i64.wrap (q : Int) = (q : Int) := by rw [IntKind.wrap_i64]; omega
                      have hge2 : decide (pile.length ≤ k) = false := decide_eq_false (by omega)
                      have kk0 : (0 : Int) ≤ (k : Int) := by omega
                      have kk1 : (k : Int) < (pile.length : Int) := by omega
                      have hvv : (v != v) = false := by simp
                      clear hv hb hb2 hq er hx hcell hset hfro hblk hgB hcap
                      go_wp2_with (first | (go_at_call 35; refine (rbit_run _ _).mono ?_; rintro e w2 ⟨rfl, rfl⟩))
                      go_quiet (fail)
                      go_wp2_with fail
                      exact ⟨⟨k + 1, by omega, by go_num, by rw [HB2.out], HI.out.1.quiet (below_drewN (Below.refl _ _) _), HI.out.2.quiet (below_drewN (Below.refl _ _) _)⟩, by simp [intOf]; omega⟩
                    · obtain rfl : k = pile.length := by omega
                      have hltj : decide ((pile.length : Int) < (pile.length : Int)) = false := decide_eq_false (by omega)
                      have hu : IntKind.u64.wrap (pile.length : Int) = (pile.length : Int) := by rw [IntKind.wrap_u64]; omega
                      rw [List.take_length, ← HMK.out]
                      go_wp2_with fail
                      exact ⟨⟨n + 1, by omega, by go_num, pile, s, HI.out.1, HP.out⟩, by simp [intOf]; omega⟩
    · obtain rfl : n = xs.length := by omega
      have hlt' : decide ((xs.length : Int) < (xs.length : Int)) = false := decide_eq_false (by omega)
      have HBD := hid (rp_bad HP.out).1
      go_wp2_with (first | (go_at_call 27; refine (awake_run _).mono ?_; rintro e w9 ⟨rfl, hb9⟩) | (go_at_call 26; refine (mbad_run m g s _ (HI.out.2.1.quiet hb9)).mono ?_; rintro e w10 ⟨rfl, rfl⟩; rw [HBD.out]))
      go_ret
      exact ⟨rfl, Below.then_ HI.out.2.2.2.1 hb9⟩
end Go.Proofs.Ytnmkfmaohflejaa.Idlep
