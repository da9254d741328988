/- The walk of IdlemMany. -/
import Derived.Test.YtnmkfmaohflejaaManyM
import Derived.Deep.DeepCutAuto
set_option maxRecDepth 100000
set_option maxHeartbeats 1000000
set_option linter.unusedVariables false
set_option linter.unusedSimpArgs false
namespace Go.Proofs.Ytnmkfmaohflejaa.Idlem
open Go.RowKit Go.Shelf Go.Proofs.Ytnmkfmaohflejaa.TK Go.Proofs.Ytnmkfmaohflejaa.Flag Go.Proofs.Ytnmkfmaohflejaa.Read Go.Proofs.Ytnmkfmaohflejaa.Grow Go.Proofs.Ytnmkfmaohflejaa.Words Go.Proofs.Ytnmkfmaohflejaa.Mem Go.Proofs.Ytnmkfmaohflejaa.Flow Go.Proofs.Ytnmkfmaohflejaa.Layout Go.Proofs.Ytnmkfmaohflejaa.Lock Go.Proofs.Ytnmkfmaohflejaa.Run Go.Proofs.Ytnmkfmaohflejaa.Sys Go.Proofs.Ytnmkfmaohflejaa.Mach Go.Proofs.Ytnmkfmaohflejaa.Doc Go.Proofs.Ytnmkfmaohflejaa.Ref05 Go.Proofs.Ytnmkfmaohflejaa.Road Go.Proofs.Ytnmkfmaohflejaa.Chain
open Go.Proofs.Ytnmkfmaohflejaa.Ring (after after_clock)
/-- What is known of a round's world. -/
def RW (w wr : World) (l m g B : Nat) (T : Int) (v : Value) (had : List Int) (s : St) : Prop := Lay wr l 1 T 1 ∧ MemAt wr m g s ∧ Grow wr B 3 1 (encI .i64) v had ∧ Below w.heap.size w wr ∧ B ≤ wr.heap.size
/-- What is known of its words. -/
def RP (T : Int) (n : Nat) (had : List Int) (s : St) : Prop := ∃ f, Is s (lenOf 1 T 1) f ∧ Many 1 T f had ∧ s.clock ≤ 6 * (n : Int)
theorem RW.quiet {w wr w' : World} {l m g B : Nat} {T : Int} {v : Value} {had : List Int} {s : St} (h : RW w wr l m g B T v had s) (hb : Below wr.heap.size wr w') : RW w w' l m g B T v had s := ⟨h.1.quiet hb, h.2.1.quiet hb, h.2.2.1.quiet hb, Below.then_ h.2.2.2.1 hb, Nat.le_trans h.2.2.2.2 hb.size⟩
theorem RP.mono {T : Int} {n k : Nat} {had : List Int} {s : St} (h : RP T n had s) (hk : n ≤ k) : RP T k had s := by
  obtain ⟨f, h1, h2, h3⟩ := h
  exact ⟨f, h1, h2, by omega⟩
theorem rp_bad {T : Int} {n : Nat} {had : List Int} {s : St} (h : RP T n had s) : s.bad = 0 ∧ s.clock ≤ 6 * (n : Int) := by
  obtain ⟨f, h1, _, h3⟩ := h
  exact ⟨h1.bad, h3⟩
theorem rp_get {T : Int} {n : Nat} {had : List Int} {s : St} (hT : 1 ≤ T ∧ T ≤ 8) (h : RP T n had s) :
    (mgM 0 1 T).sys.want (after (mgM 0 1 T).sys 0 .h s 6).1 = none ∧ (((after (mgM 0 1 T).sys 0 .h s 6).1.t = -1 ∧ (had.length : Int) = T ∧ RP T (n + 1) had (after (mgM 0 1 T).sys 0 .h s 6).2) ∨
      (0 ≤ (after (mgM 0 1 T).sys 0 .h s 6).1.t ∧ (after (mgM 0 1 T).sys 0 .h s 6).1.t < T ∧ (had.length : Int) < T ∧ (after (mgM 0 1 T).sys 0 .h s 6).1.t ∉ had ∧ RP T (n + 1) (had ++ [(after (mgM 0 1 T).sys 0 .h s 6).1.t]) (after (mgM 0 1 T).sys 0 .h s 6).2)) := by
  obtain ⟨f, h1, h2, h3⟩ := h
  obtain ⟨k, st, f', hk, hr, hw, hc⟩ := many_get 1 T (lenOf 1 T 1) (by omega) (by omega) (by unfold lenOf; omega) f had h2
  obtain ⟨e1, e2⟩ := hr.ends hw 0 h1 6 (by omega)
  have hcl := (after_clock (mgM 0 1 T).sys 0 .h s 6).1
  rw [e1]
  refine ⟨hw, ?_⟩
  rcases hc with ⟨q1, q2, q3⟩ | ⟨q1, q2, q3, q4, q5⟩
  · exact .inl ⟨q1, q2, f', e2, q3, by omega⟩
  · exact .inr ⟨q1, q2, q3, q4, f', e2, q5, by omega⟩
theorem rp_put {T : Int} {n : Nat} {had : List Int} {s : St} (hT : 1 ≤ T ∧ T ≤ 8) (h : RP T n had s) (k : Nat) (hk : k < had.length) :
    RP T (n + 1) (takeOut had k (had[had.length - 1]'(by omega))) (after (mpM 0 1 T had[k]).sys 0 .h s 6).2 := by
  obtain ⟨f, h1, h2, h3⟩ := h
  obtain ⟨f', hr, hc⟩ := many_put 1 T (lenOf 1 T 1) (by omega) (by omega) (by unfold lenOf; omega) f had h2 k hk
  obtain ⟨e1, e2⟩ := hr.ends rfl 0 h1 6 (by omega)
  have hcl := (after_clock (mpM 0 1 T had[k]).sys 0 .h s 6).1
  exact ⟨f', e2, hc, by omega⟩
theorem many_walk (w : World) (T : Int) (wT : (Lit.int .i64 T).wf = true) (pv : Value) (hpv : (Leaf.row [.int .u8]).holds w pv) :
    Calls Try.prog 4 #[.int .i64 T, pv] w fun e w' => e = .returned (.bool true) ∧ Below w.heap.size w w' := by
  clear wT
  obtain ⟨a, c, xs, rfl, hr, hwf, _, _, hnil⟩ := ints_of hpv
  clear hpv
  by_cases g1 : T < 1
  · have d1 : decide (T < 1) = true := decide_eq_true g1
    go_enter Try.func4, Try.ntmps4
    (go_wp2_with (first | (go_at_call 18; refine (awake_run _).mono ?_; rintro e w9 ⟨rfl, hb9⟩)); go_ret; exact ⟨rfl, hb9⟩)
  have d1 : decide (T < 1) = false := decide_eq_false g1
  by_cases g2 : 8 < T
  · have d2 : decide (8 < T) = true := decide_eq_true g2
    go_enter Try.func4, Try.ntmps4
    (go_wp2_with (first | (go_at_call 18; refine (awake_run _).mono ?_; rintro e w9 ⟨rfl, hb9⟩)); go_ret; exact ⟨rfl, hb9⟩)
  have d2 : decide (8 < T) = false := decide_eq_false g2
  by_cases g3 : 100 < (xs.length : Int)
  · have d3 : decide (100 < (xs.length : Int)) = true := decide_eq_true g3
    go_enter Try.func4, Try.ntmps4
    (go_wp2_with (first | (go_at_call 18; refine (awake_run _).mono ?_; rintro e w9 ⟨rfl, hb9⟩)); go_ret; exact ⟨rfl, hb9⟩)
  have d3 : decide (100 < (xs.length : Int)) = false := decide_eq_false g3
  have HT := hid (show 1 ≤ T ∧ T ≤ 8 by omega)
  have HN := hid (show xs.length ≤ 100 by omega)
  have HR := hid (And.intro hr hwf)
  have hT0 : 0 ≤ T := by omega
  have hT1 : T ≤ 8 := by omega
  clear g1 g2 g3 hr hwf hnil
  go_enter Try.func4, Try.ntmps4
  go_wp2_with fail
  refine (lay_yes 1 T 1 none 0 [] _ (by have := HT.out; unfold FewP Right; omega) (by simp) ?_ (by simp)).mono ?_
  · intro i hi; simp at hi
  rintro e w1 ⟨l, m, g, rm, rg, rfl, hL⟩
  obtain ⟨B, hB⟩ : ∃ B, B = w1.heap.size := ⟨_, rfl⟩
  have HQ := hid (show w.heap.size ≤ m ∧ w.heap.size ≤ g ∧ m < B ∧ g < B from ⟨hL.low5.2.1, hL.low5.2.2.1, by rw [hB]; exact hL.mem.ltm, by rw [hB]; exact hL.mem.ltg⟩)
  have HI := hid (show RW w w1 l m g B T (.slice none 0 0) [] (fresh (layW (lenOf 1 T 1) [])) from ⟨hL.lay, hL.mem, Grow.nil _ _ _ _ _, hL.low, by omega⟩)
  have HP := hid (show RP T 0 [] (fresh (layW (lenOf 1 T 1) [])) from ⟨_, is_fresh _ _, many_start 1 T hT0, by show (0 : Int) ≤ _; omega⟩)
  have HB0 := hid (show w.heap.size ≤ B by rw [hB]; exact hL.low.size)
  clear hL hB d1 d2 d3
  go_wp2_with fail
  go_loopw [10, 9] (fun i v wr => ∃ n : Nat, n ≤ xs.length ∧ i = .int .i64 (n : Int) ∧ ∃ had s, RW w wr l m g B T v had s ∧ RP T n had s) (fun i _ _ => xs.length - (intOf i).toNat)
  case atStart => exact ⟨0, by omega, rfl, _, _, HI.out, HP.out⟩
  case round =>
    clear HI HP
    obtain ⟨n, hn, rfl, had, s, hI, hP⟩ := hrel
    obtain ⟨a0, c0, hv, hrow0, _, _⟩ := hI.2.2.1.row encN_len
    subst hv
    have HI := hid hI
    have HP := hid hP
    clear hI hP hrow0
    by_cases hlt : n < xs.length
    · have hlt' : decide ((n : Int) < (xs.length : Int)) = true := decide_eq_true (by omega)
      obtain ⟨xa, rfl, hx⟩ := (HR.out.1.quiet HI.out.2.2.2.1) n hlt
      have cx := hx 0 _ rfl
      rw [Nat.mul_one, Nat.add_zero] at cx
      have hxw := HR.out.2 xs[n] (List.getElem_mem _)
      obtain ⟨x, hxd⟩ : ∃ x, x = xs[n] := ⟨_, rfl⟩
      rw [← hxd] at cx hxw
      have HXD := hid hxd
      clear hx hxd
      have hx0 : 0 ≤ x ∧ x < 256 := by
        have h1 : IntKind.u8.min = 0 := rfl
        have h2 : IntKind.u8.max = 255 := rfl
        have h3 := hxw
        simp [wfI, Lit.wf] at h3
        omega
      have HX := hid hx0
      clear hxw
      have k0 : (0 : Int) ≤ (n : Int) := by omega
      have k1 : (n : Int) < (xs.length : Int) := by omega
      have m1 : x.tmod 2 = x % 2 := Int.tmod_eq_emod_of_nonneg hx0.1
      by_cases hod : x % 2 = 1
      · have e1 : (x % 2 == 1) = true := by simp [hod]
        have e2 : (x % 2 == 0) = false := by simp [hod]
        by_cases hz : had.length = 0
        · have z1 : decide ((0 : Int) < (had.length : Int)) = false := decide_eq_false (by omega)
          have z2 : decide (0 < had.length) = false := decide_eq_false (by omega)
          have HP := hid (HP.out.mono (Nat.le_succ n))
          clear hz
          have HSP := hid (show spareOf T s = T - (had.length : Int) from by obtain ⟨f, h1, h2, h3⟩ := HP.out; exact many_spare h2 (by omega) h1 (by unfold lenOf; omega))
          have hlen : (had.length : Int) ≤ T := by obtain ⟨f, h1, h2, h3⟩ := HP.out; exact many_len h2
          have hn0 := HN.out
          go_wp2_with fail
          refine (spare_run l m g 1 T 1 s _ HI.out.1 HI.out.2.1).mono ?_
          rintro e w8 ⟨rfl, hb8⟩
          rw [HSP.out]
          have HI := hid (HI.out.quiet hb8)
          clear hb8
          go_wp2_with fail
          go_roundw
          case rel => exact ⟨n + 1, by omega, by go_num, had, s, HI.out, HP.out⟩
          case measure => simp [intOf]; omega
        · have z1 : decide ((0 : Int) < (had.length : Int)) = true := decide_eq_true (by omega)
          obtain ⟨gb, cap, hv, hgB, hcell, hfro, hcap, ⟨csB, hblk⟩, hset⟩ := Grow.parts HI.out.2.2.1 (by omega)
          injection hv with v1 v2 v3
          subst v1 v3
          clear v2
          have hm0 : 0 ≤ x / 2 % (had.length : Int) ∧ x / 2 % (had.length : Int) < (had.length : Int) := ⟨Int.emod_nonneg _ (by omega), Int.emod_lt_of_pos _ (by omega)⟩
          obtain ⟨k, hk⟩ : ∃ k : Nat, (k : Int) = x / 2 % (had.length : Int) := ⟨(x / 2 % (had.length : Int)).toNat, Int.toNat_of_nonneg hm0.1⟩
          have mk : x / 2 % (had.length : Int) = (k : Int) := hk.symm
          have hkl : k < had.length := by omega
          have kk0 : (0 : Int) ≤ (k : Int) := by omega
          have kk1 : (k : Int) < (had.length : Int) := by omega
          have ck := hcell k hkl
          have HPP := hid (rp_put HT.out HP.out k hkl)
          obtain ⟨t, ht⟩ : ∃ t, t = had[k] := ⟨_, rfl⟩
          rw [← ht] at ck HPP
          have HC := hid (rp_bad HP.out)
          have HTT := hid (show 0 ≤ t ∧ t < T by rw [ht]; obtain ⟨f, h1, h2, h3⟩ := HP.out; exact many_in h2 _ (List.getElem_mem _))
          clear hk hm0 ht hset hblk hfro hcell hcap hgB
          go_wp2_with fail
          refine (mp_new_run l 1 T 1 0 t wr HI.out.1).mono ?_
          rintro e w5 ⟨rfl, hA, hb⟩
          have HI := hid (show (mpM l 1 T t).at_ w.heap.size l _ 1 T 1 0 w5 (after (mpM 0 1 T t).sys 0 .h s 0).1 ∧ RW w w5 l m g B T (Value.slice (some ⟨gb, 0, none⟩) had.length c0) had (after (mpM 0 1 T t).sys 0 .h s 0).2 from ⟨⟨hA, HI.out.2.2.2.1.size, HI.out.1.quiet hb, trivial⟩, HI.out.quiet hb⟩)
          obtain ⟨y, hy⟩ : ∃ y, y = wr.heap.size := ⟨_, rfl⟩
          rw [← hy] at HI ⊢
          clear hA hb hy cx HP ck
          go_wp2_with fail
          go_loopw [14] (fun i wr => ∃ j : Nat, j ≤ 6 ∧ i = .int .i64 (j : Int) ∧ (mpM l 1 T t).at_ w.heap.size l y 1 T 1 0 wr (after (mpM 0 1 T t).sys 0 .h s j).1 ∧ RW w wr l m g B T (Value.slice (some ⟨gb, 0, none⟩) had.length c0) had (after (mpM 0 1 T t).sys 0 .h s j).2) (fun i _ => 6 - (intOf i).toNat)
          case atStart => exact ⟨0, by omega, rfl, HI.out⟩
          case round =>
            clear HI
            obtain ⟨j, hj, rfl, hI⟩ := hrel
            have HI := hid hI
            clear hI
            by_cases hlt2 : j < 6
            · have hltj : decide ((j : Int) < 6) = true := decide_eq_true (by omega)
              have hcl := after_clock (mpM 0 1 T t).sys 0 .h s j
              have hc0 := HC.out
              have hn0 := HN.out
              have htt := HTT.out
              go_wp2_with fail
              refine (mpstep_run w.heap.size l y m g 1 T 1 0 t (mp_goes l y 1 T t 1 0 (by omega)) HI.out.1 HI.out.2.2.1 (by omega) (by omega)).mono ?_
              rintro e w6 ⟨⟨bb, rfl⟩, hA6, hM6, hK6⟩
              have HI6 := hid (show (mpM l 1 T t).at_ w.heap.size l y 1 T 1 0 w6 (after (mpM 0 1 T t).sys 0 .h s (j + 1)).1 ∧ RW w w6 l m g B T (Value.slice (some ⟨gb, 0, none⟩) had.length c0) had (after (mpM 0 1 T t).sys 0 .h s (j + 1)).2 from ⟨hA6, hA6.2.2.1, hM6, keptOwn_grow hK6 HI.out.2.2.2.1 HQ.out.2.2.1 HQ.out.2.2.2 (by decide), keptOwn_low hK6 HI.out.2.2.2.2.1 HQ.out.1 HQ.out.2.1 HI.out.2.2.2.2.1.size, Nat.le_trans HI.out.2.2.2.2.2 (keptOwn_size hK6)⟩)
              clear hA6 hM6 hK6 HI hcl hc0 hn0 htt
              go_wp2_with fail
              go_roundw
              case rel => exact ⟨j + 1, by omega, by go_num, HI6.out⟩
              case measure => simp [intOf]; omega
            · obtain rfl : j = 6 := by omega
              have hltj : decide ((6 : Int) < 6) = false := by decide
              obtain ⟨s2, hs2⟩ : ∃ s2, s2 = (after (mpM 0 1 T t).sys 0 .h s 6).2 := ⟨_, rfl⟩
              have hp2 := HPP.out
              have hi2 := HI.out.2
              rw [← hs2] at hp2 hi2
              obtain ⟨gb2, cap2, hv2, hgB, hcell, hfro, hcap, ⟨csB, hblk⟩, hset⟩ := Grow.parts hi2.2.2.1 (by omega)
              cases hv2
              obtain ⟨q, hq⟩ : ∃ q, had.length = q + 1 := ⟨had.length - 1, by omega⟩
              have cz := hcell q (by omega)
              have fz := hfro k
              have ck := hcell k hkl
              obtain ⟨o, ho⟩ : ∃ o, o = had[k] := ⟨_, rfl⟩
              rw [← ho] at ck
              have ez : had[had.length - 1]'(by omega) = had[q]'(by omega) := by congr 1; omega
              rw [ez] at hp2
              obtain ⟨z, hz⟩ : ∃ z, z = had[q]'(by omega) := ⟨_, rfl⟩
              rw [← hz] at cz hp2
              have l1 : (had.length : Int) - 1 = (q : Int) := by omega
              have hl8 : (had.length : Int) ≤ 9 := by have := HT.out; obtain ⟨f, h1, h2, h3⟩ := hp2; have := many_len h2; rw [takeOut_len] at this; omega
              have l2 : IntKind.i64.wrap ((had.length : Int) - 1) = (q : Int) := by rw [IntKind.wrap_i64]; omega
              have l3 : wrap64 ((had.length : Int) - 1) = (q : Int) := by rw [← IntWalk.i64_left]; exact l2
              have q0 : (0 : Int) ≤ (q : Int) := by omega
              have q1 : (q : Int) < (had.length : Int) := by omega
              have q2 : (q : Int) ≤ (c0 : Int) := by omega
              obtain ⟨xb, hxb, hx⟩ := HR.out.1 n hlt
              cases hxb
              have cxw := hx 0 _ rfl
              rw [Nat.mul_one, Nat.add_zero, ← HXD.out] at cxw
              have hxl := cell_lt cxw
              have cx2 : (wr.setCell ⟨gb, k, none⟩ (.int .i64 z)).cell? (xa.add n) = some (.int .u8 x) := by
                rw [World.cell?_setCell_other _ _ _ _ (by intro e; have e2 := congrArg Addr.block e; have := HB0.out; simp at e2 hxl; omega)]
                exact hi2.2.2.2.1.cell hxl |>.trans cxw
              have HP := hid hp2
              have HI := hid hi2
              have HQ2 := hid hq
              have HST := hid (And.intro hset (And.intro hgB hblk))
              clear ho hs2 hp2 hi2 hq hz hset hgB hblk hcell hfro ez HPP hx cxw hxl
              go_wp2_with fail
              have hS := HST.out
              have hi2 := HI.out
              have hq2 := HQ2.out
              have hK : Kept [gb] wr (wr.setCell ⟨gb, k, none⟩ (.int .i64 z)) := (Kept.refl _ _).set (.inl (by simp)) _
              have hgr : Grow (wr.setCell ⟨gb, k, none⟩ (.int .i64 z)) B 3 1 (encI .i64) (.slice (some ⟨gb, 0, none⟩) q c0) (takeOut had k z) := by
                have := Grow.take (xs := had.set k z) (a := some ⟨gb, 0, none⟩) (cap := c0) (by rw [List.length_set]; exact hS.1 k z hkl) encN_len q (by simp; omega)
                unfold takeOut
                rw [show had.length - 1 = q by omega]
                exact this
              have HI := hid (show RW w (wr.setCell ⟨gb, k, none⟩ (.int .i64 z)) l m g B T (.slice (some ⟨gb, 0, none⟩) q c0) (takeOut had k z) s2 from ⟨hi2.1.kept hK (by have := Blk.ne hi2.1.1 hS.2.2 (by decide); simpa using this), hi2.2.1.kept hK (by have := HQ.out; simp; omega) (by have := HQ.out; simp; omega), hgr, below_kept hi2.2.2.2.1 hK (by intro i hi; have := HB0.out; simp at hi; omega) hi2.2.2.2.1.size, Nat.le_trans hi2.2.2.2.2 hK.size⟩)
              obtain ⟨wS, hwS⟩ : ∃ wS, wS = wr.setCell ⟨gb, k, none⟩ (.int .i64 z) := ⟨_, rfl⟩
              obtain ⟨had3, hh⟩ : ∃ h, h = takeOut had k z := ⟨_, rfl⟩
              have hlq : (had3.length : Int) = (q : Int) := by rw [hh, takeOut_len]; omega
              rw [← hwS, ← hh] at HI
              rw [← hwS]
              rw [← hh] at HP
              clear hwS hh hS hi2 hq2 hK hgr HST HQ2 cx2 cz fz ck l1 l2 l3 q1 q2 hl8 kk1 kk0 z1 hz hkl hcap mk
              obtain ⟨had, hh⟩ : ∃ h, h = had3 := ⟨_, rfl⟩
              rw [← hh] at HI HP hlq
              obtain ⟨s, hs⟩ : ∃ s, s = s2 := ⟨_, rfl⟩
              rw [← hs] at HI HP
              clear hh hs
              have HSP := hid (show spareOf T s = T - (had.length : Int) from by obtain ⟨f, h1, h2, h3⟩ := HP.out; exact many_spare h2 (by omega) h1 (by unfold lenOf; omega))
              have hlen : (had.length : Int) ≤ T := by obtain ⟨f, h1, h2, h3⟩ := HP.out; exact many_len h2
              have hn0 := HN.out
              go_wp2_with fail
              refine (spare_run l m g 1 T 1 s _ HI.out.1 HI.out.2.1).mono ?_
              rintro e w8 ⟨rfl, hb8⟩
              rw [HSP.out]
              have HI := hid (HI.out.quiet hb8)
              clear hb8
              go_wp2_with fail
              go_roundw
              case rel => exact ⟨n + 1, by omega, by go_num, had, s, HI.out, HP.out⟩
              case measure => simp [intOf]; omega
      · have e1 : (x % 2 == 1) = false := by simp; omega
        have e2 : (x % 2 == 0) = true := by simp; omega
        have HC := hid (rp_bad HP.out)
        have HG := hid (rp_get HT.out HP.out)
        go_wp2_with fail
        refine (mg_new_run l 1 T 1 0 wr HI.out.1).mono ?_
        rintro e w5 ⟨rfl, hA, hb⟩
        have HI := hid (show (mgM l 1 T).at_ w.heap.size l _ 1 T 1 0 w5 (after (mgM 0 1 T).sys 0 .h s 0).1 ∧ RW w w5 l m g B T (Value.slice a0 had.length c0) had (after (mgM 0 1 T).sys 0 .h s 0).2 from ⟨⟨hA, HI.out.2.2.2.1.size, HI.out.1.quiet hb, trivial⟩, HI.out.quiet hb⟩)
        obtain ⟨y, hy⟩ : ∃ y, y = wr.heap.size := ⟨_, rfl⟩
        rw [← hy] at HI ⊢
        clear hA hb hy cx HP
        go_wp2_with fail
        go_loopw [16] (fun i wr => ∃ j : Nat, j ≤ 6 ∧ i = .int .i64 (j : Int) ∧ (mgM l 1 T).at_ w.heap.size l y 1 T 1 0 wr (after (mgM 0 1 T).sys 0 .h s j).1 ∧ RW w wr l m g B T (Value.slice a0 had.length c0) had (after (mgM 0 1 T).sys 0 .h s j).2) (fun i _ => 6 - (intOf i).toNat)
        case atStart => exact ⟨0, by omega, rfl, HI.out⟩
        case round =>
          clear HI
          obtain ⟨j, hj, rfl, hI⟩ := hrel
          have HI := hid hI
          clear hI
          by_cases hlt2 : j < 6
          · have hltj : decide ((j : Int) < 6) = true := decide_eq_true (by omega)
            have hcl := after_clock (mgM 0 1 T).sys 0 .h s j
            have hc0 := HC.out
            have hn0 := HN.out
            go_wp2_with fail
            refine (mgstep_run w.heap.size l y m g 1 T 1 0 (mg_goes l y 1 T 1 0 (by omega)) HI.out.1 HI.out.2.2.1 (by omega) (by omega)).mono ?_
            rintro e w6 ⟨⟨bb, rfl⟩, hA6, hM6, hK6⟩
            have HI6 := hid (show (mgM l 1 T).at_ w.heap.size l y 1 T 1 0 w6 (after (mgM 0 1 T).sys 0 .h s (j + 1)).1 ∧ RW w w6 l m g B T (Value.slice a0 had.length c0) had (after (mgM 0 1 T).sys 0 .h s (j + 1)).2 from ⟨hA6, hA6.2.2.1, hM6, keptOwn_grow hK6 HI.out.2.2.2.1 HQ.out.2.2.1 HQ.out.2.2.2 (by decide), keptOwn_low hK6 HI.out.2.2.2.2.1 HQ.out.1 HQ.out.2.1 HI.out.2.2.2.2.1.size, Nat.le_trans HI.out.2.2.2.2.2 (keptOwn_size hK6)⟩)
            clear hA6 hM6 hK6 HI hcl hc0 hn0
            go_wp2_with fail
            go_roundw
            case rel => exact ⟨j + 1, by omega, by go_num, HI6.out⟩
            case measure => simp [intOf]; omega
          · obtain rfl : j = 6 := by omega
            have hltj : decide ((6 : Int) < 6) = false := by decide
            have hg := HG.out
            obtain ⟨q, hq⟩ : ∃ q, q = after (mgM 0 1 T).sys 0 .h s 6 := ⟨_, rfl⟩
            rw [← hq] at HI hg
            have HOV := hid (show ((mgM l 1 T).nx q.1).over = true by rw [mch_over]; rw [show (mgM l 1 T).sys.want q.1 = none from hg.1]; rfl)
            have hg := hg.2
            clear hq HG
            rcases hg with ⟨q1, q2, q3⟩ | ⟨q1, q2, q3, q4, q5⟩
            · have HP := hid q3
              have q4 : q.1.t ∉ had := by
                intro hm
                obtain ⟨f, h1, h2, h3⟩ := q3
                have := many_in h2 _ hm
                omega
              have HQ4 := hid q4
              obtain ⟨t, ht⟩ : ∃ t, t = q.1.t := ⟨_, rfl⟩
              have HQ1 := hid ht.symm
              rw [← ht] at q1 HQ4
              have f1 : (t == -1) = true := by simp [q1]
              have f4 : (t != -1) = false := by simp [q1]
              have f2 : ((had.length : Int) == T) = true := by simp [q2]
              have f3 : decide (T ≤ t) = false := decide_eq_false (by omega)
              clear q1 q2 q3 q4 ht
              go_wp2_with fail
              refine (mg_t_run HI.out.1).mono ?_
              rintro e w6 ⟨rfl, rfl⟩
              rw [HQ1.out]
              go_wp2_with (first | (go_at_call 24; refine (mgdone_run HI.out.1).mono ?_; rintro e w7 ⟨rfl, rfl⟩; rw [HOV.out]))
              have HI := hid HI.out.2
              go_loopw [18] (fun i wr => ∃ k : Nat, k ≤ had.length ∧ i = .int .i64 (k : Int) ∧ RW w wr l m g B T (Value.slice a0 had.length c0) had q.2) (fun i _ => had.length - (intOf i).toNat)
              case atStart => exact ⟨0, by omega, rfl, HI.out⟩
              case round =>
                clear HI
                obtain ⟨k, hk, rfl, hI⟩ := hrel
                have HI := hid hI
                clear hI
                by_cases hlt2 : k < had.length
                · have hltj : decide ((k : Int) < (had.length : Int)) = true := decide_eq_true (by omega)
                  obtain ⟨gb, cap, hv, hgB, hcell, hfro, hcap, ⟨csB, hblk⟩, hset⟩ := Grow.parts HI.out.2.2.1 (by omega)
                  cases hv
                  have ck := hcell k hlt2
                  have hne : had[k] ≠ t := fun e => HQ4.out (e ▸ List.getElem_mem hlt2)
                  obtain ⟨v, hv⟩ : ∃ v, v = had[k] := ⟨_, rfl⟩
                  rw [← hv] at ck hne
                  have f5 : (v == t) = false := by simp [hne]
                  have kk0 : (0 : Int) ≤ (k : Int) := by omega
                  have kk1 : (k : Int) < (had.length : Int) := by omega
                  have hl8 : (had.length : Int) ≤ 8 := by have := HT.out; obtain ⟨f, h1, h2, h3⟩ := HP.out; have := many_len h2; (try simp only [List.length_append] at this); omega
                  clear hv hne hcell hset hfro hblk hgB hcap
                  go_wp2_with fail
                  exact ⟨⟨k + 1, by omega, by go_num, HI.out⟩, by simp [intOf]; omega⟩
                · obtain rfl : k = had.length := by omega
                  have hltj : decide ((had.length : Int) < (had.length : Int)) = false := decide_eq_false (by omega)
                  obtain ⟨s, hs⟩ : ∃ s, s = q.2 := ⟨_, rfl⟩
                  rw [← hs] at HI HP
                  clear hs HQ4 HQ1 HOV f1 f2 f3
                  have HSP := hid (show spareOf T s = T - (had.length : Int) from by obtain ⟨f, h1, h2, h3⟩ := HP.out; exact many_spare h2 (by omega) h1 (by unfold lenOf; omega))
                  have hlen : (had.length : Int) ≤ T := by obtain ⟨f, h1, h2, h3⟩ := HP.out; exact many_len h2
                  have hn0 := HN.out
                  go_wp2_with fail
                  refine (spare_run l m g 1 T 1 s _ HI.out.1 HI.out.2.1).mono ?_
                  rintro e w8 ⟨rfl, hb8⟩
                  rw [HSP.out]
                  have HI := hid (HI.out.quiet hb8)
                  clear hb8
                  go_wp2_with fail
                  go_roundw
                  case rel => exact ⟨n + 1, by omega, by go_num, had, s, HI.out, HP.out⟩
                  case measure => simp [intOf]; omega
            · have HP := hid q5
              have HQ4 := hid q4
              obtain ⟨t, ht⟩ : ∃ t, t = q.1.t := ⟨_, rfl⟩
              have HQ1 := hid ht.symm
              rw [← ht] at q1 q2 q4 HP HQ4
              have f1 : (t == -1) = false := by simp; omega
              have f4 : (t != -1) = true := by simp; omega
              have f2 : ((had.length : Int) == T) = false := by simp; omega
              have f3 : decide (T ≤ t) = false := decide_eq_false (by omega)
              clear ht q4 q1 q2 q3
              go_wp2_with fail
              refine (mg_t_run HI.out.1).mono ?_
              rintro e w6 ⟨rfl, rfl⟩
              rw [HQ1.out]
              go_wp2_with (first | (go_at_call 24; refine (mgdone_run HI.out.1).mono ?_; rintro e w7 ⟨rfl, rfl⟩; rw [HOV.out]))
              have HI := hid HI.out.2
              go_loopw [18] (fun i wr => ∃ k : Nat, k ≤ had.length ∧ i = .int .i64 (k : Int) ∧ RW w wr l m g B T (Value.slice a0 had.length c0) had q.2) (fun i _ => had.length - (intOf i).toNat)
              case atStart => exact ⟨0, by omega, rfl, HI.out⟩
              case round =>
                clear HI
                obtain ⟨k, hk, rfl, hI⟩ := hrel
                have HI := hid hI
                clear hI
                by_cases hlt2 : k < had.length
                · have hltj : decide ((k : Int) < (had.length : Int)) = true := decide_eq_true (by omega)
                  obtain ⟨gb, cap, hv, hgB, hcell, hfro, hcap, ⟨csB, hblk⟩, hset⟩ := Grow.parts HI.out.2.2.1 (by omega)
                  cases hv
                  have ck := hcell k hlt2
                  have hne : had[k] ≠ t := fun e => HQ4.out (e ▸ List.getElem_mem hlt2)
                  obtain ⟨v, hv⟩ : ∃ v, v = had[k] := ⟨_, rfl⟩
                  rw [← hv] at ck hne
                  have f5 : (v == t) = false := by simp [hne]
                  have kk0 : (0 : Int) ≤ (k : Int) := by omega
                  have kk1 : (k : Int) < (had.length : Int) := by omega
                  have hl8 : (had.length : Int) ≤ 8 := by have := HT.out; obtain ⟨f, h1, h2, h3⟩ := HP.out; have := many_len h2; (try simp only [List.length_append] at this); omega
                  clear hv hne hcell hset hfro hblk hgB hcap
                  go_wp2_with fail
                  exact ⟨⟨k + 1, by omega, by go_num, HI.out⟩, by simp [intOf]; omega⟩
                · obtain rfl : k = had.length := by omega
                  have hltj : decide ((had.length : Int) < (had.length : Int)) = false := decide_eq_false (by omega)
                  obtain ⟨s, hs⟩ : ∃ s, s = q.2 := ⟨_, rfl⟩
                  rw [← hs] at HI HP
                  have hG6 := HI.out.2.2.1
                  have hs6 := HI.out.2.2.2.2
                  have hlen : had.length ≤ 8 := by have := HT.out; obtain ⟨f, h1, h2, h3⟩ := HP.out; have := many_len h2; simp only [List.length_append] at this; omega
                  clear hs HQ4 HQ1 HOV f1 f2 f3
                  go_wp2_with (first | (at_builtin; refine app_oneK (T := 3) t hG6 infoI Try.underlying49 rfl (by decide) (by omega) rfl _ _ rfl rfl rfl rfl (encN_len _) (encN_one _) (by omega) hs6 ?_; intro v' w7 hG7 hK7))
                  have own1 : ∀ i ∈ (Value.slice a0 had.length c0).ownBlock.toList, B ≤ i ∧ ∀ cs T', T' ≠ 3 → ¬ Blk wr i cs T' := by
                    intro i hi
                    refine ⟨own_le hG6 i (by simpa using hi), ?_⟩
                    intro cs T' hT hb
                    have := own_type hG6 hb (Ne.symm hT)
                    simp at hi
                    exact this hi
                  obtain ⟨had2, hh⟩ : ∃ h, h = had ++ [t] := ⟨_, rfl⟩
                  rw [← hh] at hG7 HP
                  obtain ⟨a7, c7, hv7, _, _, _⟩ := hG7.row encN_len
                  subst hv7
                  have hi2 := HI.out
                  have HI := hid (show RW w w7 l m g B T (.slice a7 had2.length c7) had2 s from ⟨hi2.1.kept hK7 (fun hi => (own1 _ hi).2 _ _ (by decide) hi2.1.1), hi2.2.1.kept hK7 (fun hi => by have := (own1 _ hi).1; have := HQ.out; omega) (fun hi => by have := (own1 _ hi).1; have := HQ.out; omega), hG7, below_kept hi2.2.2.2.1 hK7 (fun i hi => by have := (own1 _ hi).1; have := HB0.out; omega) hi2.2.2.2.1.size, Nat.le_trans hs6 hK7.size⟩)
                  clear hh hi2 own1 hG7 hK7 hG6 hs6 hlen
                  obtain ⟨had, hh⟩ : ∃ h, h = had2 := ⟨_, rfl⟩
                  rw [← hh] at HI HP ⊢
                  clear hh
                  have HSP := hid (show spareOf T s = T - (had.length : Int) from by obtain ⟨f, h1, h2, h3⟩ := HP.out; exact many_spare h2 (by omega) h1 (by unfold lenOf; omega))
                  have hlen : (had.length : Int) ≤ T := by obtain ⟨f, h1, h2, h3⟩ := HP.out; exact many_len h2
                  have hn0 := HN.out
                  go_wp2_with fail
                  refine (spare_run l m g 1 T 1 s _ HI.out.1 HI.out.2.1).mono ?_
                  rintro e w8 ⟨rfl, hb8⟩
                  rw [HSP.out]
                  have HI := hid (HI.out.quiet hb8)
                  clear hb8
                  go_wp2_with fail
                  go_roundw
                  case rel => exact ⟨n + 1, by omega, by go_num, had, s, HI.out, HP.out⟩
                  case measure => simp [intOf]; omega
    · obtain rfl : n = xs.length := by omega
      have hlt' : decide ((xs.length : Int) < (xs.length : Int)) = false := decide_eq_false (by omega)
      have HBD := hid (show s.bad = 0 by obtain ⟨f, h1, _⟩ := HP.out; exact h1.bad)
      go_wp2_with (first | (go_at_call 18; refine (awake_run _).mono ?_; rintro e w9 ⟨rfl, hb9⟩) | (go_at_call 26; refine (mbad_run m g s _ (HI.out.2.1.quiet hb9)).mono ?_; rintro e w10 ⟨rfl, rfl⟩; rw [HBD.out]))
      go_ret
      exact ⟨rfl, Below.then_ HI.out.2.2.2.1 hb9⟩
end Go.Proofs.Ytnmkfmaohflejaa.Idlem
