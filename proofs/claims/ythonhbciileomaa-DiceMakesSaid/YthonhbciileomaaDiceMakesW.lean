/- The walk of DiceMakes. -/
import Derived.Test.YthonhbciileomaaDiceMkD
import Derived.Test.YthonhbciileomaaDiceMkE
import Derived.Deep.RegionHeld3
import Derived.BigQuiet
import Derived.Deep.DeepCutAuto
set_option maxRecDepth 100000
set_option maxHeartbeats 2000000
set_option linter.unusedVariables false
set_option linter.unusedSimpArgs false
namespace Go.Proofs.Ythonhbciileomaa.Dice
open Go.RowKit Go.Proofs.Ythonhbciileomaa.TK Go.Proofs.Ythonhbciileomaa.Flag Go.Proofs.Ythonhbciileomaa.Read Go.Proofs.Ythonhbciileomaa.Grow Go.Proofs.Ythonhbciileomaa.Layout
/-- What is known of a world: the law's boxes, both dice. -/
structure MW (w wr : World) (bm bx dd rd : Nat) (P T G x0 x1 x2 a0 : Int) (m n : Nat) : Prop where
  most : Blk wr bm [.int .i64 P, .int .i64 T, .int .i64 G] 24
  xs : Blk wr bx [.int .i64 x0, .int .i64 x1, .int .i64 x2] 25
  dice : DiceAt wr dd a0 m
  rdice : RDiceAt wr rd a0 n
  low : Below w.heap.size w wr
  ord : w.heap.size ≤ bm ∧ bm < bx ∧ bx < dd ∧ dd < rd
section
variable {w wr w' : World} {bm bx dd rd : Nat} {P T G x0 x1 x2 a0 : Int} {m n k : Nat}
theorem MW.quiet (h : MW w wr bm bx dd rd P T G x0 x1 x2 a0 m n) (hb : Below wr.heap.size wr w') : MW w w' bm bx dd rd P T G x0 x1 x2 a0 m n := ⟨h.most.quiet hb, h.xs.quiet hb, Blk.quiet h.dice hb, Blk.quiet h.rdice hb, Below.then_ h.low hb, h.ord⟩
theorem MW.goA (h : MW w wr bm bx dd rd P T G x0 x1 x2 a0 m n) (hk : Kept [dd] wr w') (hd : DiceAt w' dd a0 k) : MW w w' bm bx dd rd P T G x0 x1 x2 a0 k n := by
  have o := h.ord
  exact ⟨h.most.kept hk (by simp; omega), h.xs.kept hk (by simp; omega), hd, Blk.kept h.rdice hk (by simp; omega), below_kept h.low hk (by simp; omega) h.low.size, o⟩
theorem MW.goR (h : MW w wr bm bx dd rd P T G x0 x1 x2 a0 m n) (hk : Kept [rd] wr w') (hd : RDiceAt w' rd a0 k) : MW w w' bm bx dd rd P T G x0 x1 x2 a0 m k := by
  have o := h.ord
  exact ⟨h.most.kept hk (by simp; omega), h.xs.kept hk (by simp; omega), Blk.kept h.dice hk (by simp; omega), hd, below_kept h.low hk (by simp; omega) h.low.size, o⟩
end
theorem row_keptU {w w' : World} {a : Option Addr} {xs : List Int} {S : List Nat} (h : RowOf (encI .u64) 1 w a xs) (hk : Kept S w w') (hS : ∀ x, a = some x → x.block ∉ S) : RowOf (encI .u64) 1 w' a xs := by
  intro i hi
  obtain ⟨x, hx, hc⟩ := h i hi
  exact ⟨x, hx, fun j v hj => hk.cell (hc j v hj) (by simpa using hS x hx)⟩
theorem makes_walk0 (w : World) (a0 P T G x0 x1 x2 : Int) (ha : U64 a0) (hx1 : -9223372036854775808 ≤ x1) :
    Calls Try.prog 3 #[.int .u64 a0, .agg #[.int .i64 P, .int .i64 T, .int .i64 G], .agg #[.int .i64 x0, .int .i64 x1, .int .i64 x2]] w fun e w' => e = .returned (.bool true) ∧ Below w.heap.size w w' := by
  have hl2 : Below w.heap.size w ((w.alloc (.cells #[.int .i64 P, .int .i64 T, .int .i64 G] 24)).alloc (.cells #[.int .i64 x0, .int .i64 x1, .int .i64 x2] 25)) := (below_one w _).alloc (by simp) _
  by_cases g1 : 300 < x1
  · have d1 : decide (300 < x1) = true := decide_eq_true g1
    go_enter Try.func3, Try.ntmps3
    (go_wp2_with (first | (go_at_call 4; refine (awake_run _).mono ?_; rintro e w9 ⟨rfl, hb9⟩)))
    go_ret
    exact ⟨rfl, Below.then_ hl2 hb9⟩
  have d1 : decide (300 < x1) = false := decide_eq_false g1
  by_cases g2 : 300 < x2
  · have d2 : decide (300 < x2) = true := decide_eq_true g2
    go_enter Try.func3, Try.ntmps3
    (go_wp2_with (first | (go_at_call 4; refine (awake_run _).mono ?_; rintro e w9 ⟨rfl, hb9⟩)))
    go_ret
    exact ⟨rfl, Below.then_ hl2 hb9⟩
  have d2 : decide (300 < x2) = false := decide_eq_false g2
  go_enter Try.func3, Try.ntmps3
  go_wp2_with fail
  refine (new_run a0 _).mono ?_
  rintro e w1 ⟨rfl, rfl⟩
  go_wp2_with fail
  obtain ⟨w1, hw1⟩ : ∃ w1, w1 = (((w.alloc (.cells #[.int .i64 P, .int .i64 T, .int .i64 G] 24)).alloc (.cells #[.int .i64 x0, .int .i64 x1, .int .i64 x2] 25)).alloc (.cells #[.int .u64 a0] 48)).alloc (.cells #[.int .u64 a0, .int .i64 0] 30) := ⟨_, rfl⟩
  rw [← hw1]
  have HM : MW w w1 w.heap.size (w.heap.size + 1) (w.heap.size + 1 + 1) (w.heap.size + 1 + 1 + 1) P T G x0 x1 x2 a0 0 0 := by
    rw [hw1]
    refine ⟨(((Blk.new w [.int .i64 P, .int .i64 T, .int .i64 G] 24).alloc _).alloc _).alloc _, ((Blk.new_at (w := w.alloc (.cells #[.int .i64 P, .int .i64 T, .int .i64 G] 24)) (g := w.heap.size + 1) [.int .i64 x0, .int .i64 x1, .int .i64 x2] 25 (by simp)).alloc _).alloc _, Blk.alloc (Blk.new_at (w := (w.alloc (.cells #[.int .i64 P, .int .i64 T, .int .i64 G] 24)).alloc (.cells #[.int .i64 x0, .int .i64 x1, .int .i64 x2] 25)) (g := w.heap.size + 1 + 1) [.int .u64 a0] 48 (by simp)) _, Blk.new_at (g := w.heap.size + 1 + 1 + 1) [.int .u64 a0, .int .i64 0] 30 (by simp), (hl2.alloc (by simp; omega) _).alloc (by simp; omega) _, by omega⟩
  obtain ⟨bx, hbx⟩ : ∃ bx, bx = w.heap.size + 1 := ⟨_, rfl⟩
  rw [← hbx] at HM ⊢
  obtain ⟨dd, hdd⟩ : ∃ dd, dd = bx + 1 := ⟨_, rfl⟩
  rw [← hdd] at HM ⊢
  obtain ⟨rd, hrd⟩ : ∃ rd, rd = dd + 1 := ⟨_, rfl⟩
  rw [← hrd] at HM ⊢
  obtain ⟨bm, hbm⟩ : ∃ bm, bm = w.heap.size := ⟨_, rfl⟩
  have HM : MW w w1 bm bx dd rd P T G x0 x1 x2 a0 0 0 := by rw [hbm]; exact HM
  rw [← hbm]
  have HG := hid (show x1 ≤ 300 ∧ x2 ≤ 300 by omega)
  clear hw1 hl2 d1 d2 g1 g2 hbx hdd hrd hbm
  by_cases hR : Right P T G
  · refine (config_run dd a0 0 P T G _ HM.dice hR).mono ?_
    rintro e w2 ⟨rfl, HD2, K2⟩
    have HM2 := HM.goA K2 HD2
    have hcf := cf_range (a0 := a0) (m := 0) hR
    replace hcf := And.intro hcf.1 (And.intro hcf.2.1 hcf.2.2.1)
    obtain ⟨p, hp⟩ : ∃ p, p = cfP a0 P 0 := ⟨_, rfl⟩
    obtain ⟨t, ht⟩ : ∃ t, t = cfT a0 P T 0 := ⟨_, rfl⟩
    obtain ⟨q, hq⟩ : ∃ q, q = cfG a0 G 0 := ⟨_, rfl⟩
    rw [← hp, ← ht, ← hq] at hcf ⊢
    have HPQ := hid (And.intro hp (And.intro ht hq))
    have hRR := hid hR
    have HM3 := HM2.quiet (below_one w2 (.cells #[.int .i64 p, .int .i64 t, .int .i64 q] 24))
    have hc3 := Blk.new w2 [.int .i64 p, .int .i64 t, .int .i64 q] 24
    have m0 := HM3.most.cell 0
    have m1 := HM3.most.cell 1
    have m2 := HM3.most.cell 2
    simp only [List.getElem?_cons_zero, List.getElem?_cons_succ] at m0 m1 m2
    have hlt3 := HM2.rdice.lt
    have HI := hid (And.intro HM3 hc3)
    obtain ⟨bc, hbc⟩ : ∃ bc, bc = w2.heap.size := ⟨_, rfl⟩
    have HBC := hid hbc
    have HLT := hid hlt3
    clear HM K2 HD2 hp ht hq HM2 HM3 hc3 hbc hlt3
    go_wp2_with fail
    refine (rright_run P T G _).mono ?_
    rintro e w4 ⟨rfl, hb4⟩
    rw [show decide (Right P T G) = true from decide_eq_true hRR.out]
    have HM4 := HI.out.1.quiet hb4
    have hc4 := HI.out.2.quiet hb4
    rw [← HBC.out] at hc4 ⊢
    have m0 := HM4.most.cell 0
    have m1 := HM4.most.cell 1
    have m2 := HM4.most.cell 2
    simp only [List.getElem?_cons_zero, List.getElem?_cons_succ] at m0 m1 m2
    have HBL := hid (show rd < bc by rw [HBC.out]; exact HLT.out)
    have HI := hid (And.intro HM4 hc4)
    clear HM4 hc4 hb4 HLT
    go_wp2_with fail
    refine (rconfig_run rd a0 0 P T G _ HI.out.1.rdice ha (by omega) hRR.out).mono ?_
    rintro e w5 ⟨rfl, HD5, K5⟩
    rw [show cfP a0 P 0 = p from HPQ.out.1.symm, show cfT a0 P T 0 = t from HPQ.out.2.1.symm, show cfG a0 G 0 = q from HPQ.out.2.2.symm]
    have HM5 := HI.out.1.goR K5 HD5
    have hc5 := HI.out.2.kept K5 (by have := HBL.out; simp; omega)
    have HM6 := HM5.quiet (below_one w5 (.cells #[.int .i64 p, .int .i64 t, .int .i64 q] 24))
    have hc6 := hc5.quiet (below_one w5 (.cells #[.int .i64 p, .int .i64 t, .int .i64 q] 24))
    have hw6 := Blk.new w5 [.int .i64 p, .int .i64 t, .int .i64 q] 24
    have hbw := hc5.lt
    obtain ⟨w6, hw6d⟩ : ∃ w6, w6 = w5.alloc (.cells #[.int .i64 p, .int .i64 t, .int .i64 q] 24) := ⟨_, rfl⟩
    have HI := hid (show MW w w6 bm bx dd rd P T G x0 x1 x2 a0 3 3 ∧ Blk w6 bc [.int .i64 p, .int .i64 t, .int .i64 q] 24 ∧ Blk w6 w5.heap.size [.int .i64 p, .int .i64 t, .int .i64 q] 24 by rw [hw6d]; exact ⟨HM6, hc6, hw6⟩)
    have HW6 := hid hw6d
    clear HM5 hc5 HM6 hc6 hw6 K5 HD5 m0 m1 m2 hw6d hbw
    go_upto_region 9 with fail
    rw [← HW6.out]
    obtain ⟨bw, hbw⟩ : ∃ bw, bw = w5.heap.size := ⟨_, rfl⟩
    rw [← hbw] at HI ⊢
    have m0 := HI.out.1.most.cell 0
    have m1 := HI.out.1.most.cell 1
    have m2 := HI.out.1.most.cell 2
    have c0 := HI.out.2.1.cell 0
    have c1 := HI.out.2.1.cell 1
    have c2 := HI.out.2.1.cell 2
    have y0 := HI.out.2.2.cell 0
    have y1 := HI.out.2.2.cell 1
    have y2 := HI.out.2.2.cell 2
    simp only [List.getElem?_cons_zero, List.getElem?_cons_succ] at m0 m1 m2 c0 c1 c2 y0 y1 y2
    have t1 : decide (P < p) = false := decide_eq_false (by omega)
    have t2 : decide (T < t) = false := decide_eq_false (by omega)
    have t3 : decide (G < q) = false := decide_eq_false (by omega)
    have HRC := hid (show Right p t q by have := hRR.out; unfold Right at this ⊢; omega)
    clear HW6 hbw
    go_wp2_with fail
    refine (rright_run p t q _).mono ?_
    rintro e w7 ⟨rfl, hb7⟩
    rw [show decide (Right p t q) = true from decide_eq_true HRC.out]
    have HM7 := HI.out.1.quiet hb7
    have hc7 := HI.out.2.1.quiet hb7
    have m0 := HM7.most.cell 0
    have m1 := HM7.most.cell 1
    have m2 := HM7.most.cell 2
    have c0 := hc7.cell 0
    have c1 := hc7.cell 1
    have c2 := hc7.cell 2
    have e00 := HM7.xs.cell 0
    simp only [List.getElem?_cons_zero, List.getElem?_cons_succ] at m0 m1 m2 c0 c1 c2 e00
    have hpt : 1 ≤ t ∧ t ≤ 256 := by have := HRC.out; unfold Right at this; omega
    clear HI hb7 y0 y1 y2
    go_wp2_with fail
    have HMd : MW w w7.drew bm bx dd rd P T G x0 x1 x2 a0 3 3 := HM7.quiet (below_drewN (Below.refl _ w7) 1)
    have hcd : Blk w7.drew bc [.int .i64 p, .int .i64 t, .int .i64 q] 24 := hc7.quiet (below_drewN (Below.refl _ w7) 1)
    have hord := HMd.ord
    have hbc := HBL.out
    have hrdl := HMd.rdice.lt
    clear HM7 hc7 m0 m1 m2 c0 c1 c2 t1 t2 t3
    go_region_held3 (fun w' => w'.cell? ⟨bx, 0, none⟩ = some (.int .i64 x0)) (first | exact e03 | exact e02 | exact e01 | exact e00) (first | (go_at_call 11; ((with_reducible refine (programs_run dd a0 3 x0 _ HMd.dice).mono ?_); rintro e wx ⟨va, rfl, hGa, HDa, KA⟩); have HMx := HMd.goA KA HDa; have hcx := hcd.kept KA (by simp; omega); have e01 : wx.cell? ⟨bx, 0, none⟩ = some (.int .i64 x0) := HMx.xs.cell 0) | (go_at_call 12; ((with_reducible refine (rprograms_run rd a0 3 x0 _ HMx.rdice ha (by omega)).mono ?_); rintro e wy ⟨vb, rfl, hGb, HDb, KB⟩); have HMy := HMx.goR KB HDb; have hcy := hcx.kept KB (by simp; omega); have e02 : wy.cell? ⟨bx, 0, none⟩ = some (.int .i64 x0) := HMy.xs.cell 0; have hGa2 := hGa.kept KB (by simp; exact hrdl); obtain ⟨aa, ca, ea, ra, _, _⟩ := hGa2.row encU_len; subst ea; obtain ⟨ab, cb, eb, rb, _, _⟩ := hGb.row encU_len; subst eb) | (go_at_call 10; ((with_reducible refine (same03_run aa ab ca cb _ _ ra rb (by have := progs_le a0 (clampN x0) 3 (clampN x0).toNat; have := clampN_range x0; omega)).mono ?_); rintro e wz ⟨rfl, hbz⟩); have HMz := HMy.quiet hbz; have hcz := hcy.quiet hbz; have e03 : wz.cell? ⟨bx, 0, none⟩ = some (.int .i64 x0) := HMz.xs.cell 0))
    have hpl := progs_le a0 (clampN x0) 3 (clampN x0).toNat
    have hcr := clampN_range x0
    obtain ⟨mp, hmp⟩ : ∃ mp, mp = (progs a0 (clampN x0) 3 (clampN x0).toNat).2 := ⟨_, rfl⟩
    rw [← hmp] at HMz hpl
    have hmpl : mp ≤ 300 := by omega
    have HI := hid (And.intro HMz hcz)
    clear hpl hcr hmp HMd hcd HMx hcx HMy hcy hGa hGa2 hGb HDa HDb KA KB ra rb hbz HMz hcz e00 e01 e02 e03 hrdl
    have q0 := HI.out.2.cell 0
    have q1 := HI.out.2.cell 1
    have q2 := HI.out.2.cell 2
    have b1 := HI.out.1.xs.cell 1
    simp only [List.getElem?_cons_zero, List.getElem?_cons_succ] at q0 q1 q2 b1
    go_wp2_with fail
    refine (script_run dd a0 mp p t q x1 _ HI.out.1.dice hpt.1 hpt.2 HG.out.1 hx1).mono ?_
    rintro e wA ⟨vA, rfl, hGA, HDA, KA⟩
    have hsl := scr_len a0 t x1.toNat mp
    obtain ⟨l, hl⟩ : ∃ l, l = (scrL a0 t x1.toNat mp).1 := ⟨_, rfl⟩
    obtain ⟨M, hM⟩ : ∃ M, M = (scrL a0 t x1.toNat mp).2 := ⟨_, rfl⟩
    rw [← hl] at hGA hsl
    rw [← hM] at HDA hsl
    have HLM := hid (And.intro hl hM)
    have hMl : M ≤ 1300 := by have := HG.out; omega
    have hll : l.length ≤ 300 := by have := HG.out; omega
    have HMA := HI.out.1.goA KA HDA
    have hcA := HI.out.2.kept KA (by simp; omega)
    have hrA := HMA.rdice.lt
    have hbase : rd < wz.heap.size := HI.out.1.rdice.lt
    obtain ⟨BA, hBA⟩ : ∃ B, B = wz.heap.size := ⟨_, rfl⟩
    rw [← hBA] at hGA hbase
    have HI := hid (And.intro HMA (And.intro hcA hGA))
    clear KA HDA HMA hcA hGA hl hM hsl q0 q1 q2 b1 hBA
    have q1 := HI.out.2.1.cell 1
    have b1 := HI.out.1.xs.cell 1
    simp only [List.getElem?_cons_zero, List.getElem?_cons_succ] at q1 b1
    go_wp2_with fail
    refine (rscript_run rd a0 mp t x1 _ HI.out.1.rdice ha (by omega) hpt.1 hpt.2 HG.out.1).mono ?_
    rintro e wB ⟨vB, rfl, hGB, HDB, KB⟩
    rw [← HLM.out.1] at hGB
    rw [← HLM.out.2] at HDB
    have HMB := HI.out.1.goR KB HDB
    have hGA2 := HI.out.2.2.kept KB (by simp; omega)
    obtain ⟨aa, ca, ea, ra, _, _⟩ := hGA2.row encE_len
    subst ea
    obtain ⟨ab, cb, eb, rb, _, _⟩ := hGB.row encE_len
    subst eb
    have HI := hid (And.intro HMB (And.intro ra rb))
    clear KB HDB HMB hGA2 hGB ra rb q1 b1 HLM
    go_wp2_with fail
    go_loopw [14] (fun i wr => ∃ k : Nat, k ≤ l.length ∧ i = .int .i64 (k : Int) ∧ Below wB.heap.size wB wr) (fun i _ => l.length - (intOf i).toNat)
    case atStart => exact ⟨0, Nat.zero_le _, rfl, Below.refl _ _⟩
    case round =>
      obtain ⟨k, hk, rfl, HB⟩ := hrel
      by_cases hkl : k < l.length
      · have hltk : decide ((k : Int) < (l.length : Int)) = true := decide_eq_true (by omega)
        obtain ⟨xa, rfl, hxa⟩ := HI.out.2.1.quiet HB k hkl
        obtain ⟨xb, rfl, hxb⟩ := HI.out.2.2.quiet HB k hkl
        have z0 := hxa 0 _ rfl
        have z1 := hxa 1 _ rfl
        have y0 := hxb 0 _ rfl
        have y1 := hxb 1 _ rfl
        rw [add_next] at z1 y1
        simp only [Nat.add_zero, Nat.zero_add] at z0 z1 y0 y1
        obtain ⟨⟨r, s⟩, hrs⟩ : ∃ z : Ent, z = l[k] := ⟨_, rfl⟩
        rw [← hrs] at z0 z1 y0 y1
        have k0 : (0 : Int) ≤ (k : Int) := by omega
        have k1 : (k : Int) < (l.length : Int) := by omega
        clear hrs hxa hxb HI
        go_wp2_with fail
        go_quiet (fail)
        go_wp2_with fail
        go_roundw
        case rel => exact ⟨k + 1, by omega, by go_num, below_drewN HB _⟩
        case measure => simp only [intOf]; omega
      · obtain rfl : k = l.length := by omega
        have hltk : decide ((l.length : Int) < (l.length : Int)) = false := decide_eq_false (by omega)
        have HMC := HI.out.1.quiet HB
        have b2 := HMC.xs.cell 2
        have r1 := HMC.rdice.cell 1
        simp only [List.getElem?_cons_zero, List.getElem?_cons_succ] at b2 r1
        have hordC := HMC.ord
        have hrl := HMC.rdice.lt
        have HI := hid HMC
        obtain ⟨wC, hwC⟩ : ∃ wC, wC = wr := ⟨_, rfl⟩
        rw [← hwC] at HI b2 r1 hrl ⊢
        clear HB HMC hwC
        obtain ⟨X2, hX2⟩ : ∃ X2, X2 = x2.toNat := ⟨_, rfl⟩
        have hX2l : X2 ≤ 300 := by have := HG.out; omega
        go_wp2_with fail
        go_loopw [16, 15] (fun i v wr => ∃ k : Nat, k ≤ X2 ∧ i = .int .i64 (k : Int) ∧ Grow wr wC.heap.size 22 1 (encI .u64) v (drawsL a0 M k) ∧ Below wC.heap.size wC wr ∧ wC.heap.size ≤ wr.heap.size) (fun i _ _ => X2 - (intOf i).toNat)
        case atStart => exact ⟨0, Nat.zero_le _, rfl, Grow.nil _ _ _ _ _, Below.refl _ _, Nat.le_refl _⟩
        case round =>
          clear b2 r1
          obtain ⟨k2, hk2, rfl, hG, HB2, hle⟩ := hrel
          have HMD := HI.out.quiet HB2
          have b2 := HMD.xs.cell 2
          have r1 := HMD.rdice.cell 1
          simp only [List.getElem?_cons_zero, List.getElem?_cons_succ] at b2 r1
          have hdl := drawsL_len a0 M k2
          by_cases hlt : (k2 : Int) < x2
          · have hlt' : decide ((k2 : Int) < x2) = true := decide_eq_true hlt
            have hnum := stt_num a0 ha.1 ha.2 (M + 1 + k2)
            rw [show ((M + 1 + k2 : Nat) : Int) = (M : Int) + 1 + (k2 : Int) by omega] at hnum
            have HDS := hid (drawsL_succ a0 M k2)
            obtain ⟨X, hX⟩ : ∃ X, X = mix (stt a0 (M + 1 + k2)) := ⟨_, rfl⟩
            rw [← hX] at HDS hnum
            have HNU := hid hnum
            clear hX HMD hnum
            go_wp2_with (first | (go_at_call 14; refine (number_run a0 _ _).mono ?_; rintro e wn ⟨rfl, rfl⟩; rw [HNU.out]) | (at_builtin; refine app_one (T := 22) X hG infoU Try.underlying39 rfl (by decide) (by omega) rfl _ _ rfl rfl rfl rfl rfl (encU_one X) (by omega) hle ?_; intro v' w5 hG5 hb5 hle5))
            rw [← HDS.out] at hG5
            have HB5 := HB2.trans hb5
            clear hG HB2 hle
            first | exact ⟨⟨k2 + 1, by omega, by go_num, hG5, HB5, hle5⟩, by simp [intOf]; omega⟩ | (go_roundw; (case rel => first | exact ⟨k2 + 1, by omega, by go_num, hG5, HB5, hle5⟩ | ((repeat apply Exists.intro); exact ⟨⟨k2 + 1, by omega, by go_num, hG5, HB5, hle5⟩, rfl⟩)); (case measure => simp [intOf]; omega))
          · have hlt' : decide ((k2 : Int) < x2) = false := decide_eq_false hlt
            obtain rfl : k2 = X2 := by omega
            obtain ⟨ad, cd, ed, rd5, _, hab5⟩ := hG.row encU_len
            have hddC := HI.out.dice.lt
            have HAB := hid (show ∀ x, ad = some x → x.block ∉ [dd] from fun x hx => by have := (hab5 x hx).1; simp; omega)
            subst ed
            have HJ := hid (And.intro HMD rd5)
            have HX2 := hid hX2
            clear hG HB2 hle HMD rd5 r1 hX2 hab5 hddC hdl
            go_wp2_with fail
            refine (awake_run _).mono ?_
            rintro e w9 ⟨rfl, hb9⟩
            have HJ := hid (And.intro (HJ.out.1.quiet hb9) (HJ.out.2.quiet hb9))
            have b3 := HJ.out.1.xs.cell 2
            simp only [List.getElem?_cons_zero, List.getElem?_cons_succ] at b3
            clear hb9 b2
            go_wp2_with fail
            refine (draws_run dd a0 M x2 _ HJ.out.1.dice HG.out.2).mono ?_
            rintro e w10 ⟨vd, rfl, hGd, KD⟩
            rw [← HX2.out] at hGd
            obtain ⟨ae, ce, ee, re, _, _⟩ := hGd.row encU_len
            subst ee
            have hrow5 := row_keptU HJ.out.2 KD HAB.out
            have HLW := hid (below_kept HJ.out.1.low KD (by simp; omega) HJ.out.1.low.size)
            have HRE := hid (And.intro re hrow5)
            clear hGd KD re hrow5 b3 HJ
            go_wp2_with fail
            refine (same03_run ae ad ce cd _ _ HRE.out.1 HRE.out.2 (by rw [drawsL_len]; omega)).mono ?_
            rintro e w11 ⟨rfl, hb11⟩
            go_wp2
            go_ret
            exact ⟨rfl, Below.then_ HLW.out hb11⟩
  · refine (config_no dd P T G _ hR).mono ?_
    rintro e w2 ⟨rfl, hb2⟩
    have HM3 := (HM.quiet hb2).quiet (below_one w2 (.cells #[.int .i64 0, .int .i64 0, .int .i64 0] 24))
    have hc3 := Blk.new w2 [.int .i64 0, .int .i64 0, .int .i64 0] 24
    have hRR := hid (show decide (Right P T G) = false from decide_eq_false hR)
    have m0 := HM3.most.cell 0
    have m1 := HM3.most.cell 1
    have m2 := HM3.most.cell 2
    simp only [List.getElem?_cons_zero, List.getElem?_cons_succ] at m0 m1 m2
    have HI := hid (And.intro HM3 hc3)
    clear HM hb2 hR HM3 hc3
    go_wp2_with fail
    refine (rright_run P T G _).mono ?_
    rintro e w4 ⟨rfl, hb4⟩
    rw [hRR.out]
    have HI := hid (And.intro (HI.out.1.quiet hb4) (HI.out.2.quiet hb4))
    clear hb4 m0 m1 m2
    obtain ⟨bc, hbc⟩ : ∃ bc, bc = w2.heap.size := ⟨_, rfl⟩
    rw [← hbc] at HI ⊢
    clear hbc
    go_wp2_with fail
    refine (awake_run _).mono ?_
    rintro e w5 ⟨rfl, hb5⟩
    have HI := hid (And.intro (HI.out.1.quiet hb5) (HI.out.2.quiet hb5))
    have c0 := HI.out.2.cell 0
    have c1 := HI.out.2.cell 1
    have c2 := HI.out.2.cell 2
    simp only [List.getElem?_cons_zero, List.getElem?_cons_succ] at c0 c1 c2
    clear hb5
    go_wp2_with fail
    refine (dscript_no dd 0 0 0 5 _ (.inl (by omega))).mono ?_
    rintro e w6 ⟨rfl, hb6⟩
    have HL := hid (Below.then_ HI.out.1.low hb6)
    clear hb6 HI
    go_wp2_with fail
    go_ret
    exact ⟨rfl, HL.out⟩
theorem makes_walk (w : World) (a0 : Int) (w0 : (Lit.int .u64 a0).wf = true) (cs : List Value) (hcs : AllL w [.base (.int .i64), .base (.int .i64), .base (.int .i64)] cs) (ds : List Value) (hds : AllL w [.base (.int .i64), .base (.int .i64), .base (.int .i64)] ds) :
    Calls Try.prog 3 #[.int .u64 a0, .agg cs.toArray, .agg ds.toArray] w fun e w' => e = .returned (.bool true) ∧ Below w.heap.size w w' := by
  obtain ⟨P, T, G, rfl, _, _, _⟩ := Read.three_ints hcs
  obtain ⟨x0, x1, x2, rfl, _, h1, _⟩ := Read.three_ints hds
  exact makes_walk0 w a0 P T G x0 x1 x2 (wf_u64 w0) (wf_i64 h1).1
end Go.Proofs.Ythonhbciileomaa.Dice
