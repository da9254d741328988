/- Goroutines that are had and given back: the example. -/
import Derived.Test.YtncmajflakkibaaListGR
set_option maxRecDepth 100000
set_option maxHeartbeats 4000000
set_option linter.unusedVariables false
set_option linter.unusedSimpArgs false
namespace Go.Proofs.Ytncmajflakkibaa.Gfree
open Go.RowKit Go.Shelf Go.Proofs.Ytncmajflakkibaa.TK Go.Proofs.Ytncmajflakkibaa.Flag Go.Proofs.Ytncmajflakkibaa.Read Go.Proofs.Ytncmajflakkibaa.Grow Go.Proofs.Ytncmajflakkibaa.Words Go.Proofs.Ytncmajflakkibaa.Mem Go.Proofs.Ytncmajflakkibaa.Flow Go.Proofs.Ytncmajflakkibaa.Layout Go.Proofs.Ytncmajflakkibaa.Lock Go.Proofs.Ytncmajflakkibaa.Run Go.Proofs.Ytncmajflakkibaa.Sys Go.Proofs.Ytncmajflakkibaa.Mach Go.Proofs.Ytncmajflakkibaa.Doc Go.Proofs.Ytncmajflakkibaa.Ref05 Go.Proofs.Ytncmajflakkibaa.Ring Go.Proofs.Ytncmajflakkibaa.Idlem
theorem blk_own {Own : List TypeId} {lo m g b : Nat} {w w' : World} {s : St} {cs : List Value} {T : TypeId} (hb : Blk w b cs T) (hM : MemAt w m g s) (hK : KeptOwn Own lo m g w w') (hT : T ≠ 130 ∧ T ≠ 31) (hO : T ∉ Own) : Blk w' b cs T := by
  obtain ⟨S, h1, h2⟩ := hK
  refine hb.kept h1 ?_
  intro hi
  rcases h2 b hi with h | h | ⟨_, T', h3, cs', h4⟩
  · exact hM.neT hb hT.1 h
  · exact hM.neG hb hT.2 h
  · exact Blk.ne hb h4 (fun e => hO (by rw [e]; exact h3)) rfl
def s112 : St := fresh (layW (lenOf 1 1 2) [])
def gaw : Nat → St
  | 0 => s112
  | n + 1 => (after (ggY 1 1 2 0) 0 (.acq .ask) (gaw n) 9).2
def gx (n : Nat) : GgSt := (after (ggY 1 1 2 0) 0 (.acq .ask) (gaw n) 9).1
def gput : St := (after (gpY 1 1 2 0 0) 0 (.acq .ask) (gaw 3) 9).2
def gwant (n : Nat) : Int := if n = 0 then 0 else if n = 1 then 1 else -1
theorem few112 : FewP 1 1 2 := by unfold FewP Right; omega
theorem ex_run : (∀ n, n < 3 → ((ggY 1 1 2 0).want (gx n)).isNone = true ∧ ggG (gx n) = gwant n) ∧ glst gput 1 1 2 = ([0], true) ∧ ∀ n, n < 4 → (gaw n).clock ≤ 100 ∧ (gaw n).bad ≤ 100 := by
  refine ⟨?_, ?_, ?_⟩ <;> decide +kernel
theorem awake_run (w : World) : Calls Try.prog 39 #[] w fun e w' => e = .returned (.bool true) ∧ Below w.heap.size w w' := by
  have HE := hid ex_run
  go_enter Try.func39, Try.ntmps39
  go_wp2_with fail
  refine (lay_yes 1 1 2 none 0 [] _ few112 (by simp) ?_ (by simp)).mono ?_
  · intro i hi; simp at hi
  rintro e w1 ⟨l, m, g, rm, rg, rfl, hL⟩
  have HQ := hid (show w.heap.size ≤ m ∧ w.heap.size ≤ g from ⟨hL.low5.2.1, hL.low5.2.2.1⟩)
  have hw2 := below_one w1 (.cells #[.int .i64 0, .int .i64 1, .int .i64 (-1)] 3)
  have HI := hid (show Lay (w1.alloc (.cells #[.int .i64 0, .int .i64 1, .int .i64 (-1)] 3)) l 1 1 2 ∧ MemAt (w1.alloc (.cells #[.int .i64 0, .int .i64 1, .int .i64 (-1)] 3)) m g (gaw 0) ∧ Below w.heap.size w (w1.alloc (.cells #[.int .i64 0, .int .i64 1, .int .i64 (-1)] 3)) ∧ Blk (w1.alloc (.cells #[.int .i64 0, .int .i64 1, .int .i64 (-1)] 3)) w1.heap.size [.int .i64 0, .int .i64 1, .int .i64 (-1)] 3 from ⟨hL.lay.quiet hw2, hL.mem.quiet hw2, hL.low.trans (hw2.mono hL.low.size), Blk.new w1 _ _⟩)
  clear hL hw2
  go_wp2_with fail
  obtain ⟨B, hB⟩ : ∃ B, B = w1.heap.size := ⟨_, rfl⟩
  rw [← hB] at HI ⊢
  clear hB
  go_loopw [6] (fun i wr => ∃ n : Nat, n ≤ 3 ∧ i = .int .i64 (n : Int) ∧ Lay wr l 1 1 2 ∧ MemAt wr m g (gaw n) ∧ Below w.heap.size w wr ∧ Blk wr B [.int .i64 0, .int .i64 1, .int .i64 (-1)] 3) (fun i _ => 3 - (intOf i).toNat)
  case atStart => exact ⟨0, by omega, rfl, HI.out⟩
  case round =>
    clear HI
    obtain ⟨n, hn, rfl, hI⟩ := hrel
    have HI := hid hI
    clear hI
    by_cases hlt : n < 3
    · have hlt' : decide ((n : Int) < 3) = true := decide_eq_true (by omega)
      obtain ⟨sX, hsX⟩ : ∃ sX, sX = gaw n := ⟨_, rfl⟩
      rw [← hsX] at HI
      have HX := hid hsX
      have HC := hid (show sX.clock ≤ 100 ∧ sX.bad ≤ 100 by rw [hsX]; exact HE.out.2.2 n (by omega))
      clear hsX
      go_wp2_with fail
      refine (gg_made l w.heap.size 1 1 2 0 _ (by omega) HI.out.2.2.1.size HI.out.1).mono ?_
      rintro e w5 ⟨rfl, hA, hb⟩
      have HI := hid (show (ggM w.heap.size l 1 1 2 0).at_ w.heap.size l wr.heap.size 1 1 2 0 w5 (after (ggY 1 1 2 0) 0 (.acq .ask) sX 0).1 ∧ MemAt w5 m g (after (ggY 1 1 2 0) 0 (.acq .ask) sX 0).2 ∧ Below w.heap.size w w5 ∧ Blk w5 B [.int .i64 0, .int .i64 1, .int .i64 (-1)] 3 from ⟨⟨hA, HI.out.2.2.1.size, HI.out.1.quiet hb, trivial⟩, HI.out.2.1.quiet hb, HI.out.2.2.1.trans (hb.mono HI.out.2.2.1.size), HI.out.2.2.2.quiet hb⟩)
      obtain ⟨y, hy⟩ : ∃ y, y = wr.heap.size := ⟨_, rfl⟩
      rw [← hy] at HI ⊢
      clear hA hb hy
      go_wp2_with fail
      go_loopw [8] (fun i wr => ∃ j : Nat, j ≤ 9 ∧ i = .int .i64 (j : Int) ∧ (ggM w.heap.size l 1 1 2 0).at_ w.heap.size l y 1 1 2 0 wr (after (ggY 1 1 2 0) 0 (.acq .ask) sX j).1 ∧ MemAt wr m g (after (ggY 1 1 2 0) 0 (.acq .ask) sX j).2 ∧ Below w.heap.size w wr ∧ Blk wr B [.int .i64 0, .int .i64 1, .int .i64 (-1)] 3) (fun i _ => 9 - (intOf i).toNat)
      case atStart => exact ⟨0, by omega, rfl, HI.out⟩
      case round =>
        clear HI
        obtain ⟨j, hj, rfl, hI⟩ := hrel
        have HI := hid hI
        clear hI
        by_cases hlt2 : j < 9
        · have hltj : decide ((j : Int) < 9) = true := decide_eq_true (by omega)
          have hcl := after_clock (ggY 1 1 2 0) 0 (.acq .ask) sX j
          have hc0 := HC.out
          go_wp2_with fail
          refine (m2_stepL gg_thru (gg_goes w.heap.size l y 1 1 2 0 (by omega) (by omega)) HI.out.1 HI.out.2.1 (by omega) (by omega)).mono ?_
          rintro e w6 ⟨⟨bb, rfl⟩, hA6, hM6, hK6⟩
          have HI6 := hid (And.intro hA6 (And.intro hM6 (And.intro (keptOwn_low hK6 HI.out.2.2.1 HQ.out.1 HQ.out.2 HI.out.2.2.1.size) (blk_own HI.out.2.2.2 HI.out.2.1 hK6 (by decide) (by show 3 ∉ rdT [147, 125, 123]; decide)))))
          clear hA6 hM6 hK6 HI hcl hc0
          go_wp2_with fail
          go_roundw
          case rel => exact ⟨j + 1, by omega, by go_num, HI6.out⟩
          case measure => simp [intOf]; omega
        · obtain rfl : j = 9 := by omega
          have hltj : decide ((9 : Int) < 9) = false := by decide
          have HA := hid (show (ggM w.heap.size l 1 1 2 0).at_ w.heap.size l y 1 1 2 0 wr (gx n) by have := HI.out.1; rw [HX.out] at this; exact this)
          have HM := hid (show MemAt wr m g (gaw (n + 1)) by have := HI.out.2.1; rw [HX.out] at this; exact this)
          have HN := hid (HE.out.1 n hlt)
          have HI := hid HI.out.2.2
          obtain ⟨v, hv⟩ : ∃ v, v = gwant n := ⟨_, rfl⟩
          have hcs : [Value.int .i64 0, .int .i64 1, .int .i64 (-1)][n]? = some (.int .i64 v) := by
            rw [hv]
            have h3 : n = 0 ∨ n = 1 ∨ n = 2 := by omega
            rcases h3 with rfl | rfl | rfl <;> rfl
          rw [← hv] at HN
          have HCS := hid hcs
          have n0 : (0 : Int) ≤ (n : Int) := by omega
          have n1 : (n : Int) < 3 := by omega
          have n2 : (n : Int).toNat = n := by omega
          have HX2 := hid HI.out
          have hbw := HI.out.2
          clear hv hcs HI HX HC
          have HI := (Inv.nil wr).add hbw
          clear hbw
          go_wp2_with fail
          (((first | refine wp_region_I HI (by kernel_rfl) (by kernel_rfl) (by kernel_rfl) ?_ | refine wpList_I0 HI (by kernel_rfl) rfl rfl ?_); (repeat (first | (apply walkD_pure; rfl; rfl; (intro _; go_simp; first | done | rfl); (intro K hK; go_simp; refine hK _ ?_; clear hK K)) | (apply walkD_skip; rfl; rfl; (intro K hK; go_simp; refine hK _ ?_; clear hK K)) | (apply walkD_read; rfl; rfl; (intro bs hbs w' hD; have y2 := hD.cell 0 n rfl HCS.out; go_simp; rfl); (intro K hK; go_simp; refine hK _ ?_; clear hK K)) | (apply walkD_call; rfl; (intro _; go_simp; first | rfl | exact ⟨rfl, rfl⟩); (intro bs hbs w' hD; first | (go_at_call 50; have q := m2_doneL gg_thruD (gg_goes w.heap.size l y 1 1 2 0 (by omega) (by omega)) ((m2_of (K := ggM w.heap.size l 1 1 2 0) (lo := w.heap.size) (l := l) (p := 1) (t := 1) (g := 2) (who := 0) (x := y) (fun y _ => gg_goes w.heap.size l y 1 1 2 0 (by omega) (by omega)) (gg_own w.heap.size l 1 1 2 0)).quiet HA.out hD.low); rw [show ((ggM w.heap.size l 1 1 2 0).sys.want (gx n)).isNone = true from HN.out.1] at q; refine q.mono ?_; rintro e w2 ⟨rfl, rfl⟩; exact ⟨rfl, hD⟩) | (go_at_call 43; have q := gg_g_run ((m2_of (K := ggM w.heap.size l 1 1 2 0) (lo := w.heap.size) (l := l) (p := 1) (t := 1) (g := 2) (who := 0) (x := y) (fun y _ => gg_goes w.heap.size l y 1 1 2 0 (by omega) (by omega)) (gg_own w.heap.size l 1 1 2 0)).quiet HA.out hD.low); rw [HN.out.2] at q; refine q.mono ?_; rintro e w2 ⟨rfl, rfl⟩; exact ⟨rfl, hD⟩)); (intro K hK; go_simp; refine hK _ ?_; clear hK K)))); clear HI; intro wz HI; have hD := HI; have y2 := hD.cell 0 n rfl HCS.out; clear hD))
          have hq6 := HI.low
          have HF := hid (show Lay wz l 1 1 2 ∧ MemAt wz m g (gaw (n + 1)) ∧ Below w.heap.size w wz ∧ Blk wz B [.int .i64 0, .int .i64 1, .int .i64 (-1)] 3 from ⟨HA.out.2.2.1.quiet hq6, HM.out.quiet hq6, Below.then_ HX2.out.1 hq6, HX2.out.2.quiet hq6⟩)
          clear hq6 HI HA HM HN HX2 HCS
          go_wp2_with fail
          go_roundw
          case rel => first | exact ⟨n + 1, by omega, by go_num, HF.out⟩ | ((repeat apply Exists.intro); exact ⟨⟨n + 1, by omega, by go_num, HF.out⟩, rfl⟩)
          case measure => simp [intOf]; omega
    · obtain rfl : n = 3 := by omega
      have hlt' : decide ((3 : Int) < 3) = false := by decide
      have HLS := hid HE.out.2.1
      obtain ⟨sX, hsX⟩ : ∃ sX, sX = gaw 3 := ⟨_, rfl⟩
      rw [← hsX] at HI
      have HX := hid hsX
      have HC := hid (show sX.clock ≤ 100 ∧ sX.bad ≤ 100 by rw [hsX]; exact HE.out.2.2 3 (by omega))
      clear hsX
      go_wp2_with fail
      refine (gp_made l w.heap.size 1 1 2 0 0 _ (by omega) HI.out.2.2.1.size HI.out.1).mono ?_
      rintro e w5 ⟨rfl, hA, hb⟩
      have HI := hid (show (gpM w.heap.size l 1 1 2 0 0).at_ w.heap.size l wr.heap.size 1 1 2 0 w5 (after (gpY 1 1 2 0 0) 0 (.acq .ask) sX 0).1 ∧ MemAt w5 m g (after (gpY 1 1 2 0 0) 0 (.acq .ask) sX 0).2 ∧ Below w.heap.size w w5 from ⟨⟨hA, HI.out.2.2.1.size, HI.out.1.quiet hb, trivial⟩, HI.out.2.1.quiet hb, HI.out.2.2.1.trans (hb.mono HI.out.2.2.1.size)⟩)
      obtain ⟨y, hy⟩ : ∃ y, y = wr.heap.size := ⟨_, rfl⟩
      rw [← hy] at HI ⊢
      clear hA hb hy HE
      go_wp2_with fail
      go_loopw [10] (fun i wr => ∃ j : Nat, j ≤ 9 ∧ i = .int .i64 (j : Int) ∧ (gpM w.heap.size l 1 1 2 0 0).at_ w.heap.size l y 1 1 2 0 wr (after (gpY 1 1 2 0 0) 0 (.acq .ask) sX j).1 ∧ MemAt wr m g (after (gpY 1 1 2 0 0) 0 (.acq .ask) sX j).2 ∧ Below w.heap.size w wr) (fun i _ => 9 - (intOf i).toNat)
      case atStart => exact ⟨0, by omega, rfl, HI.out⟩
      case round =>
        clear HI
        obtain ⟨j, hj, rfl, hI⟩ := hrel
        have HI := hid hI
        clear hI
        by_cases hlt2 : j < 9
        · have hltj : decide ((j : Int) < 9) = true := decide_eq_true (by omega)
          have hcl := after_clock (gpY 1 1 2 0 0) 0 (.acq .ask) sX j
          have hc0 := HC.out
          go_wp2_with fail
          refine (m2_stepL gp_thru (gp_goes w.heap.size l y 1 1 2 0 0 (by omega) (by omega)) HI.out.1 HI.out.2.1 (by omega) (by omega)).mono ?_
          rintro e w6 ⟨⟨bb, rfl⟩, hA6, hM6, hK6⟩
          have HI6 := hid (And.intro hA6 (And.intro hM6 (keptOwn_low hK6 HI.out.2.2 HQ.out.1 HQ.out.2 HI.out.2.2.size)))
          clear hA6 hM6 hK6 HI hcl hc0
          go_wp2_with fail
          go_roundw
          case rel => exact ⟨j + 1, by omega, by go_num, HI6.out⟩
          case measure => simp [intOf]; omega
        · obtain rfl : j = 9 := by omega
          have hltj : decide ((9 : Int) < 9) = false := by decide
          have hM5 : MemAt wr m g gput := by have := HI.out.2.1; rw [HX.out] at this; exact this
          have HL5 := hid (glist_run l m g 1 1 2 gput wr HI.out.1.2.2.1 hM5)
          rw [HLS.out] at HL5
          have HI := hid HI.out.2.2
          go_wp2_with fail
          refine HL5.out.mono ?_
          rintro e w5 ⟨a5, c5, rfl, hrow5, hb5, _⟩
          obtain ⟨xa, rfl, h1⟩ := hrow5 0 (by simp)
          have c1 := h1 0 _ rfl
          rw [Nat.mul_one, Nat.add_zero] at c1
          rw [show xa.add 0 = xa by unfold Addr.add; split <;> simp_all] at c1
          simp only [List.getElem_cons_zero] at c1
          have HB := hid (Below.then_ HI.out hb5)
          clear HL5 hrow5 h1 hb5
          go_wp2
          go_ret
          exact ⟨rfl, HB.out⟩
end Go.Proofs.Ytncmajflakkibaa.Gfree
