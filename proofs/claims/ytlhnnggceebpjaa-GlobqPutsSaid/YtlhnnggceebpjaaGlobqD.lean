/- The document's putting behind the global queue. -/
import Derived.Test.YtlhnnggceebpjaaGlobq
import Derived.Test.YtlhnnggceebpjaaBase5
set_option maxRecDepth 100000
set_option maxHeartbeats 4000000
set_option linter.unusedVariables false
set_option linter.unusedSimpArgs false
namespace Go.Proofs.Ytlhnnggceebpjaa.Globq
open Go.RowKit Go.Shelf Go.Proofs.Ytlhnnggceebpjaa.TK Go.Proofs.Ytlhnnggceebpjaa.Flag Go.Proofs.Ytlhnnggceebpjaa.Read Go.Proofs.Ytlhnnggceebpjaa.Grow Go.Proofs.Ytlhnnggceebpjaa.Words Go.Proofs.Ytlhnnggceebpjaa.Mem Go.Proofs.Ytlhnnggceebpjaa.Flow Go.Proofs.Ytlhnnggceebpjaa.Layout Go.Proofs.Ytlhnnggceebpjaa.Lock Go.Proofs.Ytlhnnggceebpjaa.Run Go.Proofs.Ytlhnnggceebpjaa.Sys Go.Proofs.Ytlhnnggceebpjaa.Mach Go.Proofs.Ytlhnnggceebpjaa.Doc Go.Proofs.Ytlhnnggceebpjaa.Ref05 Go.Proofs.Ytlhnnggceebpjaa.Subs Go.Proofs.Ytlhnnggceebpjaa.IWords Go.Proofs.Ytlhnnggceebpjaa.Idlep
theorem w6 : wordN 6 = 6 := by decide
theorem w7 : wordN 7 = 7 := by decide
theorem w8 : wordN 8 = 8 := by decide
def qpH (gs : List Int) (s : QpSt) : List Int := if qpL s then [] else gs
theorem gat_cell {w w0 : World} {r : Nat} {ad : Addr} {gs : List Int} (hr : RowOf (encI .i64) 1 w0 (some ad) gs) (hk : Kept [r] w0 w) (hne : ad.block ≠ r) (i : Nat) (hi : i < gs.length) : w.cell? (ad.add i) = some (.int .i64 (gAt gs i)) := by
  obtain ⟨x, hx, hc⟩ := (row_keptB hr hk (by intro x hx; cases hx; simpa using hne)).int_at hi
  cases hx
  rw [hc]
  simp [gAt, List.getD, hi]
theorem qp_on {P T G : Int} {gs got : List Int} {b0 b1 : RunSt} {s s1 : QpSt} {k : Nat} {x1 : Int} (hk : k < gs.length) (hE : (b0.stop = false → s = if k < gs.length then .ln k else .t) ∧ qpL s = false) (ho1 : On (qpY P T G gs) got b0 s b1 s1 x1) : (b1.stop = false → s1 = if k + 1 < gs.length then .ln (k + 1) else .t) ∧ qpL s1 = false := by
  have e1 : b1.stop = false → s1 = if k + 1 < gs.length then .ln (k + 1) else .t := fun h => by obtain ⟨h1, h2⟩ := ho1.1 h; rw [h2, hE.1 h1, if_pos hk]; rfl
  refine ⟨e1, ?_⟩
  cases hb : b1.stop with
  | false => rw [e1 hb]; split <;> rfl
  | true => rw [(ho1.2.2.1 hb).1]; exact hE.2
theorem rput13_nil (P T G : Int) (c : Nat) (B r : Nat) (v : Value) (a : RunSt) (w : World) (h : RunAt w B r v a) :
    Calls Try.prog 67 #[.pointer (some ⟨r, 0, none⟩), .agg #[.int .i64 P, .int .i64 T, .int .i64 G], .slice none 0 c] w fun e w' => e = .returned (.slice none 0 0) ∧ Below w.heap.size w w' := by
  have hb := below_one w (.cells #[.int .i64 P, .int .i64 T, .int .i64 G] 30)
  have HB := hid hb
  clear h hb
  go_enter Try.func67, Try.ntmps67
  go_wp2_with fail
  go_loopw [7] (fun i wr => i = .int .i64 0 ∧ Below w.heap.size w wr) (fun i _ => 0)
  case atStart => exact ⟨rfl, HB.out⟩
  case round =>
    obtain ⟨rfl, hI⟩ := hrel
    have HI := hid hI
    clear hI HB
    go_wp2
    go_ret
    exact ⟨rfl, HI.out⟩
theorem rput13_run (P T G : Int) (gs : List Int) (ad : Addr) (c : Nat) (B r : Nat) (v : Value) (a : RunSt) (got : List Int) (s0 : QpSt) (w : World) (h : RunAt w B r v a) (hg : Fits got a) (ha : a.stop = false) (hs : s0 = .ln 0) (h1 : 1 ≤ gs.length) (hP : (0 ≤ P ∧ P ≤ 1000) ∧ (0 ≤ T ∧ T ≤ 1000) ∧ G ≤ 100000) (hn : gs.length ≤ 1000) (hr : RowOf (encI .i64) 1 w (some ad) gs) (hne : ad.block ≠ r) :
    Calls Try.prog 67 #[.pointer (some ⟨r, 0, none⟩), .agg #[.int .i64 P, .int .i64 T, .int .i64 G], .slice (some ad) gs.length c] w fun e w' => ∃ (held : Bool) (b : RunSt) (s1 : QpSt), e = .returned (if held then .slice (some ad) gs.length c else .slice none 0 0) ∧ RunAt w' B r v b ∧ Kept [r] w w' ∧ Ran (qpY P T G gs) got s0 a s1 b ∧ Fits got b ∧ (b.stop = false → s1 = .done) ∧ qpL s1 = !held := by
  have HI := hid (DI.start (M := qpY P T G gs) (P := P) (T := T) (G := G) h hg s0)
  have HP := hid hP
  have HS := hid hs
  have HR := hid (fun (i : Nat) (hi : i < gs.length) (w' : World) (hk : Kept [r] w w') => gat_cell hr hk hne i hi)
  have HN := hid (And.intro h1 hn)
  obtain ⟨n, hnl⟩ : ∃ n, n = gs.length := ⟨_, rfl⟩
  obtain ⟨z0, z1, z2, z3⟩ := HI.out.cells
  clear h hg hs hP hr hne hn h1
  rw [← hnl]
  have HNL := hid hnl
  clear hnl
  go_enter Try.func67, Try.ntmps67
  go_wp2_with fail
  go_loopw [7] (fun i wr => ∃ k : Nat, k ≤ gs.length ∧ i = .int .i64 (k : Int) ∧ ∃ b s, DI (qpY P T G gs) got s0 a w wr B r w.heap.size v P T G b s ∧ (b.stop = false → s = if k < gs.length then .ln k else .t) ∧ qpL s = false) (fun i _ => n - (intOf i).toNat)
  case atStart => exact ⟨0, Nat.zero_le _, rfl, a, s0, HI.out, fun _ => by rw [HS.out]; exact (if_pos (by have := HN.out; omega)).symm, by rw [HS.out]; rfl⟩
  case round =>
    clear HI z0 z1 z2 z3
    obtain ⟨k, hk, rfl, b0, s, hI, hE⟩ := hrel
    have HE := hid hE
    clear hE
    (have HI := hid hI; obtain ⟨z0, z1, z2, z3⟩ := HI.out.cells; clear hI)
    have hnl := HNL.out
    have hN := HN.out
    by_cases hlt : k < n
    · have HK := hid (show k < gs.length by omega)
      have d0 : decide ((k : Int) < (n : Int)) = true := decide_eq_true (by omega)
      have k0 : (0 : Int) ≤ (k : Int) := by omega
      have k1 : (k : Int) < (n : Int) := by omega
      have g1 := HR.out k HK.out _ HI.out.kept
      by_cases hl2 : k + 1 < n
      · have d1 : decide ((k : Int) + 1 < (n : Int)) = true := decide_eq_true (by omega)
        have k2 : (0 : Int) ≤ (k : Int) + 1 := by omega
        have k3 : (k : Int) + 1 < (n : Int) := by omega
        have n3 : ((k : Int) + 1).toNat = k + 1 := by omega
        have n1 : IntKind.i64.wrap ((k : Int) + 1) = (k : Int) + 1 := by rw [IntKind.wrap_i64]; omega
        have n2 : wrap64 ((k : Int) + 1) = (k : Int) + 1 := by rw [← IntWalk.i64_left]; exact n1
        have g2 := HR.out (k + 1) (by omega) _ HI.out.kept
        rw [show ad.add (k + 1) = ⟨ad.block, ad.off + (k + 1), none⟩ by unfold Addr.add; simp] at g2
        have NX := hid (show nxt gs k = IntKind.u64.wrap (IntKind.u64.wrap (gAt gs (k + 1)) + 1) from if_pos (by omega))
        clear hnl hN hk hlt hl2
        go_wp2_with fail
        refine wp_region_T 8 (fun w' => DI (qpY P T G gs) got s0 a w w' B r w.heap.size v P T G b0 s) (fun w' => ∃ b1 s1, DI (qpY P T G gs) got s0 a w w' B r w.heap.size v P T G b1 s1 ∧ (b1.stop = false → s1 = if k + 1 < gs.length then .ln (k + 1) else .t) ∧ qpL s1 = false) (by kernel_rfl) (by kernel_rfl) rfl (by kernel_rfl) (HI.out.quiet (below_drewN (Below.refl _ _) 1)) ?_
        clear HI z0 z1 z2 z3 g1
        repeat (first | (apply walkD_pure; rfl; rfl; (intro _; go_simp; first | done | rfl); (intro K hK; go_simp; refine hK _ ?_; clear hK K)) | (apply walkD_skip; rfl; rfl; (intro K hK; go_simp; refine hK _ ?_; clear hK K)) | (apply walkD_read1 [false] (by kernel_rfl); rfl; rfl; (intro w' hD; obtain ⟨z0, z1, z2, z3⟩ := hD.cells; have g1 := HR.out k HK.out _ hD.kept; go_simp; rfl); (intro K hK; go_simp; refine hK _ ?_; clear hK K)) | (apply walkD_call1 [false] (by kernel_rfl); rfl; (intro _; go_simp; first | rfl | exact ⟨rfl, rfl⟩); (intro w' hD; go_at_call 133; refine (gat_run P T G _ _ _ HP.out.1 HP.out.2.1 HP.out.2.2 (by omega)).mono ?_; rintro e w2 ⟨rfl, hb⟩; exact ⟨rfl, hD.quiet hb⟩); (intro K hK; go_simp; refine hK _ ?_; clear hK K)) | (apply walkD_call1 [false] (by kernel_rfl); rfl; (intro _; go_simp; first | rfl | exact ⟨rfl, rfl⟩); (intro w' hD; go_at_call 132; refine (ds_run hD (gg P T G (gAt gs k) 1) _ (fun h => by rw [HE.out.1 h, if_pos HK.out]; show some (⟨2, gg P T G (gAt gs k) 1, 0, nxt gs k, false⟩ : Wnt) = _; rw [NX.out])).mono ?_; rintro e w2 ⟨rfl, b1, s1, x1, hI, ho1⟩; exact ⟨rfl, b1, s1, hI, qp_on HK.out HE.out ho1⟩); (intro K hK; go_simp; refine hK _ ?_; clear hK K)))
        rintro w3 ⟨b1, s1, hI, hE1⟩
        have HE1 := hid hE1
        clear hE1
        (have HI := hid hI; obtain ⟨z0, z1, z2, z3⟩ := HI.out.cells; clear hI)
        go_wp2_with fail
        go_roundw
        case rel => exact ⟨k + 1, by have := HK.out; omega, by go_num, b1, s1, HI.out, HE1.out⟩
        case measure => have := HK.out; simp [intOf]; omega
      · have d1 : decide ((k : Int) + 1 < (n : Int)) = false := decide_eq_false (by omega)
        have n1 : IntKind.i64.wrap ((k : Int) + 1) = (k : Int) + 1 := by rw [IntKind.wrap_i64]; omega
        have n2 : wrap64 ((k : Int) + 1) = (k : Int) + 1 := by rw [← IntWalk.i64_left]; exact n1
        have NX := hid (show nxt gs k = 0 from if_neg (by omega))
        clear hnl hN hk hlt hl2
        go_wp2_with fail
        refine wp_region_T 8 (fun w' => DI (qpY P T G gs) got s0 a w w' B r w.heap.size v P T G b0 s) (fun w' => ∃ b1 s1, DI (qpY P T G gs) got s0 a w w' B r w.heap.size v P T G b1 s1 ∧ (b1.stop = false → s1 = if k + 1 < gs.length then .ln (k + 1) else .t) ∧ qpL s1 = false) (by kernel_rfl) (by kernel_rfl) rfl (by kernel_rfl) (HI.out.quiet (below_drewN (Below.refl _ _) 1)) ?_
        clear HI z0 z1 z2 z3 g1
        repeat (first | (apply walkD_pure; rfl; rfl; (intro _; go_simp; first | done | rfl); (intro K hK; go_simp; refine hK _ ?_; clear hK K)) | (apply walkD_skip; rfl; rfl; (intro K hK; go_simp; refine hK _ ?_; clear hK K)) | (apply walkD_read1 [false] (by kernel_rfl); rfl; rfl; (intro w' hD; obtain ⟨z0, z1, z2, z3⟩ := hD.cells; have g1 := HR.out k HK.out _ hD.kept; go_simp; rfl); (intro K hK; go_simp; refine hK _ ?_; clear hK K)) | (apply walkD_call1 [false] (by kernel_rfl); rfl; (intro _; go_simp; first | rfl | exact ⟨rfl, rfl⟩); (intro w' hD; go_at_call 133; refine (gat_run P T G _ _ _ HP.out.1 HP.out.2.1 HP.out.2.2 (by omega)).mono ?_; rintro e w2 ⟨rfl, hb⟩; exact ⟨rfl, hD.quiet hb⟩); (intro K hK; go_simp; refine hK _ ?_; clear hK K)) | (apply walkD_call1 [false] (by kernel_rfl); rfl; (intro _; go_simp; first | rfl | exact ⟨rfl, rfl⟩); (intro w' hD; go_at_call 132; refine (ds_run hD (gg P T G (gAt gs k) 1) _ (fun h => by rw [HE.out.1 h, if_pos HK.out]; show some (⟨2, gg P T G (gAt gs k) 1, 0, nxt gs k, false⟩ : Wnt) = _; rw [NX.out])).mono ?_; rintro e w2 ⟨rfl, b1, s1, x1, hI, ho1⟩; exact ⟨rfl, b1, s1, hI, qp_on HK.out HE.out ho1⟩); (intro K hK; go_simp; refine hK _ ?_; clear hK K)))
        rintro w3 ⟨b1, s1, hI, hE1⟩
        have HE1 := hid hE1
        clear hE1
        (have HI := hid hI; obtain ⟨z0, z1, z2, z3⟩ := HI.out.cells; clear hI)
        go_wp2_with fail
        go_roundw
        case rel => exact ⟨k + 1, by have := HK.out; omega, by go_num, b1, s1, HI.out, HE1.out⟩
        case measure => have := HK.out; simp [intOf]; omega
    · obtain rfl : k = n := by omega
      have d0 : decide ((k : Int) < (k : Int)) = false := by simp
      have d1 : ((k : Int) == 0) = false := by simp; omega
      have HE := hid (show (b0.stop = false → s = .t) ∧ qpL s = false from ⟨fun h => by rw [HE.out.1 h, if_neg (by omega)], HE.out.2⟩)
      have m1 : IntKind.i64.wrap ((k : Int) - 1) = (k : Int) - 1 := by rw [IntKind.wrap_i64]; omega
      have m2 : wrap64 ((k : Int) - 1) = (k : Int) - 1 := by rw [← IntWalk.i64_left]; exact m1
      have m3 : ((k : Int) - 1).toNat = k - 1 := by omega
      have m4 : IntKind.u64.wrap (k : Int) = (k : Int) := by rw [IntKind.wrap_u64]; omega
      have k0 : (0 : Int) < (k : Int) := by omega
      have k1 : (0 : Int) ≤ (k : Int) - 1 := by omega
      have k2 : (k : Int) - 1 < (k : Int) := by omega
      have GI := hid (show 0 < gs.length ∧ k - 1 < gs.length by omega)
      clear hnl hN hlt hk
      go_wp2_with fail
      refine (dl_run HI.out 7 (fun h => by rw [HE.out.1 h, ← w7]; rfl)).mono ?_
      rintro e w2 ⟨b1, s1, x1, rfl, hI, ho1⟩
      have E1 := hid (show (b1.stop = false → s1 = .b x1) ∧ qpL s1 = false ∧ (b1.stop = true → x1 = 0) from ⟨fun h => by obtain ⟨h1, h2⟩ := ho1.1 h; rw [h2, HE.out.1 h1]; rfl, by
        cases hb : b1.stop with
        | false => obtain ⟨h1, h2⟩ := ho1.1 hb; rw [h2, HE.out.1 h1]; rfl
        | true => rw [(ho1.2.2.1 hb).1]; exact HE.out.2, fun h => (ho1.2.2.1 h).2⟩)
      clear ho1
      (have HI := hid hI; obtain ⟨z0, z1, z2, z3⟩ := HI.out.cells; clear hI)
      by_cases hx : x1 = 0
      · subst hx
        have WA := hid (show ∀ s, s = QpSt.b 0 → (qpY P T G gs).want s = some ⟨2, 6, 0, u1 (gAt gs 0), false⟩ from fun s h => by rw [h, ← w6]; rfl)
        have g0 := HR.out 0 GI.out.1 _ HI.out.kept
        have a0 : ad.add 0 = ad := by unfold Addr.add; simp
        rw [a0] at g0
        have f0 : IntKind.u64.wrap (IntKind.u64.wrap (gAt gs 0) + 1) = u1 (gAt gs 0) := rfl
        go_wp2_with fail
        refine (ds_run HI.out _ _ (fun h => WA.out _ (E1.out.1 h))).mono ?_
        rintro e w3 ⟨rfl, b2, s2, x2, hI, ho2⟩
        have E2 := hid (show (b2.stop = false → s2 = .ly) ∧ qpL s2 = !b2.stop from ⟨fun h => by rw [(ho2.1 h).2, E1.out.1 (ho2.1 h).1]; rfl, by
          cases hb : b2.stop with
          | false => rw [(ho2.1 hb).2, E1.out.1 (ho2.1 hb).1]; rfl
          | true => rw [(ho2.2.2.1 hb).1]; exact E1.out.2.1⟩)
        clear ho2 g0 f0
        (have HI := hid hI; obtain ⟨z0, z1, z2, z3⟩ := HI.out.cells; clear hI)
        have gl := HR.out (k - 1) GI.out.2 _ HI.out.kept
        have fl0 : IntKind.u64.wrap (IntKind.u64.wrap (gAt gs (k - 1)) + 1) = u1 (gAt gs (k - 1)) := rfl
        cases hsb : b2.stop with
        | false =>
          rw [hsb] at z3
          have E2 := hid (show (b2.stop = false → s2 = .ly) ∧ qpL s2 = true from by have h := E2.out; rw [hsb] at h; exact ⟨fun _ => h.1 rfl, h.2⟩)
          clear hsb
          go_wp2_with fail
          refine (ds_run HI.out 7 (u1 (gAt gs (k - 1))) (fun h => by rw [E2.out.1 h, ← w7, HNL.out]; rfl)).mono ?_
          rintro e w4 ⟨rfl, b3, s3, x3, hI, ho3⟩
          have E3 := hid (And.intro (show b3.stop = false → s3 = .c from fun h => by rw [(ho3.1 h).2, E2.out.1 (ho3.1 h).1]; rfl) (show qpL s3 = qpL s2 from by
            cases hb : b3.stop with
            | false => rw [(ho3.1 hb).2, E2.out.1 (ho3.1 hb).1]; rfl
            | true => rw [(ho3.2.2.1 hb).1]))
          clear ho3 gl
          (have HI := hid hI; obtain ⟨z0, z1, z2, z3⟩ := HI.out.cells; clear hI)
          go_wp2_with fail
          refine (da_run HI.out 8 (k : Int) (fun h => by rw [E3.out.1 h, ← w8, HNL.out]; rfl)).mono ?_
          rintro e w5 ⟨b4, s4, x4, rfl, hI, ho4⟩
          have E4 := hid (And.intro (show b4.stop = false → s4 = .done from fun h => by rw [(ho4.1 h).2, E3.out.1 (ho4.1 h).1]; rfl) (show qpL s4 = qpL s3 from by
            cases hb : b4.stop with
            | false => rw [(ho4.1 hb).2, E3.out.1 (ho4.1 hb).1]; rfl
            | true => rw [(ho4.2.2.1 hb).1]))
          clear ho4
          (have HI := hid hI; obtain ⟨z0, z1, z2, z3⟩ := HI.out.cells; clear hI)
          go_wp2
          go_ret
          exact ⟨false, b4, s4, rfl, HI.out.run, HI.out.kept, HI.out.ran, HI.out.good, E4.out.1, by rw [E4.out.2, E3.out.2, E2.out.2]; rfl⟩
        | true =>
          rw [hsb] at z3
          have E2 := hid (show (b2.stop = false → s2 = .ly) ∧ qpL s2 = false from by have h := E2.out; rw [hsb] at h; exact ⟨fun h1 => absurd (hsb.symm.trans h1) (by simp), h.2⟩)
          clear hsb
          go_wp2_with fail
          refine (ds_run HI.out 7 (u1 (gAt gs (k - 1))) (fun h => by rw [E2.out.1 h, ← w7, HNL.out]; rfl)).mono ?_
          rintro e w4 ⟨rfl, b3, s3, x3, hI, ho3⟩
          have E3 := hid (And.intro (show b3.stop = false → s3 = .c from fun h => by rw [(ho3.1 h).2, E2.out.1 (ho3.1 h).1]; rfl) (show qpL s3 = qpL s2 from by
            cases hb : b3.stop with
            | false => rw [(ho3.1 hb).2, E2.out.1 (ho3.1 hb).1]; rfl
            | true => rw [(ho3.2.2.1 hb).1]))
          clear ho3 gl
          (have HI := hid hI; obtain ⟨z0, z1, z2, z3⟩ := HI.out.cells; clear hI)
          go_wp2_with fail
          refine (da_run HI.out 8 (k : Int) (fun h => by rw [E3.out.1 h, ← w8, HNL.out]; rfl)).mono ?_
          rintro e w5 ⟨b4, s4, x4, rfl, hI, ho4⟩
          have E4 := hid (And.intro (show b4.stop = false → s4 = .done from fun h => by rw [(ho4.1 h).2, E3.out.1 (ho4.1 h).1]; rfl) (show qpL s4 = qpL s3 from by
            cases hb : b4.stop with
            | false => rw [(ho4.1 hb).2, E3.out.1 (ho4.1 hb).1]; rfl
            | true => rw [(ho4.2.2.1 hb).1]))
          clear ho4
          (have HI := hid hI; obtain ⟨z0, z1, z2, z3⟩ := HI.out.cells; clear hI)
          go_wp2
          go_ret
          exact ⟨true, b4, s4, rfl, HI.out.run, HI.out.kept, HI.out.ran, HI.out.good, E4.out.1, by rw [E4.out.2, E3.out.2, E2.out.2]; rfl⟩
      · have q1 : ((x1 : Int) != 0) = true := by simpa using hx
        have n1 : IntKind.i64.wrap (IntKind.i64.wrap x1 - 1) = nOf x1 := rfl
        have n2 : wrap64 (wrap64 x1 - 1) = nOf x1 := by unfold nOf; simp only [IntWalk.i64_left]
        have WA := hid (show ∀ s, s = QpSt.b x1 → (qpY P T G gs).want s = some ⟨2, gg P T G (nOf x1) 1, 0, u1 (gAt gs 0), false⟩ from fun s h => by rw [h]; show (qpOwn P T G gs (.b x1)).want = _; unfold qpOwn; simp only; rw [if_neg hx]; rfl)
        clear hx
        go_wp2_with fail
        (refine (gat_run P T G _ _ _ HP.out.1 HP.out.2.1 HP.out.2.2 (by omega)).mono ?_; rintro e w1 ⟨rfl, hb⟩; (have HI := hid (HI.out.quiet hb); clear hb; obtain ⟨z0, z1, z2, z3⟩ := HI.out.cells))
        have g0 := HR.out 0 GI.out.1 _ HI.out.kept
        have a0 : ad.add 0 = ad := by unfold Addr.add; simp
        rw [a0] at g0
        have f0 : IntKind.u64.wrap (IntKind.u64.wrap (gAt gs 0) + 1) = u1 (gAt gs 0) := rfl
        go_wp2_with fail
        refine (ds_run HI.out _ _ (fun h => WA.out _ (E1.out.1 h))).mono ?_
        rintro e w3 ⟨rfl, b2, s2, x2, hI, ho2⟩
        have E2 := hid (show (b2.stop = false → s2 = .ly) ∧ qpL s2 = !b2.stop from ⟨fun h => by rw [(ho2.1 h).2, E1.out.1 (ho2.1 h).1]; rfl, by
          cases hb : b2.stop with
          | false => rw [(ho2.1 hb).2, E1.out.1 (ho2.1 hb).1]; rfl
          | true => rw [(ho2.2.2.1 hb).1]; exact E1.out.2.1⟩)
        clear ho2 g0 f0
        (have HI := hid hI; obtain ⟨z0, z1, z2, z3⟩ := HI.out.cells; clear hI)
        have gl := HR.out (k - 1) GI.out.2 _ HI.out.kept
        have fl0 : IntKind.u64.wrap (IntKind.u64.wrap (gAt gs (k - 1)) + 1) = u1 (gAt gs (k - 1)) := rfl
        cases hsb : b2.stop with
        | false =>
          rw [hsb] at z3
          have E2 := hid (show (b2.stop = false → s2 = .ly) ∧ qpL s2 = true from by have h := E2.out; rw [hsb] at h; exact ⟨fun _ => h.1 rfl, h.2⟩)
          clear hsb
          go_wp2_with fail
          refine (ds_run HI.out 7 (u1 (gAt gs (k - 1))) (fun h => by rw [E2.out.1 h, ← w7, HNL.out]; rfl)).mono ?_
          rintro e w4 ⟨rfl, b3, s3, x3, hI, ho3⟩
          have E3 := hid (And.intro (show b3.stop = false → s3 = .c from fun h => by rw [(ho3.1 h).2, E2.out.1 (ho3.1 h).1]; rfl) (show qpL s3 = qpL s2 from by
            cases hb : b3.stop with
            | false => rw [(ho3.1 hb).2, E2.out.1 (ho3.1 hb).1]; rfl
            | true => rw [(ho3.2.2.1 hb).1]))
          clear ho3 gl
          (have HI := hid hI; obtain ⟨z0, z1, z2, z3⟩ := HI.out.cells; clear hI)
          go_wp2_with fail
          refine (da_run HI.out 8 (k : Int) (fun h => by rw [E3.out.1 h, ← w8, HNL.out]; rfl)).mono ?_
          rintro e w5 ⟨b4, s4, x4, rfl, hI, ho4⟩
          have E4 := hid (And.intro (show b4.stop = false → s4 = .done from fun h => by rw [(ho4.1 h).2, E3.out.1 (ho4.1 h).1]; rfl) (show qpL s4 = qpL s3 from by
            cases hb : b4.stop with
            | false => rw [(ho4.1 hb).2, E3.out.1 (ho4.1 hb).1]; rfl
            | true => rw [(ho4.2.2.1 hb).1]))
          clear ho4
          (have HI := hid hI; obtain ⟨z0, z1, z2, z3⟩ := HI.out.cells; clear hI)
          go_wp2
          go_ret
          exact ⟨false, b4, s4, rfl, HI.out.run, HI.out.kept, HI.out.ran, HI.out.good, E4.out.1, by rw [E4.out.2, E3.out.2, E2.out.2]; rfl⟩
        | true =>
          rw [hsb] at z3
          have E2 := hid (show (b2.stop = false → s2 = .ly) ∧ qpL s2 = false from by have h := E2.out; rw [hsb] at h; exact ⟨fun h1 => absurd (hsb.symm.trans h1) (by simp), h.2⟩)
          clear hsb
          go_wp2_with fail
          refine (ds_run HI.out 7 (u1 (gAt gs (k - 1))) (fun h => by rw [E2.out.1 h, ← w7, HNL.out]; rfl)).mono ?_
          rintro e w4 ⟨rfl, b3, s3, x3, hI, ho3⟩
          have E3 := hid (And.intro (show b3.stop = false → s3 = .c from fun h => by rw [(ho3.1 h).2, E2.out.1 (ho3.1 h).1]; rfl) (show qpL s3 = qpL s2 from by
            cases hb : b3.stop with
            | false => rw [(ho3.1 hb).2, E2.out.1 (ho3.1 hb).1]; rfl
            | true => rw [(ho3.2.2.1 hb).1]))
          clear ho3 gl
          (have HI := hid hI; obtain ⟨z0, z1, z2, z3⟩ := HI.out.cells; clear hI)
          go_wp2_with fail
          refine (da_run HI.out 8 (k : Int) (fun h => by rw [E3.out.1 h, ← w8, HNL.out]; rfl)).mono ?_
          rintro e w5 ⟨b4, s4, x4, rfl, hI, ho4⟩
          have E4 := hid (And.intro (show b4.stop = false → s4 = .done from fun h => by rw [(ho4.1 h).2, E3.out.1 (ho4.1 h).1]; rfl) (show qpL s4 = qpL s3 from by
            cases hb : b4.stop with
            | false => rw [(ho4.1 hb).2, E3.out.1 (ho4.1 hb).1]; rfl
            | true => rw [(ho4.2.2.1 hb).1]))
          clear ho4
          (have HI := hid hI; obtain ⟨z0, z1, z2, z3⟩ := HI.out.cells; clear hI)
          go_wp2
          go_ret
          exact ⟨true, b4, s4, rfl, HI.out.run, HI.out.kept, HI.out.ran, HI.out.good, E4.out.1, by rw [E4.out.2, E3.out.2, E2.out.2]; rfl⟩
end Go.Proofs.Ytlhnnggceebpjaa.Globq
