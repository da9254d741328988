/- The document's going into a system call, and coming out. -/
import Derived.Test.YtncmajflakkibaaGreatSyscN
import Derived.Test.YtncmajflakkibaaGreatHandD
set_option maxRecDepth 100000
set_option maxHeartbeats 4000000
set_option linter.unusedVariables false
set_option linter.unusedSimpArgs false
namespace Go.Proofs.YtncmajflakkibaaGreat.Sysc
open Go.RowKit Go.Shelf Go.Proofs.YtncmajflakkibaaGreat.TK Go.Proofs.YtncmajflakkibaaGreat.Flag Go.Proofs.YtncmajflakkibaaGreat.Read Go.Proofs.YtncmajflakkibaaGreat.Grow Go.Proofs.YtncmajflakkibaaGreat.Words Go.Proofs.YtncmajflakkibaaGreat.Mem Go.Proofs.YtncmajflakkibaaGreat.Flow Go.Proofs.YtncmajflakkibaaGreat.Layout Go.Proofs.YtncmajflakkibaaGreat.Lock Go.Proofs.YtncmajflakkibaaGreat.Run Go.Proofs.YtncmajflakkibaaGreat.Sys Go.Proofs.YtncmajflakkibaaGreat.Mach Go.Proofs.YtncmajflakkibaaGreat.Doc Go.Proofs.YtncmajflakkibaaGreat.Ref05 Go.Proofs.YtncmajflakkibaaGreat.Subs Go.Proofs.YtncmajflakkibaaGreat.IWords Go.Proofs.YtncmajflakkibaaGreat.Globq
theorem rin24_run (l : Nat) (P T G o n : Int) (B r : Nat) (v : Value) (a : RunSt) (got : List Int) (s0 : SiSt) (w : World) (h : RunAt w B r v a) (hg : Fits got a) (ha : a.stop = false) (hs : s0 = .a) (hP : (0 ≤ P ∧ P ≤ 1000) ∧ (0 ≤ T ∧ T ≤ 1000) ∧ G ≤ 100000) :
    Calls Tryz.prog 46 #[.pointer (some ⟨r, 0, none⟩), .agg #[.int .i64 P, .int .i64 T, .int .i64 G], .int .i64 o, .int .i64 n] w fun e w' => ∃ wt b s1, e = .returned (.bool wt) ∧ RunAt w' B r v b ∧ Kept [r] w w' ∧ Ran (siM l P T G o n).sys got s0 a s1 b ∧ Fits got b ∧ (b.stop = false → (siM l P T G o n).sys.want s1 = none) ∧ wt = siWent s1 := by
  have HI := hid (DI.start (M := (siM l P T G o n).sys) (P := P) (T := T) (G := G) h hg s0)
  have HP := hid hP
  have HS := hid hs
  obtain ⟨z0, z1, z2, z3⟩ := HI.out.cells
  clear h hg hs hP ha
  go_enter Tryz.func46, Tryz.ntmps46
  go_wp2_with fail
  (refine (gat_run P T G _ _ _ HP.out.1 HP.out.2.1 HP.out.2.2 (by omega)).mono ?_; rintro e w1 ⟨rfl, hb⟩; (have HI := hid (HI.out.quiet hb); clear hb; obtain ⟨z0, z1, z2, z3⟩ := HI.out.cells))
  go_wp2_with fail
  refine (ds_run HI.out (gg P T G n 0) 4 (fun h => by rw [HS.out]; rfl)).mono ?_
  rintro e w2 ⟨rfl, b1, s1, x1, hI, ho1⟩
  have E1 := hid (show (b1.stop = false → s1 = .b) ∧ siWent s1 = !b1.stop from ⟨fun h => by rw [(ho1.1 h).2, HS.out]; rfl, by
    cases hb : b1.stop with
    | false => rw [(ho1.1 hb).2, HS.out]; rfl
    | true => rw [(ho1.2.2.1 hb).1, HS.out]; rfl⟩)
  clear ho1
  (have HI := hid hI; obtain ⟨z0, z1, z2, z3⟩ := HI.out.cells; clear hI)
  obtain ⟨q, hq⟩ : ∃ q, q = b1.stop := ⟨_, rfl⟩
  rw [← hq] at z3
  have HQ := hid hq
  clear hq
  go_wp2_with fail
  (refine (procat_run P T G _ _ _ HP.out.1 (by omega)).mono ?_; rintro e w1 ⟨rfl, hb⟩; (have HI := hid (HI.out.quiet hb); clear hb; obtain ⟨z0, z1, z2, z3⟩ := HI.out.cells))
  go_wp2_with fail
  refine (da_run HI.out (pr P o 5) 1 (fun h => by rw [E1.out.1 h]; rfl)).mono ?_
  rintro e w3 ⟨b2, s2, x2, rfl, hI, ho2⟩
  have E2 := hid (show (b2.stop = false → s2 = .c) ∧ siWent s2 = siWent s1 from ⟨fun h => by rw [(ho2.1 h).2, E1.out.1 (ho2.1 h).1]; rfl, by
    cases hb : b2.stop with
    | false => rw [(ho2.1 hb).2, E1.out.1 (ho2.1 hb).1]; rfl
    | true => rw [(ho2.2.2.1 hb).1]⟩)
  clear ho2
  (have HI := hid hI; obtain ⟨z0, z1, z2, z3⟩ := HI.out.cells; clear hI)
  go_wp2_with fail
  (refine (procat_run P T G _ _ _ HP.out.1 (by omega)).mono ?_; rintro e w1 ⟨rfl, hb⟩; (have HI := hid (HI.out.quiet hb); clear hb; obtain ⟨z0, z1, z2, z3⟩ := HI.out.cells))
  go_wp2_with fail
  refine (ds_run HI.out (pr P o 0) 2 (fun h => by rw [E2.out.1 h]; rfl)).mono ?_
  rintro e w4 ⟨rfl, b3, s3, x3, hI, ho3⟩
  have E3 := hid (show (b3.stop = false → (siM l P T G o n).sys.want s3 = none) ∧ siWent s3 = siWent s2 from ⟨fun h => by rw [(ho3.1 h).2, E2.out.1 (ho3.1 h).1]; rfl, by
    cases hb : b3.stop with
    | false => rw [(ho3.1 hb).2, E2.out.1 (ho3.1 hb).1]; rfl
    | true => rw [(ho3.2.2.1 hb).1]⟩)
  clear ho3
  (have HI := hid hI; obtain ⟨z0, z1, z2, z3⟩ := HI.out.cells; clear hI)
  go_wp2
  go_ret
  exact ⟨!q, b3, s3, rfl, HI.out.run, HI.out.kept, HI.out.ran, HI.out.good, E3.out.1, by rw [E3.out.2, E2.out.2, E1.out.2, HQ.out]⟩
end Go.Proofs.YtncmajflakkibaaGreat.Sysc
