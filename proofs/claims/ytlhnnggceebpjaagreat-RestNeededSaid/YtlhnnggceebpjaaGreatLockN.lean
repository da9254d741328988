/- The document's acquire and release, as replays of the machines. -/
import Derived.Test.YtlhnnggceebpjaaGreatLockM
set_option maxRecDepth 100000
set_option maxHeartbeats 4000000
set_option linter.unusedVariables false
set_option linter.unusedSimpArgs false
namespace Go.Proofs.YtlhnnggceebpjaaGreat.Lock
open Go.RowKit Go.Shelf Go.Proofs.YtlhnnggceebpjaaGreat.TK Go.Proofs.YtlhnnggceebpjaaGreat.Flag Go.Proofs.YtlhnnggceebpjaaGreat.Read Go.Proofs.YtlhnnggceebpjaaGreat.Grow Go.Proofs.YtlhnnggceebpjaaGreat.Words Go.Proofs.YtlhnnggceebpjaaGreat.Mem Go.Proofs.YtlhnnggceebpjaaGreat.Flow Go.Proofs.YtlhnnggceebpjaaGreat.Layout Go.Proofs.YtlhnnggceebpjaaGreat.Run Go.Proofs.YtlhnnggceebpjaaGreat.Sys Go.Proofs.YtlhnnggceebpjaaGreat.Mach Go.Proofs.YtlhnnggceebpjaaGreat.Doc
theorem Did.on_ {σ : Type} {M : Rsys σ} {got : List Int} {s : σ} {a : RunSt} {w w' : World} {B r : Nat} {v : Value} {b : RunSt} {s1 : σ} {x : Int} (d : Did M got s a w w' B r v b s1 x) : On M got a s b s1 x := ⟨d.on, d.rng, d.off, d.dec⟩
theorem rrelr_run (l : Nat) (k : Int) (B r : Nat) (v : Value) (a : RunSt) (got : List Int) (s0 : RlSt) (w : World) (h : RunAt w B r v a) (hg : Fits got a) (hs : a.stop = false → s0 = .puts) (hk : 0 ≤ k ∧ k ≤ 1) :
    Calls Tryz.prog 146 #[.pointer (some ⟨r, 0, none⟩), .int .i64 k] w fun e w' => e = .returned (.tuple #[]) ∧ ∃ b s1, RunAt w' B r v b ∧ Kept [r] w w' ∧ Ran (rlM l k).sys got s0 a s1 b ∧ Fits got b ∧ (b.stop = false → a.stop = false ∧ s1 = .done) ∧ left got b ≤ left got a := by
  obtain ⟨l1, l2, l3⟩ := lock_words hk
  have HH := hid (And.intro h (And.intro hg hs))
  have HL := hid (And.intro l2 l3)
  clear h hg hs l1 l2 l3
  go_enter Tryz.func146, Tryz.ntmps146
  go_wp2_with fail
  refine (dstore_run (rlM l k).sys s0 B r v a (3 * k + 2) 0 w HH.out.1 HH.out.2.1 (fun h => by rw [HH.out.2.2 h, ← HL.out.2]; rfl)).mono ?_
  rintro e w1 ⟨rfl, b1, s1, x1, d1⟩
  have e1 : b1.stop = false → a.stop = false ∧ s1 = .adds := fun h => by obtain ⟨h1, h2⟩ := d1.on h; refine ⟨h1, ?_⟩; rw [h2, HH.out.2.2 h1]; rfl
  have HD := hid (And.intro d1 e1)
  clear d1 e1
  go_wp2_with fail
  refine (dadd_run (rlM l k).sys s1 B r v b1 (3 * k + 1) 1 w1 HD.out.1.run HD.out.1.good (fun h => by rw [(HD.out.2 h).2, ← HL.out.1]; rfl)).mono ?_
  rintro e w2 ⟨b2, s2, x2, rfl, d2⟩
  have HX := hid (show RunAt w2 B r v b2 ∧ Kept [r] w w2 ∧ Ran (rlM l k).sys got s0 a s2 b2 ∧ Fits got b2 ∧ (b2.stop = false → a.stop = false ∧ s2 = .done) ∧ left got b2 ≤ left got a from
    ⟨d2.run, HD.out.1.kept.trans d2.kept (by intro i hi; exact .inl hi), HD.out.1.ran.trans d2.ran, d2.good, fun h => by obtain ⟨h1, h2⟩ := d2.on h; refine ⟨(HD.out.2 h1).1, ?_⟩; rw [h2, (HD.out.2 h1).2]; rfl, Nat.le_trans d2.dec.2 HD.out.1.dec.2⟩)
  clear d2 HD
  go_wp2
  go_returns
  exact ⟨rfl, b2, s2, HX.out⟩
theorem racqr_run (l : Nat) (k who : Int) (B r : Nat) (v : Value) (a : RunSt) (got : List Int) (s0 : AcqSt) (w : World) (h : RunAt w B r v a) (hg : Fits got a) (hs : a.stop = false → s0 = .ask) (hk : 0 ≤ k ∧ k ≤ 1) (hw : 0 ≤ who ∧ who ≤ 1000) :
    Calls Tryz.prog 143 #[.pointer (some ⟨r, 0, none⟩), .int .i64 k, .int .i64 who] w fun e w' => ∃ z b s1, e = .returned (.int .u64 z) ∧ RunAt w' B r v b ∧ Kept [r] w w' ∧ Ran (aqM l k who).sys got s0 a s1 b ∧ Fits got b ∧ (b.stop = false → a.stop = false ∧ ∃ t, s1 = .done t) ∧ left got b ≤ left got a := by
  obtain ⟨l1, l2, l3⟩ := lock_words hk
  have n1 : IntKind.u64.wrap who = who := by rw [IntKind.wrap_u64]; omega
  have n2 : IntKind.u64.wrap (who + 1) = who + 1 := by rw [IntKind.wrap_u64]; omega
  have HH := hid (And.intro h (And.intro hg hs))
  have HL := hid (And.intro l1 (And.intro l2 l3))
  clear h hg hs l1 l2 l3
  go_enter Tryz.func143, Tryz.ntmps143
  go_wp2_with fail
  refine (dadd_run (aqM l k who).sys s0 B r v a (3 * k) 1 w HH.out.1 HH.out.2.1 (fun h => by rw [HH.out.2.2 h, ← HL.out.1]; rfl)).mono ?_
  rintro e w1 ⟨b1, s1, x1, rfl, d1⟩
  obtain ⟨e1, e2⟩ := turn_wrap2 x1 d1.rng
  obtain ⟨tn, htn⟩ : ∃ tn, tn = turnOf x1 := ⟨_, rfl⟩
  rw [← htn] at e1 e2
  obtain ⟨tw, htw⟩ : ∃ tw, tw = IntKind.u64.wrap (x1 + 4294967295) := ⟨_, rfl⟩
  have hw0 : 0 ≤ tw ∧ tw < 18446744073709551616 := by rw [htw, IntKind.wrap_u64]; omega
  have hwr := htw.symm
  rw [← htw] at e1 e2
  have c2 := d1.run.blk.cell 2
  simp only [runCells, List.getElem?_cons_zero, List.getElem?_cons_succ] at c2
  have HI := hid (show RunAt w1 B r v b1 ∧ Kept [r] w w1 ∧ Ran (aqM l k who).sys got s0 a s1 b1 ∧ Fits got b1 ∧ (b1.stop = false → a.stop = false ∧ s1 = .wait tn) ∧ left got b1 ≤ left got a from
    ⟨d1.run, d1.kept, d1.ran, d1.good, fun h => by obtain ⟨h1, h2⟩ := d1.on h; refine ⟨h1, ?_⟩; rw [h2, HH.out.2.2 h1, htn]; rfl, d1.dec.2⟩)
  clear d1 htn htw HH
  go_wp2_with fail
  go_loopw [] (fun wr => ∃ b s, RunAt wr B r v b ∧ Kept [r] w wr ∧ Ran (aqM l k who).sys got s0 a s b ∧ Fits got b ∧ (b.stop = false → a.stop = false ∧ s = .wait tn) ∧ left got b ≤ left got a) (fun wr => Run.leftOf got.length r wr)
  case atStart => exact ⟨_, _, HI.out⟩
  case round =>
    clear HI c2
    obtain ⟨b, s, hI⟩ := hrel
    have hleft := left_eq (got := got) hI.1
    have c2 := hI.1.blk.cell 2
    simp only [runCells, List.getElem?_cons_zero, List.getElem?_cons_succ] at c2
    have HI := hid hI
    clear hI
    cases hb : b.stop with
    | true =>
      rw [hb] at c2
      have HB := hid hb
      clear hb
      go_wp2
      go_ret
      exact ⟨_, b, s, rfl, HI.out.1, HI.out.2.1, HI.out.2.2.1, HI.out.2.2.2.1, fun h => absurd (HB.out.symm.trans h) (by simp), HI.out.2.2.2.2.2⟩
    | false =>
      rw [hb] at c2
      have HB := hid (And.intro hb (And.intro (HI.out.2.2.2.2.1 hb) hleft))
      clear hb hleft
      go_wp2_with fail
      refine (dload_run (aqM l k who).sys s B r v b (3 * k + 1) wr HI.out.1 HI.out.2.2.2.1 (fun h => by rw [HB.out.2.1.2, ← HL.out.2.1]; rfl)).mono ?_
      rintro e w3 ⟨b3, s3, x3, rfl, d3⟩
      have c3 := d3.run.blk.cell 2
      simp only [runCells, List.getElem?_cons_zero, List.getElem?_cons_succ] at c3
      have hdec := d3.dec.1 HB.out.1
      have hl3 := left_eq (got := got) d3.run
      have HD := hid (And.intro d3 (And.intro hdec hl3))
      have hrg := d3.rng
      clear d3 hdec hl3 c2
      by_cases hx : x3 = tn
      · subst hx
        have hq : ((x3 : Int) == x3) = true := by simp
        cases hb3 : b3.stop with
        | true =>
          rw [hb3] at c3
          have HB3 := hid hb3
          clear hb3
          go_wp2_with fail
          go_roundw
          case rel => exact ⟨b3, s3, HD.out.1.run, HI.out.2.1.trans HD.out.1.kept (by intro i hi; exact .inl hi), HI.out.2.2.1.trans HD.out.1.ran, HD.out.1.good, fun h => absurd (HB3.out.symm.trans h) (by simp), Nat.le_trans (Nat.le_of_lt HD.out.2.1) HI.out.2.2.2.2.2⟩
          case measure => rw [HB.out.2.2, HD.out.2.2]; exact HD.out.2.1
        | false =>
          rw [hb3] at c3
          have e3 : s3 = .own x3 := by rw [(HD.out.1.on hb3).2, HB.out.2.1.2]; exact if_pos rfl
          have HB3 := hid (And.intro hb3 e3)
          clear hb3 e3
          go_wp2_with fail
          refine (dstore_run (aqM l k who).sys s3 B r v b3 (3 * k + 2) (who + 1) w3 HD.out.1.run HD.out.1.good (fun h => by rw [HB3.out.2, ← HL.out.2.2]; rfl)).mono ?_
          rintro e w4 ⟨rfl, b4, s4, x4, d4⟩
          have HX := hid (show RunAt w4 B r v b4 ∧ Kept [r] w w4 ∧ Ran (aqM l k who).sys got s0 a s4 b4 ∧ Fits got b4 ∧ (b4.stop = false → a.stop = false ∧ ∃ t, s4 = .done t) ∧ left got b4 ≤ left got a from
            ⟨d4.run, (HI.out.2.1.trans HD.out.1.kept (by intro i hi; exact .inl hi)).trans d4.kept (by intro i hi; exact .inl hi), (HI.out.2.2.1.trans HD.out.1.ran).trans d4.ran, d4.good, fun h => ⟨HB.out.2.1.1, x3, by rw [(d4.on h).2, HB3.out.2]; rfl⟩, Nat.le_trans d4.dec.2 (Nat.le_trans (Nat.le_of_lt HD.out.2.1) HI.out.2.2.2.2.2)⟩)
          clear d4 HD HI HB HB3
          go_wp2
          go_ret
          exact ⟨_, b4, s4, rfl, HX.out⟩
      · have hq : ((x3 : Int) == tn) = false := by simpa using hx
        have HN := hid hx
        clear hx
        go_wp2_with fail
        go_roundw
        case rel => exact ⟨b3, s3, HD.out.1.run, HI.out.2.1.trans HD.out.1.kept (by intro i hi; exact .inl hi), HI.out.2.2.1.trans HD.out.1.ran, HD.out.1.good, fun h => ⟨HB.out.2.1.1, by rw [(HD.out.1.on h).2, HB.out.2.1.2]; exact if_neg HN.out⟩, Nat.le_trans (Nat.le_of_lt HD.out.2.1) HI.out.2.2.2.2.2⟩
        case measure => rw [HB.out.2.2, HD.out.2.2]; exact HD.out.2.1
end Go.Proofs.YtlhnnggceebpjaaGreat.Lock
