/- The list of processors: the example. -/
import Derived.Test.YtnmkfmaohflejaaIdlepC
set_option maxRecDepth 100000
set_option maxHeartbeats 4000000
set_option linter.unusedVariables false
set_option linter.unusedSimpArgs false
namespace Go.Proofs.Ytnmkfmaohflejaa.Mach
open Go.RowKit Go.Shelf Go.Proofs.Ytnmkfmaohflejaa.TK Go.Proofs.Ytnmkfmaohflejaa.Flag Go.Proofs.Ytnmkfmaohflejaa.Words Go.Proofs.Ytnmkfmaohflejaa.Mem Go.Proofs.Ytnmkfmaohflejaa.Flow Go.Proofs.Ytnmkfmaohflejaa.Layout Go.Proofs.Ytnmkfmaohflejaa.Lock Go.Proofs.Ytnmkfmaohflejaa.Run Go.Proofs.Ytnmkfmaohflejaa.Sys
theorem Pend.kept2 {w w' : World} {x : Nat} {who : Int} {rest : List Value} {T : TypeId} {n : Nx} {S : List Nat} (h : Pend w x who rest T n) (hk : Kept S w w') (hx : x ∉ S) (hS : ∀ i ∈ S, Not [1, 166] w i) : Pend w' x who rest T n := by
  cases n with
  | load a m => rcases h with h | ⟨af, h⟩; exact .inl (h.kept hk hx); exact .inr ⟨af, h.kept hk hx⟩
  | add a v m => obtain ⟨af, h⟩ := h; exact ⟨af, h.kept hk hx⟩
  | store a v m => obtain ⟨af, b, h, h2⟩ := h; exact ⟨af, b, h.kept hk hx, h2.kept hk (fun hi => hS b hi _ (by simp) _ h2)⟩
  | swap a o v m => obtain ⟨af, b, h, h2⟩ := h; exact ⟨af, b, h.kept hk hx, h2.kept hk (fun hi => hS b hi _ (by simp) _ h2)⟩
  | done => obtain ⟨f, h, h1⟩ := h; exact ⟨f, h.kept hk hx, h1⟩
/-- A step of another machine, of the same type or not. -/
theorem at_kept3 {σ : Type} {K : Mch σ} {lo l x y m mg : Nat} {p t g who : Int} {st : σ} {s : St} {w w' : World} {cs : List Value} {Ty : TypeId} (hA : K.at_ lo l x p t g who w st) (hM : MemAt w m mg s) (hk : Kept [y, m, mg] w w') (hy : Blk w y cs Ty) (hTy : Ty ∉ [1, 166, 143]) (hne : x ≠ y) (hT : K.T ≠ 108 ∧ K.T ≠ 31) : K.at_ lo l x p t g who w' st := by
  obtain ⟨h1, h2, h3, h4⟩ := hA
  obtain ⟨cs', hb⟩ := h1.blk
  obtain ⟨_, _, b1, b2, _⟩ := hM.ex
  have hS : ∀ i ∈ [y, m, mg], Not [1, 166] w i := by
    intro i hi
    simp at hi
    rcases hi with rfl | rfl | rfl
    · exact not_of hy (fun h => hTy (by simp at h ⊢; rcases h with h | h <;> simp [h]))
    · exact not_of b1 (by decide)
    · exact not_of b2 (by decide)
  have n1 := hM.neT hb hT.1
  have n2 := hM.neG hb hT.2
  have n3 := hM.neT h3.1 (by decide)
  have n4 := hM.neG h3.1 (by decide)
  have n5 : l ≠ y := Blk.ne h3.1 hy (fun e => hTy (by rw [← e]; simp))
  exact ⟨h1.kept2 hk (by simp [hne, n1, n2]) hS, h2, h3.kept hk (by simp [n3, n4, n5]), h4⟩
end Go.Proofs.Ytnmkfmaohflejaa.Mach
namespace Go.Proofs.Ytnmkfmaohflejaa.Idlep
open Go.RowKit Go.Shelf Go.Proofs.Ytnmkfmaohflejaa.TK Go.Proofs.Ytnmkfmaohflejaa.Flag Go.Proofs.Ytnmkfmaohflejaa.Read Go.Proofs.Ytnmkfmaohflejaa.Grow Go.Proofs.Ytnmkfmaohflejaa.Words Go.Proofs.Ytnmkfmaohflejaa.Mem Go.Proofs.Ytnmkfmaohflejaa.Flow Go.Proofs.Ytnmkfmaohflejaa.Layout Go.Proofs.Ytnmkfmaohflejaa.Lock Go.Proofs.Ytnmkfmaohflejaa.Run Go.Proofs.Ytnmkfmaohflejaa.Sys Go.Proofs.Ytnmkfmaohflejaa.Mach Go.Proofs.Ytnmkfmaohflejaa.Doc Go.Proofs.Ytnmkfmaohflejaa.Ref05 Go.Proofs.Ytnmkfmaohflejaa.Bits Go.Proofs.Ytnmkfmaohflejaa.MapL Go.Proofs.Ytnmkfmaohflejaa.Ring
theorem ppstepK_run (lo l x m g : Nat) (P T G who p : Int) {st : PpSt} {s : St} {w : World} (hgo : Goes (ppM l P p) l x P T G who) (hA : (ppM l P p).at_ lo l x P T G who w st) (hM : MemAt w m g s) (hc : s.clock < 1000000) (hbd : s.bad < 1000000) :
    Calls Try.prog 29 #[.pointer (some ⟨x, 0, none⟩), .pointer (some ⟨m, 0, none⟩)] w fun e w' => (∃ b, e = .returned (.bool b)) ∧ (ppM l P p).at_ lo l x P T G who w' (stepOf (ppM l P p).sys who st s).1 ∧ MemAt w' m g (stepOf (ppM l P p).sys who st s).2 ∧ Kept [x, m, g] w w' := by
  have H := hid (mch_fstep hgo hA hM hc hbd)
  clear hA hM hgo
  obtain ⟨q, hq⟩ : ∃ q, q = stepOf (ppM l P p).sys who st s := ⟨_, rfl⟩
  rw [← hq] at H ⊢
  obtain ⟨o, ho⟩ : ∃ o, o = ((ppM l P p).nx q.1).over := ⟨_, rfl⟩
  rw [← ho] at H
  clear hq ho
  go_enter Try.func29, Try.ntmps29
  go_wp2_with fail
  refine H.out.mono ?_
  rintro e w1 ⟨rfl, h1, h2, h3⟩
  have HX := hid (And.intro h1 (And.intro h2 h3))
  clear h1 h2 h3
  go_wp2
  go_ret
  exact ⟨⟨_, rfl⟩, HX.out⟩
theorem pgstepK_run (lo l x m g : Nat) (P T G who : Int) {st : PgSt} {s : St} {w : World} (hgo : Goes (pgM l P) l x P T G who) (hA : (pgM l P).at_ lo l x P T G who w st) (hM : MemAt w m g s) (hc : s.clock < 1000000) (hbd : s.bad < 1000000) :
    Calls Try.prog 31 #[.pointer (some ⟨x, 0, none⟩), .pointer (some ⟨m, 0, none⟩)] w fun e w' => (∃ b, e = .returned (.bool b)) ∧ (pgM l P).at_ lo l x P T G who w' (stepOf (pgM l P).sys who st s).1 ∧ MemAt w' m g (stepOf (pgM l P).sys who st s).2 ∧ Kept [x, m, g] w w' := by
  have H := hid (mch_fstep hgo hA hM hc hbd)
  clear hA hM hgo
  obtain ⟨q, hq⟩ : ∃ q, q = stepOf (pgM l P).sys who st s := ⟨_, rfl⟩
  rw [← hq] at H ⊢
  obtain ⟨o, ho⟩ : ∃ o, o = ((pgM l P).nx q.1).over := ⟨_, rfl⟩
  rw [← ho] at H
  clear hq ho
  go_enter Try.func31, Try.ntmps31
  go_wp2_with fail
  refine H.out.mono ?_
  rintro e w1 ⟨rfl, h1, h2, h3⟩
  have HX := hid (And.intro h1 (And.intro h2 h3))
  clear h1 h2 h3
  go_wp2
  go_ret
  exact ⟨⟨_, rfl⟩, HX.out⟩
theorem row_kept {w w' : World} {a : Option Addr} {xs : List Int} {S : List Nat} (h : RowOf (encI .i64) 1 w a xs) (hk : Kept S w w') (hS : ∀ x, a = some x → x.block ∉ S) : RowOf (encI .i64) 1 w' a xs := by
  intro i hi
  obtain ⟨x, hx, hc⟩ := h i hi
  exact ⟨x, hx, fun j v hv => hk.cell (hc j v hv) (by simpa using hS x hx)⟩
def s331 : St := fresh (layW (lenOf 3 3 1) [])
def sA : St := (after (ppM 0 3 0).sys 0 .a s331 6).2
def sB : St := (after (ppM 0 3 2).sys 0 .a sA 6).2
def x6 : PgSt × St := after (pgM 0 3).sys 0 .h sB 6
theorem few331 : FewP 3 3 1 := by unfold FewP Right; omega
theorem ex_run : plst sB 3 3 = ([2, 0], true) ∧ (sB.peek 19).1 = 5 ∧ (pgNx 3 x6.1).over = true ∧ x6.1.p = 2 ∧ s331.clock = 0 ∧ s331.bad = 0 ∧ sA.clock ≤ 10 ∧ sA.bad ≤ 10 ∧ sB.clock ≤ 20 ∧ sB.bad ≤ 20 := by
  refine ⟨?_, ?_, ?_, ?_, ?_, ?_, ?_, ?_, ?_, ?_⟩ <;> decide +kernel
theorem lit2 (w : World) (a b : Int) : RowOf (encI .i64) 1 (w.alloc (.cells #[.int .i64 a, .int .i64 b] 3)) (some ⟨w.heap.size, 0, none⟩) [a, b] := by
  have hnew := Blk.new w [.int .i64 a, .int .i64 b] 3
  intro i hi
  refine ⟨_, rfl, ?_⟩
  intro j v hv
  have hj : j = 0 := by
    have := (List.getElem?_eq_some_iff.1 hv).1
    simp [encI] at this
    exact this
  subst hj
  rw [show (⟨w.heap.size, 0, none⟩ : Addr).add (i * 1 + 0) = ⟨w.heap.size, i, none⟩ by unfold Addr.add; split <;> simp_all]
  have hi4 : i < 2 := hi
  have : i = 0 ∨ i = 1 := by omega
  rcases this with rfl | rfl <;> exact (hnew.cell _).trans hv
theorem awake_run (w : World) : Calls Try.prog 27 #[] w fun e w' => e = .returned (.bool true) ∧ Below w.heap.size w w' := by
  have HE := hid ex_run
  go_enter Try.func27, Try.ntmps27
  go_wp2_with fail
  refine (lay_yes 3 3 1 none 0 [] _ few331 (by simp) ?_ (by simp)).mono ?_
  · intro i hi; simp at hi
  rintro e w1 ⟨l, m, g, rm, rg', rfl, hL⟩
  have hM : MemAt w1 m g s331 := hL.mem
  have hLay := hL.lay
  have hlow := hL.low
  have HQ := hid (And.intro hL.low5.2.1 hL.low5.2.2.1)
  clear hL
  go_wp2_with fail
  refine (pp_new_run l 3 3 1 0 0 w1 hLay).mono ?_
  rintro e w2 ⟨rfl, hA2, hb2⟩
  have hA : (ppM l 3 0).at_ w.heap.size l w1.heap.size 3 3 1 0 w2 .a := ⟨hA2, hlow.size, hLay.quiet hb2, trivial⟩
  have hlow2 := hlow.trans (hb2.mono hlow.size)
  replace hM := hM.quiet hb2
  replace hLay := hLay.quiet hb2
  obtain ⟨xa, hxa⟩ : ∃ xa, xa = w1.heap.size := ⟨_, rfl⟩
  rw [← hxa] at hA ⊢
  have hlta : xa < w2.heap.size := by obtain ⟨cs, hb⟩ := hA.1.blk; exact hb.lt
  clear hA2 hb2 hlow hxa
  go_wp2_with fail
  refine (pp_new_run l 3 3 1 0 2 w2 hLay).mono ?_
  rintro e w3 ⟨rfl, hB3, hb3⟩
  have hB : (ppM l 3 2).at_ w.heap.size l w2.heap.size 3 3 1 0 w3 .a := ⟨hB3, hlow2.size, hLay.quiet hb3, trivial⟩
  have hlow3 := hlow2.trans (hb3.mono hlow2.size)
  replace hM := hM.quiet hb3
  replace hLay := hLay.quiet hb3
  replace hA := (mach_of (pp_goes l xa 3 0 3 1 0).own).quiet hA hb3
  obtain ⟨xb, hxb⟩ : ∃ xb, xb = w2.heap.size := ⟨_, rfl⟩
  rw [← hxb] at hB ⊢
  have hltb : xb < w3.heap.size := by obtain ⟨cs, hb⟩ := hB.1.blk; exact hb.lt
  have hab : xb ≠ xa := by omega
  clear hB3 hb3 hlow2 hxb hlta
  go_wp2_with fail
  refine (pg_new_run l 3 3 1 0 w3 hLay).mono ?_
  rintro e w4 ⟨rfl, hX4, hb4⟩
  have hX : (pgM l 3).at_ w.heap.size l w3.heap.size 3 3 1 0 w4 .h := ⟨hX4, hlow3.size, hLay.quiet hb4, trivial⟩
  have hlow4 := hlow3.trans (hb4.mono hlow3.size)
  replace hM := hM.quiet hb4
  replace hA := (mach_of (pp_goes l xa 3 0 3 1 0).own).quiet hA hb4
  replace hB := (mach_of (pp_goes l xb 3 2 3 1 0).own).quiet hB hb4
  obtain ⟨xx, hxx⟩ : ∃ xx, xx = w3.heap.size := ⟨_, rfl⟩
  rw [← hxx] at hX ⊢
  have hxa : xx ≠ xa := by obtain ⟨cs, h1⟩ := hX.1.blk; obtain ⟨cs', h2⟩ := hA.1.blk; exact Blk.ne h1 h2 (by show 119 ≠ 117; decide)
  have hxb : xx ≠ xb := by obtain ⟨cs, h1⟩ := hX.1.blk; obtain ⟨cs', h2⟩ := hB.1.blk; exact Blk.ne h1 h2 (by show 119 ≠ 117; decide)
  have HI := hid (show (ppM l 3 0).at_ w.heap.size l xa 3 3 1 0 w4 (after (ppM 0 3 0).sys 0 .a s331 0).1 ∧ MemAt w4 m g (after (ppM 0 3 0).sys 0 .a s331 0).2 ∧ (ppM l 3 2).at_ w.heap.size l xb 3 3 1 0 w4 .a ∧ (pgM l 3).at_ w.heap.size l xx 3 3 1 0 w4 .h ∧ Below w.heap.size w w4 from ⟨hA, hM, hB, hX, hlow4⟩)
  have HNE := hid (And.intro hab (And.intro hxa hxb))
  clear hA hM hB hX hlow4 hlow3 hLay hX4 hb4 hxx hab hxa hxb hltb
  go_wp2_with fail
  go_loopw [8] (fun i wr => ∃ n : Nat, n ≤ 6 ∧ i = .int .i64 (n : Int) ∧ (ppM l 3 0).at_ w.heap.size l xa 3 3 1 0 wr (after (ppM 0 3 0).sys 0 .a s331 n).1 ∧ MemAt wr m g (after (ppM 0 3 0).sys 0 .a s331 n).2 ∧ (ppM l 3 2).at_ w.heap.size l xb 3 3 1 0 wr .a ∧ (pgM l 3).at_ w.heap.size l xx 3 3 1 0 wr .h ∧ Below w.heap.size w wr) (fun i _ => 6 - (intOf i).toNat)
  case atStart => exact ⟨0, by omega, rfl, HI.out⟩
  case round =>
    clear HI
    obtain ⟨n, hn, rfl, hI⟩ := hrel
    have HI := hid hI
    clear hI
    by_cases hlt : n < 6
    · have hlt' : decide ((n : Int) < 6) = true := decide_eq_true (by omega)
      have hcl := after_clock (ppM 0 3 0).sys 0 .a s331 n
      have hc0 : s331.clock = 0 ∧ s331.bad = 0 := ⟨HE.out.2.2.2.2.1, HE.out.2.2.2.2.2.1⟩
      go_wp2_with fail
      refine (ppstepK_run w.heap.size l xa m g 3 3 1 0 0 (pp_goes l xa 3 0 3 1 0) HI.out.1 HI.out.2.1 (by omega) (by omega)).mono ?_
      rintro e w5 ⟨⟨bb, rfl⟩, hA5, hM5, hK5⟩
      obtain ⟨csa, hba⟩ := HI.out.1.1.blk
      have HI5 := hid (And.intro hA5 (And.intro hM5 (And.intro (at_kept3 HI.out.2.2.1 HI.out.2.1 hK5 hba (by show 117 ∉ _; decide) HNE.out.1 (by show 117 ≠ _ ∧ 117 ≠ _; decide)) (And.intro (at_kept3 HI.out.2.2.2.1 HI.out.2.1 hK5 hba (by show 117 ∉ _; decide) HNE.out.2.1 (by show 119 ≠ _ ∧ 119 ≠ _; decide)) (below_kept HI.out.2.2.2.2 hK5 (by intro i hi; simp at hi; rcases hi with rfl | rfl | rfl; exact HI.out.1.2.1; exact HQ.out.1; exact HQ.out.2) HI.out.2.2.2.2.size)))))
      clear hA5 hM5 hK5 hba HI hcl hc0
      go_wp2_with fail
      go_roundw
      case rel => first | exact ⟨n + 1, by omega, by go_num, HI5.out⟩ | ((repeat apply Exists.intro); exact ⟨⟨n + 1, by omega, by go_num, HI5.out⟩, rfl⟩)
      case measure => simp [intOf]; omega
    · obtain rfl : n = 6 := by omega
      have hlt' : decide ((6 : Int) < 6) = false := by decide
      have HI := hid (show (ppM l 3 2).at_ w.heap.size l xb 3 3 1 0 wr (after (ppM 0 3 2).sys 0 .a sA 0).1 ∧ MemAt wr m g (after (ppM 0 3 2).sys 0 .a sA 0).2 ∧ (pgM l 3).at_ w.heap.size l xx 3 3 1 0 wr .h ∧ Below w.heap.size w wr from ⟨HI.out.2.2.1, HI.out.2.1, HI.out.2.2.2.1, HI.out.2.2.2.2⟩)
      go_wp2_with fail
      go_loopw [9] (fun i wr => ∃ n : Nat, n ≤ 6 ∧ i = .int .i64 (n : Int) ∧ (ppM l 3 2).at_ w.heap.size l xb 3 3 1 0 wr (after (ppM 0 3 2).sys 0 .a sA n).1 ∧ MemAt wr m g (after (ppM 0 3 2).sys 0 .a sA n).2 ∧ (pgM l 3).at_ w.heap.size l xx 3 3 1 0 wr .h ∧ Below w.heap.size w wr) (fun i _ => 6 - (intOf i).toNat)
      case atStart => exact ⟨0, by omega, rfl, HI.out⟩
      case round =>
        clear HI
        obtain ⟨n, hn, rfl, hI⟩ := hrel
        have HI := hid hI
        clear hI
        by_cases hlt : n < 6
        · have hlt' : decide ((n : Int) < 6) = true := decide_eq_true (by omega)
          have hcl := after_clock (ppM 0 3 2).sys 0 .a sA n
          have hc0 : sA.clock ≤ 10 ∧ sA.bad ≤ 10 := ⟨HE.out.2.2.2.2.2.2.1, HE.out.2.2.2.2.2.2.2.1⟩
          go_wp2_with fail
          refine (ppstepK_run w.heap.size l xb m g 3 3 1 0 2 (pp_goes l xb 3 2 3 1 0) HI.out.1 HI.out.2.1 (by omega) (by omega)).mono ?_
          rintro e w5 ⟨⟨bb, rfl⟩, hA5, hM5, hK5⟩
          obtain ⟨csa, hba⟩ := HI.out.1.1.blk
          have HI5 := hid (And.intro hA5 (And.intro hM5 (And.intro (at_kept3 HI.out.2.2.1 HI.out.2.1 hK5 hba (by show 117 ∉ _; decide) HNE.out.2.2 (by show 119 ≠ _ ∧ 119 ≠ _; decide)) (below_kept HI.out.2.2.2 hK5 (by intro i hi; simp at hi; rcases hi with rfl | rfl | rfl; exact HI.out.1.2.1; exact HQ.out.1; exact HQ.out.2) HI.out.2.2.2.size))))
          clear hA5 hM5 hK5 hba HI hcl hc0
          go_wp2_with fail
          go_roundw
          case rel => first | exact ⟨n + 1, by omega, by go_num, HI5.out⟩ | ((repeat apply Exists.intro); exact ⟨⟨n + 1, by omega, by go_num, HI5.out⟩, rfl⟩)
          case measure => simp [intOf]; omega
        · obtain rfl : n = 6 := by omega
          have hlt' : decide ((6 : Int) < 6) = false := by decide
          have HI := hid (show MemAt wr m g sB ∧ (pgM l 3).at_ w.heap.size l xx 3 3 1 0 wr (after (pgM 0 3).sys 0 .h sB 0).1 ∧ Below w.heap.size w wr from ⟨HI.out.2.1, HI.out.2.2.1, HI.out.2.2.2⟩)
          have HLS := hid (plist_run l m g 3 3 1 sB wr HI.out.2.1.2.2.1 HI.out.1)
          rw [HE.out.1] at HLS
          have HLT := hid (show xx < wr.heap.size ∧ m < wr.heap.size ∧ g < wr.heap.size from ⟨by obtain ⟨cs, hb⟩ := HI.out.2.1.1.blk; exact hb.lt, HI.out.1.ltm, HI.out.1.ltg⟩)
          have HPK := hid (show (sB.peek 19).1 = 5 from HE.out.2.1)
          go_wp2_with fail
          refine HLS.out.mono ?_
          rintro e w5 ⟨a5, c5, rfl, hrow5, hb5, hfr5⟩
          have HI := hid (show MemAt w5 m g (after (pgM 0 3).sys 0 .h sB 0).2 ∧ (pgM l 3).at_ w.heap.size l xx 3 3 1 0 w5 (after (pgM 0 3).sys 0 .h sB 0).1 ∧ Below w.heap.size w w5 from ⟨HI.out.1.quiet hb5, (mach_of (pg_goes l xx 3 3 1 0).own).quiet HI.out.2.1 hb5, Below.then_ HI.out.2.2 hb5⟩)
          have HFR := hid (show ∀ x, a5 = some x → x.block ∉ [xx, m, g] by
            intro x hx
            have h1 := hfr5 x hx
            have h2 := HLT.out
            simp
            omega)
          clear hfr5
          have HR5 := hid hrow5
          clear HLS hb5 hrow5
          go_wp2_with fail
          refine (mpeek_run m g sB 19 _ HI.out.1).mono ?_
          rintro e w6 ⟨rfl, rfl⟩
          rw [HPK.out]
          have HBx := hid (show w.heap.size ≤ xx from HI.out.2.1.2.1)
          go_wp2_with fail
          go_loopw [14] (fun i wr => ∃ n : Nat, n ≤ 6 ∧ i = .int .i64 (n : Int) ∧ MemAt wr m g (after (pgM 0 3).sys 0 .h sB n).2 ∧ (pgM l 3).at_ w.heap.size l xx 3 3 1 0 wr (after (pgM 0 3).sys 0 .h sB n).1 ∧ Below w.heap.size w wr ∧ RowOf (encI .i64) 1 wr a5 [2, 0]) (fun i _ => 6 - (intOf i).toNat)
          case atStart => exact ⟨0, by omega, rfl, HI.out.1, HI.out.2.1, HI.out.2.2, HR5.out⟩
          case round =>
            clear HI HR5
            obtain ⟨n, hn, rfl, hI⟩ := hrel
            have HI := hid hI
            clear hI
            by_cases hlt : n < 6
            · have hlt' : decide ((n : Int) < 6) = true := decide_eq_true (by omega)
              have hcl := after_clock (pgM 0 3).sys 0 .h sB n
              have hc0 : sB.clock ≤ 20 ∧ sB.bad ≤ 20 := HE.out.2.2.2.2.2.2.2.2
              go_wp2_with fail
              refine (pgstepK_run w.heap.size l xx m g 3 3 1 0 (pg_goes l xx 3 3 1 0) HI.out.2.1 HI.out.1 (by omega) (by omega)).mono ?_
              rintro e w7 ⟨⟨bb, rfl⟩, hA7, hM7, hK7⟩
              have HI7 := hid (And.intro hM7 (And.intro hA7 (And.intro (below_kept HI.out.2.2.1 hK7 (by intro i hi; simp at hi; rcases hi with rfl | rfl | rfl; exact HI.out.2.1.2.1; exact HQ.out.1; exact HQ.out.2) HI.out.2.2.1.size) (row_kept HI.out.2.2.2 hK7 HFR.out))))
              clear hA7 hM7 hK7 HI hcl hc0
              go_wp2_with fail
              go_roundw
              case rel => first | exact ⟨n + 1, by omega, by go_num, HI7.out⟩ | ((repeat apply Exists.intro); exact ⟨⟨n + 1, by omega, by go_num, HI7.out⟩, rfl⟩)
              case measure => simp [intOf]; omega
            · obtain rfl : n = 6 := by omega
              have hlt' : decide ((6 : Int) < 6) = false := by decide
              have hov := HE.out.2.2.1
              have hp2 := HE.out.2.2.2.1
              have hA : (pgM l 3).at_ w.heap.size l xx 3 3 1 0 wr x6.1 := HI.out.2.1
              obtain ⟨r, hr⟩ : ∃ r, r = x6 := ⟨_, rfl⟩
              rw [← hr] at hov hp2 hA
              have HX := hid (And.intro hov (And.intro hp2 hA))
              have hw8 := below_one wr (.cells #[.int .i64 2, .int .i64 0] 3)
              have HR := hid (And.intro (HI.out.2.2.2.quiet hw8) (And.intro (lit2 wr 2 0) (Below.then_ HI.out.2.2.1 hw8)))
              clear hov hp2 hA hr hw8 HI HE
              go_wp2_with (first | (go_at_call 53; refine (Idlem.same12_run a5 (some ⟨wr.heap.size, 0, none⟩) c5 2 [2, 0] _ HR.out.1 HR.out.2.1 (by simp)).mono ?_; rintro e w8 ⟨rfl, hb8⟩; have HA8 := hid ((mach_of (pg_goes l xx 3 3 1 0).own).quiet ((mach_of (pg_goes l xx 3 3 1 0).own).quiet HX.out.2.2 (below_one wr (.cells #[.int .i64 2, .int .i64 0] 3))) hb8)) | (go_at_call 32; refine (pgdone_run HA8.out).mono ?_; rintro e w9 ⟨rfl, rfl⟩; rw [show (Mch.nx (pgM l 3) r.1).over = true from HX.out.1]) | (go_at_call 33; refine (pg_p_run HA8.out).mono ?_; rintro e w9 ⟨rfl, rfl⟩; rw [HX.out.2.1]))
              go_ret
              exact ⟨rfl, Below.then_ HR.out.2.2 hb8⟩
end Go.Proofs.Ytnmkfmaohflejaa.Idlep
