/- Going into a system call, and coming out: the example. -/
import Derived.Test.YtlhnnggceebpjaaGreatSyscD
set_option maxRecDepth 100000
set_option maxHeartbeats 4000000
set_option linter.unusedVariables false
set_option linter.unusedSimpArgs false
namespace Go.Proofs.YtlhnnggceebpjaaGreat.Sysc
open Go.RowKit Go.Shelf Go.Proofs.YtlhnnggceebpjaaGreat.TK Go.Proofs.YtlhnnggceebpjaaGreat.Flag Go.Proofs.YtlhnnggceebpjaaGreat.Read Go.Proofs.YtlhnnggceebpjaaGreat.Grow Go.Proofs.YtlhnnggceebpjaaGreat.Words Go.Proofs.YtlhnnggceebpjaaGreat.Mem Go.Proofs.YtlhnnggceebpjaaGreat.Flow Go.Proofs.YtlhnnggceebpjaaGreat.Layout Go.Proofs.YtlhnnggceebpjaaGreat.Lock Go.Proofs.YtlhnnggceebpjaaGreat.Run Go.Proofs.YtlhnnggceebpjaaGreat.Sys Go.Proofs.YtlhnnggceebpjaaGreat.Mach Go.Proofs.YtlhnnggceebpjaaGreat.Doc Go.Proofs.YtlhnnggceebpjaaGreat.Ref05 Go.Proofs.YtlhnnggceebpjaaGreat.Subs Go.Proofs.YtlhnnggceebpjaaGreat.IWords Go.Proofs.YtlhnnggceebpjaaGreat.Globq Go.Proofs.YtlhnnggceebpjaaGreat.Ring
theorem sxstep_nil (m : Option Addr) (w : World) : Calls Tryz.prog 164 #[.pointer none, .pointer m] w fun e w' => e = .returned (.bool true) ∧ w = w' := by
  go_enter Tryz.func164, Tryz.ntmps164
  go_wp2
  go_ret
  exact ⟨rfl, rfl⟩
theorem sx_step : StepOf 199 164 := ⟨fun y w => rfl, enters_of Tryz.func164 (by kernel_rfl) rfl⟩
theorem sx_quiet : NoSleeper 199 := fun y w => run_typeAssert_lacksB Tryz.underlying265 (by kernel_rfl) (by kernel_rfl) _ _ w
theorem sx_thru : Thru 164 := by
  intro x m o w R H
  have H := hid H
  go_enter Tryz.func164, Tryz.ntmps164
  go_wp2_with fail
  refine H.out.mono ?_
  rintro e w1 ⟨rfl, h1⟩
  have HX := hid h1
  clear h1
  go_wp2
  go_ret
  exact ⟨rfl, HX.out⟩
theorem blk_own {Own : List TypeId} {lo m g b : Nat} {w w' : World} {s : St} {cs : List Value} {T : TypeId} (hb : Blk w b cs T) (hM : MemAt w m g s) (hK : KeptOwn Own lo m g w w') (hT : T ≠ 166 ∧ T ≠ 25) (hO : T ∉ Own) : Blk w' b cs T := by
  obtain ⟨S, h1, h2⟩ := hK
  refine hb.kept h1 ?_
  intro hi
  rcases h2 b hi with h | h | ⟨_, T', h3, cs', h4⟩
  · exact hM.neT hb hT.1 h
  · exact hM.neG hb hT.2 h
  · exact Blk.ne hb h4 (fun e => hO (by rw [e]; exact h3)) rfl
theorem m2_stepV {σ ε : Type} {K : Mch2 σ ε} {F lo l x m mg : Nat} {p t g who : Int} {st : σ} {s : St} {w : World} (ht : Thru F) (G : Goes2 K lo l x p t g who) (hA : K.at_ lo l x p t g who w st) (hM : MemAt w m mg s) (hc : s.clock < 1000000) (hbd : s.bad < 1000000) :
    Calls Tryz.prog F #[.pointer (some ⟨x, 0, none⟩), .pointer (some ⟨m, 0, none⟩)] w fun e w' => e = .returned (.bool (K.sys.want (stepOf K.sys who st s).1).isNone) ∧ K.at_ lo l x p t g who w' (stepOf K.sys who st s).1 ∧ MemAt w' m mg (stepOf K.sys who st s).2 ∧ KeptOwn (rdT K.wr) lo m mg w w' := by
  refine (ht x _ _ w _ (m2_fstep G hA hM hc hbd)).mono ?_
  rintro e w' ⟨he, h1, h2, h3⟩
  exact ⟨he, h1, h2, keptOwn_mono h3 (fun T hT => List.mem_append.2 (.inl hT))⟩
theorem mch_stepV {σ : Type} {K : Mch σ} {F lo l x m mg : Nat} {p t g who : Int} {st : σ} {s : St} {w : World} (ht : Thru F) (G : Goes K l x p t g who) (hA : K.at_ lo l x p t g who w st) (hM : MemAt w m mg s) (hc : s.clock < 1000000) (hbd : s.bad < 1000000) :
    Calls Tryz.prog F #[.pointer (some ⟨x, 0, none⟩), .pointer (some ⟨m, 0, none⟩)] w fun e w' => e = .returned (.bool (K.nx (stepOf K.sys who st s).1).over) ∧ K.at_ lo l x p t g who w' (stepOf K.sys who st s).1 ∧ MemAt w' m mg (stepOf K.sys who st s).2 ∧ KeptOwn (ownT K.T) lo m mg w w' := by
  obtain ⟨cs, hb⟩ := hA.1.blk
  have h2 := hA.2.1
  refine (ht x _ _ w _ (mch_fstep G hA hM hc hbd)).mono ?_
  rintro e w' ⟨he, h1, h3, h4⟩
  exact ⟨he, h1, h3, mch_kept h2 hb h4⟩
def s0C : St := fresh (layW (lenOf 1 1 1) [])
def sia (n : Nat) : SiSt × St := after (siM 0 1 1 1 0 0).sys 0 .a s0C n
def soa (n : Nat) : SoSt × St := after (soY 1 1 1 0 0 0) 0 .sw (sia 3).2 n
theorem cex_run : ((((siM 0 1 1 1 0 0).nx (sia 1).1).over = false ∧ ((siM 0 1 1 1 0 0).nx (sia 2).1).over = false ∧ ((siM 0 1 1 1 0 0).nx (sia 3).1).over = true) ∧ siWent (sia 3).1 = true) ∧ ((((soY 1 1 1 0 0 0).want (soa 1).1).isNone = false ∧ ((soY 1 1 1 0 0 0).want (soa 2).1).isNone = false ∧ ((soY 1 1 1 0 0 0).want (soa 3).1).isNone = true) ∧ soCame (soa 3).1 = true ∧ soRuns (soa 3).1 = true ∧ soP 0 (soa 3).1 = 0 ∧ soHeld 0 (soa 3).1 = []) ∧ s0C.clock = 0 ∧ s0C.bad = 0 := by
  refine ⟨⟨⟨?_, ?_, ?_⟩, ?_⟩, ⟨⟨?_, ?_, ?_⟩, ?_, ?_, ?_, ?_⟩, ?_, ?_⟩ <;> decide +kernel
theorem few111 : FewP 1 1 1 := by unfold FewP Right; omega
theorem si_w_cell {x : Nat} {w : World} {q : Bool} (h : w.cell? ⟨x, 11, none⟩ = some (.bool q)) :
    Calls Tryz.prog 165 #[.pointer (some ⟨x, 0, none⟩)] w fun e w' => e = .returned (.bool q) ∧ w = w' := by
  cases q with
  | true => go_enter Tryz.func165, Tryz.ntmps165; go_wp2; go_ret; exact ⟨rfl, rfl⟩
  | false => go_enter Tryz.func165, Tryz.ntmps165; go_wp2; go_ret; exact ⟨rfl, rfl⟩
theorem a_step (w : World) (l x m g : Nat) (n : Nat) (w1 : World) (hA : Mch.at_ (siM l 1 1 1 0 0) w.heap.size l x 1 1 1 0 w1 (sia n).1) (hM : MemAt w1 m g (sia n).2) (hlow : Below w.heap.size w w1) (hm : w.heap.size ≤ m) (hg : w.heap.size ≤ g) (hn : n ≤ 10) :
    Calls Tryz.prog 164 #[.pointer (some ⟨x, 0, none⟩), .pointer (some ⟨m, 0, none⟩)] w1 fun e w' => e = .returned (.bool ((siM 0 1 1 1 0 0).nx (sia (n + 1)).1).over) ∧ Mch.at_ (siM l 1 1 1 0 0) w.heap.size l x 1 1 1 0 w' (sia (n + 1)).1 ∧ MemAt w' m g (sia (n + 1)).2 ∧ Below w.heap.size w w' := by
  have hcl := after_clock (siM 0 1 1 1 0 0).sys 0 .a s0C n
  have hc0 : s0C.clock = 0 ∧ s0C.bad = 0 := cex_run.2.2
  have hcl : (sia n).2.clock ≤ s0C.clock + n ∧ (sia n).2.bad ≤ s0C.bad + n := hcl
  refine (mch_stepV (K := (siM l 1 1 1 0 0)) sx_thru (si_goes l x 1 1 1 0 0 0) hA hM (by omega) (by omega)).mono ?_
  rintro e w' ⟨he, h1, h2, h3⟩
  exact ⟨he, h1, h2, keptOwn_low h3 hlow hm hg hlow.size⟩
theorem b_step (w : World) (l x m g : Nat) (n : Nat) (w1 : World) (hA : (soM w.heap.size l 1 1 1 0 0 0).at_ w.heap.size l x 1 1 1 0 w1 (soa n).1) (hM : MemAt w1 m g (soa n).2) (hlow : Below w.heap.size w w1) (hm : w.heap.size ≤ m) (hg : w.heap.size ≤ g) (hn : n ≤ 10) {y : Nat} {cs : List Value} (hb : Blk w1 y cs 268) :
    Calls Tryz.prog 59 #[.pointer (some ⟨x, 0, none⟩), .pointer (some ⟨m, 0, none⟩)] w1 fun e w' => e = .returned (.bool ((soY 1 1 1 0 0 0).want (soa (n + 1)).1).isNone) ∧ (soM w.heap.size l 1 1 1 0 0 0).at_ w.heap.size l x 1 1 1 0 w' (soa (n + 1)).1 ∧ MemAt w' m g (soa (n + 1)).2 ∧ Below w.heap.size w w' ∧ Blk w' y cs 268 := by
  have hcl := after_clock (soY 1 1 1 0 0 0) 0 .sw (sia 3).2 n
  have hcl0 := after_clock (siM 0 1 1 1 0 0).sys 0 .a s0C 3
  have hc0 : s0C.clock = 0 ∧ s0C.bad = 0 := cex_run.2.2
  have hcl : (soa n).2.clock ≤ (sia 3).2.clock + n ∧ (soa n).2.bad ≤ (sia 3).2.bad + n := hcl
  have hcl0 : (sia 3).2.clock ≤ s0C.clock + 3 ∧ (sia 3).2.bad ≤ s0C.bad + 3 := hcl0
  refine (m2_stepV (K := (soM w.heap.size l 1 1 1 0 0 0)) so_thru (so_goes w.heap.size l x 1 1 1 0 0 0 (by omega)) hA hM (by omega) (by omega)).mono ?_
  rintro e w' ⟨he, h1, h2, h3⟩
  exact ⟨he, h1, h2, keptOwn_low h3 hlow hm hg hlow.size, blk_own hb hM h3 (by decide) (by show 268 ∉ rdT [202, 247, 250, 331, 258, 3]; decide)⟩
theorem awake_run (w : World) : Calls Tryz.prog 57 #[] w fun e w' => e = .returned (.bool true) ∧ Below w.heap.size w w' := by
  have HE := hid cex_run
  go_enter Tryz.func57, Tryz.ntmps57
  go_wp2_with fail
  refine (lay_yes 1 1 1 none 0 [] _ few111 (by simp) ?_ (by simp)).mono ?_
  · intro i hi; simp at hi
  rintro e w1 ⟨l, m, g, rm, rg, rfl, hL⟩
  have HQ := hid (show w.heap.size ≤ m ∧ w.heap.size ≤ g from ⟨hL.low5.2.1, hL.low5.2.2.1⟩)
  have HI := hid (show Lay w1 l 1 1 1 ∧ MemAt w1 m g s0C ∧ Below w.heap.size w w1 from ⟨hL.lay, hL.mem, hL.low⟩)
  clear hL
  go_wp2_with fail
  refine (si_new_run l 1 1 1 0 0 0 w1 HI.out.1).mono ?_
  rintro e w2 ⟨rfl, hp, hb⟩
  have HI := hid (show Mch.at_ (siM l 1 1 1 0 0) w.heap.size l w1.heap.size 1 1 1 0 w2 (sia 0).1 ∧ MemAt w2 m g (sia 0).2 ∧ Below w.heap.size w w2 from ⟨⟨hp, HI.out.2.2.size, HI.out.1.quiet hb, trivial⟩, HI.out.2.1.quiet hb, HI.out.2.2.trans (hb.mono HI.out.2.2.size)⟩)
  obtain ⟨x, hx⟩ : ∃ x, x = w1.heap.size := ⟨_, rfl⟩
  rw [← hx] at HI ⊢
  clear hp hb hx
  go_wp2_with fail
  refine (a_step w l x m g 0 _ HI.out.1 HI.out.2.1 HI.out.2.2 HQ.out.1 HQ.out.2 (by omega)).mono ?_
  rintro e w3 ⟨rfl, h⟩
  rw [show ((siM 0 1 1 1 0 0).nx (sia (0 + 1)).1).over = false from HE.out.1.1.1]
  have HI := hid h
  clear h
  go_wp2_with fail
  refine (a_step w l x m g 1 _ HI.out.1 HI.out.2.1 HI.out.2.2 HQ.out.1 HQ.out.2 (by omega)).mono ?_
  rintro e w4 ⟨rfl, h⟩
  rw [show ((siM 0 1 1 1 0 0).nx (sia (1 + 1)).1).over = false from HE.out.1.1.2.1]
  have HI := hid h
  clear h
  go_wp2_with fail
  refine (a_step w l x m g 2 _ HI.out.1 HI.out.2.1 HI.out.2.2 HQ.out.1 HQ.out.2 (by omega)).mono ?_
  rintro e w5 ⟨rfl, h⟩
  rw [show ((siM 0 1 1 1 0 0).nx (sia (2 + 1)).1).over = true from HE.out.1.1.2.2]
  have y2 := h.1.1.idle.rest 2
  have e1 : w5.cell? ⟨x, 11, none⟩ = some (.bool (siWent (sia (2 + 1)).1)) := y2
  rw [show siWent (sia (2 + 1)).1 = true from HE.out.1.2] at e1
  obtain ⟨cs, hcs⟩ := h.1.1.blk
  have hcs : Blk w5 x cs 268 := hcs
  have hc11 : cs[11]? = some (.bool true) := by rw [← hcs.cell]; exact e1
  have HX := hid (And.intro hc11 hcs)
  have HI := hid h
  clear h y2 e1 hc11 hcs
  go_wp2_with fail
  refine (so_new_run l 1 1 1 0 0 0 w5 HI.out.1.2.2.1).mono ?_
  rintro e w6 ⟨rfl, hp, hb⟩
  have HI := hid (show (soM w.heap.size l 1 1 1 0 0 0).at_ w.heap.size l w5.heap.size 1 1 1 0 w6 (soa 0).1 ∧ MemAt w6 m g (soa 0).2 ∧ Below w.heap.size w w6 ∧ Blk w6 x cs 268 from ⟨⟨⟨(0, 0, 0), hp, trivial⟩, HI.out.2.2.size, HI.out.1.2.2.1.quiet hb, trivial⟩, HI.out.2.1.quiet hb, HI.out.2.2.trans (hb.mono HI.out.2.2.size), HX.out.2.quiet hb⟩)
  obtain ⟨y, hy⟩ : ∃ y, y = w5.heap.size := ⟨_, rfl⟩
  rw [← hy] at HI ⊢
  clear hp hb hy
  go_wp2_with fail
  refine (b_step w l y m g 0 _ HI.out.1 HI.out.2.1 HI.out.2.2.1 HQ.out.1 HQ.out.2 (by omega) HI.out.2.2.2).mono ?_
  rintro e w7 ⟨rfl, h⟩
  rw [show ((soY 1 1 1 0 0 0).want (soa (0 + 1)).1).isNone = false from HE.out.2.1.1.1]
  have HI := hid h
  clear h
  go_wp2_with fail
  refine (b_step w l y m g 1 _ HI.out.1 HI.out.2.1 HI.out.2.2.1 HQ.out.1 HQ.out.2 (by omega) HI.out.2.2.2).mono ?_
  rintro e w8 ⟨rfl, h⟩
  rw [show ((soY 1 1 1 0 0 0).want (soa (1 + 1)).1).isNone = false from HE.out.2.1.1.2.1]
  have HI := hid h
  clear h
  go_wp2_with fail
  refine (b_step w l y m g 2 _ HI.out.1 HI.out.2.1 HI.out.2.2.1 HQ.out.1 HQ.out.2 (by omega) HI.out.2.2.2).mono ?_
  rintro e w9 ⟨rfl, h⟩
  rw [show ((soY 1 1 1 0 0 0).want (soa (2 + 1)).1).isNone = true from HE.out.2.1.1.2.2]
  obtain ⟨st, hst⟩ : ∃ st, st = (soa (2 + 1)).1 := ⟨_, rfl⟩
  have HF := hid (show soCame st = true ∧ soRuns st = true ∧ soP 0 st = 0 ∧ soHeld 0 st = [] by rw [hst]; exact HE.out.2.1.2)
  rw [← hst] at h
  have HI := hid h
  have HX := hid (show w9.cell? ⟨x, 11, none⟩ = some (.bool true) from (h.2.2.2.cell 11).trans HX.out.1)
  clear h hst HE
  go_wp2_with (first | (go_at_call 165; refine (si_w_cell HX.out).mono ?_; rintro e w' ⟨rfl, rfl⟩) | (go_at_call 67; have q := so_c_run HI.out.1; rw [HF.out.1] at q; refine q.mono ?_; rintro e w' ⟨rfl, rfl⟩) | (go_at_call 63; have q := so_r_run HI.out.1; rw [HF.out.2.1] at q; refine q.mono ?_; rintro e w' ⟨rfl, rfl⟩) | (go_at_call 60; have q := so_p_run HI.out.1; rw [HF.out.2.2.1] at q; refine q.mono ?_; rintro e w' ⟨rfl, rfl⟩) | (go_at_call 70; have q := so_h_run HI.out.1; rw [HF.out.2.2.2] at q; refine q.mono ?_; rintro e w' ⟨a', c', rfl, _, hb⟩; replace HI := hid (HI.out.2.2.1.trans (hb.mono HI.out.2.2.1.size)); clear hb))
  go_ret
  exact ⟨rfl, HI.out⟩
/-- Is what is asked for of the config? -/
def KnownP (p T gs who q gn : Int) : Prop := 0 ≤ who ∧ who < T ∧ 0 ≤ q ∧ q < p ∧ 0 ≤ gn ∧ gn < gs
theorem known_yes (p T gs who q gn : Int) (w : World) (h : KnownP p T gs who q gn) :
    Calls Tryz.prog 64 #[.agg #[.int .i64 p, .int .i64 T, .int .i64 gs], .agg #[.int .i64 who, .int .i64 q, .int .i64 gn]] w fun e w' => e = .returned (.bool true) ∧ Below w.heap.size w w' := by
  obtain ⟨h1, h2, h3, h4, h5, h6⟩ := h
  have d1 : decide (0 ≤ who) = true := decide_eq_true h1
  have d2 : decide (who < T) = true := decide_eq_true h2
  have d3 : decide (0 ≤ q) = true := decide_eq_true h3
  have d4 : decide (q < p) = true := decide_eq_true h4
  have d5 : decide (0 ≤ gn) = true := decide_eq_true h5
  have d6 : decide (gn < gs) = true := decide_eq_true h6
  clear h1 h2 h3 h4 h5 h6
  go_enter Tryz.func64, Tryz.ntmps64
  go_wp2
  go_ret
  exact ⟨by first | rfl | trivial, (below_one w _).alloc (by simp) _⟩
theorem known_no (p T gs who q gn : Int) (w : World) (h : ¬ KnownP p T gs who q gn) :
    Calls Tryz.prog 64 #[.agg #[.int .i64 p, .int .i64 T, .int .i64 gs], .agg #[.int .i64 who, .int .i64 q, .int .i64 gn]] w fun e w' => e = .returned (.bool false) ∧ Below w.heap.size w w' := by
  by_cases h1 : 0 ≤ who
  case neg =>
    have d1 : decide (0 ≤ who) = false := decide_eq_false h1
    clear h h1
    go_enter Tryz.func64, Tryz.ntmps64
    go_wp2
    go_ret
    exact ⟨by first | rfl | trivial, (below_one w _).alloc (by simp) _⟩
  have d1 : decide (0 ≤ who) = true := decide_eq_true h1
  by_cases h2 : who < T
  case neg =>
    have d2 : decide (who < T) = false := decide_eq_false h2
    clear h h1 h2
    go_enter Tryz.func64, Tryz.ntmps64
    go_wp2
    go_ret
    exact ⟨by first | rfl | trivial, (below_one w _).alloc (by simp) _⟩
  have d2 : decide (who < T) = true := decide_eq_true h2
  by_cases h3 : 0 ≤ q
  case neg =>
    have d3 : decide (0 ≤ q) = false := decide_eq_false h3
    clear h h1 h2 h3
    go_enter Tryz.func64, Tryz.ntmps64
    go_wp2
    go_ret
    exact ⟨by first | rfl | trivial, (below_one w _).alloc (by simp) _⟩
  have d3 : decide (0 ≤ q) = true := decide_eq_true h3
  by_cases h4 : q < p
  case neg =>
    have d4 : decide (q < p) = false := decide_eq_false h4
    clear h h1 h2 h3 h4
    go_enter Tryz.func64, Tryz.ntmps64
    go_wp2
    go_ret
    exact ⟨by first | rfl | trivial, (below_one w _).alloc (by simp) _⟩
  have d4 : decide (q < p) = true := decide_eq_true h4
  by_cases h5 : 0 ≤ gn
  case neg =>
    have d5 : decide (0 ≤ gn) = false := decide_eq_false h5
    clear h h1 h2 h3 h4 h5
    go_enter Tryz.func64, Tryz.ntmps64
    go_wp2
    go_ret
    exact ⟨by first | rfl | trivial, (below_one w _).alloc (by simp) _⟩
  have d5 : decide (0 ≤ gn) = true := decide_eq_true h5
  have h6 : ¬ gn < gs := fun h6 => h ⟨h1, h2, h3, h4, h5, h6⟩
  have d6 : decide (gn < gs) = false := decide_eq_false h6
  clear h h1 h2 h3 h4 h5 h6
  go_enter Tryz.func64, Tryz.ntmps64
  go_wp2
  go_ret
  exact ⟨by first | rfl | trivial, (below_one w _).alloc (by simp) _⟩
end Go.Proofs.YtlhnnggceebpjaaGreat.Sysc
