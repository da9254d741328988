/- The lists' machines, a note's wake, a look at a ring, as others run them. -/
import Derived.Test.YtlhnnggceebpjaaGreatLockN
import Derived.Test.YtlhnnggceebpjaaGreatIdlep
set_option maxRecDepth 100000
set_option maxHeartbeats 4000000
set_option linter.unusedVariables false
set_option linter.unusedSimpArgs false
namespace Go.Proofs.YtlhnnggceebpjaaGreat.Subs
open Go.RowKit Go.Shelf Go.Proofs.YtlhnnggceebpjaaGreat.TK Go.Proofs.YtlhnnggceebpjaaGreat.Flag Go.Proofs.YtlhnnggceebpjaaGreat.Words Go.Proofs.YtlhnnggceebpjaaGreat.Mem Go.Proofs.YtlhnnggceebpjaaGreat.Flow Go.Proofs.YtlhnnggceebpjaaGreat.Layout Go.Proofs.YtlhnnggceebpjaaGreat.Lock Go.Proofs.YtlhnnggceebpjaaGreat.Run Go.Proofs.YtlhnnggceebpjaaGreat.Sys Go.Proofs.YtlhnnggceebpjaaGreat.Mach Go.Proofs.YtlhnnggceebpjaaGreat.Ref05 Go.Proofs.YtlhnnggceebpjaaGreat.Note
theorem mg_step : StepOf 272 446 := ⟨fun y w => rfl, enters_of Tryz.func446 (by kernel_rfl) rfl⟩
theorem mg_quiet : NoSleeper 272 := fun y w => run_typeAssert_lacksB Tryz.underlying265 (by kernel_rfl) (by kernel_rfl) _ _ w
theorem mg_thru : Thru 446 := by
  intro x m o w R H
  have H := hid H
  go_enter Tryz.func446, Tryz.ntmps446
  go_wp2_with fail
  refine H.out.mono ?_
  rintro e w1 ⟨rfl, h1⟩
  have HX := hid h1
  clear h1
  go_wp2
  go_ret
  exact ⟨rfl, HX.out⟩
def mgS (lo l : Nat) (P T G who : Int) : Subm Idlem.MgSt := (Idlem.mgM l P T).sub 272 446 lo l P T G who
theorem mg_sub (lo l : Nat) (P T G who : Int) (hT : 0 ≤ T ∧ T ≤ 1000) : SubOk (mgS lo l P T G who) lo who := mch_sub mg_step mg_quiet mg_thru (fun y => Idlem.mg_goes l y P T G who hT)
theorem mg_made (lo l : Nat) (P T G who : Int) (w : World) (hL : Lay w l P T G) (hlo : lo ≤ w.heap.size) :
    Calls Tryz.prog 322 #[.pointer (some ⟨l, 0, none⟩), .int .i64 who] w fun e w' => e = .returned (.pointer (some ⟨w.heap.size, 0, none⟩)) ∧ (mgS lo l P T G who).at_ w' w.heap.size .h ∧ Below w.heap.size w w' := by
  refine (Idlem.mg_new_run l P T G who w hL).mono ?_
  rintro e w' ⟨rfl, h1, h2⟩
  exact ⟨rfl, ⟨h1, hlo, hL.quiet h2, trivial⟩, h2⟩
theorem pp_step : StepOf 209 437 := ⟨fun y w => rfl, enters_of Tryz.func437 (by kernel_rfl) rfl⟩
theorem pp_quiet : NoSleeper 209 := fun y w => run_typeAssert_lacksB Tryz.underlying265 (by kernel_rfl) (by kernel_rfl) _ _ w
theorem pp_thru : Thru 437 := by
  intro x m o w R H
  have H := hid H
  go_enter Tryz.func437, Tryz.ntmps437
  go_wp2_with fail
  refine H.out.mono ?_
  rintro e w1 ⟨rfl, h1⟩
  have HX := hid h1
  clear h1
  go_wp2
  go_ret
  exact ⟨rfl, HX.out⟩
def ppS (lo l : Nat) (P T G who p : Int) : Subm Idlep.PpSt := (Idlep.ppM l P p).sub 209 437 lo l P T G who
theorem pp_sub (lo l : Nat) (P T G who p : Int) : SubOk (ppS lo l P T G who p) lo who := mch_sub pp_step pp_quiet pp_thru (fun y => Idlep.pp_goes l y P p T G who)
theorem pp_made (lo l : Nat) (P T G who p : Int) (w : World) (hL : Lay w l P T G) (hlo : lo ≤ w.heap.size) :
    Calls Tryz.prog 369 #[.pointer (some ⟨l, 0, none⟩), .int .i64 who, .int .i64 p] w fun e w' => e = .returned (.pointer (some ⟨w.heap.size, 0, none⟩)) ∧ (ppS lo l P T G who p).at_ w' w.heap.size .a ∧ Below w.heap.size w w' := by
  refine (Idlep.pp_new_run l P T G who p w hL).mono ?_
  rintro e w' ⟨rfl, h1, h2⟩
  exact ⟨rfl, ⟨h1, hlo, hL.quiet h2, trivial⟩, h2⟩
theorem pg_step : StepOf 158 428 := ⟨fun y w => rfl, enters_of Tryz.func428 (by kernel_rfl) rfl⟩
theorem pg_quiet : NoSleeper 158 := fun y w => run_typeAssert_lacksB Tryz.underlying265 (by kernel_rfl) (by kernel_rfl) _ _ w
theorem pg_thru : Thru 428 := by
  intro x m o w R H
  have H := hid H
  go_enter Tryz.func428, Tryz.ntmps428
  go_wp2_with fail
  refine H.out.mono ?_
  rintro e w1 ⟨rfl, h1⟩
  have HX := hid h1
  clear h1
  go_wp2
  go_ret
  exact ⟨rfl, HX.out⟩
def pgS (lo l : Nat) (P T G who : Int) : Subm Idlep.PgSt := (Idlep.pgM l P).sub 158 428 lo l P T G who
theorem pg_sub (lo l : Nat) (P T G who : Int) : SubOk (pgS lo l P T G who) lo who := mch_sub pg_step pg_quiet pg_thru (fun y => Idlep.pg_goes l y P T G who)
theorem pg_made (lo l : Nat) (P T G who : Int) (w : World) (hL : Lay w l P T G) (hlo : lo ≤ w.heap.size) :
    Calls Tryz.prog 252 #[.pointer (some ⟨l, 0, none⟩), .int .i64 who] w fun e w' => e = .returned (.pointer (some ⟨w.heap.size, 0, none⟩)) ∧ (pgS lo l P T G who).at_ w' w.heap.size .h ∧ Below w.heap.size w w' := by
  refine (Idlep.pg_new_run l P T G who w hL).mono ?_
  rintro e w' ⟨rfl, h1, h2⟩
  exact ⟨rfl, ⟨h1, hlo, hL.quiet h2, trivial⟩, h2⟩
/-- A note's wake. -/
def wkNx (a : Int) : Bool → Nx
  | false => .store a 1 258
  | true => .done
def wkM (a : Int) : Mch Bool := ⟨339, wkNx a, fun _ => [.int .i64 a], fun _ _ => true, fun _ => True⟩
theorem wk_goes (l x : Nat) (a P T G who : Int) : Goes (wkM a) l x P T G who := by
  refine ⟨by show ∀ T ∈ ownT 339, _; decide, by show 339 ≠ _ ∧ 339 ≠ _ ∧ 339 ≠ _; decide, ?_, ?_, ?_, ?_⟩
  · intro st hok
    cases st with
    | false => simp [wkM, wkNx, Nx.val]
    | true => simp [wkM, wkNx, Nx.val]
  · intro st a hok ha
    trivial
  · intro st hst
    cases st with
    | false => exact enters_of Tryz.func258 (by kernel_rfl) rfl
    | true => exact absurd rfl hst
  · intro st v w hst hok hv hp hL
    cases st with
    | false =>
      refine (nends_run _ w).mono ?_
      rintro e w' ⟨he, rfl⟩
      exact ⟨he, hp, Kept.refl _ _⟩
    | true => exact absurd rfl hst
theorem wk_step : StepOf 337 451 := ⟨fun y w => rfl, enters_of Tryz.func451 (by kernel_rfl) rfl⟩
theorem wk_quiet : NoSleeper 337 := fun y w => run_typeAssert_lacksB Tryz.underlying265 (by kernel_rfl) (by kernel_rfl) _ _ w
theorem nm_thru (x : Nat) (m : Option Addr) (o : Bool) (R : World → Prop) (w : World) (H : Hid (Calls Tryz.prog 127 #[.pointer (some ⟨x, 0, none⟩), .pointer m] w fun e w' => e = .returned (.bool o) ∧ R w')) :
    Calls Tryz.prog 433 #[.pointer (some ⟨x, 0, none⟩), .pointer m] w fun e w' => e = .returned (.bool o) ∧ R w' := by
  go_enter Tryz.func433, Tryz.ntmps433
  go_wp2_with fail
  refine H.out.mono ?_
  rintro e w1 ⟨rfl, h⟩
  have HX := hid h
  clear h
  go_wp2
  go_ret
  exact ⟨rfl, HX.out⟩
theorem wk_thru : Thru 451 := by
  intro x m o w R H
  have H := hid (nm_thru x m o R w (hid H))
  go_enter Tryz.func451, Tryz.ntmps451
  go_wp2_with fail
  refine H.out.mono ?_
  rintro e w1 ⟨rfl, h1⟩
  have HX := hid h1
  clear h1
  go_wp2
  go_ret
  exact ⟨rfl, HX.out⟩
def wkS (lo l : Nat) (a P T G who : Int) : Subm Bool := (wkM a).sub 337 451 lo l P T G who
theorem wk_sub (lo l : Nat) (a P T G who : Int) : SubOk (wkS lo l a P T G who) lo who := mch_sub wk_step wk_quiet wk_thru (fun y => wk_goes l y a P T G who)
theorem wk_made (lo l : Nat) (P T G who n : Int) (w : World) (hL : Lay w l P T G) (hlo : lo ≤ w.heap.size) :
    Calls Tryz.prog 383 #[.pointer (some ⟨l, 0, none⟩), .int .i64 n, .int .i64 who] w fun e w' => e = .returned (.pointer (some ⟨w.heap.size, 0, none⟩)) ∧ (wkS lo l (th P T n 0) P T G who).at_ w' w.heap.size false ∧ Below w.heap.size w w' := by
  refine (nwake_run l P T G n who w hL).mono ?_
  rintro e w' ⟨rfl, ⟨b, h1, h3⟩, h2⟩
  exact ⟨rfl, ⟨⟨_, b, h1, h3⟩, hlo, hL.quiet h2, trivial⟩, h2⟩
theorem lk_step : StepOf 207 435 := ⟨fun y w => rfl, enters_of Tryz.func435 (by kernel_rfl) rfl⟩
theorem lk_quiet : NoSleeper 207 := fun y w => run_typeAssert_lacksB Tryz.underlying265 (by kernel_rfl) (by kernel_rfl) _ _ w
theorem lk_thru : Thru 435 := by
  intro x m o w R H
  have H := hid H
  go_enter Tryz.func435, Tryz.ntmps435
  go_wp2_with fail
  refine H.out.mono ?_
  rintro e w1 ⟨rfl, h1⟩
  have HX := hid h1
  clear h1
  go_wp2
  go_ret
  exact ⟨rfl, HX.out⟩
def lkS (lo l : Nat) (P T G who p : Int) : Subm Ring.LkSt := (Ring.lkM l P p).sub 207 435 lo l P T G who
theorem lk_sub (lo l : Nat) (P T G who p : Int) : SubOk (lkS lo l P T G who p) lo who := mch_sub lk_step lk_quiet lk_thru (fun y => Ring.lk_goes l y P p T G who)
end Go.Proofs.YtlhnnggceebpjaaGreat.Subs
