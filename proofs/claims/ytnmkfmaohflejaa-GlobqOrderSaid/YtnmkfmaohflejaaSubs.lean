/- The lists' machines, a note's wake, a look at a ring, as others run them. -/
import Derived.Test.YtnmkfmaohflejaaLockN
import Derived.Test.YtnmkfmaohflejaaIdlep
set_option maxRecDepth 100000
set_option maxHeartbeats 4000000
set_option linter.unusedVariables false
set_option linter.unusedSimpArgs false
namespace Go.Proofs.Ytnmkfmaohflejaa.Subs
open Go.RowKit Go.Shelf Go.Proofs.Ytnmkfmaohflejaa.TK Go.Proofs.Ytnmkfmaohflejaa.Flag Go.Proofs.Ytnmkfmaohflejaa.Words Go.Proofs.Ytnmkfmaohflejaa.Mem Go.Proofs.Ytnmkfmaohflejaa.Flow Go.Proofs.Ytnmkfmaohflejaa.Layout Go.Proofs.Ytnmkfmaohflejaa.Lock Go.Proofs.Ytnmkfmaohflejaa.Run Go.Proofs.Ytnmkfmaohflejaa.Sys Go.Proofs.Ytnmkfmaohflejaa.Mach Go.Proofs.Ytnmkfmaohflejaa.Ref05 Go.Proofs.Ytnmkfmaohflejaa.Note
theorem mg_step : StepOf 52 22 := ⟨fun y w => rfl, enters_of Try.func22 (by kernel_rfl) rfl⟩
theorem mg_quiet : NoSleeper 52 := fun y w => run_typeAssert_lacksB Try.underlying160 (by kernel_rfl) (by kernel_rfl) _ _ w
theorem mg_thru : Thru 22 := by
  intro x m o w R H
  have H := hid H
  go_enter Try.func22, Try.ntmps22
  go_wp2_with fail
  refine H.out.mono ?_
  rintro e w1 ⟨rfl, h1⟩
  have HX := hid h1
  clear h1
  go_wp2
  go_ret
  exact ⟨rfl, HX.out⟩
def mgS (lo l : Nat) (P T G who : Int) : Subm Idlem.MgSt := (Idlem.mgM l P T).sub 52 22 lo l P T G who
theorem mg_sub (lo l : Nat) (P T G who : Int) (hT : 0 ≤ T ∧ T ≤ 1000) : SubOk (mgS lo l P T G who) lo who := mch_sub mg_step mg_quiet mg_thru (fun y => Idlem.mg_goes l y P T G who hT)
theorem mg_made (lo l : Nat) (P T G who : Int) (w : World) (hL : Lay w l P T G) (hlo : lo ≤ w.heap.size) :
    Calls Try.prog 21 #[.pointer (some ⟨l, 0, none⟩), .int .i64 who] w fun e w' => e = .returned (.pointer (some ⟨w.heap.size, 0, none⟩)) ∧ (mgS lo l P T G who).at_ w' w.heap.size .h ∧ Below w.heap.size w w' := by
  refine (Idlem.mg_new_run l P T G who w hL).mono ?_
  rintro e w' ⟨rfl, h1, h2⟩
  exact ⟨rfl, ⟨h1, hlo, hL.quiet h2, trivial⟩, h2⟩
theorem pp_step : StepOf 57 29 := ⟨fun y w => rfl, enters_of Try.func29 (by kernel_rfl) rfl⟩
theorem pp_quiet : NoSleeper 57 := fun y w => run_typeAssert_lacksB Try.underlying160 (by kernel_rfl) (by kernel_rfl) _ _ w
theorem pp_thru : Thru 29 := by
  intro x m o w R H
  have H := hid H
  go_enter Try.func29, Try.ntmps29
  go_wp2_with fail
  refine H.out.mono ?_
  rintro e w1 ⟨rfl, h1⟩
  have HX := hid h1
  clear h1
  go_wp2
  go_ret
  exact ⟨rfl, HX.out⟩
def ppS (lo l : Nat) (P T G who p : Int) : Subm Idlep.PpSt := (Idlep.ppM l P p).sub 57 29 lo l P T G who
theorem pp_sub (lo l : Nat) (P T G who p : Int) : SubOk (ppS lo l P T G who p) lo who := mch_sub pp_step pp_quiet pp_thru (fun y => Idlep.pp_goes l y P p T G who)
theorem pp_made (lo l : Nat) (P T G who p : Int) (w : World) (hL : Lay w l P T G) (hlo : lo ≤ w.heap.size) :
    Calls Try.prog 28 #[.pointer (some ⟨l, 0, none⟩), .int .i64 who, .int .i64 p] w fun e w' => e = .returned (.pointer (some ⟨w.heap.size, 0, none⟩)) ∧ (ppS lo l P T G who p).at_ w' w.heap.size .a ∧ Below w.heap.size w w' := by
  refine (Idlep.pp_new_run l P T G who p w hL).mono ?_
  rintro e w' ⟨rfl, h1, h2⟩
  exact ⟨rfl, ⟨h1, hlo, hL.quiet h2, trivial⟩, h2⟩
theorem pg_step : StepOf 59 31 := ⟨fun y w => rfl, enters_of Try.func31 (by kernel_rfl) rfl⟩
theorem pg_quiet : NoSleeper 59 := fun y w => run_typeAssert_lacksB Try.underlying160 (by kernel_rfl) (by kernel_rfl) _ _ w
theorem pg_thru : Thru 31 := by
  intro x m o w R H
  have H := hid H
  go_enter Try.func31, Try.ntmps31
  go_wp2_with fail
  refine H.out.mono ?_
  rintro e w1 ⟨rfl, h1⟩
  have HX := hid h1
  clear h1
  go_wp2
  go_ret
  exact ⟨rfl, HX.out⟩
def pgS (lo l : Nat) (P T G who : Int) : Subm Idlep.PgSt := (Idlep.pgM l P).sub 59 31 lo l P T G who
theorem pg_sub (lo l : Nat) (P T G who : Int) : SubOk (pgS lo l P T G who) lo who := mch_sub pg_step pg_quiet pg_thru (fun y => Idlep.pg_goes l y P T G who)
theorem pg_made (lo l : Nat) (P T G who : Int) (w : World) (hL : Lay w l P T G) (hlo : lo ≤ w.heap.size) :
    Calls Try.prog 30 #[.pointer (some ⟨l, 0, none⟩), .int .i64 who] w fun e w' => e = .returned (.pointer (some ⟨w.heap.size, 0, none⟩)) ∧ (pgS lo l P T G who).at_ w' w.heap.size .h ∧ Below w.heap.size w w' := by
  refine (Idlep.pg_new_run l P T G who w hL).mono ?_
  rintro e w' ⟨rfl, h1, h2⟩
  exact ⟨rfl, ⟨h1, hlo, hL.quiet h2, trivial⟩, h2⟩
end Go.Proofs.Ytnmkfmaohflejaa.Subs
