/- The lists' machines, a note's wake, a look at a ring, as others run them. -/
import Derived.Test.YtlhnnggceebpjaaLockN
import Derived.Test.YtlhnnggceebpjaaIdlep
set_option maxRecDepth 100000
set_option maxHeartbeats 4000000
set_option linter.unusedVariables false
set_option linter.unusedSimpArgs false
namespace Go.Proofs.Ytlhnnggceebpjaa.Subs
open Go.RowKit Go.Shelf Go.Proofs.Ytlhnnggceebpjaa.TK Go.Proofs.Ytlhnnggceebpjaa.Flag Go.Proofs.Ytlhnnggceebpjaa.Words Go.Proofs.Ytlhnnggceebpjaa.Mem Go.Proofs.Ytlhnnggceebpjaa.Flow Go.Proofs.Ytlhnnggceebpjaa.Layout Go.Proofs.Ytlhnnggceebpjaa.Lock Go.Proofs.Ytlhnnggceebpjaa.Run Go.Proofs.Ytlhnnggceebpjaa.Sys Go.Proofs.Ytlhnnggceebpjaa.Mach Go.Proofs.Ytlhnnggceebpjaa.Ref05 Go.Proofs.Ytlhnnggceebpjaa.Note
theorem mg_step : StepOf 52 26 := ⟨fun y w => rfl, enters_of Try.func26 (by kernel_rfl) rfl⟩
theorem mg_quiet : NoSleeper 52 := fun y w => run_typeAssert_lacksB Try.underlying202 (by kernel_rfl) (by kernel_rfl) _ _ w
theorem mg_thru : Thru 26 := by
  intro x m o w R H
  have H := hid H
  go_enter Try.func26, Try.ntmps26
  go_wp2_with fail
  refine H.out.mono ?_
  rintro e w1 ⟨rfl, h1⟩
  have HX := hid h1
  clear h1
  go_wp2
  go_ret
  exact ⟨rfl, HX.out⟩
def mgS (lo l : Nat) (P T G who : Int) : Subm Idlem.MgSt := (Idlem.mgM l P T).sub 52 26 lo l P T G who
theorem mg_sub (lo l : Nat) (P T G who : Int) (hT : 0 ≤ T ∧ T ≤ 1000) : SubOk (mgS lo l P T G who) lo who := mch_sub mg_step mg_quiet mg_thru (fun y => Idlem.mg_goes l y P T G who hT)
theorem mg_made (lo l : Nat) (P T G who : Int) (w : World) (hL : Lay w l P T G) (hlo : lo ≤ w.heap.size) :
    Calls Try.prog 25 #[.pointer (some ⟨l, 0, none⟩), .int .i64 who] w fun e w' => e = .returned (.pointer (some ⟨w.heap.size, 0, none⟩)) ∧ (mgS lo l P T G who).at_ w' w.heap.size .h ∧ Below w.heap.size w w' := by
  refine (Idlem.mg_new_run l P T G who w hL).mono ?_
  rintro e w' ⟨rfl, h1, h2⟩
  exact ⟨rfl, ⟨h1, hlo, hL.quiet h2, trivial⟩, h2⟩
theorem pp_step : StepOf 57 33 := ⟨fun y w => rfl, enters_of Try.func33 (by kernel_rfl) rfl⟩
theorem pp_quiet : NoSleeper 57 := fun y w => run_typeAssert_lacksB Try.underlying202 (by kernel_rfl) (by kernel_rfl) _ _ w
theorem pp_thru : Thru 33 := by
  intro x m o w R H
  have H := hid H
  go_enter Try.func33, Try.ntmps33
  go_wp2_with fail
  refine H.out.mono ?_
  rintro e w1 ⟨rfl, h1⟩
  have HX := hid h1
  clear h1
  go_wp2
  go_ret
  exact ⟨rfl, HX.out⟩
def ppS (lo l : Nat) (P T G who p : Int) : Subm Idlep.PpSt := (Idlep.ppM l P p).sub 57 33 lo l P T G who
theorem pp_sub (lo l : Nat) (P T G who p : Int) : SubOk (ppS lo l P T G who p) lo who := mch_sub pp_step pp_quiet pp_thru (fun y => Idlep.pp_goes l y P p T G who)
theorem pp_made (lo l : Nat) (P T G who p : Int) (w : World) (hL : Lay w l P T G) (hlo : lo ≤ w.heap.size) :
    Calls Try.prog 32 #[.pointer (some ⟨l, 0, none⟩), .int .i64 who, .int .i64 p] w fun e w' => e = .returned (.pointer (some ⟨w.heap.size, 0, none⟩)) ∧ (ppS lo l P T G who p).at_ w' w.heap.size .a ∧ Below w.heap.size w w' := by
  refine (Idlep.pp_new_run l P T G who p w hL).mono ?_
  rintro e w' ⟨rfl, h1, h2⟩
  exact ⟨rfl, ⟨h1, hlo, hL.quiet h2, trivial⟩, h2⟩
theorem pg_step : StepOf 59 35 := ⟨fun y w => rfl, enters_of Try.func35 (by kernel_rfl) rfl⟩
theorem pg_quiet : NoSleeper 59 := fun y w => run_typeAssert_lacksB Try.underlying202 (by kernel_rfl) (by kernel_rfl) _ _ w
theorem pg_thru : Thru 35 := by
  intro x m o w R H
  have H := hid H
  go_enter Try.func35, Try.ntmps35
  go_wp2_with fail
  refine H.out.mono ?_
  rintro e w1 ⟨rfl, h1⟩
  have HX := hid h1
  clear h1
  go_wp2
  go_ret
  exact ⟨rfl, HX.out⟩
def pgS (lo l : Nat) (P T G who : Int) : Subm Idlep.PgSt := (Idlep.pgM l P).sub 59 35 lo l P T G who
theorem pg_sub (lo l : Nat) (P T G who : Int) : SubOk (pgS lo l P T G who) lo who := mch_sub pg_step pg_quiet pg_thru (fun y => Idlep.pg_goes l y P T G who)
theorem pg_made (lo l : Nat) (P T G who : Int) (w : World) (hL : Lay w l P T G) (hlo : lo ≤ w.heap.size) :
    Calls Try.prog 34 #[.pointer (some ⟨l, 0, none⟩), .int .i64 who] w fun e w' => e = .returned (.pointer (some ⟨w.heap.size, 0, none⟩)) ∧ (pgS lo l P T G who).at_ w' w.heap.size .h ∧ Below w.heap.size w w' := by
  refine (Idlep.pg_new_run l P T G who w hL).mono ?_
  rintro e w' ⟨rfl, h1, h2⟩
  exact ⟨rfl, ⟨h1, hlo, hL.quiet h2, trivial⟩, h2⟩
end Go.Proofs.Ytlhnnggceebpjaa.Subs
