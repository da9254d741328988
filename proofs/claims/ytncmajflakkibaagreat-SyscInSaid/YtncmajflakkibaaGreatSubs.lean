/- The lists' machines, a note's wake, a look at a ring, as others run them. -/
import Derived.Test.YtncmajflakkibaaGreatLockN
import Derived.Test.YtncmajflakkibaaGreatIdlep
set_option maxRecDepth 100000
set_option maxHeartbeats 4000000
set_option linter.unusedVariables false
set_option linter.unusedSimpArgs false
namespace Go.Proofs.YtncmajflakkibaaGreat.Subs
open Go.RowKit Go.Shelf Go.Proofs.YtncmajflakkibaaGreat.TK Go.Proofs.YtncmajflakkibaaGreat.Flag Go.Proofs.YtncmajflakkibaaGreat.Words Go.Proofs.YtncmajflakkibaaGreat.Mem Go.Proofs.YtncmajflakkibaaGreat.Flow Go.Proofs.YtncmajflakkibaaGreat.Layout Go.Proofs.YtncmajflakkibaaGreat.Lock Go.Proofs.YtncmajflakkibaaGreat.Run Go.Proofs.YtncmajflakkibaaGreat.Sys Go.Proofs.YtncmajflakkibaaGreat.Mach Go.Proofs.YtncmajflakkibaaGreat.Ref05 Go.Proofs.YtncmajflakkibaaGreat.Note
theorem mg_step : StepOf 164 311 := ⟨fun y w => rfl, enters_of Tryz.func311 (by kernel_rfl) rfl⟩
theorem mg_quiet : NoSleeper 164 := fun y w => run_typeAssert_lacksB Tryz.underlying222 (by kernel_rfl) (by kernel_rfl) _ _ w
theorem mg_thru : Thru 311 := by
  intro x m o w R H
  have H := hid H
  go_enter Tryz.func311, Tryz.ntmps311
  go_wp2_with fail
  refine H.out.mono ?_
  rintro e w1 ⟨rfl, h1⟩
  have HX := hid h1
  clear h1
  go_wp2
  go_ret
  exact ⟨rfl, HX.out⟩
def mgS (lo l : Nat) (P T G who : Int) : Subm Idlem.MgSt := (Idlem.mgM l P T).sub 164 311 lo l P T G who
theorem mg_sub (lo l : Nat) (P T G who : Int) (hT : 0 ≤ T ∧ T ≤ 1000) : SubOk (mgS lo l P T G who) lo who := mch_sub mg_step mg_quiet mg_thru (fun y => Idlem.mg_goes l y P T G who hT)
theorem mg_made (lo l : Nat) (P T G who : Int) (w : World) (hL : Lay w l P T G) (hlo : lo ≤ w.heap.size) :
    Calls Tryz.prog 122 #[.pointer (some ⟨l, 0, none⟩), .int .i64 who] w fun e w' => e = .returned (.pointer (some ⟨w.heap.size, 0, none⟩)) ∧ (mgS lo l P T G who).at_ w' w.heap.size .h ∧ Below w.heap.size w w' := by
  refine (Idlem.mg_new_run l P T G who w hL).mono ?_
  rintro e w' ⟨rfl, h1, h2⟩
  exact ⟨rfl, ⟨h1, hlo, hL.quiet h2, trivial⟩, h2⟩
theorem pp_step : StepOf 165 312 := ⟨fun y w => rfl, enters_of Tryz.func312 (by kernel_rfl) rfl⟩
theorem pp_quiet : NoSleeper 165 := fun y w => run_typeAssert_lacksB Tryz.underlying222 (by kernel_rfl) (by kernel_rfl) _ _ w
theorem pp_thru : Thru 312 := by
  intro x m o w R H
  have H := hid H
  go_enter Tryz.func312, Tryz.ntmps312
  go_wp2_with fail
  refine H.out.mono ?_
  rintro e w1 ⟨rfl, h1⟩
  have HX := hid h1
  clear h1
  go_wp2
  go_ret
  exact ⟨rfl, HX.out⟩
def ppS (lo l : Nat) (P T G who p : Int) : Subm Idlep.PpSt := (Idlep.ppM l P p).sub 165 312 lo l P T G who
theorem pp_sub (lo l : Nat) (P T G who p : Int) : SubOk (ppS lo l P T G who p) lo who := mch_sub pp_step pp_quiet pp_thru (fun y => Idlep.pp_goes l y P p T G who)
theorem pp_made (lo l : Nat) (P T G who p : Int) (w : World) (hL : Lay w l P T G) (hlo : lo ≤ w.heap.size) :
    Calls Tryz.prog 222 #[.pointer (some ⟨l, 0, none⟩), .int .i64 who, .int .i64 p] w fun e w' => e = .returned (.pointer (some ⟨w.heap.size, 0, none⟩)) ∧ (ppS lo l P T G who p).at_ w' w.heap.size .a ∧ Below w.heap.size w w' := by
  refine (Idlep.pp_new_run l P T G who p w hL).mono ?_
  rintro e w' ⟨rfl, h1, h2⟩
  exact ⟨rfl, ⟨h1, hlo, hL.quiet h2, trivial⟩, h2⟩
theorem pg_step : StepOf 152 310 := ⟨fun y w => rfl, enters_of Tryz.func310 (by kernel_rfl) rfl⟩
theorem pg_quiet : NoSleeper 152 := fun y w => run_typeAssert_lacksB Tryz.underlying222 (by kernel_rfl) (by kernel_rfl) _ _ w
theorem pg_thru : Thru 310 := by
  intro x m o w R H
  have H := hid H
  go_enter Tryz.func310, Tryz.ntmps310
  go_wp2_with fail
  refine H.out.mono ?_
  rintro e w1 ⟨rfl, h1⟩
  have HX := hid h1
  clear h1
  go_wp2
  go_ret
  exact ⟨rfl, HX.out⟩
def pgS (lo l : Nat) (P T G who : Int) : Subm Idlep.PgSt := (Idlep.pgM l P).sub 152 310 lo l P T G who
theorem pg_sub (lo l : Nat) (P T G who : Int) : SubOk (pgS lo l P T G who) lo who := mch_sub pg_step pg_quiet pg_thru (fun y => Idlep.pg_goes l y P T G who)
theorem pg_made (lo l : Nat) (P T G who : Int) (w : World) (hL : Lay w l P T G) (hlo : lo ≤ w.heap.size) :
    Calls Tryz.prog 209 #[.pointer (some ⟨l, 0, none⟩), .int .i64 who] w fun e w' => e = .returned (.pointer (some ⟨w.heap.size, 0, none⟩)) ∧ (pgS lo l P T G who).at_ w' w.heap.size .h ∧ Below w.heap.size w w' := by
  refine (Idlep.pg_new_run l P T G who w hL).mono ?_
  rintro e w' ⟨rfl, h1, h2⟩
  exact ⟨rfl, ⟨h1, hlo, hL.quiet h2, trivial⟩, h2⟩
/-- A note's wake. -/
def wkNx (a : Int) : Bool → Nx
  | false => .store a 1 239
  | true => .done
def wkM (a : Int) : Mch Bool := ⟨236, wkNx a, fun _ => [.int .i64 a], fun _ _ => true, fun _ => True⟩
theorem wk_goes (l x : Nat) (a P T G who : Int) : Goes (wkM a) l x P T G who := by
  refine ⟨by show ∀ T ∈ ownT 236, _; decide, by show 236 ≠ _ ∧ 236 ≠ _ ∧ 236 ≠ _; decide, ?_, ?_, ?_, ?_⟩
  · intro st hok
    cases st with
    | false => simp [wkM, wkNx, Nx.val]
    | true => simp [wkM, wkNx, Nx.val]
  · intro st a hok ha
    trivial
  · intro st hst
    cases st with
    | false => exact enters_of Tryz.func239 (by kernel_rfl) rfl
    | true => exact absurd rfl hst
  · intro st v w hst hok hv hp hL
    cases st with
    | false =>
      refine (nends_run _ w).mono ?_
      rintro e w' ⟨he, rfl⟩
      exact ⟨he, hp, Kept.refl _ _⟩
    | true => exact absurd rfl hst
theorem wk_step : StepOf 228 318 := ⟨fun y w => rfl, enters_of Tryz.func318 (by kernel_rfl) rfl⟩
theorem wk_quiet : NoSleeper 228 := fun y w => run_typeAssert_lacksB Tryz.underlying222 (by kernel_rfl) (by kernel_rfl) _ _ w
theorem nm_thru (x : Nat) (m : Option Addr) (o : Bool) (R : World → Prop) (w : World) (H : Hid (Calls Tryz.prog 92 #[.pointer (some ⟨x, 0, none⟩), .pointer m] w fun e w' => e = .returned (.bool o) ∧ R w')) :
    Calls Tryz.prog 319 #[.pointer (some ⟨x, 0, none⟩), .pointer m] w fun e w' => e = .returned (.bool o) ∧ R w' := by
  go_enter Tryz.func319, Tryz.ntmps319
  go_wp2_with fail
  refine H.out.mono ?_
  rintro e w1 ⟨rfl, h⟩
  have HX := hid h
  clear h
  go_wp2
  go_ret
  exact ⟨rfl, HX.out⟩
theorem wk_thru : Thru 318 := by
  intro x m o w R H
  have H := hid (nm_thru x m o R w (hid H))
  go_enter Tryz.func318, Tryz.ntmps318
  go_wp2_with fail
  refine H.out.mono ?_
  rintro e w1 ⟨rfl, h1⟩
  have HX := hid h1
  clear h1
  go_wp2
  go_ret
  exact ⟨rfl, HX.out⟩
def wkS (lo l : Nat) (a P T G who : Int) : Subm Bool := (wkM a).sub 228 318 lo l P T G who
theorem wk_sub (lo l : Nat) (a P T G who : Int) : SubOk (wkS lo l a P T G who) lo who := mch_sub wk_step wk_quiet wk_thru (fun y => wk_goes l y a P T G who)
theorem wk_made (lo l : Nat) (P T G who n : Int) (w : World) (hL : Lay w l P T G) (hlo : lo ≤ w.heap.size) :
    Calls Tryz.prog 219 #[.pointer (some ⟨l, 0, none⟩), .int .i64 n, .int .i64 who] w fun e w' => e = .returned (.pointer (some ⟨w.heap.size, 0, none⟩)) ∧ (wkS lo l (th P T n 0) P T G who).at_ w' w.heap.size false ∧ Below w.heap.size w w' := by
  refine (nwake_run l P T G n who w hL).mono ?_
  rintro e w' ⟨rfl, ⟨b, h1, h3⟩, h2⟩
  exact ⟨rfl, ⟨⟨_, b, h1, h3⟩, hlo, hL.quiet h2, trivial⟩, h2⟩
theorem lk_step : StepOf 175 314 := ⟨fun y w => rfl, enters_of Tryz.func314 (by kernel_rfl) rfl⟩
theorem lk_quiet : NoSleeper 175 := fun y w => run_typeAssert_lacksB Tryz.underlying222 (by kernel_rfl) (by kernel_rfl) _ _ w
theorem lk_thru : Thru 314 := by
  intro x m o w R H
  have H := hid H
  go_enter Tryz.func314, Tryz.ntmps314
  go_wp2_with fail
  refine H.out.mono ?_
  rintro e w1 ⟨rfl, h1⟩
  have HX := hid h1
  clear h1
  go_wp2
  go_ret
  exact ⟨rfl, HX.out⟩
def lkS (lo l : Nat) (P T G who p : Int) : Subm Ring.LkSt := (Ring.lkM l P p).sub 175 314 lo l P T G who
theorem lk_sub (lo l : Nat) (P T G who p : Int) : SubOk (lkS lo l P T G who p) lo who := mch_sub lk_step lk_quiet lk_thru (fun y => Ring.lk_goes l y P p T G who)
end Go.Proofs.YtncmajflakkibaaGreat.Subs
