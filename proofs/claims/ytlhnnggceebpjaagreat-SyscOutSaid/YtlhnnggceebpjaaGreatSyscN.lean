/- Coming out of a system call: what is told of it; going into one. -/
import Derived.Test.YtlhnnggceebpjaaGreatSysc
import Derived.Test.YtlhnnggceebpjaaGreatGlobqD
set_option maxRecDepth 100000
set_option maxHeartbeats 4000000
set_option linter.unusedVariables false
set_option linter.unusedSimpArgs false
namespace Go.Proofs.YtlhnnggceebpjaaGreat.Globq
open Go.RowKit Go.Shelf Go.Proofs.YtlhnnggceebpjaaGreat.TK Go.Proofs.YtlhnnggceebpjaaGreat.Flag Go.Proofs.YtlhnnggceebpjaaGreat.Read Go.Proofs.YtlhnnggceebpjaaGreat.Words Go.Proofs.YtlhnnggceebpjaaGreat.Mem Go.Proofs.YtlhnnggceebpjaaGreat.Flow Go.Proofs.YtlhnnggceebpjaaGreat.Layout Go.Proofs.YtlhnnggceebpjaaGreat.Lock Go.Proofs.YtlhnnggceebpjaaGreat.Run Go.Proofs.YtlhnnggceebpjaaGreat.Sys Go.Proofs.YtlhnnggceebpjaaGreat.Mach Go.Proofs.YtlhnnggceebpjaaGreat.Ref05 Go.Proofs.YtlhnnggceebpjaaGreat.Subs Go.Proofs.YtlhnnggceebpjaaGreat.IWords Go.Proofs.YtlhnnggceebpjaaGreat.Idlep
def Lists (w0 : World) (hl : List Int) (e : Ending) (w' : World) : Prop := ∃ a' c', e = .returned (.slice a' hl.length c') ∧ RowOf (encI .i64) 1 w' a' hl ∧ Below w0.heap.size w0 w'
theorem lists_nil (w : World) : Lists w [] (.returned (.slice none 0 0)) w := ⟨none, 0, rfl, fun i hi => absurd hi (by simp), Below.refl _ _⟩
theorem qp_h_run {lo l x : Nat} {P T G who : Int} {gs : List Int} {st : QpSt} {w : World} (hA : (qpM lo l P T G who gs).at_ lo l x P T G who w st) (hn : gs.length ≤ 1000) :
    Calls Tryz.prog 156 #[.pointer (some ⟨x, 0, none⟩)] w fun e w' => Lists w (qpH gs st) e w' := by
  obtain ⟨⟨e, hp, hi⟩, _⟩ := hA
  obtain ⟨ea, ec⟩ := e
  have hp : Pend w x who (puR l ea gs.length ec (qpK gs st) (qpL st)) 258 (qpOwn P T G gs st) := hp
  have y1 := hp.idle.rest 1
  have y3 := hp.idle.rest 3
  simp only [puR, Nat.reduceAdd, Nat.zero_add, List.getElem?_cons_zero, List.getElem?_cons_succ] at y1 y3
  have HC := hid (iclone_any ea ec gs w hi.2 (by omega) hi.1.row)
  unfold qpH
  obtain ⟨n, hnl⟩ : ∃ n, n = gs.length := ⟨_, rfl⟩
  rw [← hnl] at y1 HC
  obtain ⟨q, hq⟩ : ∃ q, q = qpL st := ⟨_, rfl⟩
  rw [← hq] at y3 ⊢
  have HNL := hid hnl
  clear hp hi hq hnl
  cases q with
  | true =>
    go_enter Tryz.func156, Tryz.ntmps156
    go_wp2
    go_ret
    exact lists_nil w
  | false =>
    go_enter Tryz.func156, Tryz.ntmps156
    go_wp2_with fail
    refine HC.out.mono ?_
    rintro e w1 ⟨a', cap, rfl, hB, _, hb⟩
    have HR := hid (And.intro hB.row hb)
    clear hB hb
    go_wp2
    go_ret
    exact ⟨a', cap, by rw [HNL.out]; rfl, HR.out⟩
theorem qp_h_nil (w : World) : Calls Tryz.prog 156 #[.pointer none] w fun e w' => e = .returned (.slice none 0 0) ∧ w = w' := by
  go_enter Tryz.func156, Tryz.ntmps156
  go_wp2
  go_ret
  exact ⟨rfl, rfl⟩
end Go.Proofs.YtlhnnggceebpjaaGreat.Globq
namespace Go.Proofs.YtlhnnggceebpjaaGreat.Sysc
open Go.RowKit Go.Shelf Go.Proofs.YtlhnnggceebpjaaGreat.TK Go.Proofs.YtlhnnggceebpjaaGreat.Flag Go.Proofs.YtlhnnggceebpjaaGreat.Read Go.Proofs.YtlhnnggceebpjaaGreat.Words Go.Proofs.YtlhnnggceebpjaaGreat.Mem Go.Proofs.YtlhnnggceebpjaaGreat.Flow Go.Proofs.YtlhnnggceebpjaaGreat.Layout Go.Proofs.YtlhnnggceebpjaaGreat.Lock Go.Proofs.YtlhnnggceebpjaaGreat.Run Go.Proofs.YtlhnnggceebpjaaGreat.Sys Go.Proofs.YtlhnnggceebpjaaGreat.Mach Go.Proofs.YtlhnnggceebpjaaGreat.Ref05 Go.Proofs.YtlhnnggceebpjaaGreat.Subs Go.Proofs.YtlhnnggceebpjaaGreat.IWords Go.Proofs.YtlhnnggceebpjaaGreat.Idlep Go.Proofs.YtlhnnggceebpjaaGreat.Globq
section
variable {lo l x : Nat} {P T G who o n : Int} {st : SoSt} {w : World}
theorem so_c_run (hA : (soM lo l P T G who o n).at_ lo l x P T G who w st) :
    Calls Tryz.prog 67 #[.pointer (some ⟨x, 0, none⟩)] w fun e w' => e = .returned (.bool (soCame st)) ∧ w = w' := by
  obtain ⟨⟨e, hp, hi⟩, _⟩ := hA
  have y5 := hp.rest_ 4
  have e1 : w.cell? ⟨x, 13, none⟩ = some (.bool (soCame st)) := by
    simp only [Nat.reduceAdd] at y5
    rw [y5]
    cases st <;> rfl
  obtain ⟨q, hq⟩ : ∃ q, q = soCame st := ⟨_, rfl⟩
  rw [← hq] at e1 ⊢
  clear hp hi hq y5
  cases q with
  | true => go_enter Tryz.func67, Tryz.ntmps67; go_wp2; go_ret; exact ⟨rfl, rfl⟩
  | false => go_enter Tryz.func67, Tryz.ntmps67; go_wp2; go_ret; exact ⟨rfl, rfl⟩
theorem so_r_run (hA : (soM lo l P T G who o n).at_ lo l x P T G who w st) :
    Calls Tryz.prog 63 #[.pointer (some ⟨x, 0, none⟩)] w fun e w' => e = .returned (.bool (soRuns st)) ∧ w = w' := by
  obtain ⟨⟨e, hp, hi⟩, _⟩ := hA
  have y5 := hp.rest_ 5
  have e1 : w.cell? ⟨x, 14, none⟩ = some (.bool (soRuns st)) := by
    simp only [Nat.reduceAdd] at y5
    rw [y5]
    cases st <;> rfl
  obtain ⟨q, hq⟩ : ∃ q, q = soRuns st := ⟨_, rfl⟩
  rw [← hq] at e1 ⊢
  clear hp hi hq y5
  cases q with
  | true => go_enter Tryz.func63, Tryz.ntmps63; go_wp2; go_ret; exact ⟨rfl, rfl⟩
  | false => go_enter Tryz.func63, Tryz.ntmps63; go_wp2; go_ret; exact ⟨rfl, rfl⟩
theorem so_p_run (hA : (soM lo l P T G who o n).at_ lo l x P T G who w st) :
    Calls Tryz.prog 60 #[.pointer (some ⟨x, 0, none⟩)] w fun e w' => e = .returned (.int .i64 (soP o st)) ∧ w = w' := by
  obtain ⟨⟨e, hp, hi⟩, _⟩ := hA
  have y1 := hp.rest_ 3
  have y3 := hp.rest_ 7
  cases st with
  | gt1 s =>
    have hq : (pgS lo l P T G who).at_ w e.1 s := hp.2.1
    show Calls _ _ _ w fun e w' => e = .returned (.int .i64 s.p) ∧ w = w'
    (simp only [soM, soRest, soR, Nat.reduceAdd, List.getElem?_cons_zero, List.getElem?_cons_succ] at y1 y3)
    have HG := hid (Idlep.pg_p_run hq)
    clear hp hi hq
    generalize Idlep.PgSt.p _ = z at HG
    go_enter Tryz.func60, Tryz.ntmps60
    go_wp2_with fail
    refine HG.out.mono ?_
    rintro e1 w1 ⟨rfl, rfl⟩
    go_wp2
    go_ret
    exact ⟨rfl, rfl⟩
  | gt2 s =>
    have hq : (pgS lo l P T G who).at_ w e.1 s := hp.2.1
    show Calls _ _ _ w fun e w' => e = .returned (.int .i64 s.p) ∧ w = w'
    (simp only [soM, soRest, soR, Nat.reduceAdd, List.getElem?_cons_zero, List.getElem?_cons_succ] at y1 y3)
    have HG := hid (Idlep.pg_p_run hq)
    clear hp hi hq
    generalize Idlep.PgSt.p _ = z at HG
    go_enter Tryz.func60, Tryz.ntmps60
    go_wp2_with fail
    refine HG.out.mono ?_
    rintro e1 w1 ⟨rfl, rfl⟩
    go_wp2
    go_ret
    exact ⟨rfl, rfl⟩
  | rl1 u s =>
    have hq : (pgS lo l P T G who).at_ w e.2.1 u := hi
    show Calls _ _ _ w fun e w' => e = .returned (.int .i64 u.p) ∧ w = w'
    (simp only [soM, soRest, soR, Nat.reduceAdd, List.getElem?_cons_zero, List.getElem?_cons_succ] at y1 y3)
    have HG := hid (Idlep.pg_p_run hq)
    clear hp hi hq
    generalize Idlep.PgSt.p _ = z at HG
    go_enter Tryz.func60, Tryz.ntmps60
    go_wp2_with fail
    refine HG.out.mono ?_
    rintro e1 w1 ⟨rfl, rfl⟩
    go_wp2
    go_ret
    exact ⟨rfl, rfl⟩
  | sw => ((simp only [soM, soRest, soR, Nat.reduceAdd, List.getElem?_cons_zero, List.getElem?_cons_succ] at y1 y3); clear hp hi; go_enter Tryz.func60, Tryz.ntmps60; go_wp2; go_ret; exact ⟨rfl, rfl⟩)
  | ad => ((simp only [soM, soRest, soR, Nat.reduceAdd, List.getElem?_cons_zero, List.getElem?_cons_succ] at y1 y3); clear hp hi; go_enter Tryz.func60, Tryz.ntmps60; go_wp2; go_ret; exact ⟨rfl, rfl⟩)
  | ru v => ((simp only [soM, soRest, soR, Nat.reduceAdd, List.getElem?_cons_zero, List.getElem?_cons_succ] at y1 y3); clear hp hi; go_enter Tryz.func60, Tryz.ntmps60; go_wp2; go_ret; exact ⟨rfl, rfl⟩)
  | fr v => ((simp only [soM, soRest, soR, Nat.reduceAdd, List.getElem?_cons_zero, List.getElem?_cons_succ] at y1 y3); clear hp hi; go_enter Tryz.func60, Tryz.ntmps60; go_wp2; go_ret; exact ⟨rfl, rfl⟩)
  | id => ((simp only [soM, soRest, soR, Nat.reduceAdd, List.getElem?_cons_zero, List.getElem?_cons_succ] at y1 y3); clear hp hi; go_enter Tryz.func60, Tryz.ntmps60; go_wp2; go_ret; exact ⟨rfl, rfl⟩)
  | aq1 s => ((simp only [soM, soRest, soR, Nat.reduceAdd, List.getElem?_cons_zero, List.getElem?_cons_succ] at y1 y3); clear hp hi; go_enter Tryz.func60, Tryz.ntmps60; go_wp2; go_ret; exact ⟨rfl, rfl⟩)
  | st v => ((simp only [soM, soRest, soR, Nat.reduceAdd, List.getElem?_cons_zero, List.getElem?_cons_succ] at y1 y3); clear hp hi; go_enter Tryz.func60, Tryz.ntmps60; go_wp2; go_ret; exact ⟨rfl, rfl⟩)
  | wt => ((simp only [soM, soRest, soR, Nat.reduceAdd, List.getElem?_cons_zero, List.getElem?_cons_succ] at y1 y3); clear hp hi; go_enter Tryz.func60, Tryz.ntmps60; go_wp2; go_ret; exact ⟨rfl, rfl⟩)
  | aq2 s => ((simp only [soM, soRest, soR, Nat.reduceAdd, List.getElem?_cons_zero, List.getElem?_cons_succ] at y1 y3); clear hp hi; go_enter Tryz.func60, Tryz.ntmps60; go_wp2; go_ret; exact ⟨rfl, rfl⟩)
  | rl2 v s => ((simp only [soM, soRest, soR, Nat.reduceAdd, List.getElem?_cons_zero, List.getElem?_cons_succ] at y1 y3); clear hp hi; go_enter Tryz.func60, Tryz.ntmps60; go_wp2; go_ret; exact ⟨rfl, rfl⟩)
  | ho v => ((simp only [soM, soRest, soR, Nat.reduceAdd, List.getElem?_cons_zero, List.getElem?_cons_succ] at y1 y3); clear hp hi; go_enter Tryz.func60, Tryz.ntmps60; go_wp2; go_ret; exact ⟨rfl, rfl⟩)
  | fh v => ((simp only [soM, soRest, soR, Nat.reduceAdd, List.getElem?_cons_zero, List.getElem?_cons_succ] at y1 y3); clear hp hi; go_enter Tryz.func60, Tryz.ntmps60; go_wp2; go_ret; exact ⟨rfl, rfl⟩)
  | qp s => ((simp only [soM, soRest, soR, Nat.reduceAdd, List.getElem?_cons_zero, List.getElem?_cons_succ] at y1 y3); clear hp hi; go_enter Tryz.func60, Tryz.ntmps60; go_wp2; go_ret; exact ⟨rfl, rfl⟩)
  | rl3 s => ((simp only [soM, soRest, soR, Nat.reduceAdd, List.getElem?_cons_zero, List.getElem?_cons_succ] at y1 y3); clear hp hi; go_enter Tryz.func60, Tryz.ntmps60; go_wp2; go_ret; exact ⟨rfl, rfl⟩)
  | fq => ((simp only [soM, soRest, soR, Nat.reduceAdd, List.getElem?_cons_zero, List.getElem?_cons_succ] at y1 y3); clear hp hi; go_enter Tryz.func60, Tryz.ntmps60; go_wp2; go_ret; exact ⟨rfl, rfl⟩)
theorem so_h_run (hA : (soM lo l P T G who o n).at_ lo l x P T G who w st) :
    Calls Tryz.prog 70 #[.pointer (some ⟨x, 0, none⟩)] w fun e w' => Lists w (soHeld n st) e w' := by
  obtain ⟨⟨e, hp, hi⟩, _⟩ := hA
  have y2 := hp.rest_ 2
  have y6 := hp.rest_ 6
  have y8 := hp.rest_ 8
  cases st with
  | qp s =>
    have hq : (qpS lo l P T G who [n]).at_ w e.1 s := hp.2.1
    show Calls _ _ _ w fun e w' => Lists w (qpH [n] s) e w'
    (simp only [soM, soRest, soR, Nat.reduceAdd, List.getElem?_cons_zero, List.getElem?_cons_succ] at y2 y6 y8)
    have HG := hid (qp_h_run hq (by simp))
    clear hp hi hq
    go_enter Tryz.func70, Tryz.ntmps70
    go_wp2_with fail
    refine HG.out.mono ?_
    rintro e1 w1 ⟨a', c', rfl, hr, hb⟩
    have HR := hid (And.intro hr hb)
    clear hr hb
    go_wp2
    go_ret
    exact ⟨a', c', rfl, HR.out⟩
  | rl3 s =>
    have hq : (qpS lo l P T G who [n]).at_ w e.2.2 .done := hi
    show Calls _ _ _ w fun e w' => Lists w (qpH [n] .done) e w'
    (simp only [soM, soRest, soR, Nat.reduceAdd, List.getElem?_cons_zero, List.getElem?_cons_succ] at y2 y6 y8)
    have HG := hid (qp_h_run hq (by simp))
    clear hp hi hq
    go_enter Tryz.func70, Tryz.ntmps70
    go_wp2_with fail
    refine HG.out.mono ?_
    rintro e1 w1 ⟨a', c', rfl, hr, hb⟩
    have HR := hid (And.intro hr hb)
    clear hr hb
    go_wp2
    go_ret
    exact ⟨a', c', rfl, HR.out⟩
  | fq =>
    have hq : (qpS lo l P T G who [n]).at_ w e.2.2 .done := hi
    show Calls _ _ _ w fun e w' => Lists w (qpH [n] .done) e w'
    (simp only [soM, soRest, soR, Nat.reduceAdd, List.getElem?_cons_zero, List.getElem?_cons_succ] at y2 y6 y8)
    have HG := hid (qp_h_run hq (by simp))
    clear hp hi hq
    go_enter Tryz.func70, Tryz.ntmps70
    go_wp2_with fail
    refine HG.out.mono ?_
    rintro e1 w1 ⟨a', c', rfl, hr, hb⟩
    have HR := hid (And.intro hr hb)
    clear hr hb
    go_wp2
    go_ret
    exact ⟨a', c', rfl, HR.out⟩
  | aq2 s => ((simp only [soM, soRest, soR, Nat.reduceAdd, List.getElem?_cons_zero, List.getElem?_cons_succ] at y2 y6 y8); clear hp hi; have hr := lit1 w n; have hb := below_one w (.cells #[.int .i64 n] 3); have HR := hid (And.intro hr hb); clear hr hb; go_enter Tryz.func70, Tryz.ntmps70; go_wp2; go_ret; exact ⟨_, 1, rfl, HR.out⟩)
  | gt2 s => ((simp only [soM, soRest, soR, Nat.reduceAdd, List.getElem?_cons_zero, List.getElem?_cons_succ] at y2 y6 y8); clear hp hi; have hr := lit1 w n; have hb := below_one w (.cells #[.int .i64 n] 3); have HR := hid (And.intro hr hb); clear hr hb; go_enter Tryz.func70, Tryz.ntmps70; go_wp2; go_ret; exact ⟨_, 1, rfl, HR.out⟩)
  | rl2 v s => ((simp only [soM, soRest, soR, Nat.reduceAdd, List.getElem?_cons_zero, List.getElem?_cons_succ] at y2 y6 y8); clear hp hi; have hr := lit1 w n; have hb := below_one w (.cells #[.int .i64 n] 3); have HR := hid (And.intro hr hb); clear hr hb; go_enter Tryz.func70, Tryz.ntmps70; go_wp2; go_ret; exact ⟨_, 1, rfl, HR.out⟩)
  | ho v => ((simp only [soM, soRest, soR, Nat.reduceAdd, List.getElem?_cons_zero, List.getElem?_cons_succ] at y2 y6 y8); clear hp hi; have hr := lit1 w n; have hb := below_one w (.cells #[.int .i64 n] 3); have HR := hid (And.intro hr hb); clear hr hb; go_enter Tryz.func70, Tryz.ntmps70; go_wp2; go_ret; exact ⟨_, 1, rfl, HR.out⟩)
  | fh v => ((simp only [soM, soRest, soR, Nat.reduceAdd, List.getElem?_cons_zero, List.getElem?_cons_succ] at y2 y6 y8); clear hp hi; have hr := lit1 w n; have hb := below_one w (.cells #[.int .i64 n] 3); have HR := hid (And.intro hr hb); clear hr hb; go_enter Tryz.func70, Tryz.ntmps70; go_wp2; go_ret; exact ⟨_, 1, rfl, HR.out⟩)
  | sw => ((simp only [soM, soRest, soR, Nat.reduceAdd, List.getElem?_cons_zero, List.getElem?_cons_succ] at y2 y6 y8); clear hp hi; go_enter Tryz.func70, Tryz.ntmps70; go_wp2; go_ret; exact lists_nil w)
  | ad => ((simp only [soM, soRest, soR, Nat.reduceAdd, List.getElem?_cons_zero, List.getElem?_cons_succ] at y2 y6 y8); clear hp hi; go_enter Tryz.func70, Tryz.ntmps70; go_wp2; go_ret; exact lists_nil w)
  | ru v => ((simp only [soM, soRest, soR, Nat.reduceAdd, List.getElem?_cons_zero, List.getElem?_cons_succ] at y2 y6 y8); clear hp hi; go_enter Tryz.func70, Tryz.ntmps70; go_wp2; go_ret; exact lists_nil w)
  | fr v => ((simp only [soM, soRest, soR, Nat.reduceAdd, List.getElem?_cons_zero, List.getElem?_cons_succ] at y2 y6 y8); clear hp hi; go_enter Tryz.func70, Tryz.ntmps70; go_wp2; go_ret; exact lists_nil w)
  | id => ((simp only [soM, soRest, soR, Nat.reduceAdd, List.getElem?_cons_zero, List.getElem?_cons_succ] at y2 y6 y8); clear hp hi; go_enter Tryz.func70, Tryz.ntmps70; go_wp2; go_ret; exact lists_nil w)
  | aq1 s => ((simp only [soM, soRest, soR, Nat.reduceAdd, List.getElem?_cons_zero, List.getElem?_cons_succ] at y2 y6 y8); clear hp hi; go_enter Tryz.func70, Tryz.ntmps70; go_wp2; go_ret; exact lists_nil w)
  | gt1 s => ((simp only [soM, soRest, soR, Nat.reduceAdd, List.getElem?_cons_zero, List.getElem?_cons_succ] at y2 y6 y8); clear hp hi; go_enter Tryz.func70, Tryz.ntmps70; go_wp2; go_ret; exact lists_nil w)
  | rl1 u s => ((simp only [soM, soRest, soR, Nat.reduceAdd, List.getElem?_cons_zero, List.getElem?_cons_succ] at y2 y6 y8); clear hp hi; go_enter Tryz.func70, Tryz.ntmps70; go_wp2; go_ret; exact lists_nil w)
  | st v => ((simp only [soM, soRest, soR, Nat.reduceAdd, List.getElem?_cons_zero, List.getElem?_cons_succ] at y2 y6 y8); clear hp hi; go_enter Tryz.func70, Tryz.ntmps70; go_wp2; go_ret; exact lists_nil w)
  | wt => ((simp only [soM, soRest, soR, Nat.reduceAdd, List.getElem?_cons_zero, List.getElem?_cons_succ] at y2 y6 y8); clear hp hi; go_enter Tryz.func70, Tryz.ntmps70; go_wp2; go_ret; exact lists_nil w)
end
theorem so_c_nil (w : World) : Calls Tryz.prog 67 #[.pointer none] w fun e w' => e = .returned (.bool false) ∧ w = w' := by
  go_enter Tryz.func67, Tryz.ntmps67
  go_wp2
  go_ret
  exact ⟨rfl, rfl⟩
theorem so_r_nil (w : World) : Calls Tryz.prog 63 #[.pointer none] w fun e w' => e = .returned (.bool false) ∧ w = w' := by
  go_enter Tryz.func63, Tryz.ntmps63
  go_wp2
  go_ret
  exact ⟨rfl, rfl⟩
theorem so_p_nil (w : World) : Calls Tryz.prog 60 #[.pointer none] w fun e w' => e = .returned (.int .i64 (-1)) ∧ w = w' := by
  go_enter Tryz.func60, Tryz.ntmps60
  go_wp2
  go_ret
  exact ⟨rfl, rfl⟩
theorem so_h_nil (w : World) : Calls Tryz.prog 70 #[.pointer none] w fun e w' => e = .returned (.slice none 0 0) ∧ w = w' := by
  go_enter Tryz.func70, Tryz.ntmps70
  go_wp2
  go_ret
  exact ⟨rfl, rfl⟩
/-- Going in. -/
inductive SiSt
  | a
  | b
  | c
  | done
def siNext : SiSt → Int → SiSt
  | .a, _ => .b
  | .b, _ => .c
  | .c, _ => .done
  | .done, _ => .done
def siNx (P T G pq n : Int) : SiSt → Nx
  | .a => .store (gg P T G n 0) 4 225
  | .b => .add (pr P pq 5) 1 260
  | .c => .store (pr P pq 0) 2 294
  | .done => .done
def siWent : SiSt → Bool
  | .a => false
  | _ => true
def siR (l : Nat) (pq : Int) (wt : Bool) : List Value := [.pointer (some ⟨l, 0, none⟩), .int .i64 pq, .bool wt]
def siM (l : Nat) (P T G pq n : Int) : Mch SiSt := ⟨268, siNx P T G pq n, fun st => siR l pq (siWent st), siNext, fun _ => True⟩
theorem si_new_run (l : Nat) (P T G who : Int) (pq n : Int) (w : World) (hL : Lay w l P T G) :
    Calls Tryz.prog 163 #[.pointer (some ⟨l, 0, none⟩), .int .i64 who, .int .i64 pq, .int .i64 n] w fun e w' => e = .returned (.pointer (some ⟨w.heap.size, 0, none⟩)) ∧ Pend w' w.heap.size who (siR l pq false) 268 (.store (gg P T G n 0) 4 225) ∧ Below w.heap.size w w' := by
  have h0 : FlAt (w.alloc (.cells (fl fl0 ++ siR l pq false).toArray 268)) w.heap.size fl0 (siR l pq false) 268 := Blk.new w _ _
  have hL0 := hL.quiet (below_one w (.cells (fl fl0 ++ siR l pq false).toArray 268))
  have hlx : l ≠ w.heap.size := Nat.ne_of_lt hL.1.lt
  clear hL
  go_enter Tryz.func163, Tryz.ntmps163
  go_wp2_with fail
  refine (iof_run h0 who).mono ?_
  rintro e w1 ⟨rfl, hp, hK⟩
  have hL1 := hL0.kept hK (by simpa using hlx)
  have hlow : Below w.heap.size w w1 := (below_one _ _).trans (hK.below (by simp) (by simp))
  have HI := hid (MI.start hp hL1).drew
  clear h0 hL0 hp hL1 hK
  go_wp2_with fail
  refine wp_region_T 8 (fun w' => MI w1 w' w.heap.size who (siR l pq false) 268 l P T G) (fun w' => Pend w' w.heap.size who (siR l pq false) 268 (.store (gg P T G n 0) 4 225) ∧ Kept [w.heap.size] w1 w') (by kernel_rfl) (by kernel_rfl) rfl (by kernel_rfl) HI.out ?_
  clear HI
  (repeat (first | (apply walkD_pure; rfl; rfl; (intro _; go_simp; first | done | rfl); (intro K hK; go_simp; refine hK _ ?_; clear hK K)) | (apply walkD_skip; rfl; rfl; (intro K hK; go_simp; refine hK _ ?_; clear hK K)) | (apply walkD_read1 [false] (by kernel_rfl); rfl; rfl; (intro w' hD; (have y0 := hD.pend.idle.rest 0; have y1 := hD.pend.idle.rest 1; have y2 := hD.pend.idle.rest 2; simp only [siR, Nat.reduceAdd, Nat.zero_add, List.getElem?_cons_zero, List.getElem?_cons_succ] at y0 y1 y2); go_simp; rfl); (intro K hK; go_simp; refine hK _ ?_; clear hK K)) | (apply walkD_call1 [false] (by kernel_rfl); rfl; (intro _; go_simp; first | rfl | exact ⟨rfl, rfl⟩); (intro w' hD; first | (go_at_call 25; refine (proc_run _ _ _ _ _ _ _ hD.lay).mono ?_; rintro e w2 ⟨rfl, hb⟩; exact ⟨rfl, hD.quiet hb⟩) | (go_at_call 76; refine (thread_run _ _ _ _ _ _ _ hD.lay).mono ?_; rintro e w2 ⟨rfl, hb⟩; exact ⟨rfl, hD.quiet hb⟩) | (go_at_call 255; refine (ring_run _ _ _ _ _ _ (by assumption) _ hD.lay).mono ?_; rintro e w2 ⟨rfl, hb⟩; exact ⟨rfl, hD.quiet hb⟩) | (go_at_call 168; refine (g_run _ _ _ _ _ _ _ hD.lay).mono ?_; rintro e w2 ⟨rfl, hb⟩; exact ⟨rfl, hD.quiet hb⟩) | (go_at_call 133; refine (word_run _ 0 0 0 _ _).mono ?_; rintro e w2 ⟨rfl, rfl⟩; exact ⟨rfl, hD⟩) | (go_at_call 183; refine (iload_run hD.pend.idle _ _).mono ?_; rintro e w2 ⟨rfl, hP, hK⟩; exact ⟨rfl, hP, hD.kept.trans hK (by intro i hi; exact .inl hi)⟩) | (go_at_call 132; refine (iadd_run hD.pend.idle _ _ _).mono ?_; rintro e w2 ⟨rfl, hP, hK⟩; exact ⟨rfl, hP, hD.kept.trans hK (by intro i hi; exact .inl hi)⟩) | (go_at_call 188; refine (istore_run hD.pend.idle _ _ _).mono ?_; rintro e w2 ⟨rfl, hP, hK⟩; exact ⟨rfl, hP, hD.kept.trans hK (by intro i hi; exact .inl hi)⟩) | (go_at_call 166; refine (iswap_run hD.pend.idle _ _ _ _).mono ?_; rintro e w2 ⟨rfl, hP, hK⟩; exact ⟨rfl, hP, hD.kept.trans hK (by intro i hi; exact .inl hi)⟩)); (intro K hK; go_simp; refine hK _ ?_; clear hK K))))
  rintro w2 ⟨h1, h2⟩
  go_wp2
  go_ret
  exact ⟨rfl, h1, hlow.trans (h2.below (by simp) hlow.size)⟩
theorem si_goes__run (x l : Nat) (P T G who : Int) (pq : Int) (w : World)  (hp : Pend w x who (siR l pq false) 268 .done) (hL : Lay w l P T G) :
    Calls Tryz.prog 225 #[.pointer (some ⟨x, 0, none⟩)] w fun e w' => (∃ r, e = .returned r) ∧ Pend w' x who (siR l pq true) 268 (.add (pr P pq 5) 1 260) ∧ Kept [x] w w' := by
  have HI := hid ((MI.start hp hL).put (by decide) 2 (.bool true)).drew
  have hf := hp.idle.frozen
  (have y0 := hp.idle.rest 0; have y1 := hp.idle.rest 1; have y2 := hp.idle.rest 2; simp only [siR, Nat.reduceAdd, Nat.zero_add, List.getElem?_cons_zero, List.getElem?_cons_succ] at y0 y1 y2)
  clear hp hL
  go_enter Tryz.func225, Tryz.ntmps225
  go_wp2_with fail
  refine wp_region_T 14 (fun w' => MI w w' x who (siR l pq true) 268 l P T G) (fun w' => Pend w' x who (siR l pq true) 268 (.add (pr P pq 5) 1 260) ∧ Kept [x] w w') (by kernel_rfl) (by kernel_rfl) rfl (by kernel_rfl) HI.out ?_
  clear HI
  (repeat (first | (apply walkD_pure; rfl; rfl; (intro _; go_simp; first | done | rfl); (intro K hK; go_simp; refine hK _ ?_; clear hK K)) | (apply walkD_skip; rfl; rfl; (intro K hK; go_simp; refine hK _ ?_; clear hK K)) | (apply walkD_read1 [false] (by kernel_rfl); rfl; rfl; (intro w' hD; (have y0 := hD.pend.idle.rest 0; have y1 := hD.pend.idle.rest 1; have y2 := hD.pend.idle.rest 2; simp only [siR, Nat.reduceAdd, Nat.zero_add, List.getElem?_cons_zero, List.getElem?_cons_succ] at y0 y1 y2); go_simp; rfl); (intro K hK; go_simp; refine hK _ ?_; clear hK K)) | (apply walkD_call1 [false] (by kernel_rfl); rfl; (intro _; go_simp; first | rfl | exact ⟨rfl, rfl⟩); (intro w' hD; first | (go_at_call 25; refine (proc_run _ _ _ _ _ _ _ hD.lay).mono ?_; rintro e w2 ⟨rfl, hb⟩; exact ⟨rfl, hD.quiet hb⟩) | (go_at_call 76; refine (thread_run _ _ _ _ _ _ _ hD.lay).mono ?_; rintro e w2 ⟨rfl, hb⟩; exact ⟨rfl, hD.quiet hb⟩) | (go_at_call 255; refine (ring_run _ _ _ _ _ _ (by assumption) _ hD.lay).mono ?_; rintro e w2 ⟨rfl, hb⟩; exact ⟨rfl, hD.quiet hb⟩) | (go_at_call 168; refine (g_run _ _ _ _ _ _ _ hD.lay).mono ?_; rintro e w2 ⟨rfl, hb⟩; exact ⟨rfl, hD.quiet hb⟩) | (go_at_call 133; refine (word_run _ 0 0 0 _ _).mono ?_; rintro e w2 ⟨rfl, rfl⟩; exact ⟨rfl, hD⟩) | (go_at_call 183; refine (iload_run hD.pend.idle _ _).mono ?_; rintro e w2 ⟨rfl, hP, hK⟩; exact ⟨rfl, hP, hD.kept.trans hK (by intro i hi; exact .inl hi)⟩) | (go_at_call 132; refine (iadd_run hD.pend.idle _ _ _).mono ?_; rintro e w2 ⟨rfl, hP, hK⟩; exact ⟨rfl, hP, hD.kept.trans hK (by intro i hi; exact .inl hi)⟩) | (go_at_call 188; refine (istore_run hD.pend.idle _ _ _).mono ?_; rintro e w2 ⟨rfl, hP, hK⟩; exact ⟨rfl, hP, hD.kept.trans hK (by intro i hi; exact .inl hi)⟩) | (go_at_call 166; refine (iswap_run hD.pend.idle _ _ _ _).mono ?_; rintro e w2 ⟨rfl, hP, hK⟩; exact ⟨rfl, hP, hD.kept.trans hK (by intro i hi; exact .inl hi)⟩)); (intro K hK; go_simp; refine hK _ ?_; clear hK K))))
  (rintro w2 ⟨h1, h2⟩; go_wp2; go_returns; exact ⟨⟨_, rfl⟩, h1, h2⟩)
theorem si_counted_run (x l : Nat) (P T G who : Int) (pq v : Int) (w : World)  (hp : Pend w x who (siR l pq true) 268 .done) (hL : Lay w l P T G) :
    Calls Tryz.prog 260 #[.pointer (some ⟨x, 0, none⟩), .int .u64 v] w fun e w' => (∃ r, e = .returned r) ∧ Pend w' x who (siR l pq true) 268 (.store (pr P pq 0) 2 294) ∧ Kept [x] w w' := by
  have HI := hid (MI.start hp hL).drew
  have hf := hp.idle.frozen
  (have y0 := hp.idle.rest 0; have y1 := hp.idle.rest 1; have y2 := hp.idle.rest 2; simp only [siR, Nat.reduceAdd, Nat.zero_add, List.getElem?_cons_zero, List.getElem?_cons_succ] at y0 y1 y2)
  clear hp hL
  go_enter Tryz.func260, Tryz.ntmps260
  go_wp2_with fail
  refine wp_region_T 14 (fun w' => MI w w' x who (siR l pq true) 268 l P T G) (fun w' => Pend w' x who (siR l pq true) 268 (.store (pr P pq 0) 2 294) ∧ Kept [x] w w') (by kernel_rfl) (by kernel_rfl) rfl (by kernel_rfl) HI.out ?_
  clear HI
  (repeat (first | (apply walkD_pure; rfl; rfl; (intro _; go_simp; first | done | rfl); (intro K hK; go_simp; refine hK _ ?_; clear hK K)) | (apply walkD_skip; rfl; rfl; (intro K hK; go_simp; refine hK _ ?_; clear hK K)) | (apply walkD_read1 [false] (by kernel_rfl); rfl; rfl; (intro w' hD; (have y0 := hD.pend.idle.rest 0; have y1 := hD.pend.idle.rest 1; have y2 := hD.pend.idle.rest 2; simp only [siR, Nat.reduceAdd, Nat.zero_add, List.getElem?_cons_zero, List.getElem?_cons_succ] at y0 y1 y2); go_simp; rfl); (intro K hK; go_simp; refine hK _ ?_; clear hK K)) | (apply walkD_call1 [false] (by kernel_rfl); rfl; (intro _; go_simp; first | rfl | exact ⟨rfl, rfl⟩); (intro w' hD; first | (go_at_call 25; refine (proc_run _ _ _ _ _ _ _ hD.lay).mono ?_; rintro e w2 ⟨rfl, hb⟩; exact ⟨rfl, hD.quiet hb⟩) | (go_at_call 76; refine (thread_run _ _ _ _ _ _ _ hD.lay).mono ?_; rintro e w2 ⟨rfl, hb⟩; exact ⟨rfl, hD.quiet hb⟩) | (go_at_call 255; refine (ring_run _ _ _ _ _ _ (by assumption) _ hD.lay).mono ?_; rintro e w2 ⟨rfl, hb⟩; exact ⟨rfl, hD.quiet hb⟩) | (go_at_call 168; refine (g_run _ _ _ _ _ _ _ hD.lay).mono ?_; rintro e w2 ⟨rfl, hb⟩; exact ⟨rfl, hD.quiet hb⟩) | (go_at_call 133; refine (word_run _ 0 0 0 _ _).mono ?_; rintro e w2 ⟨rfl, rfl⟩; exact ⟨rfl, hD⟩) | (go_at_call 183; refine (iload_run hD.pend.idle _ _).mono ?_; rintro e w2 ⟨rfl, hP, hK⟩; exact ⟨rfl, hP, hD.kept.trans hK (by intro i hi; exact .inl hi)⟩) | (go_at_call 132; refine (iadd_run hD.pend.idle _ _ _).mono ?_; rintro e w2 ⟨rfl, hP, hK⟩; exact ⟨rfl, hP, hD.kept.trans hK (by intro i hi; exact .inl hi)⟩) | (go_at_call 188; refine (istore_run hD.pend.idle _ _ _).mono ?_; rintro e w2 ⟨rfl, hP, hK⟩; exact ⟨rfl, hP, hD.kept.trans hK (by intro i hi; exact .inl hi)⟩) | (go_at_call 166; refine (iswap_run hD.pend.idle _ _ _ _).mono ?_; rintro e w2 ⟨rfl, hP, hK⟩; exact ⟨rfl, hP, hD.kept.trans hK (by intro i hi; exact .inl hi)⟩)); (intro K hK; go_simp; refine hK _ ?_; clear hK K))))
  (rintro w2 ⟨h1, h2⟩; go_wp2; go_returns; exact ⟨⟨_, rfl⟩, h1, h2⟩)
theorem si_ends_run (x : Nat) (who : Int) (rest : List Value) (T : TypeId) (w : World) (hp : Pend w x who rest T .done) : Calls Tryz.prog 294 #[.pointer (some ⟨x, 0, none⟩)] w fun e w' => (∃ r, e = .returned r) ∧ Pend w' x who rest T .done ∧ Kept [x] w w' := by
  have HP := hid hp
  clear hp
  go_enter Tryz.func294, Tryz.ntmps294
  go_wp2
  go_returns
  exact ⟨⟨_, rfl⟩, HP.out, Kept.refl _ _⟩
theorem si_goes (l x : Nat) (P T G who pq n : Int) : Goes (siM l P T G pq n) l x P T G who := by
  refine ⟨by show ∀ T ∈ ownT 268, _; decide, by show 268 ≠ _ ∧ 268 ≠ _ ∧ 268 ≠ _; decide, ?_, ?_, ?_, ?_⟩
  · intro st hok
    cases st <;> simp [siM, siNx, Nx.val]
  · intro st a hok ha
    trivial
  · intro st hst
    cases st with
    | a => exact enters_of Tryz.func225 (by kernel_rfl) rfl
    | b => exact enters_of Tryz.func260 (by kernel_rfl) rfl
    | c => exact enters_of Tryz.func294 (by kernel_rfl) rfl
    | done => exact absurd rfl hst
  · intro st v w hst hok hv hpe hL
    cases st with
    | a => exact si_goes__run x l P T G who pq w hpe hL
    | b => exact si_counted_run x l P T G who pq v w hpe hL
    | c => exact si_ends_run x who _ _ w hpe
    | done => exact absurd rfl hst
theorem sistep_run (lo l x m g : Nat) (P T G who : Int) (pq n : Int) {st : _} {s : St} {w : World} (hgo : Goes (siM l P T G pq n) l x P T G who) (hA : Mch.at_ (siM l P T G pq n) lo l x P T G who w st) (hM : MemAt w m g s) (hc : s.clock < 1000000) (hbd : s.bad < 1000000) :
    Calls Tryz.prog 164 #[.pointer (some ⟨x, 0, none⟩), .pointer (some ⟨m, 0, none⟩)] w fun e w' => (∃ b, e = .returned (.bool b)) ∧ Mch.at_ (siM l P T G pq n) lo l x P T G who w' (stepOf (Mch.sys (siM l P T G pq n)) who st s).1 ∧ MemAt w' m g (stepOf (Mch.sys (siM l P T G pq n)) who st s).2 ∧ KeptOwn (ownT 268) lo m g w w' := by
  obtain ⟨cs, hb⟩ := hA.1.blk
  have h2 := hA.2.1
  have H := hid (mch_fstep hgo hA hM hc hbd)
  have HK := hid (fun (w' : World) (hK : Kept [x, m, g] w w') => mch_kept (K := siM l P T G pq n) h2 hb hK)
  clear hA hM hb hgo
  obtain ⟨q, hq⟩ : ∃ q, q = stepOf (Mch.sys (siM l P T G pq n)) who st s := ⟨_, rfl⟩
  rw [← hq] at H ⊢
  obtain ⟨o, ho⟩ : ∃ o, o = (Mch.nx (siM l P T G pq n) q.1).over := ⟨_, rfl⟩
  rw [← ho] at H
  clear hq ho
  go_enter Tryz.func164, Tryz.ntmps164
  go_wp2_with fail
  refine H.out.mono ?_
  rintro e w1 ⟨rfl, h1, h2, h3⟩
  have HX := hid (And.intro h1 (And.intro h2 (HK.out w1 h3)))
  clear h1 h2 h3
  go_wp2
  go_ret
  exact ⟨⟨_, rfl⟩, HX.out⟩
theorem sistep_nil (m : Option Addr) (w : World) : Calls Tryz.prog 164 #[.pointer none, .pointer m] w fun e w' => e = .returned (.bool true) ∧ w = w' := by
  go_enter Tryz.func164, Tryz.ntmps164
  go_wp2
  go_ret
  exact ⟨rfl, rfl⟩
theorem si_w_run {lo l x : Nat} {P T G who pq n : Int} {st : SiSt} {w : World} (hA : Mch.at_ (siM l P T G pq n) lo l x P T G who w st) :
    Calls Tryz.prog 165 #[.pointer (some ⟨x, 0, none⟩)] w fun e w' => e = .returned (.bool (siWent st)) ∧ w = w' := by
  have y2 := hA.1.idle.rest 2
  have e1 : w.cell? ⟨x, 11, none⟩ = some (.bool (siWent st)) := y2
  obtain ⟨z, hz⟩ : ∃ z, z = siWent st := ⟨_, rfl⟩
  rw [← hz] at e1 ⊢
  clear hA y2 hz
  cases z with
  | true => go_enter Tryz.func165, Tryz.ntmps165; go_wp2; go_ret; exact ⟨rfl, rfl⟩
  | false => go_enter Tryz.func165, Tryz.ntmps165; go_wp2; go_ret; exact ⟨rfl, rfl⟩
theorem si_w_nil (w : World) : Calls Tryz.prog 165 #[.pointer none] w fun e w' => e = .returned (.bool false) ∧ w = w' := by
  go_enter Tryz.func165, Tryz.ntmps165
  go_wp2
  go_ret
  exact ⟨rfl, rfl⟩
end Go.Proofs.YtlhnnggceebpjaaGreat.Sysc
