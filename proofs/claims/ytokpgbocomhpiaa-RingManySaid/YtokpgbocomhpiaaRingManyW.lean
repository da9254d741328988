/- The walk of RingMany. -/
import Derived.Test.YtokpgbocomhpiaaRingB
set_option maxRecDepth 100000
set_option maxHeartbeats 4000000
set_option linter.unusedVariables false
set_option linter.unusedSimpArgs false
namespace Go.Proofs.Ytokpgbocomhpiaa.Ring
open Go.RowKit Go.Shelf Go.Proofs.Ytokpgbocomhpiaa.TK Go.Proofs.Ytokpgbocomhpiaa.Flag Go.Proofs.Ytokpgbocomhpiaa.Words Go.Proofs.Ytokpgbocomhpiaa.Mem Go.Proofs.Ytokpgbocomhpiaa.Flow Go.Proofs.Ytokpgbocomhpiaa.Layout Go.Proofs.Ytokpgbocomhpiaa.Lock Go.Proofs.Ytokpgbocomhpiaa.Run Go.Proofs.Ytokpgbocomhpiaa.Sys Go.Proofs.Ytokpgbocomhpiaa.Mach Go.Proofs.Ytokpgbocomhpiaa.Doc Go.Proofs.Ytokpgbocomhpiaa.Ref05
theorem ring_many_walk (w : World) (h : Int) (wh : (Lit.int .u64 h).wf = true) (t : Int) (wt : (Lit.int .u64 t).wf = true) :
    Calls Try.prog 10 #[.int .u64 h, .int .u64 t] w fun e w' => e = .returned (.bool true) ∧ Below w.heap.size w w' := by
  have hh := wf_u64 wh
  have ht := wf_u64 wt
  clear wh wt
  have hh0 := hh.1
  have ht0 := ht.1
  obtain ⟨tb, htb⟩ : ∃ tb, tb = t % 4294967296 := ⟨_, rfl⟩
  have e2 : t.tmod 4294967296 = tb := by rw [htb]; exact Int.tmod_eq_emod_of_nonneg ht.1
  have rb : 0 ≤ tb ∧ tb < 4294967296 := by omega
  have hm1 : manyOf h (tb + 1) = (manyOf h t + 1) % 4294967296 := by unfold manyOf; omega
  have hm2 : manyOf h h = 0 := by unfold manyOf; omega
  have hm3 : 0 ≤ manyOf h t ∧ manyOf h t < 4294967296 := by unfold manyOf; omega
  have H1 := hid (fun w => many_run h t w hh ht)
  have H2 := hid (fun w => rmany_run h t w hh ht)
  have H3 := hid (fun w => many_run h (tb + 1) w hh (by omega))
  have H4 := hid (fun w => many_run h h w hh hh)
  rw [hm1] at H3
  rw [hm2] at H4
  obtain ⟨n, hn⟩ : ∃ n, n = manyOf h t := ⟨_, rfl⟩
  rw [← hn] at H1 H2 H3 hm3
  have e3 : (n + 1).tmod 4294967296 = (n + 1) % 4294967296 := Int.tmod_eq_emod_of_nonneg (by omega)
  obtain ⟨m1, hm⟩ : ∃ m1, m1 = (n + 1) % 4294967296 := ⟨_, rfl⟩
  rw [← hm] at H3 e3
  have hm' := hm.symm
  have htb' := htb.symm
  have d1 : decide (n < 4294967296) = true := decide_eq_true hm3.2
  clear hm hm1 hm2 hn htb
  go_enter Try.func10, Try.ntmps10
  go_wp2_with (first | (go_at_call 57; refine (awake_run _).mono ?_; rintro e w1 ⟨rfl, hb⟩) | (go_at_call 58; refine (H2.out _).mono ?_; rintro e w2 ⟨rfl, rfl⟩) | (go_at_call 56; first | (with_reducible refine (H1.out _).mono ?_; rintro e w2 ⟨rfl, rfl⟩) | (with_reducible refine (H4.out _).mono ?_; rintro e w2 ⟨rfl, rfl⟩) | (with_reducible refine (H3.out _).mono ?_; rintro e w2 ⟨rfl, rfl⟩)))
  go_ret
  exact ⟨rfl, hb⟩
end Go.Proofs.Ytokpgbocomhpiaa.Ring
