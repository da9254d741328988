/- The words of a ring, and the goroutines that they tell of. -/
import Derived.Test.YtnmkfmaohflejaaBase6
set_option maxRecDepth 100000
set_option maxHeartbeats 4000000
set_option linter.unusedVariables false
set_option linter.unusedSimpArgs false
namespace Go.Proofs.Ytnmkfmaohflejaa.Gs
open Go.Proofs.Ytnmkfmaohflejaa.Ring hiding pr
open Go.RowKit Go.Shelf Go.Proofs.Ytnmkfmaohflejaa.TK Go.Proofs.Ytnmkfmaohflejaa.Flag Go.Proofs.Ytnmkfmaohflejaa.Read Go.Proofs.Ytnmkfmaohflejaa.Grow Go.Proofs.Ytnmkfmaohflejaa.Words Go.Proofs.Ytnmkfmaohflejaa.Mem Go.Proofs.Ytnmkfmaohflejaa.Flow Go.Proofs.Ytnmkfmaohflejaa.Layout Go.Proofs.Ytnmkfmaohflejaa.Lock Go.Proofs.Ytnmkfmaohflejaa.Run Go.Proofs.Ytnmkfmaohflejaa.Sys Go.Proofs.Ytnmkfmaohflejaa.Mach Go.Proofs.Ytnmkfmaohflejaa.Ref05 Go.Proofs.Ytnmkfmaohflejaa.MapL
theorem infoU : Elem Try.prog 31 (.int .u64 0) 1 8 := by unfold Elem; kernel_rfl
theorem encU_len (x : Int) : (encI .u64 x).length = 1 := rfl
theorem encU_one (x : Int) : ∀ u ∈ encI .u64 x, u.oneCell' = true := by intro u hu; simp [encI] at hu; subst hu; rfl
/-- How many words a ring's Head and Tail say, at most 256. -/
def ringN (s : St) (P p : Int) : Nat := (min (manyOf (s.peek (pr P p 1)).1 (s.peek (pr P p 2)).1) 256).toNat
def ringWord (s : St) (P p : Int) (k : Nat) : Int := (s.peek (rg P p (IntKind.u64.wrap ((s.peek (pr P p 1)).1 + (k : Int))))).1
def ringWs (s : St) (P p : Int) : List Int := (List.range (ringN s P p)).map (ringWord s P p)
theorem many_rng (a b : Int) : 0 ≤ manyOf a b ∧ manyOf a b < 4294967296 := by unfold manyOf; omega
theorem words_run (l m g : Nat) (P T G p : Int) (s : St) (w : World) (hL : Lay w l P T G) (hM : MemAt w m g s) :
    Calls Try.prog 125 #[.pointer (some ⟨l, 0, none⟩), .pointer (some ⟨m, 0, none⟩), .int .i64 p] w fun e w' => ∃ v, e = .returned (.tuple #[v, .int .u64 (s.peek (pr P p 3)).1]) ∧ Grow w' w.heap.size 31 1 (encI .u64) v (ringWs s P p) ∧ Below w.heap.size w w' := by
  have hr1 := Idlem.peek_range hM.wf (pr P p 1)
  have hr2 := Idlem.peek_range hM.wf (pr P p 2)
  have HI := hid (And.intro hL (And.intro hM (Below.refl w.heap.size w)))
  have H0 := hid (And.intro hL hM)
  obtain ⟨p1, hp1⟩ : ∃ q, q = s.peek (pr P p 1) := ⟨_, rfl⟩
  obtain ⟨p2, hp2⟩ : ∃ q, q = s.peek (pr P p 2) := ⟨_, rfl⟩
  obtain ⟨p3, hp3⟩ : ∃ q, q = s.peek (pr P p 3) := ⟨_, rfl⟩
  obtain ⟨mn, hmn⟩ : ∃ q, q = manyOf p1.1 p2.1 := ⟨_, rfl⟩
  obtain ⟨N, hN⟩ : ∃ N, N = ringN s P p := ⟨_, rfl⟩
  have hq : 0 ≤ mn := by rw [hmn]; exact (many_rng _ _).1
  have HNK := hid (show (List.range N).map (ringWord s P p) = ringWs s P p by rw [hN]; rfl)
  have hN2 : N = (min mn 256).toNat := by rw [hN, hmn, hp1, hp2]; rfl
  rw [← hp1] at hr1
  rw [← hp2] at hr2
  rw [← hp3]
  have HP1 := hid hp1
  have HP2 := hid hp2
  have HP3 := hid hp3
  have HMN := hid hmn
  have HR := hid (And.intro hr1 hr2)
  clear hL hM hp1 hp2 hp3 hr1 hr2 hmn hN
  by_cases c : 256 < mn
  · have HN := hid (show (N : Int) = 256 by omega)
    clear hN2 hq
    go_enter Try.func125, Try.ntmps125
    go_wp2_with (first | (go_at_call 83; refine (proc_run l P T G _ _ _ HI.out.1).mono ?_; rintro e w1 ⟨rfl, hb⟩; replace HI := hid (And.intro (HI.out.1.quiet hb) (And.intro (HI.out.2.1.quiet hb) (Below.then_ HI.out.2.2 hb))); clear hb) | (go_at_call 126; refine (many_run _ _ _ HR.out.1 HR.out.2).mono ?_; rintro e w1 ⟨rfl, rfl⟩; rw [← HMN.out]) | (go_at_call 16; refine (mpeek_run m g s _ _ HI.out.2.1).mono ?_; rintro e w1 ⟨rfl, rfl⟩; first | rw [show s.peek (placeN true 20 p P 264 1 8) = p1 from HP1.out.symm] | rw [show s.peek (placeN true 20 p P 264 2 8) = p2 from HP2.out.symm] | rw [show s.peek (placeN true 20 p P 264 3 8) = p3 from HP3.out.symm]))
    go_loopw [46, 14] (fun i o wr => ∃ k : Nat, k ≤ N ∧ i = .int .u64 (k : Int) ∧ Grow wr w.heap.size 31 1 (encI .u64) o ((List.range k).map (ringWord s P p)) ∧ Below w.heap.size w wr) (fun i _ _ => N - (intOf i).toNat)
    case atStart => exact ⟨0, Nat.zero_le _, rfl, Grow.nil _ _ _ _ _, HI.out.2.2⟩
    case round =>
      obtain ⟨k, hk, rfl, hG, hlow⟩ := hrel
      by_cases hlt : k < N
      · have hlt' : decide ((k : Int) < 256) = true := decide_eq_true (by have := HN.out; omega)
        have hk256 : k < 256 := by have := HN.out; omega
        have HL2 := hid (And.intro (H0.out.1.quiet hlow) (H0.out.2.quiet hlow))
        obtain ⟨v, hv⟩ : ∃ v, v = s.peek (rg P p (IntKind.u64.wrap (p1.1 + (k : Int)))) := ⟨_, rfl⟩
        have hvw : v.1 = ringWord s P p k := by rw [hv]; unfold ringWord; rw [← HP1.out]
        have HV := hid hv
        have hrr : 0 ≤ IntKind.u64.wrap (p1.1 + (k : Int)) ∧ IntKind.u64.wrap (p1.1 + (k : Int)) < 18446744073709551616 := by rw [IntKind.wrap_u64]; omega
        have hsz : w.heap.size ≤ wr.heap.size := hlow.size
        have hlen : ((List.range k).map (ringWord s P p)).length ≤ 1000000 := by simp; omega
        clear hv
        go_wp2_with (first | (go_at_call 148; refine (ring_run l P T G _ _ hrr _ HL2.out.1).mono ?_; rintro e w2 ⟨rfl, hb2⟩) | (go_at_call 16; go_loud (refine (mpeek_run m g s _ _ (HL2.out.2.quiet hb2)).mono ?_; rintro e w3 ⟨rfl, rfl⟩; rw [show s.peek (placeN true 28 p P 264 (IntKind.u64.wrap (p1.1 + (k : Int)) % 256) 256) = v from HV.out.symm]; have hG2 := hG.quiet hb2; have hlow2 := hlow.trans (hb2.mono hsz); have hsz2 := Nat.le_trans hsz hb2.size)) | (at_builtin; go_loud (refine app_oneG (T := 31) (ringWord s P p k) hG2 infoU Try.underlying85 rfl (by decide) (by omega) rfl _ _ rfl rfl rfl rfl (encU_len _) (encU_one _) hlen hsz2 ?_; intro v' w5 hG5 hgrow5)))
        have hk5 := kept_grown hgrow5
        have hlow5 : Below w.heap.size w w5 := below_kept hlow2 hk5 (by intro i hi; exact own_le hG2 i (by simpa using hi)) hlow2.size
        go_roundw
        case rel => exact ⟨k + 1, by omega, by go_num, by rw [List.range_succ, List.map_append]; exact hG5, hlow5⟩
        case measure => simp [intOf]; omega
      · obtain rfl : k = N := by omega
        have hlt' : decide ((k : Int) < 256) = false := decide_eq_false (by have := HN.out; omega)
        rw [HNK.out] at hG
        have HF := hid (And.intro hG hlow)
        obtain ⟨a, c, hv, hrow, _, _⟩ := hG.row encU_len
        subst hv
        clear hG hlow hrow
        go_wp2
        go_ret2
        exact ⟨_, rfl, HF.out⟩
  · have HN := hid (show (N : Int) = mn by omega)
    clear hN2 hq
    go_enter Try.func125, Try.ntmps125
    go_wp2_with (first | (go_at_call 83; refine (proc_run l P T G _ _ _ HI.out.1).mono ?_; rintro e w1 ⟨rfl, hb⟩; replace HI := hid (And.intro (HI.out.1.quiet hb) (And.intro (HI.out.2.1.quiet hb) (Below.then_ HI.out.2.2 hb))); clear hb) | (go_at_call 126; refine (many_run _ _ _ HR.out.1 HR.out.2).mono ?_; rintro e w1 ⟨rfl, rfl⟩; rw [← HMN.out]) | (go_at_call 16; refine (mpeek_run m g s _ _ HI.out.2.1).mono ?_; rintro e w1 ⟨rfl, rfl⟩; first | rw [show s.peek (placeN true 20 p P 264 1 8) = p1 from HP1.out.symm] | rw [show s.peek (placeN true 20 p P 264 2 8) = p2 from HP2.out.symm] | rw [show s.peek (placeN true 20 p P 264 3 8) = p3 from HP3.out.symm]))
    go_loopw [46, 14] (fun i o wr => ∃ k : Nat, k ≤ N ∧ i = .int .u64 (k : Int) ∧ Grow wr w.heap.size 31 1 (encI .u64) o ((List.range k).map (ringWord s P p)) ∧ Below w.heap.size w wr) (fun i _ _ => N - (intOf i).toNat)
    case atStart => exact ⟨0, Nat.zero_le _, rfl, Grow.nil _ _ _ _ _, HI.out.2.2⟩
    case round =>
      obtain ⟨k, hk, rfl, hG, hlow⟩ := hrel
      by_cases hlt : k < N
      · have hlt' : decide ((k : Int) < mn) = true := decide_eq_true (by have := HN.out; omega)
        have hk256 : k < 256 := by have := HN.out; omega
        have HL2 := hid (And.intro (H0.out.1.quiet hlow) (H0.out.2.quiet hlow))
        obtain ⟨v, hv⟩ : ∃ v, v = s.peek (rg P p (IntKind.u64.wrap (p1.1 + (k : Int)))) := ⟨_, rfl⟩
        have hvw : v.1 = ringWord s P p k := by rw [hv]; unfold ringWord; rw [← HP1.out]
        have HV := hid hv
        have hrr : 0 ≤ IntKind.u64.wrap (p1.1 + (k : Int)) ∧ IntKind.u64.wrap (p1.1 + (k : Int)) < 18446744073709551616 := by rw [IntKind.wrap_u64]; omega
        have hsz : w.heap.size ≤ wr.heap.size := hlow.size
        have hlen : ((List.range k).map (ringWord s P p)).length ≤ 1000000 := by simp; omega
        clear hv
        go_wp2_with (first | (go_at_call 148; refine (ring_run l P T G _ _ hrr _ HL2.out.1).mono ?_; rintro e w2 ⟨rfl, hb2⟩) | (go_at_call 16; go_loud (refine (mpeek_run m g s _ _ (HL2.out.2.quiet hb2)).mono ?_; rintro e w3 ⟨rfl, rfl⟩; rw [show s.peek (placeN true 28 p P 264 (IntKind.u64.wrap (p1.1 + (k : Int)) % 256) 256) = v from HV.out.symm]; have hG2 := hG.quiet hb2; have hlow2 := hlow.trans (hb2.mono hsz); have hsz2 := Nat.le_trans hsz hb2.size)) | (at_builtin; go_loud (refine app_oneG (T := 31) (ringWord s P p k) hG2 infoU Try.underlying85 rfl (by decide) (by omega) rfl _ _ rfl rfl rfl rfl (encU_len _) (encU_one _) hlen hsz2 ?_; intro v' w5 hG5 hgrow5)))
        have hk5 := kept_grown hgrow5
        have hlow5 : Below w.heap.size w w5 := below_kept hlow2 hk5 (by intro i hi; exact own_le hG2 i (by simpa using hi)) hlow2.size
        go_roundw
        case rel => exact ⟨k + 1, by omega, by go_num, by rw [List.range_succ, List.map_append]; exact hG5, hlow5⟩
        case measure => simp [intOf]; omega
      · obtain rfl : k = N := by omega
        have hlt' : decide ((k : Int) < mn) = false := decide_eq_false (by have := HN.out; omega)
        rw [HNK.out] at hG
        have HF := hid (And.intro hG hlow)
        obtain ⟨a, c, hv, hrow, _, _⟩ := hG.row encU_len
        subst hv
        clear hG hlow hrow
        go_wp2
        go_ret2
        exact ⟨_, rfl, HF.out⟩
/-- Is a word some goroutine's? -/
def knownB (G v : Int) : Bool := decide (1 ≤ v ∧ v ≤ G)
theorem fieldC2 (a b c : Value) (w : World) : (Instr.field 30 (.agg #[a, b, c]) 2).run Try.prog w = .ok c w := by first | kernel_rfl | rfl
theorem known_run (l : Nat) (P T G v : Int) (hv : 0 ≤ v) (w : World) (hL : Lay w l P T G) :
    Calls Try.prog 127 #[.pointer (some ⟨l, 0, none⟩), .int .u64 v] w fun e w' => e = .returned (.tuple #[.int .i64 (nOf v), .bool (knownB G v)]) ∧ Below w.heap.size w w' := by
  have hR := hL.2
  unfold Right at hR
  have d3 : IntKind.u64.wrap G = G := by rw [IntKind.wrap_u64]; omega
  have m1 : IntKind.i64.wrap (IntKind.i64.wrap v - 1) = nOf v := rfl
  have m2 : wrap64 (wrap64 v - 1) = nOf v := by unfold nOf; simp only [IntWalk.i64_left]
  have HL := hid hL
  have f2 := fun w' => fieldC2 (.int .i64 P) (.int .i64 T) (.int .i64 G) w'
  clear hL hR
  by_cases h1 : 1 ≤ v
  · have d1 : decide (1 ≤ v) = true := decide_eq_true h1
    by_cases h2 : v ≤ G
    · have d2 : decide (v ≤ G) = true := decide_eq_true h2
      rw [show knownB G v = true from decide_eq_true ⟨h1, h2⟩]
      clear h1 h2
      go_enter Try.func127, Try.ntmps127
      go_wp2_with (first | (go_at_call 80; refine (config_run l P T G _ HL.out).mono ?_; rintro e w2 ⟨rfl, hb⟩))
      go_ret2
      exact ⟨rfl, hb⟩
    · have d2 : decide (v ≤ G) = false := decide_eq_false h2
      rw [show knownB G v = false from decide_eq_false (fun h => h2 h.2)]
      clear h1 h2
      go_enter Try.func127, Try.ntmps127
      go_wp2_with (first | (go_at_call 80; refine (config_run l P T G _ HL.out).mono ?_; rintro e w2 ⟨rfl, hb⟩))
      go_ret2
      exact ⟨rfl, hb⟩
  · have d1 : decide (1 ≤ v) = false := decide_eq_false h1
    rw [show knownB G v = false from decide_eq_false (fun h => h1 h.1)]
    clear h1
    go_enter Try.func127, Try.ntmps127
    go_wp2_with (first | (go_at_call 80; refine (config_run l P T G _ HL.out).mono ?_; rintro e w2 ⟨rfl, hb⟩))
    go_ret2
    exact ⟨by rw [← m2]; rfl, Below.refl _ _⟩
def gsl (G : Int) (ws : List Int) : List Int := (ws.filter (knownB G)).map nOf
def gsr (G : Int) (r0 : Bool) (ws : List Int) : Bool := r0 && ws.all (knownB G)
/-- All words that tell of goroutines: the ring's, and the next one's. -/
def gsWs (s : St) (P p : Int) : List Int := if (s.peek (pr P p 3)).1 = 0 then ringWs s P p else ringWs s P p ++ [(s.peek (pr P p 3)).1]
def gsR0 (s : St) (P p : Int) : Bool := decide (manyOf (s.peek (pr P p 1)).1 (s.peek (pr P p 2)).1 ≤ 256)
theorem gsl_one (G : Int) (ws : List Int) (v : Int) : gsl G (ws ++ [v]) = if knownB G v then gsl G ws ++ [nOf v] else gsl G ws := by
  unfold gsl
  rw [List.filter_append, List.map_append]
  cases h : knownB G v <;> simp [List.filter, h]
theorem gsr_one (G : Int) (r0 : Bool) (ws : List Int) (v : Int) : gsr G r0 (ws ++ [v]) = (gsr G r0 ws && knownB G v) := by
  unfold gsr
  rw [List.all_append]
  simp [Bool.and_assoc]
theorem gs_run (l m g : Nat) (P T G p : Int) (s : St) (w : World) (hL : Lay w l P T G) (hM : MemAt w m g s) :
    Calls Try.prog 92 #[.pointer (some ⟨l, 0, none⟩), .pointer (some ⟨m, 0, none⟩), .int .i64 p] w fun e w' => ∃ a c, e = .returned (.tuple #[.slice a (gsl G (gsWs s P p)).length c, .bool (gsr G (gsR0 s P p) (gsWs s P p))]) ∧ RowOf (encI .i64) 1 w' a (gsl G (gsWs s P p)) ∧ Below w.heap.size w w' := by
  have hr1 := Idlem.peek_range hM.wf (pr P p 1)
  have hr2 := Idlem.peek_range hM.wf (pr P p 2)
  have hr3 := Idlem.peek_range hM.wf (pr P p 3)
  have HW := hid (words_run l m g P T G p s w hL hM)
  have H0 := hid (And.intro hL hM)
  obtain ⟨p1, hp1⟩ : ∃ q, q = s.peek (pr P p 1) := ⟨_, rfl⟩
  obtain ⟨p2, hp2⟩ : ∃ q, q = s.peek (pr P p 2) := ⟨_, rfl⟩
  obtain ⟨x3, hp3⟩ : ∃ q, q = (s.peek (pr P p 3)).1 := ⟨_, rfl⟩
  obtain ⟨rw0, hrw⟩ : ∃ q, q = ringWs s P p := ⟨_, rfl⟩
  have hlw : rw0.length ≤ 256 := by rw [hrw]; unfold ringWs ringN; rw [List.length_map, List.length_range]; omega
  have hall : ∀ x ∈ rw0, 0 ≤ x := by
    rw [hrw]
    intro x hx
    obtain ⟨k, _, rfl⟩ := List.mem_map.1 hx
    exact (Idlem.peek_range hM.wf _).1
  have hgw : gsWs s P p = if x3 = 0 then rw0 else rw0 ++ [x3] := by unfold gsWs; rw [← hp3, ← hrw]
  have hg0 : gsR0 s P p = decide (manyOf p1.1 p2.1 ≤ 256) := by unfold gsR0; rw [← hp1, ← hp2]
  rw [← hp1] at hr1
  rw [← hp2] at hr2
  rw [← hp3] at HW hr3
  rw [← hrw] at HW
  rw [hgw, hg0]
  have HP1 := hid hp1
  have HP2 := hid hp2
  have HR := hid (And.intro hr1 hr2)
  have HLW := hid (And.intro hlw (And.intro hall hr3.1))
  clear hL hM hp1 hp2 hp3 hr1 hr2 hr3 hgw hg0 hrw hlw hall
  by_cases hx : x3 = 0
  · subst hx
    rw [if_pos rfl]
    go_enter Try.func92, Try.ntmps92
    go_wp2_with (first | (go_at_call 125; refine HW.out.mono ?_; rintro e w1 ⟨v1, rfl, hG1, hb1⟩; have HI := hid (And.intro (H0.out.1.quiet hb1) (And.intro (H0.out.2.quiet hb1) hb1)); have HG := hid hG1; obtain ⟨ra, rc, rfl, hrow, _, _⟩ := hG1.row encU_len; clear hG1 hb1) | (go_at_call 83; refine (proc_run l P T G _ _ _ HI.out.1).mono ?_; rintro e w1 ⟨rfl, hb⟩; replace HG := hid (HG.out.quiet hb); replace HI := hid (And.intro (HI.out.1.quiet hb) (And.intro (HI.out.2.1.quiet hb) (Below.then_ HI.out.2.2 hb))); clear hb) | (go_at_call 126; refine (many_run _ _ _ HR.out.1 HR.out.2).mono ?_; rintro e w1 ⟨rfl, rfl⟩) | (go_at_call 16; refine (mpeek_run m g s _ _ HI.out.2.1).mono ?_; rintro e w1 ⟨rfl, rfl⟩; first | rw [show s.peek (placeN true 20 p P 264 1 8) = p1 from HP1.out.symm] | rw [show s.peek (placeN true 20 p P 264 2 8) = p2 from HP2.out.symm]))
    have HLY := hid (And.intro HI.out.1 HI.out.2.2)
    have HROW := hid (show RowOf (encI .u64) 1 w1 ra rw0 from by obtain ⟨a9, c9, hv9, hr9, _, _⟩ := HG.out.row encU_len; cases hv9; exact hr9)
    have hsz0 : (0 : Nat) ≤ 0 := Nat.le_refl _
    obtain ⟨W1, hW1⟩ : ∃ z, z = w1 := ⟨_, rfl⟩
    rw [← hW1] at HLY HROW
    obtain ⟨r0, hr0⟩ : ∃ z, z = decide (manyOf p1.1 p2.1 ≤ 256) := ⟨_, rfl⟩
    rw [← hr0]
    obtain ⟨ws, hws⟩ : ∃ z, z = rw0 := ⟨_, rfl⟩
    have hwl : ws.length ≤ 257 := by rw [hws]; have := HLW.out.1; simp; omega
    have hall : ∀ x ∈ ws, 0 ≤ x := by
      rw [hws]
      have := HLW.out.2
      intro x hx
      first
        | exact this.1 x hx
        | (rcases List.mem_append.1 hx with hx | hx; exact this.1 x hx; simp at hx; rw [hx]; exact this.2)
    have hlen : (rw0.length : Nat) = ws.length := by rw [hws]; try simp
    rw [← hws] at HROW ⊢
    try rw [hlen]
    have HAL := hid (And.intro hwl hall)
    have HWS := hid hws
    have HR0 := hid hr0
    clear hrow HG HI HR HP1 HP2 HLW hwl hall hws hlen hr0 hsz0
    go_loopw [55, 15, 14] (fun i o bb wr => ∃ k : Nat, k ≤ ws.length ∧ i = .int .i64 (k : Int) ∧ bb = .bool (gsr G r0 (ws.take k)) ∧ Grow wr W1.heap.size 3 1 (encI .i64) o (gsl G (ws.take k)) ∧ Below W1.heap.size W1 wr) (fun i _ _ _ => ws.length - (intOf i).toNat)
    case atStart => exact ⟨0, Nat.zero_le _, rfl, by simp [gsr], by rw [List.take_zero]; exact Grow.nil _ _ _ _ _, by rw [hW1]; exact Below.refl _ _⟩
    case round =>
      obtain ⟨k, hk, rfl, rfl, hG, hlow⟩ := hrel
      by_cases hlt : k < ws.length
      · have hlt' : decide ((k : Int) < (ws.length : Int)) = true := decide_eq_true (by omega)
        obtain ⟨xa, rfl, hx1⟩ := (HROW.out.quiet hlow) k hlt
        have c0 := hx1 0 _ rfl
        rw [Nat.mul_one, Nat.add_zero] at c0
        have k0 : (0 : Int) ≤ (k : Int) := by omega
        have k1 : (k : Int) < (ws.length : Int) := by omega
        obtain ⟨v, hv⟩ : ∃ v, v = ws[k] := ⟨_, rfl⟩
        have hv0 : 0 ≤ v := by rw [hv]; exact HAL.out.2 _ (List.getElem_mem hlt)
        have htk : ws.take (k + 1) = ws.take k ++ [v] := by rw [hv]; exact List.take_succ_eq_append_getElem hlt
        rw [← hv] at c0
        have hlo : (gsl G (ws.take k)).length ≤ 1000000 := by
          unfold gsl
          rw [List.length_map]
          have h1 := List.length_filter_le (knownB G) (ws.take k)
          have h2 := HAL.out.1
          rw [List.length_take] at h1
          omega
        obtain ⟨r1, hr1⟩ : ∃ z, z = gsr G r0 (ws.take k) := ⟨_, rfl⟩
        have hr2 : gsr G r0 (ws.take (k + 1)) = (r1 && knownB G v) := by rw [htk, gsr_one, ← hr1]
        obtain ⟨kn, hkn⟩ : ∃ z, z = knownB G v := ⟨_, rfl⟩
        have hgl : gsl G (ws.take (k + 1)) = if kn then gsl G (ws.take k) ++ [nOf v] else gsl G (ws.take k) := by rw [htk, gsl_one, ← hkn]
        rw [← hkn] at hr2
        rw [← hr1]
        have HKN := hid (And.intro hr2 hgl)
        have HKR := hid (known_run l P T G v hv0 wr (HLY.out.1.quiet hlow))
        rw [← hkn] at HKR
        clear hr1 hr2 hgl hkn hv hx1 htk hv0
        have hsz : W1.heap.size ≤ wr.heap.size := hlow.size
        have hkb : k ≤ 257 := by have := HAL.out.1; omega
        cases kn with
        | true =>
          cases r1 <;> (
            go_wp2_with (first | (go_at_call 127; refine HKR.out.mono ?_; rintro e w2 ⟨rfl, hb2⟩; have hG2 := hG.quiet hb2; have hlow2 := hlow.trans (hb2.mono hsz); have hsz2 := Nat.le_trans hsz hb2.size) | (at_builtin; refine app_oneG (T := 3) (nOf v) hG2 infoI Try.underlying49 rfl (by decide) (by omega) rfl _ _ rfl rfl rfl rfl (encN_len _) (encN_one _) hlo hsz2 ?_; intro v' w5 hG5 hgrow5))
            have hk5 := kept_grown hgrow5
            have hlow5 : Below W1.heap.size W1 w5 := below_kept hlow2 hk5 (by intro i hi; exact own_le hG2 i (by simpa using hi)) hlow2.size
            go_wp2_with fail
            go_roundw
            case rel => exact ⟨k + 1, by omega, by go_num, by rw [HKN.out.1]; rfl, by rw [HKN.out.2]; exact hG5, hlow5⟩
            case measure => simp [intOf]; omega)
        | false =>
          cases r1 <;> (
            go_wp2_with (first | (go_at_call 127; refine HKR.out.mono ?_; rintro e w2 ⟨rfl, hb2⟩; have hG2 := hG.quiet hb2; have hlow2 := hlow.trans (hb2.mono hsz); have hsz2 := Nat.le_trans hsz hb2.size))
            go_wp2_with fail
            go_roundw
            case rel => exact ⟨k + 1, by omega, by go_num, by rw [HKN.out.1]; rfl, by rw [HKN.out.2]; exact hG2, hlow2⟩
            case measure => simp [intOf]; omega)
      · obtain rfl : k = ws.length := by omega
        have hlt' : decide ((ws.length : Int) < (ws.length : Int)) = false := decide_eq_false (by omega)
        rw [List.take_length] at hG ⊢
        have HF := hid (And.intro hG (HLY.out.2.trans (hlow.mono HLY.out.2.size)))
        obtain ⟨a, c, hv, hrw, _, _⟩ := hG.row encN_len
        subst hv
        have HRW := hid hrw
        clear hG hlow hrw
        go_wp2
        go_ret2
        exact ⟨a, c, (by rw [← HWS.out, ← HR0.out] <;> rfl), (by rw [← HWS.out]; exact HRW.out), HF.out.2⟩
  · rw [if_neg hx]
    have d0 : ((x3 : Int) != 0) = true := by simpa using hx
    have hlw2 : rw0.length ≤ 1000000 := by have := HLW.out.1; omega
    clear hx
    go_enter Try.func92, Try.ntmps92
    go_wp2_with (first | (first | (go_at_call 125; refine HW.out.mono ?_; rintro e w1 ⟨v1, rfl, hG1, hb1⟩; have HI := hid (And.intro (H0.out.1.quiet hb1) (And.intro (H0.out.2.quiet hb1) hb1)); have HG := hid hG1; obtain ⟨ra, rc, rfl, hrow, _, _⟩ := hG1.row encU_len; clear hG1 hb1) | (go_at_call 83; refine (proc_run l P T G _ _ _ HI.out.1).mono ?_; rintro e w1 ⟨rfl, hb⟩; replace HG := hid (HG.out.quiet hb); replace HI := hid (And.intro (HI.out.1.quiet hb) (And.intro (HI.out.2.1.quiet hb) (Below.then_ HI.out.2.2 hb))); clear hb) | (go_at_call 126; refine (many_run _ _ _ HR.out.1 HR.out.2).mono ?_; rintro e w1 ⟨rfl, rfl⟩) | (go_at_call 16; refine (mpeek_run m g s _ _ HI.out.2.1).mono ?_; rintro e w1 ⟨rfl, rfl⟩; first | rw [show s.peek (placeN true 20 p P 264 1 8) = p1 from HP1.out.symm] | rw [show s.peek (placeN true 20 p P 264 2 8) = p2 from HP2.out.symm])) | (at_builtin; refine app_oneG (T := 31) x3 HG.out infoU Try.underlying85 rfl (by decide) (by omega) rfl _ _ rfl rfl rfl rfl (encU_len _) (encU_one _) hlw2 HI.out.2.2.size ?_; intro v' w5 hG5 hgrow5; have hk5 := kept_grown hgrow5; have hlow5 : Below w.heap.size w w5 := below_kept HI.out.2.2 hk5 (by intro i hi; exact own_le HG.out i (by simpa using hi)) HI.out.2.2.size; replace HI := hid (And.intro (H0.out.1.quiet hlow5) (And.intro (H0.out.2.quiet hlow5) hlow5)); replace HG := hid hG5; replace hrow := hG5; obtain ⟨rb, rd, rfl, _, _, _⟩ := hG5.row encU_len; clear hgrow5 hk5 hlow5))
    obtain ⟨w1, hw1q⟩ : ∃ z, z = w5 := ⟨_, rfl⟩
    rw [← hw1q] at HI HG ⊢
    clear hw1q
    have HLY := hid (And.intro HI.out.1 HI.out.2.2)
    have HROW := hid (show RowOf (encI .u64) 1 w1 rb (rw0 ++ [x3]) from by obtain ⟨a9, c9, hv9, hr9, _, _⟩ := HG.out.row encU_len; cases hv9; exact hr9)
    have hsz0 : (0 : Nat) ≤ 0 := Nat.le_refl _
    obtain ⟨W1, hW1⟩ : ∃ z, z = w1 := ⟨_, rfl⟩
    rw [← hW1] at HLY HROW
    obtain ⟨r0, hr0⟩ : ∃ z, z = decide (manyOf p1.1 p2.1 ≤ 256) := ⟨_, rfl⟩
    rw [← hr0]
    obtain ⟨ws, hws⟩ : ∃ z, z = rw0 ++ [x3] := ⟨_, rfl⟩
    have hwl : ws.length ≤ 257 := by rw [hws]; have := HLW.out.1; simp; omega
    have hall : ∀ x ∈ ws, 0 ≤ x := by
      rw [hws]
      have := HLW.out.2
      intro x hx
      first
        | exact this.1 x hx
        | (rcases List.mem_append.1 hx with hx | hx; exact this.1 x hx; simp at hx; rw [hx]; exact this.2)
    have hlen : ((rw0 ++ [x3]).length : Nat) = ws.length := by rw [hws]; try simp
    rw [← hws] at HROW
    have hlen2 : rw0.length + 1 = ws.length := by rw [← hlen]; simp
    have hlen3 : ((rw0.length : Int) + 1) = (ws.length : Int) := by rw [← hlen2]; push_cast; rfl
    try rw [hlen2]
    try rw [hlen3]
    clear hlen2 hlen3
    have HAL := hid (And.intro hwl hall)
    have HWS := hid hws
    have HR0 := hid hr0
    clear hrow HG HI HR HP1 HP2 HLW hwl hall hws hlen hr0 hsz0
    go_loopw [55, 15, 14] (fun i o bb wr => ∃ k : Nat, k ≤ ws.length ∧ i = .int .i64 (k : Int) ∧ bb = .bool (gsr G r0 (ws.take k)) ∧ Grow wr W1.heap.size 3 1 (encI .i64) o (gsl G (ws.take k)) ∧ Below W1.heap.size W1 wr) (fun i _ _ _ => ws.length - (intOf i).toNat)
    case atStart => exact ⟨0, Nat.zero_le _, rfl, by simp [gsr], by rw [List.take_zero]; exact Grow.nil _ _ _ _ _, by rw [hW1]; exact Below.refl _ _⟩
    case round =>
      obtain ⟨k, hk, rfl, rfl, hG, hlow⟩ := hrel
      by_cases hlt : k < ws.length
      · have hlt' : decide ((k : Int) < (ws.length : Int)) = true := decide_eq_true (by omega)
        obtain ⟨xa, rfl, hx1⟩ := (HROW.out.quiet hlow) k hlt
        have c0 := hx1 0 _ rfl
        rw [Nat.mul_one, Nat.add_zero] at c0
        have k0 : (0 : Int) ≤ (k : Int) := by omega
        have k1 : (k : Int) < (ws.length : Int) := by omega
        obtain ⟨v, hv⟩ : ∃ v, v = ws[k] := ⟨_, rfl⟩
        have hv0 : 0 ≤ v := by rw [hv]; exact HAL.out.2 _ (List.getElem_mem hlt)
        have htk : ws.take (k + 1) = ws.take k ++ [v] := by rw [hv]; exact List.take_succ_eq_append_getElem hlt
        rw [← hv] at c0
        have hlo : (gsl G (ws.take k)).length ≤ 1000000 := by
          unfold gsl
          rw [List.length_map]
          have h1 := List.length_filter_le (knownB G) (ws.take k)
          have h2 := HAL.out.1
          rw [List.length_take] at h1
          omega
        obtain ⟨r1, hr1⟩ : ∃ z, z = gsr G r0 (ws.take k) := ⟨_, rfl⟩
        have hr2 : gsr G r0 (ws.take (k + 1)) = (r1 && knownB G v) := by rw [htk, gsr_one, ← hr1]
        obtain ⟨kn, hkn⟩ : ∃ z, z = knownB G v := ⟨_, rfl⟩
        have hgl : gsl G (ws.take (k + 1)) = if kn then gsl G (ws.take k) ++ [nOf v] else gsl G (ws.take k) := by rw [htk, gsl_one, ← hkn]
        rw [← hkn] at hr2
        rw [← hr1]
        have HKN := hid (And.intro hr2 hgl)
        have HKR := hid (known_run l P T G v hv0 wr (HLY.out.1.quiet hlow))
        rw [← hkn] at HKR
        clear hr1 hr2 hgl hkn hv hx1 htk hv0
        have hsz : W1.heap.size ≤ wr.heap.size := hlow.size
        have hkb : k ≤ 257 := by have := HAL.out.1; omega
        cases kn with
        | true =>
          cases r1 <;> (
            go_wp2_with (first | (go_at_call 127; refine HKR.out.mono ?_; rintro e w2 ⟨rfl, hb2⟩; have hG2 := hG.quiet hb2; have hlow2 := hlow.trans (hb2.mono hsz); have hsz2 := Nat.le_trans hsz hb2.size) | (at_builtin; refine app_oneG (T := 3) (nOf v) hG2 infoI Try.underlying49 rfl (by decide) (by omega) rfl _ _ rfl rfl rfl rfl (encN_len _) (encN_one _) hlo hsz2 ?_; intro v' w5 hG5 hgrow5))
            have hk5 := kept_grown hgrow5
            have hlow5 : Below W1.heap.size W1 w5 := below_kept hlow2 hk5 (by intro i hi; exact own_le hG2 i (by simpa using hi)) hlow2.size
            go_wp2_with fail
            go_roundw
            case rel => exact ⟨k + 1, by omega, by go_num, by rw [HKN.out.1]; rfl, by rw [HKN.out.2]; exact hG5, hlow5⟩
            case measure => simp [intOf]; omega)
        | false =>
          cases r1 <;> (
            go_wp2_with (first | (go_at_call 127; refine HKR.out.mono ?_; rintro e w2 ⟨rfl, hb2⟩; have hG2 := hG.quiet hb2; have hlow2 := hlow.trans (hb2.mono hsz); have hsz2 := Nat.le_trans hsz hb2.size))
            go_wp2_with fail
            go_roundw
            case rel => exact ⟨k + 1, by omega, by go_num, by rw [HKN.out.1]; rfl, by rw [HKN.out.2]; exact hG2, hlow2⟩
            case measure => simp [intOf]; omega)
      · obtain rfl : k = ws.length := by omega
        have hlt' : decide ((ws.length : Int) < (ws.length : Int)) = false := decide_eq_false (by omega)
        rw [List.take_length] at hG ⊢
        have HF := hid (And.intro hG (HLY.out.2.trans (hlow.mono HLY.out.2.size)))
        obtain ⟨a, c, hv, hrw, _, _⟩ := hG.row encN_len
        subst hv
        have HRW := hid hrw
        clear hG hlow hrw
        go_wp2
        go_ret2
        exact ⟨a, c, (by rw [← HWS.out, ← HR0.out] <;> rfl), (by rw [← HWS.out]; exact HRW.out), HF.out.2⟩
end Go.Proofs.Ytnmkfmaohflejaa.Gs
