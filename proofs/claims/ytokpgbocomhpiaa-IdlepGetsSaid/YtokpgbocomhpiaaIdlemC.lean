/- The list of threads: the example. -/
import Derived.Test.YtokpgbocomhpiaaIdlemB
set_option maxRecDepth 100000
set_option maxHeartbeats 4000000
set_option linter.unusedVariables false
set_option linter.unusedSimpArgs false
namespace Go.Proofs.Ytokpgbocomhpiaa.Idlem
open Go.RowKit Go.Shelf Go.Proofs.Ytokpgbocomhpiaa.TK Go.Proofs.Ytokpgbocomhpiaa.Flag Go.Proofs.Ytokpgbocomhpiaa.Read Go.Proofs.Ytokpgbocomhpiaa.Grow Go.Proofs.Ytokpgbocomhpiaa.Words Go.Proofs.Ytokpgbocomhpiaa.Mem Go.Proofs.Ytokpgbocomhpiaa.Flow Go.Proofs.Ytokpgbocomhpiaa.Layout Go.Proofs.Ytokpgbocomhpiaa.Lock Go.Proofs.Ytokpgbocomhpiaa.Run Go.Proofs.Ytokpgbocomhpiaa.Sys Go.Proofs.Ytokpgbocomhpiaa.Mach Go.Proofs.Ytokpgbocomhpiaa.Doc Go.Proofs.Ytokpgbocomhpiaa.Ref05
theorem same12_run (a b : Option Addr) (ca cb : Nat) (xs : List Int) (w : World) (ha : RowOf (encI .i64) 1 w a xs) (hb : RowOf (encI .i64) 1 w b xs) (hl : xs.length ≤ 1000000) :
    Calls Try.prog 96 #[.slice a xs.length ca, .slice b xs.length cb] w fun e w' => e = .returned (.bool true) ∧ Below w.heap.size w w' := by
  have HA := hid ha
  have HB := hid hb
  clear ha hb
  go_enter Try.func96, Try.ntmps96
  go_wp2_with fail
  go_loopw [5] (fun i wr => ∃ k : Nat, k ≤ xs.length ∧ i = .int .i64 (k : Int) ∧ Below w.heap.size w wr) (fun i _ => xs.length - (intOf i).toNat)
  case atStart => exact ⟨0, Nat.zero_le _, rfl, Below.refl _ _⟩
  case round =>
    obtain ⟨k, hk, rfl, hlow⟩ := hrel
    by_cases hlt : k < xs.length
    · obtain ⟨xa, rfl, h1⟩ := (HA.out.quiet hlow) k hlt
      obtain ⟨xb, rfl, h2⟩ := (HB.out.quiet hlow) k hlt
      have c1 := h1 0 _ rfl
      have c2 := h2 0 _ rfl
      rw [Nat.mul_one, Nat.add_zero] at c1 c2
      have hlt' : decide ((k : Int) < (xs.length : Int)) = true := decide_eq_true (by omega)
      obtain ⟨v, hv⟩ : ∃ v, v = xs[k] := ⟨_, rfl⟩
      rw [← hv] at c1 c2
      clear hv h1 h2
      obtain ⟨n, hn⟩ : ∃ n, n = xs.length := ⟨_, rfl⟩
      rw [← hn] at hl hk hlt hlt' ⊢
      clear hn HA HB
      have k0 : (0 : Int) ≤ (k : Int) := by omega
      have k1 : (k : Int) < (n : Int) := by omega
      go_wp2_with fail
      go_quiet (fail)
      go_wp2_with fail
      go_roundw
      case rel => exact ⟨k + 1, by omega, by go_num, below_drewN hlow _⟩
      case measure => simp [intOf]; omega
    · have hlt' : decide ((k : Int) < (xs.length : Int)) = false := decide_eq_false (by omega)
      go_wp2
      go_ret
      exact ⟨rfl, hlow⟩
end Go.Proofs.Ytokpgbocomhpiaa.Idlem
namespace Go.Proofs.Ytokpgbocomhpiaa.Mach
open Go.RowKit Go.Shelf Go.Proofs.Ytokpgbocomhpiaa.TK Go.Proofs.Ytokpgbocomhpiaa.Flag Go.Proofs.Ytokpgbocomhpiaa.Read Go.Proofs.Ytokpgbocomhpiaa.Grow Go.Proofs.Ytokpgbocomhpiaa.Words Go.Proofs.Ytokpgbocomhpiaa.Mem Go.Proofs.Ytokpgbocomhpiaa.Flow Go.Proofs.Ytokpgbocomhpiaa.Layout Go.Proofs.Ytokpgbocomhpiaa.Lock Go.Proofs.Ytokpgbocomhpiaa.Run Go.Proofs.Ytokpgbocomhpiaa.Sys
theorem keptOwn_grow {α : Type} {Own : List TypeId} {lo m g B size : Nat} {w w' : World} {T : TypeId} {enc : α → List Value} {v : Value} {xs : List α} (hK : KeptOwn Own lo m g w w') (hG : Grow w B T size enc v xs) (hm : m < B) (hg : g < B) (hT : T ∉ Own) : Grow w' B T size enc v xs := by
  obtain ⟨S, hK, hS⟩ := hK
  refine Grow.keptB hG hK ?_
  intro i hi
  rcases hS i hi with rfl | rfl | ⟨_, T', hT', cs', hb'⟩
  · exact own_low hG hm
  · exact own_low hG hg
  · exact own_type hG hb' (fun e => hT (by rw [e]; exact hT'))
theorem keptOwn_low {Own : List TypeId} {lo m g : Nat} {W w w' : World} (hK : KeptOwn Own lo m g w w') (hb : Below lo W w) (hm : lo ≤ m) (hg : lo ≤ g) (hl : lo ≤ w.heap.size) : Below lo W w' := by
  obtain ⟨S, hK, hS⟩ := hK
  refine below_kept hb hK ?_ hl
  intro i hi
  rcases hS i hi with rfl | rfl | ⟨h, _⟩
  · exact hm
  · exact hg
  · exact h
theorem keptOwn_size {Own : List TypeId} {lo m g : Nat} {w w' : World} (hK : KeptOwn Own lo m g w w') : w.heap.size ≤ w'.heap.size := by
  obtain ⟨S, hK, hS⟩ := hK
  exact hK.size
theorem infoI : Elem Try.prog 3 (.int .i64 0) 1 8 := by unfold Elem; kernel_rfl
theorem encN_len (x : Int) : (encI .i64 x).length = 1 := rfl
theorem encN_one (x : Int) : ∀ u ∈ encI .i64 x, u.oneCell' = true := by intro u hu; simp [encI] at hu; subst hu; rfl
end Go.Proofs.Ytokpgbocomhpiaa.Mach
namespace Go.Proofs.Ytokpgbocomhpiaa.Idlem
open Go.RowKit Go.Shelf Go.Proofs.Ytokpgbocomhpiaa.TK Go.Proofs.Ytokpgbocomhpiaa.Flag Go.Proofs.Ytokpgbocomhpiaa.Read Go.Proofs.Ytokpgbocomhpiaa.Grow Go.Proofs.Ytokpgbocomhpiaa.Words Go.Proofs.Ytokpgbocomhpiaa.Mem Go.Proofs.Ytokpgbocomhpiaa.Flow Go.Proofs.Ytokpgbocomhpiaa.Layout Go.Proofs.Ytokpgbocomhpiaa.Lock Go.Proofs.Ytokpgbocomhpiaa.Run Go.Proofs.Ytokpgbocomhpiaa.Sys Go.Proofs.Ytokpgbocomhpiaa.Mach Go.Proofs.Ytokpgbocomhpiaa.Doc Go.Proofs.Ytokpgbocomhpiaa.Ref05 Go.Proofs.Ytokpgbocomhpiaa.Ring
def s121 : St := fresh (layW (lenOf 1 2 1) [])
/-- The memory ahead of the get of round n. -/
def put4 (n : Nat) (s : St) : St := if n = 3 then (after (mpM 0 1 2 0).sys 0 .h s 4).2 else s
def aw : Nat → St × List Int
  | 0 => (s121, [])
  | n + 1 => ((after (mgM 0 1 2).sys 0 .h (put4 n (aw n).1) 4).2, (aw n).2 ++ [(after (mgM 0 1 2).sys 0 .h (put4 n (aw n).1) 4).1.t])
theorem few121 : FewP 1 2 1 := by unfold FewP Right; omega
theorem aw_all : (aw 4).2 = [0, 1, -1, 0] ∧ spareOf 2 (aw 4).1 = 0 := by
  refine ⟨?_, ?_⟩ <;> decide +kernel
theorem aw_clock : ∀ n, n < 5 → (aw n).1.clock ≤ 100 ∧ (aw n).1.bad ≤ 100 ∧ (aw n).2.length = n := by decide +kernel
theorem awake_run (w : World) : Calls Try.prog 64 #[] w fun e w' => e = .returned (.bool true) ∧ Below w.heap.size w w' := by
  have HE := hid aw_all
  have HCL := hid aw_clock
  go_enter Try.func64, Try.ntmps64
  go_wp2_with fail
  refine (lay_yes 1 2 1 none 0 [] _ few121 (by simp) ?_ (by simp)).mono ?_
  · intro i hi; simp at hi
  rintro e w1 ⟨l, m, g, rm, rg, rfl, hL⟩
  obtain ⟨B, hB⟩ : ∃ B, B = w1.heap.size := ⟨_, rfl⟩
  have HQ := hid (show w.heap.size ≤ m ∧ w.heap.size ≤ g ∧ m < B ∧ g < B from ⟨hL.low5.2.1, hL.low5.2.2.1, by rw [hB]; exact hL.mem.ltm, by rw [hB]; exact hL.mem.ltg⟩)
  have HI := hid (show Lay w1 l 1 2 1 ∧ MemAt w1 m g (aw 0).1 ∧ Grow w1 B 3 1 (encI .i64) (.slice none 0 0) (aw 0).2 ∧ Below w.heap.size w w1 ∧ B ≤ w1.heap.size from ⟨hL.lay, hL.mem, Grow.nil _ _ _ _ _, hL.low, by omega⟩)
  have HB0 := hid (show w.heap.size ≤ B by rw [hB]; exact hL.low.size)
  clear hL hB
  go_wp2_with fail
  go_loopw [6, 5] (fun i v wr => ∃ n : Nat, n ≤ 4 ∧ i = .int .i64 (n : Int) ∧ Lay wr l 1 2 1 ∧ MemAt wr m g (aw n).1 ∧ Grow wr B 3 1 (encI .i64) v (aw n).2 ∧ Below w.heap.size w wr ∧ B ≤ wr.heap.size) (fun i _ _ => 4 - (intOf i).toNat)
  case atStart => exact ⟨0, by omega, rfl, HI.out⟩
  case round =>
    clear HI
    obtain ⟨n, hn, rfl, hI⟩ := hrel
    obtain ⟨a0, c0, hv, _, _, _⟩ := hI.2.2.1.row encN_len
    subst hv
    have HI := hid hI
    clear hI
    by_cases hlt : n < 4
    · have hlt' : decide ((n : Int) < 4) = true := decide_eq_true (by omega)
      have HLEN := hid (show (aw n).2.length ≤ 1000 by have := (HCL.out n (by omega)).2.2; omega)
      by_cases h3 : n = 3
      · have h3' : ((n : Int) == 3) = true := by simp [h3]
        obtain ⟨sP, hsP⟩ : ∃ sP, sP = (aw n).1 := ⟨_, rfl⟩
        rw [← hsP] at HI
        have HAWP := hid (show aw (n + 1) = ((after (mgM 0 1 2).sys 0 .h (after (mpM 0 1 2 0).sys 0 .h sP 4).2 4).2, (aw n).2 ++ [(after (mgM 0 1 2).sys 0 .h (after (mpM 0 1 2 0).sys 0 .h sP 4).2 4).1.t]) by rw [hsP]; show (_, _) = _; rw [show put4 n (aw n).1 = (after (mpM 0 1 2 0).sys 0 .h (aw n).1 4).2 from if_pos h3])
        have HCP := hid (show sP.clock ≤ 100 ∧ sP.bad ≤ 100 by rw [hsP]; have := HCL.out n (by omega); omega)
        clear hsP h3
        go_wp2_with fail
        refine (mp_new_run l 1 2 1 0 0 _ HI.out.1).mono ?_
        rintro e w5 ⟨rfl, hA, hb⟩
        have HI := hid (show (mpM l 1 2 0).at_ w.heap.size l _ 1 2 1 0 w5 (after (mpM 0 1 2 0).sys 0 .h sP 0).1 ∧ MemAt w5 m g (after (mpM 0 1 2 0).sys 0 .h sP 0).2 ∧ Grow w5 B 3 1 (encI .i64) (.slice a0 (aw n).2.length c0) (aw n).2 ∧ Below w.heap.size w w5 ∧ B ≤ w5.heap.size from ⟨⟨hA, HI.out.2.2.2.1.size, HI.out.1.quiet hb, trivial⟩, HI.out.2.1.quiet hb, HI.out.2.2.1.quiet hb, HI.out.2.2.2.1.trans (hb.mono HI.out.2.2.2.1.size), Nat.le_trans HI.out.2.2.2.2 hb.size⟩)
        obtain ⟨y, hy⟩ : ∃ y, y = wr.heap.size := ⟨_, rfl⟩
        rw [← hy] at HI ⊢
        clear hA hb hy
        go_wp2_with fail
        go_loopw [8] (fun i wr => ∃ j : Nat, j ≤ 4 ∧ i = .int .i64 (j : Int) ∧ (mpM l 1 2 0).at_ w.heap.size l y 1 2 1 0 wr (after (mpM 0 1 2 0).sys 0 .h sP j).1 ∧ MemAt wr m g (after (mpM 0 1 2 0).sys 0 .h sP j).2 ∧ Grow wr B 3 1 (encI .i64) (.slice a0 (aw n).2.length c0) (aw n).2 ∧ Below w.heap.size w wr ∧ B ≤ wr.heap.size) (fun i _ => 4 - (intOf i).toNat)
        case atStart => exact ⟨0, by omega, rfl, HI.out⟩
        case round =>
          clear HI
          obtain ⟨j, hj, rfl, hI⟩ := hrel
          have HI := hid hI
          clear hI
          by_cases hlt2 : j < 4
          · have hltj : decide ((j : Int) < 4) = true := decide_eq_true (by omega)
            have hcl := after_clock (mpM 0 1 2 0).sys 0 .h sP j
            have hc0 := HCP.out
            go_wp2_with fail
            refine (mpstep_run w.heap.size l y m g 1 2 1 0 0 (mp_goes l y 1 2 0 1 0 (by omega)) HI.out.1 HI.out.2.1 (by omega) (by omega)).mono ?_
            rintro e w6 ⟨⟨bb, rfl⟩, hA6, hM6, hK6⟩
            have HI6 := hid (And.intro hA6 (And.intro hM6 (And.intro (keptOwn_grow hK6 HI.out.2.2.1 HQ.out.2.2.1 HQ.out.2.2.2 (by decide)) (And.intro (keptOwn_low hK6 HI.out.2.2.2.1 HQ.out.1 HQ.out.2.1 HI.out.2.2.2.1.size) (Nat.le_trans HI.out.2.2.2.2 (keptOwn_size hK6))))))
            clear hA6 hM6 hK6 HI hcl hc0
            go_wp2_with fail
            go_roundw
            case rel => exact ⟨j + 1, by omega, by go_num, HI6.out⟩
            case measure => simp [intOf]; omega
          · obtain rfl : j = 4 := by omega
            have hltj : decide ((4 : Int) < 4) = false := by decide
            have hcl := after_clock (mpM 0 1 2 0).sys 0 .h sP 4
            obtain ⟨sX, hsX⟩ : ∃ sX, sX = (after (mpM 0 1 2 0).sys 0 .h sP 4).2 := ⟨_, rfl⟩
            rw [← hsX] at HI hcl
            have HAW := hid (show aw (n + 1) = ((after (mgM 0 1 2).sys 0 .h sX 4).2, (aw n).2 ++ [(after (mgM 0 1 2).sys 0 .h sX 4).1.t]) by rw [hsX]; exact HAWP.out)
            have HC := hid (show sX.clock ≤ 200 ∧ sX.bad ≤ 200 by have := HCP.out; omega)
            have HI := hid (show Lay wr l 1 2 1 ∧ MemAt wr m g sX ∧ Grow wr B 3 1 (encI .i64) (.slice a0 (aw n).2.length c0) (aw n).2 ∧ Below w.heap.size w wr ∧ B ≤ wr.heap.size from ⟨HI.out.1.2.2.1, HI.out.2⟩)
            clear hsX hcl HAWP HCP
            go_wp2_with fail
            refine (mg_new_run l 1 2 1 0 _ HI.out.1).mono ?_
            rintro e w5 ⟨rfl, hA, hb⟩
            have HI := hid (show (mgM l 1 2).at_ w.heap.size l _ 1 2 1 0 w5 (after (mgM 0 1 2).sys 0 .h sX 0).1 ∧ MemAt w5 m g (after (mgM 0 1 2).sys 0 .h sX 0).2 ∧ Grow w5 B 3 1 (encI .i64) (.slice a0 (aw n).2.length c0) (aw n).2 ∧ Below w.heap.size w w5 ∧ B ≤ w5.heap.size from ⟨⟨hA, HI.out.2.2.2.1.size, HI.out.1.quiet hb, trivial⟩, HI.out.2.1.quiet hb, HI.out.2.2.1.quiet hb, HI.out.2.2.2.1.trans (hb.mono HI.out.2.2.2.1.size), Nat.le_trans HI.out.2.2.2.2 hb.size⟩)
            obtain ⟨y, hy⟩ : ∃ y, y = wr.heap.size := ⟨_, rfl⟩
            rw [← hy] at HI ⊢
            clear hA hb hy
            go_wp2_with fail
            go_loopw [10] (fun i wr => ∃ j : Nat, j ≤ 4 ∧ i = .int .i64 (j : Int) ∧ (mgM l 1 2).at_ w.heap.size l y 1 2 1 0 wr (after (mgM 0 1 2).sys 0 .h sX j).1 ∧ MemAt wr m g (after (mgM 0 1 2).sys 0 .h sX j).2 ∧ Grow wr B 3 1 (encI .i64) (.slice a0 (aw n).2.length c0) (aw n).2 ∧ Below w.heap.size w wr ∧ B ≤ wr.heap.size) (fun i _ => 4 - (intOf i).toNat)
            case atStart => exact ⟨0, by omega, rfl, HI.out⟩
            case round =>
              clear HI
              obtain ⟨j, hj, rfl, hI⟩ := hrel
              have HI := hid hI
              clear hI
              by_cases hlt2 : j < 4
              · have hltj : decide ((j : Int) < 4) = true := decide_eq_true (by omega)
                have hcl := after_clock (mgM 0 1 2).sys 0 .h sX j
                have hc0 := HC.out
                go_wp2_with fail
                refine (mgstep_run w.heap.size l y m g 1 2 1 0 (mg_goes l y 1 2 1 0 (by omega)) HI.out.1 HI.out.2.1 (by omega) (by omega)).mono ?_
                rintro e w6 ⟨⟨bb, rfl⟩, hA6, hM6, hK6⟩
                have HI6 := hid (And.intro hA6 (And.intro hM6 (And.intro (keptOwn_grow hK6 HI.out.2.2.1 HQ.out.2.2.1 HQ.out.2.2.2 (by decide)) (And.intro (keptOwn_low hK6 HI.out.2.2.2.1 HQ.out.1 HQ.out.2.1 HI.out.2.2.2.1.size) (Nat.le_trans HI.out.2.2.2.2 (keptOwn_size hK6))))))
                clear hA6 hM6 hK6 HI hcl hc0
                go_wp2_with fail
                go_roundw
                case rel => exact ⟨j + 1, by omega, by go_num, HI6.out⟩
                case measure => simp [intOf]; omega
              · obtain rfl : j = 4 := by omega
                have hltj : decide ((4 : Int) < 4) = false := by decide
                have hAW := HAW.out
                obtain ⟨q, hq⟩ : ∃ q, q = after (mgM 0 1 2).sys 0 .h sX 4 := ⟨_, rfl⟩
                rw [← hq] at HI hAW
                have HAW := hid hAW
                have hlen := HLEN.out
                clear hq hAW
                go_wp2_with fail
                refine (mg_t_run HI.out.1).mono ?_
                rintro e w6 ⟨rfl, rfl⟩
                have hG6 := HI.out.2.2.1
                have hs6 := HI.out.2.2.2.2
                have hL6 := HI.out.1.2.2.1
                have hM6 := HI.out.2.1
                have hlow6 := HI.out.2.2.2.1
                have hml := HQ.out.2.2
                obtain ⟨t, ht⟩ : ∃ t, t = q.1.t := ⟨_, rfl⟩
                rw [← ht]
                have HT := hid ht
                clear HI ht
                go_wp2_with (first | (at_builtin; refine app_oneK (T := 3) t hG6 infoI Try.underlying89 rfl (by decide) (by omega) rfl _ _ rfl rfl rfl rfl (encN_len _) (encN_one _) (by omega) hs6 ?_; intro v' w7 hG7 hK7))
                have own1 : ∀ i ∈ (Value.slice a0 (aw n).2.length c0).ownBlock.toList, B ≤ i ∧ ∀ cs T', T' ≠ 3 → ¬ Blk wr i cs T' := by
                  intro i hi
                  refine ⟨own_le hG6 i (by simpa using hi), ?_⟩
                  intro cs T' hT hb
                  have := own_type hG6 hb (Ne.symm hT)
                  simp at hi
                  exact this hi
                have HI7 := hid (show Lay w7 l 1 2 1 ∧ MemAt w7 m g q.2 ∧ Grow w7 B 3 1 (encI .i64) v' ((aw n).2 ++ [t]) ∧ Below w.heap.size w w7 ∧ B ≤ w7.heap.size by
                  refine ⟨hL6.kept hK7 (fun hi => (own1 _ hi).2 _ _ (by decide) hL6.1), hM6.kept hK7 (fun hi => by have := (own1 _ hi).1; omega) (fun hi => by have := (own1 _ hi).1; omega), hG7, below_kept hlow6 hK7 (fun i hi => by have := (own1 _ hi).1; have := HB0.out; omega) hlow6.size, Nat.le_trans hs6 hK7.size⟩)
                clear hG6 hs6 hL6 hM6 hlow6 own1 hG7 hK7 hml
                go_wp2_with fail
                go_roundw
                case rel =>
                  refine ⟨n + 1, by omega, by go_num, ?_⟩
                  rw [HAW.out, ← HT.out]
                  exact HI7.out
                case measure => simp [intOf]; omega
      · have h3' : ((n : Int) == 3) = false := by simp; omega
        obtain ⟨sX, hsX⟩ : ∃ sX, sX = (aw n).1 := ⟨_, rfl⟩
        rw [← hsX] at HI
        have HAW := hid (show aw (n + 1) = ((after (mgM 0 1 2).sys 0 .h sX 4).2, (aw n).2 ++ [(after (mgM 0 1 2).sys 0 .h sX 4).1.t]) by rw [hsX]; show (_, _) = _; rw [show put4 n (aw n).1 = (aw n).1 from if_neg h3])
        have HC := hid (show sX.clock ≤ 200 ∧ sX.bad ≤ 200 by rw [hsX]; have := HCL.out n (by omega); omega)
        clear hsX h3
        go_wp2_with fail
        refine (mg_new_run l 1 2 1 0 _ HI.out.1).mono ?_
        rintro e w5 ⟨rfl, hA, hb⟩
        have HI := hid (show (mgM l 1 2).at_ w.heap.size l _ 1 2 1 0 w5 (after (mgM 0 1 2).sys 0 .h sX 0).1 ∧ MemAt w5 m g (after (mgM 0 1 2).sys 0 .h sX 0).2 ∧ Grow w5 B 3 1 (encI .i64) (.slice a0 (aw n).2.length c0) (aw n).2 ∧ Below w.heap.size w w5 ∧ B ≤ w5.heap.size from ⟨⟨hA, HI.out.2.2.2.1.size, HI.out.1.quiet hb, trivial⟩, HI.out.2.1.quiet hb, HI.out.2.2.1.quiet hb, HI.out.2.2.2.1.trans (hb.mono HI.out.2.2.2.1.size), Nat.le_trans HI.out.2.2.2.2 hb.size⟩)
        obtain ⟨y, hy⟩ : ∃ y, y = wr.heap.size := ⟨_, rfl⟩
        rw [← hy] at HI ⊢
        clear hA hb hy
        go_wp2_with fail
        go_loopw [10] (fun i wr => ∃ j : Nat, j ≤ 4 ∧ i = .int .i64 (j : Int) ∧ (mgM l 1 2).at_ w.heap.size l y 1 2 1 0 wr (after (mgM 0 1 2).sys 0 .h sX j).1 ∧ MemAt wr m g (after (mgM 0 1 2).sys 0 .h sX j).2 ∧ Grow wr B 3 1 (encI .i64) (.slice a0 (aw n).2.length c0) (aw n).2 ∧ Below w.heap.size w wr ∧ B ≤ wr.heap.size) (fun i _ => 4 - (intOf i).toNat)
        case atStart => exact ⟨0, by omega, rfl, HI.out⟩
        case round =>
          clear HI
          obtain ⟨j, hj, rfl, hI⟩ := hrel
          have HI := hid hI
          clear hI
          by_cases hlt2 : j < 4
          · have hltj : decide ((j : Int) < 4) = true := decide_eq_true (by omega)
            have hcl := after_clock (mgM 0 1 2).sys 0 .h sX j
            have hc0 := HC.out
            go_wp2_with fail
            refine (mgstep_run w.heap.size l y m g 1 2 1 0 (mg_goes l y 1 2 1 0 (by omega)) HI.out.1 HI.out.2.1 (by omega) (by omega)).mono ?_
            rintro e w6 ⟨⟨bb, rfl⟩, hA6, hM6, hK6⟩
            have HI6 := hid (And.intro hA6 (And.intro hM6 (And.intro (keptOwn_grow hK6 HI.out.2.2.1 HQ.out.2.2.1 HQ.out.2.2.2 (by decide)) (And.intro (keptOwn_low hK6 HI.out.2.2.2.1 HQ.out.1 HQ.out.2.1 HI.out.2.2.2.1.size) (Nat.le_trans HI.out.2.2.2.2 (keptOwn_size hK6))))))
            clear hA6 hM6 hK6 HI hcl hc0
            go_wp2_with fail
            go_roundw
            case rel => exact ⟨j + 1, by omega, by go_num, HI6.out⟩
            case measure => simp [intOf]; omega
          · obtain rfl : j = 4 := by omega
            have hltj : decide ((4 : Int) < 4) = false := by decide
            have hAW := HAW.out
            obtain ⟨q, hq⟩ : ∃ q, q = after (mgM 0 1 2).sys 0 .h sX 4 := ⟨_, rfl⟩
            rw [← hq] at HI hAW
            have HAW := hid hAW
            have hlen := HLEN.out
            clear hq hAW
            go_wp2_with fail
            refine (mg_t_run HI.out.1).mono ?_
            rintro e w6 ⟨rfl, rfl⟩
            have hG6 := HI.out.2.2.1
            have hs6 := HI.out.2.2.2.2
            have hL6 := HI.out.1.2.2.1
            have hM6 := HI.out.2.1
            have hlow6 := HI.out.2.2.2.1
            have hml := HQ.out.2.2
            obtain ⟨t, ht⟩ : ∃ t, t = q.1.t := ⟨_, rfl⟩
            rw [← ht]
            have HT := hid ht
            clear HI ht
            go_wp2_with (first | (at_builtin; refine app_oneK (T := 3) t hG6 infoI Try.underlying89 rfl (by decide) (by omega) rfl _ _ rfl rfl rfl rfl (encN_len _) (encN_one _) (by omega) hs6 ?_; intro v' w7 hG7 hK7))
            have own1 : ∀ i ∈ (Value.slice a0 (aw n).2.length c0).ownBlock.toList, B ≤ i ∧ ∀ cs T', T' ≠ 3 → ¬ Blk wr i cs T' := by
              intro i hi
              refine ⟨own_le hG6 i (by simpa using hi), ?_⟩
              intro cs T' hT hb
              have := own_type hG6 hb (Ne.symm hT)
              simp at hi
              exact this hi
            have HI7 := hid (show Lay w7 l 1 2 1 ∧ MemAt w7 m g q.2 ∧ Grow w7 B 3 1 (encI .i64) v' ((aw n).2 ++ [t]) ∧ Below w.heap.size w w7 ∧ B ≤ w7.heap.size by
              refine ⟨hL6.kept hK7 (fun hi => (own1 _ hi).2 _ _ (by decide) hL6.1), hM6.kept hK7 (fun hi => by have := (own1 _ hi).1; omega) (fun hi => by have := (own1 _ hi).1; omega), hG7, below_kept hlow6 hK7 (fun i hi => by have := (own1 _ hi).1; have := HB0.out; omega) hlow6.size, Nat.le_trans hs6 hK7.size⟩)
            clear hG6 hs6 hL6 hM6 hlow6 own1 hG7 hK7 hml
            go_wp2_with fail
            go_roundw
            case rel =>
              refine ⟨n + 1, by omega, by go_num, ?_⟩
              rw [HAW.out, ← HT.out]
              exact HI7.out
            case measure => simp [intOf]; omega
    · obtain rfl : n = 4 := by omega
      have hlt' : decide ((4 : Int) < 4) = false := by decide
      have hE := HE.out
      have e4 : (aw 4).2.length = 4 := by rw [hE.1]; rfl
      have hG4 := HI.out.2.2.1
      rw [hE.1] at hG4
      obtain ⟨a2, c2, hv2, hrow, _, _⟩ := hG4.row encN_len
      injection hv2 with q1 q2 q3
      subst q1 q3
      have hw4 := below_one wr (.cells #[.int .i64 0, .int .i64 1, .int .i64 (-1), .int .i64 0] 3)
      have hnew := Blk.new wr [.int .i64 0, .int .i64 1, .int .i64 (-1), .int .i64 0] 3
      have hrow2 : RowOf (encI .i64) 1 (wr.alloc (.cells #[.int .i64 0, .int .i64 1, .int .i64 (-1), .int .i64 0] 3)) (some ⟨wr.heap.size, 0, none⟩) [0, 1, -1, 0] := by
        intro i hi
        refine ⟨_, rfl, ?_⟩
        intro j v hv
        have hj : j = 0 := by
          have := (List.getElem?_eq_some_iff.1 hv).1
          simp [encI] at this
          exact this
        subst hj
        rw [show (⟨wr.heap.size, 0, none⟩ : Addr).add (i * 1 + 0) = ⟨wr.heap.size, i, none⟩ by unfold Addr.add; split <;> simp_all]
        have hi4 : i < 4 := hi
        have : i = 0 ∨ i = 1 ∨ i = 2 ∨ i = 3 := by omega
        rcases this with rfl | rfl | rfl | rfl <;> exact (hnew.cell _).trans hv
      have HX := hid (And.intro (hrow.quiet hw4) (And.intro hrow2 (And.intro (HI.out.1.quiet hw4) (And.intro (HI.out.2.1.quiet hw4) (HI.out.2.2.2.1.trans (hw4.mono HI.out.2.2.2.1.size))))))
      have HS := hid hE.2
      rw [e4]
      clear hE e4 hG4 hrow hrow2 hnew hw4 q2 HI HE HCL
      go_wp2_with (first | (go_at_call 96; refine (same12_run a0 (some ⟨wr.heap.size, 0, none⟩) c0 4 [0, 1, -1, 0] _ HX.out.1 HX.out.2.1 (by simp)).mono ?_; rintro e w5 ⟨rfl, hb5⟩) | (go_at_call 71; refine (spare_run l m g 1 2 1 _ _ (HX.out.2.2.1.quiet hb5) (HX.out.2.2.2.1.quiet hb5)).mono ?_; rintro e w6 ⟨rfl, hb6⟩; rw [HS.out]))
      go_ret
      exact ⟨rfl, Below.then_ (Below.then_ HX.out.2.2.2.2 hb5) hb6⟩
end Go.Proofs.Ytokpgbocomhpiaa.Idlem
