/- A script, by the document; configs. -/
import Derived.Test.YthonhbciileomaaDiceMkC
import Derived.Deep.LoopGhost
import Derived.Deep.RegionHeld3
set_option maxRecDepth 100000
set_option maxHeartbeats 1000000
set_option linter.unusedVariables false
set_option linter.unusedSimpArgs false
namespace Go.Proofs.Ythonhbciileomaa.Dice
open Go.RowKit Go.Proofs.Ythonhbciileomaa.TK Go.Proofs.Ythonhbciileomaa.Flag Go.Proofs.Ythonhbciileomaa.Read Go.Proofs.Ythonhbciileomaa.Grow
theorem Grow.keptB' {α : Type} {w w' : World} {B : Nat} {T : TypeId} {size : Nat} {enc : α → List Value} {v : Value} {xs : List α} {S : List Nat} (h : Grow w B T size enc v xs) (hk : Kept S w w') (hS : ∀ i ∈ S, ∀ y, v.ownBlock = some y → y ≠ i) : Grow w' B T size enc v xs := by
  refine ⟨h.1, ?_⟩
  rcases h.2 with h2 | ⟨g, cap, cur, hv, hg, hh, h3⟩
  · exact .inl h2
  · refine .inr ⟨g, cap, cur, hv, hg, ?_, h3⟩
    rw [hk.block g (lt_of_block hh) (fun hm => hS g hm g (by rw [hv]; rfl) rfl)]
    exact hh
theorem rscript_run (g : Nat) (a0 : Int) (m : Nat) (T n : Int) (w : World) (hb : RDiceAt w g a0 m) (ha : U64 a0) (hm : m ≤ 1000) (hT : 1 ≤ T) (hT' : T ≤ 256) (hn : n ≤ 300) :
    Calls Try.prog 13 #[.pointer (some ⟨g, 0, none⟩), .int .i64 T, .int .i64 n] w fun e w' => ∃ v, e = .returned v ∧ Grow w' w.heap.size 43 2 encE v (scrL a0 T n.toNat m).1 ∧ RDiceAt w' g a0 (scrL a0 T n.toNat m).2 ∧ Kept [g] w w' := by
  have hg := hb.lt
  obtain ⟨N, hN⟩ : ∃ N, N = n.toNat := ⟨_, rfl⟩
  rw [← hN]
  have HN := hid hN
  have hN3 : N ≤ 300 := by omega
  have HI := hid (And.intro hb (Kept.refl [g] w))
  clear hb hN
  go_enter Try.func13, Try.ntmps13
  go_wp2_with fail
  go_loopg [7] N (fun gk v wr => ∃ j, gk = N - (iterS a0 T N m j).1.length ∧ Grow wr w.heap.size 43 2 encE v (iterS a0 T N m j).1 ∧ RDiceAt wr g a0 (iterS a0 T N m j).2 ∧ Kept [g] w wr)
  case atStart => exact ⟨0, by simp [iterS], Grow.nil _ _ _ _ _, HI.out.1, HI.out.2⟩
  case round =>
    clear HI
    obtain ⟨j, hgk, hG, HD, HK⟩ := hrel
    have hle := iterS_le a0 T N m j
    have hsucc := hid (iterS_succ a0 T N m j)
    have hscr := hid (scr_of a0 T N m j)
    have hj3 : (iterS a0 T N m j).1.length < N → j ≤ 300 := by intro h; omega
    obtain ⟨⟨xs, mm⟩, hs⟩ : ∃ s, s = iterS a0 T N m j := ⟨_, rfl⟩
    rw [← hs] at hgk hG HD hle hsucc hscr hj3
    clear hs
    simp only at hgk hG HD hle hj3
    obtain ⟨a, cap, rfl, _, _, hown⟩ := hG.row encE_len
    have hnN := HN.out
    by_cases hlt : xs.length < N
    · have hlt' : decide ((xs.length : Int) < n) = true := decide_eq_true (by omega)
      have hj := hj3 hlt
      have hmm : mm ≤ 2000 := by omega
      have hnN' : n = (N : Int) := by omega
      clear hnN hj3
      have HNN := hid hnN'
      clear hnN'
      go_wp2_with fail
      refine (rdbelow_run g a0 mm 8 _ HD ha (by omega) (by omega) (by omega)).mono ?_
      rintro e w1 ⟨rfl, HD1, K1⟩
      have hk := blAt_range a0 mm 8 (by omega)
      obtain ⟨k, hkd⟩ : ∃ k, k = blAt a0 mm 8 := ⟨_, rfl⟩
      rw [← hkd] at hk ⊢
      have HKD := hid hkd
      have hG1 := hG.kept K1 (by simp; omega)
      have HK1 := HK.trans K1 (by simp)
      have hwl : w.heap.size ≤ w1.heap.size := HK1.size
      have hgl : g < w1.heap.size := by omega
      have hoB : ∀ x, a = some x → x.block ≠ w1.heap.size := fun x hx => by have := (hown x hx).2; have := K1.size; omega
      clear hkd hG HK K1 HD hown
      rcases (show k = 0 ∨ k = 1 ∨ k = 2 ∨ (k ≠ 0 ∧ k ≠ 1 ∧ k ≠ 2) by omega) with rfl | rfl | rfl | ⟨k0, k1, k2⟩
      · go_wp2_with fail
        refine (rdbelow_run g a0 (mm + 1) 16 _ (Blk.alloc HD1 _) ha (by omega) (by omega) (by omega)).mono ?_
        rintro e w2 ⟨rfl, HD3, K2⟩
        have hc := blAt_range a0 (mm + 1) 16 (by omega)
        have HRL0 : runL a0 T mm = (List.replicate (1 + blAt a0 (mm + 1) 16).toNat (2, 0), mm + 1 + 1) := by unfold runL; repeat (first | rw [if_pos HKD.out.symm] | rw [if_neg (by rw [← HKD.out]; omega)])
        obtain ⟨c, hcd⟩ : ∃ c, c = blAt a0 (mm + 1) 16 := ⟨_, rfl⟩
        rw [← hcd] at hc HRL0 ⊢
        obtain ⟨M, hM⟩ : ∃ M : Nat, (M : Int) = 1 + c := ⟨(1 + c).toNat, by omega⟩
        have BX3 : Blk w2 w1.heap.size (encE (2, 0)) 43 := (Blk.new w1 [.int .i64 2, .int .i64 0] _).kept K2 (by simp; omega)
        have hG3 := (hG1.quiet (below_one w1 (.cells #[.int .i64 2, .int .i64 0] 43))).kept K2 (by simp; omega)
        have HK3 := (HK1.quiet (below_one w1 (.cells #[.int .i64 2, .int .i64 0] 43))).trans K2 (by simp)
        obtain ⟨X, hX⟩ : ∃ X : Ent, X = (2, 0) := ⟨_, rfl⟩
        obtain ⟨m1, hm1⟩ : ∃ m1, m1 = mm + 1 + 1 := ⟨_, rfl⟩
        obtain ⟨bx, hbxd⟩ : ∃ bx, bx = w1.heap.size := ⟨_, rfl⟩
        have HOB := hid (show ∀ y, (Value.slice a xs.length cap).ownBlock = some y → y ≠ bx by
          intro y hy
          cases a with
          | none => simp [Value.ownBlock] at hy
          | some x => simp [Value.ownBlock] at hy; rw [← hy, hbxd]; exact hoB x rfl)
        rw [← hX] at BX3 HRL0
        rw [← hm1] at HD3 HRL0
        rw [← hbxd] at BX3 ⊢
        rw [show (1 + c).toNat = M by omega] at HRL0
        have HRL := hid HRL0
        clear HRL0 hX hm1 hbxd hcd HD1 hG1 HK1 K2 hoB
        go_wp2_with fail
        go_loopw [11, 7] (fun i v wr => ∃ q : Nat, q ≤ M ∧ xs.length + q ≤ N ∧ i = .int .i64 (q : Int) ∧ Grow wr w.heap.size 43 2 encE v (xs ++ List.replicate q X) ∧ Blk wr bx (encE X) 43 ∧ RDiceAt wr g a0 m1 ∧ Kept [g] w wr ∧ w.heap.size ≤ wr.heap.size ∧ bx < wr.heap.size ∧ (∀ y, v.ownBlock = some y → y ≠ bx)) (fun i _ _ => M - (intOf i).toNat)
        case atStart => exact ⟨0, by omega, by omega, rfl, by simpa using hG3, BX3, HD3, HK3, HK3.size, BX3.lt, HOB.out⟩
        case round =>
          clear hG3 BX3 HD3 HK3
          obtain ⟨q, hq, hqN, rfl, hG, BX, HD, HK, hle, hbx, hob⟩ := hrel
          have hlen : (xs ++ List.replicate q X).length = xs.length + q := by simp
          have HSU := hid (show xs ++ List.replicate (q + 1) X = xs ++ List.replicate q X ++ [X] by rw [rep_succ, List.append_assoc])
          have HTK := hid (show (q = M ∨ xs.length + q = N) → (xs ++ List.replicate M X).take N = xs ++ List.replicate q X from by
            intro h
            rcases h with h | h
            · rw [← h]; exact List.take_of_length_le (by rw [hlen]; exact hqN)
            · rw [← h, List.take_append, List.take_of_length_le (by omega), show xs.length + q - xs.length = q by omega, List.take_replicate, Nat.min_eq_left hq])
          obtain ⟨L, hL⟩ : ∃ L, L = xs ++ List.replicate q X := ⟨_, rfl⟩
          rw [← hL] at hG hlen HSU HTK
          clear hL
          obtain ⟨aq, cq, hv, _, _, _⟩ := hG.row encE_len
          subst hv
          rw [hlen]
          by_cases hgo : q < M ∧ xs.length + q < N
          · have t1 : decide ((q : Int) < 1 + c) = true := decide_eq_true (by omega)
            have t2 : decide ((xs.length : Int) + (q : Int) < n) = true := decide_eq_true (by have := HNN.out; omega)
            have y0 := BX.cell 0
            have y1 := BX.cell 1
            simp only [encE, List.getElem?_cons_zero, List.getElem?_cons_succ] at y0 y1
            have hG' := hG
            rw [hlen] at hG'
            have HG := hid hG
            go_wp2_with (first | (at_builtin; refine app_oneN (T := 43) X hG infoE Try.underlying35 rfl (by decide) (by omega) (by rfl) _ _ (by rfl) (by first | rfl | (rw [hlen]; rfl)) (by rfl) (by rfl) (by rfl) (encE_one X) (by omega) hle ?_; intro v' w5 hG5 hK5 ho5))
            have hol := own_le HG.out
            have BX5 := BX.kept hK5 (fun hi => hob _ (by simpa using hi) rfl)
            have HD5 : RDiceAt w5 g a0 m1 := Blk.kept HD hK5 (fun hi => by have := hol g (by simpa using hi); omega)
            have HK5 : Kept [g] w w5 := HK.trans hK5 (fun i hi => .inr (hol i (by simpa using hi)))
            have hob5 : ∀ y, v'.ownBlock = some y → y ≠ bx := by
              intro y hy
              rcases ho5 with e | e
              · exact hob y (by rw [← e]; exact hy)
              · have := e y hy; omega
            rw [← HSU.out] at hG5
            have HR := hid (And.intro hG5 (And.intro BX5 (And.intro HD5 (And.intro HK5 (And.intro HK5.size (And.intro BX5.lt hob5))))))
            clear hG5 BX5 HD5 HK5 hob5 hG hG' HG BX HD HK hle hob ho5 hK5 y0 y1 hol
            first | (refine ⟨⟨q + 1, by omega, by omega, by go_num, HR.out⟩, by simp [intOf]; omega⟩) | (go_roundw; (case rel => first | exact ⟨q + 1, by omega, by omega, by go_num, HR.out⟩ | ((repeat apply Exists.intro); exact ⟨⟨q + 1, by omega, by omega, by go_num, HR.out⟩, rfl⟩)); (case measure => simp [intOf]; omega))
          · have hend : q = M ∨ xs.length + q = N := by omega
            have hnext : iterS a0 T N m (j + 1) = (L, m1) := by
              rw [hsucc.out]
              unfold stepS
              simp only
              rw [HRL.out, joinS_yes hlt, HTK.out hend]
            have hq1 : 1 ≤ q := by omega
            have stop : decide ((q : Int) < 1 + c) = false ∨ (decide ((q : Int) < 1 + c) = true ∧ decide ((xs.length : Int) + (q : Int) < n) = false) := by
              have := HNN.out
              by_cases h1 : q < M
              · exact .inr ⟨decide_eq_true (by omega), decide_eq_false (by omega)⟩
              · exact .inl (decide_eq_false (by omega))
            have HR := hid (show Grow wr w.heap.size 43 2 encE (.slice aq (xs.length + q) cq) (iterS a0 T N m (j + 1)).1 ∧ RDiceAt wr g a0 (iterS a0 T N m (j + 1)).2 ∧ Kept [g] w wr ∧ N - L.length = N - (iterS a0 T N m (j + 1)).1.length by rw [hnext]; rw [hlen] at hG; exact ⟨hG, HD, HK, rfl⟩)
            have hll : N - L.length < N - xs.length := by omega
            clear hnext hG HD HK hob BX
            rcases stop with t1 | ⟨t1, t2⟩
            · go_wp2_with fail
              go_roundg (N - L.length)
              case measure => omega
              case rel => exact ⟨j + 1, HR.out.2.2.2, HR.out.1, HR.out.2.1, HR.out.2.2.1⟩
            · go_wp2_with fail
              go_roundg (N - L.length)
              case measure => omega
              case rel => exact ⟨j + 1, HR.out.2.2.2, HR.out.1, HR.out.2.1, HR.out.2.2.1⟩
      · go_wp2_with fail
        refine (rdbelow_run g a0 (mm + 1) 16 _ (Blk.alloc HD1 _) ha (by omega) (by omega) (by omega)).mono ?_
        rintro e w2 ⟨rfl, HD3, K2⟩
        have hc := blAt_range a0 (mm + 1) 16 (by omega)
        have HRL0 : runL a0 T mm = (List.replicate (1 + blAt a0 (mm + 1) 16).toNat (3, 0), mm + 1 + 1) := by unfold runL; repeat (first | rw [if_pos HKD.out.symm] | rw [if_neg (by rw [← HKD.out]; omega)])
        obtain ⟨c, hcd⟩ : ∃ c, c = blAt a0 (mm + 1) 16 := ⟨_, rfl⟩
        rw [← hcd] at hc HRL0 ⊢
        obtain ⟨M, hM⟩ : ∃ M : Nat, (M : Int) = 1 + c := ⟨(1 + c).toNat, by omega⟩
        have BX3 : Blk w2 w1.heap.size (encE (3, 0)) 43 := (Blk.new w1 [.int .i64 3, .int .i64 0] _).kept K2 (by simp; omega)
        have hG3 := (hG1.quiet (below_one w1 (.cells #[.int .i64 3, .int .i64 0] 43))).kept K2 (by simp; omega)
        have HK3 := (HK1.quiet (below_one w1 (.cells #[.int .i64 3, .int .i64 0] 43))).trans K2 (by simp)
        obtain ⟨X, hX⟩ : ∃ X : Ent, X = (3, 0) := ⟨_, rfl⟩
        obtain ⟨m1, hm1⟩ : ∃ m1, m1 = mm + 1 + 1 := ⟨_, rfl⟩
        obtain ⟨bx, hbxd⟩ : ∃ bx, bx = w1.heap.size := ⟨_, rfl⟩
        have HOB := hid (show ∀ y, (Value.slice a xs.length cap).ownBlock = some y → y ≠ bx by
          intro y hy
          cases a with
          | none => simp [Value.ownBlock] at hy
          | some x => simp [Value.ownBlock] at hy; rw [← hy, hbxd]; exact hoB x rfl)
        rw [← hX] at BX3 HRL0
        rw [← hm1] at HD3 HRL0
        rw [← hbxd] at BX3 ⊢
        rw [show (1 + c).toNat = M by omega] at HRL0
        have HRL := hid HRL0
        clear HRL0 hX hm1 hbxd hcd HD1 hG1 HK1 K2 hoB
        go_wp2_with fail
        go_loopw [11, 7] (fun i v wr => ∃ q : Nat, q ≤ M ∧ xs.length + q ≤ N ∧ i = .int .i64 (q : Int) ∧ Grow wr w.heap.size 43 2 encE v (xs ++ List.replicate q X) ∧ Blk wr bx (encE X) 43 ∧ RDiceAt wr g a0 m1 ∧ Kept [g] w wr ∧ w.heap.size ≤ wr.heap.size ∧ bx < wr.heap.size ∧ (∀ y, v.ownBlock = some y → y ≠ bx)) (fun i _ _ => M - (intOf i).toNat)
        case atStart => exact ⟨0, by omega, by omega, rfl, by simpa using hG3, BX3, HD3, HK3, HK3.size, BX3.lt, HOB.out⟩
        case round =>
          clear hG3 BX3 HD3 HK3
          obtain ⟨q, hq, hqN, rfl, hG, BX, HD, HK, hle, hbx, hob⟩ := hrel
          have hlen : (xs ++ List.replicate q X).length = xs.length + q := by simp
          have HSU := hid (show xs ++ List.replicate (q + 1) X = xs ++ List.replicate q X ++ [X] by rw [rep_succ, List.append_assoc])
          have HTK := hid (show (q = M ∨ xs.length + q = N) → (xs ++ List.replicate M X).take N = xs ++ List.replicate q X from by
            intro h
            rcases h with h | h
            · rw [← h]; exact List.take_of_length_le (by rw [hlen]; exact hqN)
            · rw [← h, List.take_append, List.take_of_length_le (by omega), show xs.length + q - xs.length = q by omega, List.take_replicate, Nat.min_eq_left hq])
          obtain ⟨L, hL⟩ : ∃ L, L = xs ++ List.replicate q X := ⟨_, rfl⟩
          rw [← hL] at hG hlen HSU HTK
          clear hL
          obtain ⟨aq, cq, hv, _, _, _⟩ := hG.row encE_len
          subst hv
          rw [hlen]
          by_cases hgo : q < M ∧ xs.length + q < N
          · have t1 : decide ((q : Int) < 1 + c) = true := decide_eq_true (by omega)
            have t2 : decide ((xs.length : Int) + (q : Int) < n) = true := decide_eq_true (by have := HNN.out; omega)
            have y0 := BX.cell 0
            have y1 := BX.cell 1
            simp only [encE, List.getElem?_cons_zero, List.getElem?_cons_succ] at y0 y1
            have hG' := hG
            rw [hlen] at hG'
            have HG := hid hG
            go_wp2_with (first | (at_builtin; refine app_oneN (T := 43) X hG infoE Try.underlying35 rfl (by decide) (by omega) (by rfl) _ _ (by rfl) (by first | rfl | (rw [hlen]; rfl)) (by rfl) (by rfl) (by rfl) (encE_one X) (by omega) hle ?_; intro v' w5 hG5 hK5 ho5))
            have hol := own_le HG.out
            have BX5 := BX.kept hK5 (fun hi => hob _ (by simpa using hi) rfl)
            have HD5 : RDiceAt w5 g a0 m1 := Blk.kept HD hK5 (fun hi => by have := hol g (by simpa using hi); omega)
            have HK5 : Kept [g] w w5 := HK.trans hK5 (fun i hi => .inr (hol i (by simpa using hi)))
            have hob5 : ∀ y, v'.ownBlock = some y → y ≠ bx := by
              intro y hy
              rcases ho5 with e | e
              · exact hob y (by rw [← e]; exact hy)
              · have := e y hy; omega
            rw [← HSU.out] at hG5
            have HR := hid (And.intro hG5 (And.intro BX5 (And.intro HD5 (And.intro HK5 (And.intro HK5.size (And.intro BX5.lt hob5))))))
            clear hG5 BX5 HD5 HK5 hob5 hG hG' HG BX HD HK hle hob ho5 hK5 y0 y1 hol
            first | (refine ⟨⟨q + 1, by omega, by omega, by go_num, HR.out⟩, by simp [intOf]; omega⟩) | (go_roundw; (case rel => first | exact ⟨q + 1, by omega, by omega, by go_num, HR.out⟩ | ((repeat apply Exists.intro); exact ⟨⟨q + 1, by omega, by omega, by go_num, HR.out⟩, rfl⟩)); (case measure => simp [intOf]; omega))
          · have hend : q = M ∨ xs.length + q = N := by omega
            have hnext : iterS a0 T N m (j + 1) = (L, m1) := by
              rw [hsucc.out]
              unfold stepS
              simp only
              rw [HRL.out, joinS_yes hlt, HTK.out hend]
            have hq1 : 1 ≤ q := by omega
            have stop : decide ((q : Int) < 1 + c) = false ∨ (decide ((q : Int) < 1 + c) = true ∧ decide ((xs.length : Int) + (q : Int) < n) = false) := by
              have := HNN.out
              by_cases h1 : q < M
              · exact .inr ⟨decide_eq_true (by omega), decide_eq_false (by omega)⟩
              · exact .inl (decide_eq_false (by omega))
            have HR := hid (show Grow wr w.heap.size 43 2 encE (.slice aq (xs.length + q) cq) (iterS a0 T N m (j + 1)).1 ∧ RDiceAt wr g a0 (iterS a0 T N m (j + 1)).2 ∧ Kept [g] w wr ∧ N - L.length = N - (iterS a0 T N m (j + 1)).1.length by rw [hnext]; rw [hlen] at hG; exact ⟨hG, HD, HK, rfl⟩)
            have hll : N - L.length < N - xs.length := by omega
            clear hnext hG HD HK hob BX
            rcases stop with t1 | ⟨t1, t2⟩
            · go_wp2_with fail
              go_roundg (N - L.length)
              case measure => omega
              case rel => exact ⟨j + 1, HR.out.2.2.2, HR.out.1, HR.out.2.1, HR.out.2.2.1⟩
            · go_wp2_with fail
              go_roundg (N - L.length)
              case measure => omega
              case rel => exact ⟨j + 1, HR.out.2.2.2, HR.out.1, HR.out.2.1, HR.out.2.2.1⟩
      · go_wp2_with fail
        refine (rdbelow_run g a0 (mm + 1) T _ (Blk.alloc HD1 _) ha (by omega) (by omega) (by omega)).mono ?_
        rintro e w2 ⟨rfl, HD2, K2⟩
        have HRL0 : runL a0 T mm = (List.replicate 1 (4, blAt a0 (mm + 1) T), mm + 1 + 1) := by unfold runL; rw [if_neg (by rw [← HKD.out]; omega), if_neg (by rw [← HKD.out]; omega), if_pos HKD.out.symm]; rfl
        obtain ⟨c, hcd⟩ : ∃ c, c = blAt a0 (mm + 1) T := ⟨_, rfl⟩
        rw [← hcd] at HRL0 ⊢
        obtain ⟨M, hM⟩ : ∃ M : Nat, M = 1 := ⟨_, rfl⟩
        have BX2 : Blk w2 w1.heap.size [.int .i64 4, .int .i64 0] 43 := (Blk.new w1 [.int .i64 4, .int .i64 0] _).kept K2 (by simp; omega)
        have BX3 : Blk (w2.setCell ⟨w1.heap.size, 1, none⟩ (.int .i64 c)) w1.heap.size (encE (4, c)) 43 := BX2.set 1 (.int .i64 c)
        have hG2 := (hG1.quiet (below_one w1 (.cells #[.int .i64 4, .int .i64 0] 43))).kept K2 (by simp; omega)
        have HK2 := (HK1.quiet (below_one w1 (.cells #[.int .i64 4, .int .i64 0] 43))).trans K2 (by simp)
        have y0 := BX2.cell 0
        have y1 := BX2.cell 1
        have f1 := BX2.frozen 1
        simp only [List.getElem?_cons_zero, List.getElem?_cons_succ] at y0 y1
        have hKs : Kept [w1.heap.size] w2 (w2.setCell ⟨w1.heap.size, 1, none⟩ (.int .i64 c)) := (Kept.refl _ _).set (.inl (by simp)) _
        have hG3 := Grow.keptB' hG2 hKs (by
          intro i hi y hy
          simp at hi
          cases a with
          | none => simp [Value.ownBlock] at hy
          | some x => simp [Value.ownBlock] at hy; have := hoB x rfl; omega)
        have HK3 := HK2.trans hKs (fun i hi => .inr (by simp at hi; omega))
        have HD3 : RDiceAt (w2.setCell ⟨w1.heap.size, 1, none⟩ (.int .i64 c)) g a0 (mm + 1 + 1) := Blk.far HD2 (by simp; omega) _
        obtain ⟨X, hX⟩ : ∃ X : Ent, X = (4, c) := ⟨_, rfl⟩
        obtain ⟨m1, hm1⟩ : ∃ m1, m1 = mm + 1 + 1 := ⟨_, rfl⟩
        obtain ⟨bx, hbxd⟩ : ∃ bx, bx = w1.heap.size := ⟨_, rfl⟩
        have HOB := hid (show ∀ y, (Value.slice a xs.length cap).ownBlock = some y → y ≠ bx by
          intro y hy
          cases a with
          | none => simp [Value.ownBlock] at hy
          | some x => simp [Value.ownBlock] at hy; rw [← hy, hbxd]; exact hoB x rfl)
        rw [← hX] at BX3 HRL0
        rw [← hm1] at HD3 HRL0
        rw [← hbxd] at BX3 y0 y1 f1 hG3 HK3 HD3 ⊢
        rw [show (1 : Nat) = M from hM.symm] at HRL0
        have HRL := hid HRL0
        clear HRL0 hX hm1 hbxd hcd HD1 hG1 HK1 K2 hoB HD2 hG2 HK2 BX2 hKs
        go_wp2_with fail
        go_loopw [11, 7] (fun i v wr => ∃ q : Nat, q ≤ M ∧ xs.length + q ≤ N ∧ i = .int .i64 (q : Int) ∧ Grow wr w.heap.size 43 2 encE v (xs ++ List.replicate q X) ∧ Blk wr bx (encE X) 43 ∧ RDiceAt wr g a0 m1 ∧ Kept [g] w wr ∧ w.heap.size ≤ wr.heap.size ∧ bx < wr.heap.size ∧ (∀ y, v.ownBlock = some y → y ≠ bx)) (fun i _ _ => M - (intOf i).toNat)
        case atStart => exact ⟨0, by omega, by omega, rfl, by simpa using hG3, BX3, HD3, HK3, HK3.size, BX3.lt, HOB.out⟩
        case round =>
          clear hG3 BX3 HD3 HK3
          obtain ⟨q, hq, hqN, rfl, hG, BX, HD, HK, hle, hbx, hob⟩ := hrel
          have hlen : (xs ++ List.replicate q X).length = xs.length + q := by simp
          have HSU := hid (show xs ++ List.replicate (q + 1) X = xs ++ List.replicate q X ++ [X] by rw [rep_succ, List.append_assoc])
          have HTK := hid (show (q = M ∨ xs.length + q = N) → (xs ++ List.replicate M X).take N = xs ++ List.replicate q X from by
            intro h
            rcases h with h | h
            · rw [← h]; exact List.take_of_length_le (by rw [hlen]; exact hqN)
            · rw [← h, List.take_append, List.take_of_length_le (by omega), show xs.length + q - xs.length = q by omega, List.take_replicate, Nat.min_eq_left hq])
          obtain ⟨L, hL⟩ : ∃ L, L = xs ++ List.replicate q X := ⟨_, rfl⟩
          rw [← hL] at hG hlen HSU HTK
          clear hL
          obtain ⟨aq, cq, hv, _, _, _⟩ := hG.row encE_len
          subst hv
          rw [hlen]
          by_cases hgo : q < M ∧ xs.length + q < N
          · have t1 : decide ((q : Int) < 1) = true := decide_eq_true (by omega)
            have t2 : decide ((xs.length : Int) + (q : Int) < n) = true := decide_eq_true (by have := HNN.out; omega)
            have y0 := BX.cell 0
            have y1 := BX.cell 1
            simp only [encE, List.getElem?_cons_zero, List.getElem?_cons_succ] at y0 y1
            have hG' := hG
            rw [hlen] at hG'
            have HG := hid hG
            go_wp2_with (first | (at_builtin; refine app_oneN (T := 43) X hG infoE Try.underlying35 rfl (by decide) (by omega) (by rfl) _ _ (by rfl) (by first | rfl | (rw [hlen]; rfl)) (by rfl) (by rfl) (by rfl) (encE_one X) (by omega) hle ?_; intro v' w5 hG5 hK5 ho5))
            have hol := own_le HG.out
            have BX5 := BX.kept hK5 (fun hi => hob _ (by simpa using hi) rfl)
            have HD5 : RDiceAt w5 g a0 m1 := Blk.kept HD hK5 (fun hi => by have := hol g (by simpa using hi); omega)
            have HK5 : Kept [g] w w5 := HK.trans hK5 (fun i hi => .inr (hol i (by simpa using hi)))
            have hob5 : ∀ y, v'.ownBlock = some y → y ≠ bx := by
              intro y hy
              rcases ho5 with e | e
              · exact hob y (by rw [← e]; exact hy)
              · have := e y hy; omega
            rw [← HSU.out] at hG5
            have HR := hid (And.intro hG5 (And.intro BX5 (And.intro HD5 (And.intro HK5 (And.intro HK5.size (And.intro BX5.lt hob5))))))
            clear hG5 BX5 HD5 HK5 hob5 hG hG' HG BX HD HK hle hob ho5 hK5 y0 y1 hol
            first | (refine ⟨⟨q + 1, by omega, by omega, by go_num, HR.out⟩, by simp [intOf]; omega⟩) | (go_roundw; (case rel => first | exact ⟨q + 1, by omega, by omega, by go_num, HR.out⟩ | ((repeat apply Exists.intro); exact ⟨⟨q + 1, by omega, by omega, by go_num, HR.out⟩, rfl⟩)); (case measure => simp [intOf]; omega))
          · have hend : q = M ∨ xs.length + q = N := by omega
            have hnext : iterS a0 T N m (j + 1) = (L, m1) := by
              rw [hsucc.out]
              unfold stepS
              simp only
              rw [HRL.out, joinS_yes hlt, HTK.out hend]
            have hq1 : 1 ≤ q := by omega
            have stop : decide ((q : Int) < 1) = false ∨ (decide ((q : Int) < 1) = true ∧ decide ((xs.length : Int) + (q : Int) < n) = false) := by
              have := HNN.out
              by_cases h1 : q < M
              · exact .inr ⟨decide_eq_true (by omega), decide_eq_false (by omega)⟩
              · exact .inl (decide_eq_false (by omega))
            have HR := hid (show Grow wr w.heap.size 43 2 encE (.slice aq (xs.length + q) cq) (iterS a0 T N m (j + 1)).1 ∧ RDiceAt wr g a0 (iterS a0 T N m (j + 1)).2 ∧ Kept [g] w wr ∧ N - L.length = N - (iterS a0 T N m (j + 1)).1.length by rw [hnext]; rw [hlen] at hG; exact ⟨hG, HD, HK, rfl⟩)
            have hll : N - L.length < N - xs.length := by omega
            clear hnext hG HD HK hob BX
            rcases stop with t1 | ⟨t1, t2⟩
            · go_wp2_with fail
              go_roundg (N - L.length)
              case measure => omega
              case rel => exact ⟨j + 1, HR.out.2.2.2, HR.out.1, HR.out.2.1, HR.out.2.2.1⟩
            · go_wp2_with fail
              go_roundg (N - L.length)
              case measure => omega
              case rel => exact ⟨j + 1, HR.out.2.2.2, HR.out.1, HR.out.2.1, HR.out.2.2.1⟩
      · have k3 : decide ((1 : Int) < k) = true := decide_eq_true (by omega)
        have k5 : (k != 2) = true := by simp [k2]
        go_wp2_with fail
        refine (rdbelow_run g a0 (mm + 1) T _ (Blk.alloc HD1 _) ha (by omega) (by omega) (by omega)).mono ?_
        rintro e w2 ⟨rfl, HD2, K2⟩
        have HRL0 : runL a0 T mm = (List.replicate (1 + blAt a0 (mm + 2) 16).toNat (1, blAt a0 (mm + 1) T), mm + 1 + 1 + 1) := by unfold runL; repeat (first | rw [if_neg (by rw [← HKD.out]; omega)])
        obtain ⟨c2, hcd2⟩ : ∃ c, c = blAt a0 (mm + 1) T := ⟨_, rfl⟩
        rw [← hcd2] at HRL0 ⊢
        clear hcd2
        have BX2 : Blk w2 w1.heap.size [.int .i64 1, .int .i64 0] 43 := (Blk.new w1 [.int .i64 1, .int .i64 0] _).kept K2 (by simp; omega)
        have BX4 : Blk (w2.setCell ⟨w1.heap.size, 1, none⟩ (.int .i64 c2)) w1.heap.size (encE (1, c2)) 43 := BX2.set 1 (.int .i64 c2)
        have hG2 := (hG1.quiet (below_one w1 (.cells #[.int .i64 1, .int .i64 0] 43))).kept K2 (by simp; omega)
        have HK2 := (HK1.quiet (below_one w1 (.cells #[.int .i64 1, .int .i64 0] 43))).trans K2 (by simp)
        have y0 := BX2.cell 0
        have y1 := BX2.cell 1
        have f1 := BX2.frozen 1
        simp only [List.getElem?_cons_zero, List.getElem?_cons_succ] at y0 y1
        have hKs : Kept [w1.heap.size] w2 (w2.setCell ⟨w1.heap.size, 1, none⟩ (.int .i64 c2)) := (Kept.refl _ _).set (.inl (by simp)) _
        have hG4 := Grow.keptB' hG2 hKs (by
          intro i hi y hy
          simp at hi
          cases a with
          | none => simp [Value.ownBlock] at hy
          | some x => simp [Value.ownBlock] at hy; have := hoB x rfl; omega)
        have HK4 := HK2.trans hKs (fun i hi => .inr (by simp at hi; omega))
        have HD4 : RDiceAt (w2.setCell ⟨w1.heap.size, 1, none⟩ (.int .i64 c2)) g a0 (mm + 1 + 1) := Blk.far HD2 (by simp; omega) _
        go_wp2_with fail
        refine (rdbelow_run g a0 (mm + 1 + 1) 16 _ HD4 ha (by omega) (by omega) (by omega)).mono ?_
        rintro e w3 ⟨rfl, HD3, K3⟩
        have hc := blAt_range a0 (mm + 1 + 1) 16 (by omega)
        obtain ⟨c, hcd⟩ : ∃ c, c = blAt a0 (mm + 1 + 1) 16 := ⟨_, rfl⟩
        rw [← hcd] at hc ⊢
        rw [show blAt a0 (mm + 2) 16 = c from hcd.symm] at HRL0
        obtain ⟨M, hM⟩ : ∃ M : Nat, (M : Int) = 1 + c := ⟨(1 + c).toNat, by omega⟩
        have BX3 := BX4.kept K3 (by simp; omega)
        have hG3 := hG4.kept K3 (by simp; omega)
        have HK3 := HK4.trans K3 (by simp)
        obtain ⟨X, hX⟩ : ∃ X : Ent, X = (1, c2) := ⟨_, rfl⟩
        obtain ⟨m1, hm1⟩ : ∃ m1, m1 = mm + 1 + 1 + 1 := ⟨_, rfl⟩
        obtain ⟨bx, hbxd⟩ : ∃ bx, bx = w1.heap.size := ⟨_, rfl⟩
        have HOB := hid (show ∀ y, (Value.slice a xs.length cap).ownBlock = some y → y ≠ bx by
          intro y hy
          cases a with
          | none => simp [Value.ownBlock] at hy
          | some x => simp [Value.ownBlock] at hy; rw [← hy, hbxd]; exact hoB x rfl)
        rw [← hX] at BX3 HRL0
        rw [← hm1] at HD3 HRL0
        rw [← hbxd] at BX3 ⊢
        rw [show (1 + c).toNat = M by omega] at HRL0
        have HRL := hid HRL0
        clear HRL0 hX hm1 hbxd hcd HD1 hG1 HK1 K2 hoB HD2 hG2 HK2 BX2 hKs y0 y1 f1 BX4 hG4 HK4 HD4 K3
        go_wp2_with fail
        go_loopw [11, 7] (fun i v wr => ∃ q : Nat, q ≤ M ∧ xs.length + q ≤ N ∧ i = .int .i64 (q : Int) ∧ Grow wr w.heap.size 43 2 encE v (xs ++ List.replicate q X) ∧ Blk wr bx (encE X) 43 ∧ RDiceAt wr g a0 m1 ∧ Kept [g] w wr ∧ w.heap.size ≤ wr.heap.size ∧ bx < wr.heap.size ∧ (∀ y, v.ownBlock = some y → y ≠ bx)) (fun i _ _ => M - (intOf i).toNat)
        case atStart => exact ⟨0, by omega, by omega, rfl, by simpa using hG3, BX3, HD3, HK3, HK3.size, BX3.lt, HOB.out⟩
        case round =>
          clear hG3 BX3 HD3 HK3
          obtain ⟨q, hq, hqN, rfl, hG, BX, HD, HK, hle, hbx, hob⟩ := hrel
          have hlen : (xs ++ List.replicate q X).length = xs.length + q := by simp
          have HSU := hid (show xs ++ List.replicate (q + 1) X = xs ++ List.replicate q X ++ [X] by rw [rep_succ, List.append_assoc])
          have HTK := hid (show (q = M ∨ xs.length + q = N) → (xs ++ List.replicate M X).take N = xs ++ List.replicate q X from by
            intro h
            rcases h with h | h
            · rw [← h]; exact List.take_of_length_le (by rw [hlen]; exact hqN)
            · rw [← h, List.take_append, List.take_of_length_le (by omega), show xs.length + q - xs.length = q by omega, List.take_replicate, Nat.min_eq_left hq])
          obtain ⟨L, hL⟩ : ∃ L, L = xs ++ List.replicate q X := ⟨_, rfl⟩
          rw [← hL] at hG hlen HSU HTK
          clear hL
          obtain ⟨aq, cq, hv, _, _, _⟩ := hG.row encE_len
          subst hv
          rw [hlen]
          by_cases hgo : q < M ∧ xs.length + q < N
          · have t1 : decide ((q : Int) < 1 + c) = true := decide_eq_true (by omega)
            have t2 : decide ((xs.length : Int) + (q : Int) < n) = true := decide_eq_true (by have := HNN.out; omega)
            have y0 := BX.cell 0
            have y1 := BX.cell 1
            simp only [encE, List.getElem?_cons_zero, List.getElem?_cons_succ] at y0 y1
            have hG' := hG
            rw [hlen] at hG'
            have HG := hid hG
            go_wp2_with (first | (at_builtin; refine app_oneN (T := 43) X hG infoE Try.underlying35 rfl (by decide) (by omega) (by rfl) _ _ (by rfl) (by first | rfl | (rw [hlen]; rfl)) (by rfl) (by rfl) (by rfl) (encE_one X) (by omega) hle ?_; intro v' w5 hG5 hK5 ho5))
            have hol := own_le HG.out
            have BX5 := BX.kept hK5 (fun hi => hob _ (by simpa using hi) rfl)
            have HD5 : RDiceAt w5 g a0 m1 := Blk.kept HD hK5 (fun hi => by have := hol g (by simpa using hi); omega)
            have HK5 : Kept [g] w w5 := HK.trans hK5 (fun i hi => .inr (hol i (by simpa using hi)))
            have hob5 : ∀ y, v'.ownBlock = some y → y ≠ bx := by
              intro y hy
              rcases ho5 with e | e
              · exact hob y (by rw [← e]; exact hy)
              · have := e y hy; omega
            rw [← HSU.out] at hG5
            have HR := hid (And.intro hG5 (And.intro BX5 (And.intro HD5 (And.intro HK5 (And.intro HK5.size (And.intro BX5.lt hob5))))))
            clear hG5 BX5 HD5 HK5 hob5 hG hG' HG BX HD HK hle hob ho5 hK5 y0 y1 hol
            first | (refine ⟨⟨q + 1, by omega, by omega, by go_num, HR.out⟩, by simp [intOf]; omega⟩) | (go_roundw; (case rel => first | exact ⟨q + 1, by omega, by omega, by go_num, HR.out⟩ | ((repeat apply Exists.intro); exact ⟨⟨q + 1, by omega, by omega, by go_num, HR.out⟩, rfl⟩)); (case measure => simp [intOf]; omega))
          · have hend : q = M ∨ xs.length + q = N := by omega
            have hnext : iterS a0 T N m (j + 1) = (L, m1) := by
              rw [hsucc.out]
              unfold stepS
              simp only
              rw [HRL.out, joinS_yes hlt, HTK.out hend]
            have hq1 : 1 ≤ q := by omega
            have stop : decide ((q : Int) < 1 + c) = false ∨ (decide ((q : Int) < 1 + c) = true ∧ decide ((xs.length : Int) + (q : Int) < n) = false) := by
              have := HNN.out
              by_cases h1 : q < M
              · exact .inr ⟨decide_eq_true (by omega), decide_eq_false (by omega)⟩
              · exact .inl (decide_eq_false (by omega))
            have HR := hid (show Grow wr w.heap.size 43 2 encE (.slice aq (xs.length + q) cq) (iterS a0 T N m (j + 1)).1 ∧ RDiceAt wr g a0 (iterS a0 T N m (j + 1)).2 ∧ Kept [g] w wr ∧ N - L.length = N - (iterS a0 T N m (j + 1)).1.length by rw [hnext]; rw [hlen] at hG; exact ⟨hG, HD, HK, rfl⟩)
            have hll : N - L.length < N - xs.length := by omega
            clear hnext hG HD HK hob BX
            rcases stop with t1 | ⟨t1, t2⟩
            · go_wp2_with fail
              go_roundg (N - L.length)
              case measure => omega
              case rel => exact ⟨j + 1, HR.out.2.2.2, HR.out.1, HR.out.2.1, HR.out.2.2.1⟩
            · go_wp2_with fail
              go_roundg (N - L.length)
              case measure => omega
              case rel => exact ⟨j + 1, HR.out.2.2.2, HR.out.1, HR.out.2.1, HR.out.2.2.1⟩
    · have hlt' : decide ((xs.length : Int) < n) = false := decide_eq_false (by omega)
      have hsc := hscr.out (by simp only; omega)
      clear hnN
      go_wp2
      go_ret
      rw [← hsc]
      exact ⟨_, rfl, hG, HD, HK⟩
end Go.Proofs.Ythonhbciileomaa.Dice
