/- The list of free goroutines, as the document goes through it. -/
import Derived.Test.YtlhnnggceebpjaaListQ
import Derived.Test.YtlhnnggceebpjaaGlobqD
set_option maxRecDepth 100000
set_option maxHeartbeats 4000000
set_option linter.unusedVariables false
set_option linter.unusedSimpArgs false
namespace Go.Proofs.Ytlhnnggceebpjaa.Globq
open Go.RowKit Go.Shelf Go.Proofs.Ytlhnnggceebpjaa.TK Go.Proofs.Ytlhnnggceebpjaa.Flag Go.Proofs.Ytlhnnggceebpjaa.Read Go.Proofs.Ytlhnnggceebpjaa.Grow Go.Proofs.Ytlhnnggceebpjaa.Words Go.Proofs.Ytlhnnggceebpjaa.Mem Go.Proofs.Ytlhnnggceebpjaa.Flow Go.Proofs.Ytlhnnggceebpjaa.Layout Go.Proofs.Ytlhnnggceebpjaa.Lock Go.Proofs.Ytlhnnggceebpjaa.Run Go.Proofs.Ytlhnnggceebpjaa.Sys Go.Proofs.Ytlhnnggceebpjaa.Mach Go.Proofs.Ytlhnnggceebpjaa.Doc Go.Proofs.Ytlhnnggceebpjaa.Ref05 Go.Proofs.Ytlhnnggceebpjaa.MapL
theorem rlist11_run (m g : Nat) (P T G : Int) (s : St) (w : World) (hP : 0 ≤ P ∧ P ≤ 1000) (hT : 0 ≤ T ∧ T ≤ 1000) (hG : 0 ≤ G ∧ G ≤ 100000) (hM : RMemAt w m g s) :
    Calls Try.prog 72 #[.agg #[.int .i64 P, .int .i64 T, .int .i64 G], .pointer (some ⟨m, 0, none⟩)] w fun e w' => ∃ a c, e = .returned (.tuple #[.slice a (qlst s P T G).1.length c, .bool (qlst s P T G).2]) ∧ RowOf (encI .i64) 1 w' a (qlst s P T G).1 ∧ Below w.heap.size w w' := by
  have hws := hM.wf
  obtain ⟨x0, hx0⟩ : ∃ x0, x0 = s.peek (wordN 6) := ⟨_, rfl⟩
  have hr0 := Idlem.peek_range hws (wordN 6)
  rw [← hx0] at hr0
  obtain ⟨N, hN⟩ : ∃ N : Nat, (N : Int) = G := ⟨G.toNat, by omega⟩
  have hNb : N ≤ 100000 := by omega
  have HML := hid (show qlst s P T G = wlk (qrd s P T G) (N + 1) x0.1 [] by unfold qlst; rw [← hx0, ← hN]; rfl)
  rw [HML.out]
  have HX0 := hid (show s.peek 6 = x0 by rw [hx0, w6])
  have HRG := hid (fun t => Idlem.peek_range hws (gg P T G t 1))
  obtain ⟨F, hF⟩ : ∃ F, F = wlk (qrd s P T G) (N + 1) x0.1 [] := ⟨_, rfl⟩
  rw [← hF]
  have HF := hid hF
  have hb0 := below_one w (.cells #[.int .i64 P, .int .i64 T, .int .i64 G] 30)
  have HW := hid (And.intro hM (And.intro (Blk.new w [.int .i64 P, .int .i64 T, .int .i64 G] 30) hb0))
  have HPT := hid (And.intro hP (And.intro hT hG))
  have HN := hid hN
  clear hM hx0 hF hws HML hb0 hP hT hG
  go_enter Try.func72, Try.ntmps72
  go_wp2_with fail
  refine (rpeek_run m g s _ _ (HW.out.1.quiet HW.out.2.2)).mono ?_
  rintro e w2 ⟨rfl, rfl⟩
  rw [HX0.out]
  go_wp2_with fail
  have HI := hid (show Grow (w.alloc (.cells #[.int .i64 P, .int .i64 T, .int .i64 G] 30)) (w.heap.size + 1) 3 1 (encI .i64) (.slice none 0 0) ([] : List Int) ∧ Below (w.alloc (.cells #[.int .i64 P, .int .i64 T, .int .i64 G] 30)).heap.size (w.alloc (.cells #[.int .i64 P, .int .i64 T, .int .i64 G] 30)) (w.alloc (.cells #[.int .i64 P, .int .i64 T, .int .i64 G] 30)) from ⟨Grow.nil _ _ _ _ _, Below.refl _ _⟩)
  obtain ⟨wA, hwA⟩ : ∃ wA, wA = w.alloc (.cells #[.int .i64 P, .int .i64 T, .int .i64 G] 30) := ⟨_, rfl⟩
  have hsA : wA.heap.size = w.heap.size + 1 := by rw [hwA]; simp
  rw [← hwA] at HI HW ⊢
  have HSA := hid hsA
  clear hwA hsA
  go_loopw [6, 7, 9] (fun o v i wr => ∃ (f : Nat) (y : Int) (out : List Int), v = .int .u64 y ∧ i = .int .i64 (out.length : Int) ∧ (0 ≤ y ∧ y < 18446744073709551616) ∧ wlk (qrd s P T G) f y out = F ∧ out.length + f = N + 1 ∧ out.Nodup ∧ (∀ t ∈ out, 0 ≤ t ∧ t < (N : Int)) ∧ Grow wr (w.heap.size + 1) 3 1 (encI .i64) o out ∧ Below wA.heap.size wA wr) (fun o _ _ _ => N + 1 - lenV o)
  case atStart => exact ⟨N + 1, x0.1, [], rfl, rfl, hr0, HF.out.symm, by simp, List.nodup_nil, by simp, HI.out⟩
  case round =>
    clear HI hr0 HF
    obtain ⟨f, y, out, rfl, rfl, hy, hwk, hlen, hnd, hlt, hG, hlow⟩ := hrel
    obtain ⟨a2, c2, hv, hrow, _, _⟩ := hG.row encN_len
    subst hv
    have hpg := pigeon N out hnd hlt
    have hle : decide ((out.length : Int) ≤ G) = true := decide_eq_true (by omega)
    have hsz : w.heap.size + 1 ≤ wr.heap.size := by rw [← HSA.out]; exact hlow.size
    have hbx := HW.out.2.1.quiet hlow
    have z0 := hbx.cell 0
    have z1 := hbx.cell 1
    have z2 := hbx.cell 2
    simp only [List.getElem?_cons_zero, List.getElem?_cons_succ] at z0 z1 z2
    by_cases hz : y = 0
    · subst hz
      rw [wlk_zero] at hwk
      have HR := hid (And.intro hwk (And.intro hrow (HW.out.2.2.trans (hlow.mono HW.out.2.2.size))))
      clear hy hwk hlen hnd hlt hG hlow hsz hrow hbx
      go_wp2
      go_ret2
      rw [← HR.out.1]
      exact ⟨a2, c2, rfl, HR.out.2⟩
    · have hz1 : ((y : Int) == 0) = false := by simp [hz]
      have hz2 : ((y : Int) != 0) = true := by simp [hz]
      obtain ⟨f, rfl⟩ : ∃ k, f = k + 1 := ⟨f - 1, by omega⟩
      have hstep : wlk (qrd s P T G) (f + 1) y out = if (qrd s P T G (MapL.nOf y)).2 = false ∨ MapL.nOf y ∈ out then (out, false) else wlk (qrd s P T G) f (qrd s P T G (MapL.nOf y)).1 (out ++ [MapL.nOf y]) := by
        show (if y = 0 then _ else _) = _
        rw [if_neg hz]
      rw [hstep] at hwk
      have m1 : IntKind.i64.wrap (IntKind.i64.wrap y - 1) = MapL.nOf y := rfl
      have m2 : wrap64 (wrap64 y - 1) = MapL.nOf y := by unfold MapL.nOf; simp only [IntWalk.i64_left]
      obtain ⟨t, ht⟩ : ∃ t, t = MapL.nOf y := ⟨_, rfl⟩
      rw [← ht] at hwk m1 m2
      obtain ⟨pk, hpk⟩ : ∃ pk, pk = s.peek (gg P T G t 1) := ⟨_, rfl⟩
      have hin : pk.2 = true → 0 ≤ t ∧ t < G := fun h => qrd_in (s := s) (by rw [hpk] at h; exact h)
      have hwk' : (if pk.2 = false ∨ t ∈ out then (out, false) else wlk (qrd s P T G) f pk.1 (out ++ [t])) = F := by rw [hpk]; exact hwk
      have hpr := HRG.out t
      rw [← hpk] at hpr
      have HPK := hid hpk
      have HB := hid (And.intro hG (And.intro hlow (And.intro hsz hrow)))
      have HO := hid (And.intro hlen (And.intro hnd (And.intro hlt hpg)))
      clear hwk hstep ht hpk hG hlow hsz hlen hnd hlt hz hrow hbx
      go_wp2_with fail
      refine (gat_run P T G t 1 _ HPT.out.1 HPT.out.2.1 HPT.out.2.2.2 (by omega)).mono ?_
      rintro e w2 ⟨rfl, hb2⟩
      go_wp2_with fail
      refine (rpeek_run m g s _ _ (((HW.out.1.quiet HW.out.2.2).quiet HB.out.2.1).quiet hb2)).mono ?_
      rintro e w3 ⟨rfl, rfl⟩
      rw [← HPK.out]
      have hG2 := HB.out.1.quiet hb2
      have hlow2 := Below.then_ HB.out.2.1 hb2
      have hsz2 := Nat.le_trans HB.out.2.2.1 hb2.size
      have hrow2 := HB.out.2.2.2.quiet hb2
      clear HB hb2 z0 z1 z2
      cases hp : pk.2 with
      | false =>
        rw [if_pos (.inl hp)] at hwk'
        have HR := hid (And.intro hwk' (And.intro hrow2 (HW.out.2.2.trans (hlow2.mono HW.out.2.2.size))))
        clear hwk' hG2 hlow2 hsz2 hrow2 hp
        go_wp2
        go_ret2
        rw [← HR.out.1]
        exact ⟨a2, c2, rfl, HR.out.2⟩
      | true =>
        have HR := hid (And.intro hwk' (And.intro hrow2 (And.intro hlow2 (And.intro (hin hp) (And.intro hp (And.intro hG2 hsz2))))))
        clear hwk' hrow2 hp hlow2 hin hG2 hsz2
        go_wp2_with fail
        go_loopw [13] (fun i wr => ∃ k : Nat, k ≤ out.length ∧ i = .int .i64 (k : Int) ∧ (∀ j (h : j < out.length), j < k → out[j] ≠ t) ∧ Below w2.heap.size w2 wr) (fun i _ => out.length - (intOf i).toNat)
        case atStart => exact ⟨0, Nat.zero_le _, rfl, (fun j _ h => by omega), Below.refl _ _⟩
        case round =>
          obtain ⟨k, hk, rfl, hne, hl3⟩ := hrel
          by_cases hkl : k < out.length
          · obtain ⟨xa, rfl, h1⟩ := (HR.out.2.1.quiet hl3) k hkl
            have c1 := h1 0 _ rfl
            rw [Nat.mul_one, Nat.add_zero] at c1
            have hkl' : decide ((k : Int) < (out.length : Int)) = true := decide_eq_true (by omega)
            obtain ⟨u, hu⟩ : ∃ u, u = out[k] := ⟨_, rfl⟩
            rw [← hu] at c1
            have k0 : (0 : Int) ≤ (k : Int) := by omega
            have k1 : (k : Int) < (out.length : Int) := by omega
            by_cases he : u = t
            · have he' : ((u : Int) == t) = true := by simp [he]
              have hmem : t ∈ out := by rw [← he, hu]; exact List.getElem_mem hkl
              have hwk' := HR.out.1
              rw [if_pos (.inr hmem)] at hwk'
              have HR2 := hid (And.intro hwk' (And.intro (HR.out.2.1.quiet hl3) (HW.out.2.2.trans ((Below.then_ HR.out.2.2.1 hl3).mono HW.out.2.2.size))))
              clear hwk' hne hl3 he hu h1 hmem HR
              go_wp2
              go_ret2
              rw [← HR2.out.1]
              exact ⟨some xa, c2, rfl, HR2.out.2⟩
            · have he' : ((u : Int) == t) = false := by simp [he]
              have hne2 : ∀ j (h : j < out.length), j < k + 1 → out[j] ≠ t := by
                intro j h hj
                by_cases hjk : j = k
                · subst hjk; rw [← hu]; exact he
                · exact hne j h (by omega)
              clear hne he hu h1
              go_wp2_with fail
              go_roundw
              case rel => exact ⟨k + 1, by omega, by go_num, hne2, hl3⟩
              case measure => simp [intOf]; omega
          · obtain rfl : k = out.length := by omega
            have hkl' : decide ((out.length : Int) < (out.length : Int)) = false := decide_eq_false (by omega)
            have hmem : ¬ t ∈ out := by
              intro h
              obtain ⟨j, hj, he⟩ := List.getElem_of_mem h
              exact hne j hj hj he
            have hwk' := HR.out.1
            rw [if_neg (by simp [HR.out.2.2.2.2.1, hmem])] at hwk'
            obtain ⟨hlen, hnd, hlt, hpg⟩ := HO.out
            have hG4 := HR.out.2.2.2.2.2.1.quiet hl3
            have hsz4 := Nat.le_trans HR.out.2.2.2.2.2.2 hl3.size
            have HR3 := hid (And.intro hwk' (And.intro (Below.then_ HR.out.2.2.1 hl3) (And.intro HR.out.2.2.2.1 hmem)))
            clear hwk' hne hl3 hmem HR
            go_wp2_with (first | (at_builtin; refine app_oneG (T := 3) t hG4 infoI Try.underlying49 rfl (by decide) (by omega) rfl _ _ rfl rfl rfl rfl (encN_len _) (encN_one _) (by omega) hsz4 ?_; intro v' w5 hG5 hgrow5))
            obtain ⟨a5, c5, hv5, _, _, _⟩ := hG5.row encN_len
            subst hv5
            have hk5 := kept_grown hgrow5
            have hl5 : Below wA.heap.size wA w5 := below_kept HR3.out.2.1 hk5 (by intro i hi; have := own_le hG4 i (by simpa using hi); have := HSA.out; omega) HR3.out.2.1.size
            have HG := hid (And.intro hG5 hl5)
            clear hG5 hk5 hl5 hgrow5 hG4 hsz4
            go_wp2_with fail
            go_roundw
            case rel =>
              refine ⟨f, pk.1, out ++ [t], rfl, by rw [List.length_append, List.length_singleton]; go_num, hpr, HR3.out.1, by simp; omega, ?_, ?_, HG.out⟩
              · rw [List.nodup_append]
                exact ⟨hnd, by simp, by intro a ha b hb e; simp at hb; subst hb; subst e; exact HR3.out.2.2.2 ha⟩
              · intro u hu
                rcases List.mem_append.1 hu with hu | hu
                · exact hlt u hu
                · simp at hu; subst hu; have := HR3.out.2.2.1; omega
            case measure =>
              simp only [lenV, List.length_append, List.length_singleton]
              omega
end Go.Proofs.Ytlhnnggceebpjaa.Globq
