/- The list of idle processors, as the program goes through it. -/
import Derived.Test.YtnmkfmaohflejaaIdlep
set_option maxRecDepth 100000
set_option maxHeartbeats 4000000
set_option linter.unusedVariables false
set_option linter.unusedSimpArgs false
namespace Go.Proofs.Ytnmkfmaohflejaa.Idlep
open Go.RowKit Go.Shelf Go.Proofs.Ytnmkfmaohflejaa.TK Go.Proofs.Ytnmkfmaohflejaa.Flag Go.Proofs.Ytnmkfmaohflejaa.Read Go.Proofs.Ytnmkfmaohflejaa.Grow Go.Proofs.Ytnmkfmaohflejaa.Words Go.Proofs.Ytnmkfmaohflejaa.Mem Go.Proofs.Ytnmkfmaohflejaa.Flow Go.Proofs.Ytnmkfmaohflejaa.Layout Go.Proofs.Ytnmkfmaohflejaa.Lock Go.Proofs.Ytnmkfmaohflejaa.Run Go.Proofs.Ytnmkfmaohflejaa.Sys Go.Proofs.Ytnmkfmaohflejaa.Mach Go.Proofs.Ytnmkfmaohflejaa.Doc Go.Proofs.Ytnmkfmaohflejaa.Ref05 Go.Proofs.Ytnmkfmaohflejaa.MapL
/-- What a processor's link says. -/
def prd (s : St) (P : Int) (t : Int) : Int × Bool := s.peek (pr P t 7)
theorem prd_in {s : St} {P t : Int} (h : (prd s P t).2 = true) : 0 ≤ t ∧ t < P := by
  unfold prd pr placeN at h
  split at h
  · omega
  · simp [St.peek, St.inr] at h
def plst (s : St) (P T : Int) : List Int × Bool := wlk (prd s P) (P.toNat + 1) (s.peek (wordN 9)).1 []
theorem plist_run (l m g : Nat) (P T G : Int) (s : St) (w : World) (hL : Lay w l P T G) (hM : MemAt w m g s) :
    Calls Try.prog 34 #[.pointer (some ⟨l, 0, none⟩), .pointer (some ⟨m, 0, none⟩)] w fun e w' => ∃ a c, e = .returned (.tuple #[.slice a (plst s P T).1.length c, .bool (plst s P T).2]) ∧ RowOf (encI .i64) 1 w' a (plst s P T).1 ∧ Below w.heap.size w w' ∧ ∀ x, a = some x → w.heap.size ≤ x.block := by
  have hR := hL.2
  unfold Right at hR
  have hmm := @run_makeMap Try.prog
  have hws := hM.wf
  obtain ⟨x0, hx0⟩ : ∃ x0, x0 = s.peek (wordN 9) := ⟨_, rfl⟩
  have hr0 := Idlem.peek_range hws (wordN 9)
  rw [← hx0] at hr0
  obtain ⟨N, hN⟩ : ∃ N : Nat, (N : Int) = P := ⟨P.toNat, by omega⟩
  have hNb : N ≤ 1000 := by omega
  have HML := hid (show plst s P T = wlk (prd s P) (N + 1) x0.1 [] by unfold plst; rw [← hx0, ← hN]; rfl)
  rw [HML.out]
  have HX0 := hid hx0
  have HRG := hid (fun t => Idlem.peek_range hws (pr P t 7))
  obtain ⟨F, hF⟩ : ∃ F, F = wlk (prd s P) (N + 1) x0.1 [] := ⟨_, rfl⟩
  rw [← hF]
  have HF := hid hF
  have HW := hid (And.intro hL (And.intro hM (Below.refl w.heap.size w)))
  have HN := hid hN
  clear hL hM hR hx0 hF hws HML
  go_enter Try.func34, Try.ntmps34
  go_wp2_with (first | (go_at_call 77; refine (word_run _ 0 0 0 _ _).mono ?_; rintro e w2 ⟨rfl, rfl⟩) | (go_at_call 16; refine (mpeek_run m g s _ _ (HW.out.2.1.quiet (below_one _ _))).mono ?_; rintro e w2 ⟨rfl, rfl⟩; rw [← HX0.out]))
  have HI := hid (show Grow (w.alloc (.map #[] 0)) (w.heap.size + 1) 3 1 (encI .i64) (.slice none 0 0) ([] : List Int) ∧ Seen (w.alloc (.map #[] 0)) w.heap.size 0 [] ∧ Below w.heap.size w (w.alloc (.map #[] 0)) ∧ w.heap.size + 1 ≤ (w.alloc (.map #[] 0)).heap.size from ⟨Grow.nil _ _ _ _ _, Seen.new w, below_one _ _, by simp⟩)
  clear hmm
  go_loopw [6, 8] (fun o v wr => ∃ (f : Nat) (y : Int) (out : List Int), v = .int .u64 y ∧ (0 ≤ y ∧ y < 18446744073709551616) ∧ wlk (prd s P) f y out = F ∧ out.length + f = N + 1 ∧ out.Nodup ∧ (∀ t ∈ out, 0 ≤ t ∧ t < (N : Int)) ∧ Grow wr (w.heap.size + 1) 3 1 (encI .i64) o out ∧ Seen wr w.heap.size out.length out ∧ Below w.heap.size w wr ∧ w.heap.size + 1 ≤ wr.heap.size) (fun o _ _ => N + 1 - lenV o)
  case atStart => exact ⟨N + 1, x0.1, [], rfl, hr0, HF.out.symm, by simp, List.nodup_nil, by simp, HI.out⟩
  case round =>
    clear HI hr0 HF
    obtain ⟨f, y, out, rfl, hy, hwk, hlen, hnd, hlt, hG, hS, hlow, hsz⟩ := hrel
    obtain ⟨a2, c2, hv, hrow, _, hfr⟩ := hG.row encN_len
    subst hv
    have HFR := hid (show ∀ x, a2 = some x → w.heap.size ≤ x.block from fun x hx => Nat.le_of_succ_le (hfr x hx).1)
    clear hfr
    by_cases hz : y = 0
    · subst hz
      rw [wlk_zero] at hwk
      have HR := hid (And.intro hwk (And.intro hrow hlow))
      clear hy hwk hlen hnd hlt hG hS hlow hsz hrow
      go_wp2
      go_ret2
      rw [← HR.out.1]
      exact ⟨a2, c2, rfl, HR.out.2.1, HR.out.2.2, HFR.out⟩
    · have hz1 : ((y : Int) == 0) = false := by simp [hz]
      have hz2 : ((y : Int) != 0) = true := by simp [hz]
      have hpg := pigeon N out hnd hlt
      obtain ⟨f, rfl⟩ : ∃ k, f = k + 1 := ⟨f - 1, by omega⟩
      have hstep : wlk (prd s P) (f + 1) y out = if (prd s P (MapL.nOf y)).2 = false ∨ MapL.nOf y ∈ out then (out, false) else wlk (prd s P) f (prd s P (MapL.nOf y)).1 (out ++ [MapL.nOf y]) := by
        show (if y = 0 then _ else _) = _
        rw [if_neg hz]
      rw [hstep] at hwk
      have hwf := wrap_wf (IntKind.i64.wrap y - 1)
      have m1 : IntKind.i64.wrap (IntKind.i64.wrap y - 1) = MapL.nOf y := rfl
      have m2 : wrap64 (wrap64 y - 1) = MapL.nOf y := by unfold MapL.nOf; simp only [IntWalk.i64_left]
      rw [m1] at hwf
      obtain ⟨t, ht⟩ : ∃ t, t = MapL.nOf y := ⟨_, rfl⟩
      rw [← ht] at hwk hwf m1 m2
      obtain ⟨pk, hpk⟩ : ∃ pk, pk = s.peek (pr P t 7) := ⟨_, rfl⟩
      have hin : pk.2 = true → 0 ≤ t ∧ t < P := fun h => prd_in (s := s) (by rw [hpk] at h; exact h)
      have hwk' : (if pk.2 = false ∨ t ∈ out then (out, false) else wlk (prd s P) f pk.1 (out ++ [t])) = F := by rw [hpk]; exact hwk
      have hpr := HRG.out t
      rw [← hpk] at hpr
      have HPK := hid hpk
      have HB := hid (And.intro hG (And.intro hS (And.intro hlow (And.intro hsz hrow))))
      have HO := hid (And.intro hlen (And.intro hnd (And.intro hlt hpg)))
      have HT := hid ht
      clear hwk hstep ht hpk hG hS hlow hsz hlen hnd hlt hpg hz hrow
      go_wp2_with fail
      refine (proc_run l P T G t 7 _ (HW.out.1.quiet HB.out.2.2.1)).mono ?_
      rintro e w2 ⟨rfl, hb2⟩
      go_wp2_with fail
      refine (mpeek_run m g s _ _ ((HW.out.2.1.quiet HB.out.2.2.1).quiet hb2)).mono ?_
      rintro e w3 ⟨rfl, rfl⟩
      rw [show s.peek (placeN true 20 t P 264 7 8) = pk from HPK.out.symm]
      have hS2 := HB.out.2.1.quiet hb2
      have hG2 := HB.out.1.quiet hb2
      have hlow2 := Below.then_ HB.out.2.2.1 hb2
      have hsz2 := Nat.le_trans HB.out.2.2.2.1 hb2.size
      have hrow2 := HB.out.2.2.2.2.quiet hb2
      clear HB hb2
      cases hp : pk.2 with
      | false =>
        rw [if_pos (.inl hp)] at hwk'
        have HR := hid (And.intro hwk' (And.intro hrow2 hlow2))
        clear hwk' hS2 hG2 hlow2 hsz2 hrow2 hp
        go_wp2
        go_ret2
        rw [← HR.out.1]
        exact ⟨a2, c2, rfl, HR.out.2.1, HR.out.2.2, HFR.out⟩
      | true =>
        have hlook := hS2.look hwf
        by_cases hmem : t ∈ out
        · rw [if_pos (.inr hmem)] at hwk'
          rw [if_pos hmem] at hlook
          have HR := hid (And.intro hwk' (And.intro hrow2 hlow2))
          clear hwk' hS2 hG2 hlow2 hsz2 hrow2 hp
          go_wp2
          go_ret2
          rw [← HR.out.1]
          exact ⟨a2, c2, rfl, HR.out.2.1, HR.out.2.2, HFR.out⟩
        · rw [if_neg (by simp [hp, hmem])] at hwk'
          rw [if_neg hmem] at hlook
          obtain ⟨hlen, hnd, hlt, hpg⟩ := HO.out
          obtain ⟨D, hown, hD1, hD2⟩ := hS2
          have HD := hid (And.intro hD1 hD2)
          have HR := hid (And.intro hwk' (And.intro hlow2 (And.intro (hin hp) hmem)))
          have hkey := Go.Maps.keyOf_int_mk (P := Try.prog) Try.underlying3 hwf
          have HWF := hid hwf
          clear hwk' hrow2 hp hD1 hD2 hlow2 hin hmem
          go_wp2_with (first | (at_mapUpdate; refine wpList_mapUpdate_own _ rfl _ _ _ 120 rfl 3 3 law Try.underlying120 _ w.heap.size _ _ rfl hown (by unfold maxLen; omega) _ _ _ rfl rfl hkey _ [] (plainElem_int Try.underlying3 (by decide)) ?_; intro w4 hown4 hgrow4; have hG4 := Grow.keptB hG2 (kept_grown hgrow4) (by intro i hi; simp at hi; subst hi; exact own_low hG2 (by omega)); have hsz4 := Nat.le_trans hsz2 hgrow4.size) | (at_builtin; refine app_oneG (T := 3) t hG4 infoI Try.underlying49 rfl (by decide) (by omega) rfl _ _ rfl rfl rfl rfl (encN_len _) (encN_one _) (by omega) hsz4 ?_; intro v' w5 hG5 hgrow5))
          obtain ⟨a5, c5, hv5, _, _, _⟩ := hG5.row encN_len
          have hS4 := Seen.put HWF.out HD.out.1 HD.out.2 hown4
          have hS5 := hS4.grown hgrow5 (fun e => own_low hG4 (Nat.lt_succ_self _) e.symm)
          have hk4 := kept_grown hgrow4
          have hk5 := kept_grown hgrow5
          have hl4 : Below w.heap.size w w4 := below_kept HR.out.2.1 hk4 (by intro i hi; simp at hi; omega) HR.out.2.1.size
          have hl5 : Below w.heap.size w w5 := below_kept hl4 hk5 (by intro i hi; have := own_le hG4 i (by simpa using hi); omega) hl4.size
          refine ⟨⟨f, pk.1, out ++ [t], rfl, hpr, HR.out.1, by simp; omega, ?_, ?_, hG5, by rw [List.length_append, List.length_singleton]; exact hS5, hl5, Nat.le_trans hsz4 hk5.size⟩, ?_⟩
          · rw [List.nodup_append]
            exact ⟨hnd, by simp, by intro a ha b hb e; simp at hb; subst hb; subst e; exact HR.out.2.2.2 ha⟩
          · intro u hu
            rcases List.mem_append.1 hu with hu | hu
            · exact hlt u hu
            · simp at hu; subst hu; have := HR.out.2.2.1; omega
          · rw [hv5]
            simp only [lenV, List.length_append, List.length_singleton]
            omega
end Go.Proofs.Ytnmkfmaohflejaa.Idlep
