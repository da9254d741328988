/- The program's memory beside the document's. -/
import Derived.Test.YtokpgbocomhpiaaRunB
import Derived.Deep.RegionHeld3
set_option maxRecDepth 100000
set_option maxHeartbeats 4000000
set_option linter.unusedVariables false
set_option linter.unusedSimpArgs false
namespace Go.Proofs.Ytokpgbocomhpiaa.Run
open Go.RowKit Go.Shelf Go.Proofs.Ytokpgbocomhpiaa.TK Go.Proofs.Ytokpgbocomhpiaa.Flag Go.Proofs.Ytokpgbocomhpiaa.Read Go.Proofs.Ytokpgbocomhpiaa.Grow Go.Proofs.Ytokpgbocomhpiaa.Words Go.Proofs.Ytokpgbocomhpiaa.Mem
/-- Words in a row. -/
def RowAt (w : World) (ad : Addr) (xs : List Int) : Prop := ∀ i (h : i < xs.length), w.cell? (ad.add i) = some (.int .u64 xs[i])
theorem RowAt.quiet {w w' : World} {ad : Addr} {xs : List Int} (h : RowAt w ad xs) (hb : Below w.heap.size w w') : RowAt w' ad xs := fun i hi => by rw [hb.cell (by simpa using cell_lt (h i hi))]; exact h i hi
theorem same_run (a b : Addr) (ca cb : Nat) (xs : List Int) (w : World) (ha : RowAt w a xs) (hb : RowAt w b xs) (hl : xs.length ≤ 1000000) :
    Calls Try.prog 48 #[.slice (some a) xs.length ca, .slice (some b) xs.length cb] w fun e w' => e = .returned (.bool true) ∧ Below w.heap.size w w' := by
  have HA := hid ha
  have HB := hid hb
  clear ha hb
  go_enter Try.func48, Try.ntmps48
  go_wp2_with fail
  go_loopw [5] (fun i wr => ∃ k : Nat, k ≤ xs.length ∧ i = .int .i64 (k : Int) ∧ Below w.heap.size w wr) (fun i _ => xs.length - (intOf i).toNat)
  case atStart => exact ⟨0, Nat.zero_le _, rfl, Below.refl _ _⟩
  case round =>
    obtain ⟨k, hk, rfl, hlow⟩ := hrel
    by_cases hlt : k < xs.length
    · have c1 := (HA.out.quiet hlow) k hlt
      have c2 := (HB.out.quiet hlow) k hlt
      have hlt' : decide ((k : Int) < (xs.length : Int)) = true := decide_eq_true (by omega)
      obtain ⟨v, hv⟩ : ∃ v, v = xs[k] := ⟨_, rfl⟩
      rw [← hv] at c1 c2
      clear hv
      obtain ⟨n, hn⟩ : ∃ n, n = xs.length := ⟨_, rfl⟩
      have HN := hid hn
      rw [← hn] at hl hk hlt hlt' ⊢
      clear hn
      have k0 : (0 : Int) ≤ (k : Int) := by omega
      have k1 : (k : Int) < (n : Int) := by omega
      go_wp2_with fail
      go_quiet (fail)
      go_wp2_with fail
      go_roundw
      case rel => exact ⟨k + 1, by omega, by go_num, below_drewN hlow _⟩
      case measure => simp [intOf]; omega
    · have hlt' : decide ((k : Int) < (xs.length : Int)) = false := decide_eq_false (by omega)
      go_wp2
      go_ret
      exact ⟨rfl, hlow⟩
theorem acc2_old (s : St) (who at_ o x : Int) : s.acc 2 who at_ o x = s.acc 2 who at_ 0 x := by unfold St.acc; simp
theorem acc4_old (s : St) (who at_ o x : Int) : s.acc 4 who at_ o x = s.acc 4 who at_ 0 x := by unfold St.acc; simp
/-- An access as the law gives one. -/
structure ActT where
  kind : Int
  who : Int
  at_ : Int
  old : Int
  new : Int
def ActT.on (a : ActT) (s : St) : St := if a.kind = 2 then (s.acc 2 a.who a.at_ 0 a.new).1 else if a.kind = 3 then (s.acc 3 a.who a.at_ a.old a.new).1 else if a.kind = 4 then (s.acc 4 a.who a.at_ 0 a.new).1 else (s.acc 1 a.who a.at_ 0 0).1
/-- Two memories beside one another. -/
structure Both (w : World) (m g rm rg : Nat) (s : St) : Prop where
  mem : MemAt w m g s
  rmem : RMemAt w rm rg s
  n1 : m ≠ rg
  n2 : g ≠ rg
theorem Both.neR {w : World} {m g rm rg : Nat} {s : St} (h : Both w m g rm rg s) : m ≠ rm ∧ g ≠ rm := by
  obtain ⟨_, _, a, b, _⟩ := h.mem.ex
  obtain ⟨_, _, c, d, _⟩ := h.rmem.ex
  exact ⟨Blk.ne a c (by decide), Blk.ne b c (by decide)⟩
theorem Both.quiet {w w' : World} {m g rm rg : Nat} {s : St} (h : Both w m g rm rg s) (hb : Below w.heap.size w w') : Both w' m g rm rg s := ⟨h.mem.quiet hb, h.rmem.quiet hb, h.n1, h.n2⟩
theorem do_run (m g rm rg : Nat) (s : St) (a : ActT) (w : World) (h : Both w m g rm rg s) (hx : 0 ≤ a.new ∧ a.new < 18446744073709551616) (hc : s.clock < 1000000) (hb : s.bad < 1000000) :
    Calls Try.prog 44 #[.pointer (some ⟨m, 0, none⟩), .pointer (some ⟨rm, 0, none⟩), .agg #[.int .i64 a.kind, .int .i64 a.who, .int .i64 a.at_, .int .u64 a.old, .int .u64 a.new]] w fun e w' => (∃ r, e = .returned r) ∧ Both w' m g rm rg (a.on s) ∧ Kept [m, g, rm, rg] w w' := by
  obtain ⟨q1, q2⟩ := h.neR
  have q3 := h.n1
  have q4 := h.n2
  have h0 := hid (h.quiet (below_one w (.cells #[.int .i64 a.kind, .int .i64 a.who, .int .i64 a.at_, .int .u64 a.old, .int .u64 a.new] 62)))
  have hB := Blk.new w [.int .i64 a.kind, .int .i64 a.who, .int .i64 a.at_, .int .u64 a.old, .int .u64 a.new] 62
  have hn1 : w.heap.size ≠ m := fun e => by have := h.mem.ltm; omega
  have hn2 : w.heap.size ≠ g := fun e => by have := h.mem.ltg; omega
  obtain ⟨kind, who, at_, old, new⟩ := a
  simp only at hx h0 hB ⊢
  have HX := hid hx
  have HC := hid hc
  have HBD := hid hb
  have HH := hid h
  clear h hx hc hb
  have fin : ∀ (s' : St) (w1 w2 : World), Kept [m, g] (w.alloc (.cells #[.int .i64 kind, .int .i64 who, .int .i64 at_, .int .u64 old, .int .u64 new] 62)) w1 → MemAt w1 m g s' → Kept [rm, rg] w1 w2 → RMemAt w2 rm rg s' → Both w2 m g rm rg s' ∧ Kept [m, g, rm, rg] w w2 := by
    intro s' w1 w2 k1 m1 k2 m2
    exact ⟨⟨m1.kept k2 (by simp [q1, q3]) (by simp [q2, q4]), m2, q3, q4⟩, (((Kept.refl [m, g, rm, rg] w).alloc _).trans k1 (by intro i hi; simp at hi; rcases hi with rfl | rfl <;> exact .inl (by simp))).trans k2 (by intro i hi; simp at hi; rcases hi with rfl | rfl <;> exact .inl (by simp))⟩
  have FIN := hid fin
  clear fin
  have rk : ∀ w1 : World, Kept [m, g] (w.alloc (.cells #[.int .i64 kind, .int .i64 who, .int .i64 at_, .int .u64 old, .int .u64 new] 62)) w1 → RMemAt w1 rm rg s ∧ Blk w1 w.heap.size [.int .i64 kind, .int .i64 who, .int .i64 at_, .int .u64 old, .int .u64 new] 62 := fun w1 k1 => ⟨h0.out.rmem.kept k1 (by simp [q1.symm, q2.symm]) (by simp [q3.symm, q4.symm]), hB.kept k1 (by simp [hn1, hn2])⟩
  have RK := hid rk
  clear rk hB
  by_cases k2 : kind = 2
  · subst k2
    have HO := hid (show ActT.on ⟨2, who, at_, old, new⟩ s = (s.acc 2 who at_ 0 new).1 by unfold ActT.on; simp)
    rw [HO.out]
    go_enter Try.func44, Try.ntmps44
    go_wp2_with fail
    refine (mstore_run m g s who at_ new _ HX.out h0.out.mem HC.out HBD.out).mono ?_
    rintro e w1 ⟨rfl, hM1, hK1⟩
    obtain ⟨hR1, hB1⟩ := RK.out w1 hK1
    have y0 := hB1.cell 0
    have y1 := hB1.cell 1
    have y2 := hB1.cell 2
    have y3 := hB1.cell 3
    have y4 := hB1.cell 4
    simp only [List.getElem?_cons_zero, List.getElem?_cons_succ] at y0 y1 y2 y3 y4
    clear hB1
    go_wp2_with fail
    refine (rdo_run rm rg s 2 who at_ 0 new w1 (by omega) HX.out hR1 HC.out HBD.out).mono ?_
    rintro e w2 ⟨rfl, hR2, hK2⟩
    obtain ⟨f1, f2⟩ := FIN.out _ w1 w2 hK1 hM1 hK2 hR2
    clear hM1 hK1 hR1 hR2 hK2 y0 y1 y2 y3 y4
    go_wp2
    go_ret
    exact ⟨⟨_, rfl⟩, f1, f2⟩
  by_cases k3 : kind = 3
  · subst k3
    have HO := hid (show ActT.on ⟨3, who, at_, old, new⟩ s = (s.acc 3 who at_ old new).1 by unfold ActT.on; simp)
    rw [HO.out]
    clear k2
    go_enter Try.func44, Try.ntmps44
    go_wp2_with fail
    refine (mswap_run m g s who at_ old new _ HX.out h0.out.mem HC.out HBD.out).mono ?_
    rintro e w1 ⟨rfl, hM1, hK1⟩
    obtain ⟨hR1, hB1⟩ := RK.out w1 hK1
    have y0 := hB1.cell 0
    have y1 := hB1.cell 1
    have y2 := hB1.cell 2
    have y3 := hB1.cell 3
    have y4 := hB1.cell 4
    simp only [List.getElem?_cons_zero, List.getElem?_cons_succ] at y0 y1 y2 y3 y4
    clear hB1
    go_wp2_with fail
    refine (rdo_run rm rg s 3 who at_ old new w1 (by omega) HX.out hR1 HC.out HBD.out).mono ?_
    rintro e w2 ⟨rfl, hR2, hK2⟩
    obtain ⟨f1, f2⟩ := FIN.out _ w1 w2 hK1 hM1 hK2 hR2
    clear hM1 hK1 hR1 hR2 hK2 y0 y1 y2 y3 y4
    go_wp2
    go_ret
    exact ⟨⟨_, rfl⟩, f1, f2⟩
  by_cases k4 : kind = 4
  · subst k4
    have HO := hid (show ActT.on ⟨4, who, at_, old, new⟩ s = (s.acc 4 who at_ 0 new).1 by unfold ActT.on; simp)
    rw [HO.out]
    clear k2 k3
    go_enter Try.func44, Try.ntmps44
    go_wp2_with fail
    refine (madd_run m g s who at_ new _ HX.out h0.out.mem HC.out HBD.out).mono ?_
    rintro e w1 ⟨rfl, hM1, hK1⟩
    obtain ⟨hR1, hB1⟩ := RK.out w1 hK1
    have y0 := hB1.cell 0
    have y1 := hB1.cell 1
    have y2 := hB1.cell 2
    have y3 := hB1.cell 3
    have y4 := hB1.cell 4
    simp only [List.getElem?_cons_zero, List.getElem?_cons_succ] at y0 y1 y2 y3 y4
    clear hB1
    go_wp2_with fail
    refine (rdo_run rm rg s 4 who at_ 0 new w1 (by omega) HX.out hR1 HC.out HBD.out).mono ?_
    rintro e w2 ⟨rfl, hR2, hK2⟩
    obtain ⟨f1, f2⟩ := FIN.out _ w1 w2 hK1 hM1 hK2 hR2
    clear hM1 hK1 hR1 hR2 hK2 y0 y1 y2 y3 y4
    go_wp2
    go_ret
    exact ⟨⟨_, rfl⟩, f1, f2⟩
  have HO := hid (show ActT.on ⟨kind, who, at_, old, new⟩ s = (s.acc 1 who at_ 0 0).1 by unfold ActT.on; simp [k2, k3, k4])
  rw [HO.out]
  have d2 : ((kind : Int) == 2) = false := by simp [k2]
  have d3 : ((kind : Int) == 3) = false := by simp [k3]
  have d4 : ((kind : Int) == 4) = false := by simp [k4]
  clear k2 k3 k4
  go_enter Try.func44, Try.ntmps44
  go_wp2_with fail
  refine (mload_run m g s who at_ _ h0.out.mem HC.out HBD.out).mono ?_
  rintro e w1 ⟨rfl, hM1, hK1⟩
  obtain ⟨hR1, hB1⟩ := RK.out w1 hK1
  have y0 := hB1.cell 0
  have y1 := hB1.cell 1
  have y2 := hB1.cell 2
  have y3 := hB1.cell 3
  have y4 := hB1.cell 4
  simp only [List.getElem?_cons_zero, List.getElem?_cons_succ] at y0 y1 y2 y3 y4
  clear hB1
  go_wp2_with fail
  refine (rdo_run rm rg s 1 who at_ 0 0 w1 (by omega) (by omega) hR1 HC.out HBD.out).mono ?_
  rintro e w2 ⟨rfl, hR2, hK2⟩
  obtain ⟨f1, f2⟩ := FIN.out _ w1 w2 hK1 hM1 hK2 hR2
  clear hM1 hK1 hR1 hR2 hK2 y0 y1 y2 y3 y4
  go_wp2
  go_ret
  exact ⟨⟨_, rfl⟩, f1, f2⟩
theorem acc_eq (a b c d e : Int) (f : Bool) (w : World) : (binOp .eql 67 (.agg #[.int .i64 a, .int .i64 b, .int .i64 c, .int .u64 d, .int .u64 e, .bool f]) (.agg #[.int .i64 a, .int .i64 b, .int .i64 c, .int .u64 d, .int .u64 e, .bool f])).run Try.prog w = .ok (.bool true) w := by
  simp [go_sem]
theorem alike_run (m g rm rg : Nat) (s : St) (w : World) (h : Both w m g rm rg s) :
    Calls Try.prog 47 #[.pointer (some ⟨m, 0, none⟩), .pointer (some ⟨rm, 0, none⟩)] w fun e w' => e = .returned (.bool true) ∧ Below w.heap.size w w' := by
  obtain ⟨cap, spare, h1, h2, hcap⟩ := h.rmem.ex
  have c1 := h1.cell 1
  have c2 := h1.cell 2
  have c3 := h1.cell 3
  have c4 := h1.cell 4
  have c5 := h1.cell 5
  have c6 := h1.cell 6
  have c7 := h1.cell 7
  have c8 := h1.cell 8
  simp only [headOf, accCells, List.getElem?_cons_zero, List.getElem?_cons_succ] at c1 c2 c3 c4 c5 c6 c7 c8
  have HH := hid h
  clear h h1 h2 hcap
  obtain ⟨⟨lk, lw, la, lo, ln, ld⟩, hlast⟩ : ∃ la, la = s.last := ⟨_, rfl⟩
  rw [← hlast] at c3 c4 c5 c6 c7 c8
  have HLA := hid hlast
  clear hlast
  obtain ⟨ck, hck⟩ : ∃ ck, ck = s.clock := ⟨_, rfl⟩
  obtain ⟨bd, hbd⟩ : ∃ bd, bd = s.bad := ⟨_, rfl⟩
  rw [← hck] at c1
  rw [← hbd] at c2
  have HCK := hid hck
  have HBD := hid hbd
  clear hck hbd
  obtain ⟨pk, hpk⟩ : ∃ pk, pk = s.peek la := ⟨_, rfl⟩
  have HP := hid hpk
  clear hpk
  simp only at c3 c4 c5 c6 c7 c8
  go_enter Try.func47, Try.ntmps47
  go_wp2_with fail
  refine (mpeek_run m g s la w HH.out.mem).mono ?_
  rintro e w1 ⟨rfl, rfl⟩
  rw [← HP.out]
  go_wp2_with fail
  refine (rpeek_run rm rg s la w HH.out.rmem).mono ?_
  rintro e w1 ⟨rfl, rfl⟩
  rw [← HP.out]
  go_wp2_with fail
  have HD : Both w.drew m g rm rg s := HH.out.quiet (below_drewN (Below.refl _ w) 1)
  have HB0 : Below w.heap.size w w.drew := (Below.refl _ w).drew
  have hrl : rm < w.drew.heap.size := cell_lt c1
  have hq : ∀ w : World, (binOp .eql 67 (.agg #[.int .i64 lk, .int .i64 lw, .int .i64 la, .int .u64 lo, .int .u64 ln, .bool ld]) (.agg #[.int .i64 lk, .int .i64 lw, .int .i64 la, .int .u64 lo, .int .u64 ln, .bool ld])).run Try.prog w = .ok (.bool true) w := acc_eq lk lw la lo ln ld
  go_region_held3 (fun w' => w'.cell? ⟨rm, 1, none⟩ = some (.int .i64 ck) ∧ w'.cell? ⟨rm, 2, none⟩ = some (.int .i64 bd) ∧ w'.cell? ⟨rm, 3, none⟩ = some (.int .i64 lk) ∧ w'.cell? ⟨rm, 4, none⟩ = some (.int .i64 lw) ∧ w'.cell? ⟨rm, 5, none⟩ = some (.int .i64 la) ∧ w'.cell? ⟨rm, 6, none⟩ = some (.int .u64 lo) ∧ w'.cell? ⟨rm, 7, none⟩ = some (.int .u64 ln) ∧ w'.cell? ⟨rm, 8, none⟩ = some (.bool ld)) (first | exact ⟨e1, e2, e3, e4, e5, e6, e7, e8⟩ | exact ⟨c1, c2, c3, c4, c5, c6, c7, c8⟩) (first | (go_at_call 35; ((with_reducible refine (mclock_run m g s _ HD.mem).mono ?_); rintro e wx ⟨rfl, rfl⟩); rw [← HCK.out]) | (go_at_call 72; ((with_reducible refine (mbad_run m g s _ HD.mem).mono ?_); rintro e wx ⟨rfl, rfl⟩); rw [← HBD.out]) | (go_at_call 159; ((with_reducible refine (mlast_run m g s _ HD.mem).mono ?_); rintro e wx ⟨rfl, hb⟩); rw [← HLA.out]; simp only [accCells]; have e1 := (hb.cell (p := ⟨rm, 1, none⟩) hrl).trans c1; have e2 := (hb.cell (p := ⟨rm, 2, none⟩) hrl).trans c2; have e3 := (hb.cell (p := ⟨rm, 3, none⟩) hrl).trans c3; have e4 := (hb.cell (p := ⟨rm, 4, none⟩) hrl).trans c4; have e5 := (hb.cell (p := ⟨rm, 5, none⟩) hrl).trans c5; have e6 := (hb.cell (p := ⟨rm, 6, none⟩) hrl).trans c6; have e7 := (hb.cell (p := ⟨rm, 7, none⟩) hrl).trans c7; have e8 := (hb.cell (p := ⟨rm, 8, none⟩) hrl).trans c8; replace HB0 := Below.then_ HB0 hb; clear hb))
  all_goals go_wp2
  all_goals go_ret
  all_goals exact ⟨rfl, HB0⟩
end Go.Proofs.Ytokpgbocomhpiaa.Run
