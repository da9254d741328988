/- The document's runs: its accesses by name, and a turn. -/
import Derived.Test.YtokpgbocomhpiaaRun
import Derived.Maps.AppendAt
set_option maxRecDepth 100000
set_option maxHeartbeats 4000000
set_option linter.unusedVariables false
set_option linter.unusedSimpArgs false
namespace Go.Proofs.Ytokpgbocomhpiaa.Grow
open Go.RowKit Go.Proofs.Ytokpgbocomhpiaa.TK Go.Proofs.Ytokpgbocomhpiaa.Read
variable {α : Type} {P : Program}
theorem kept_grown {w w' : World} {row : Option Nat} (h : w.grownBy w' row) : Kept row.toList w w' :=
  ⟨h.os, h.tape, h.output, h.size, fun k hk hn => h.block k hk (by intro e; exact hn (by rw [← e]; simp))⟩
/-- As app_one; what is kept told to the block. -/
theorem app_oneK {w : World} {B : Nat} {T S : TypeId} {z : Value} {size bytes : Nat} {enc : α → List Value} {v : Value} {xs : List α} (x : α) {U : TypeId} {cs : Array Value}
    (hG : Grow w B T size enc v xs) (hE : Elem P T z size bytes) (hS : P.underlying S = some (.slice T)) (hzs : z.cells.size = size) (hsz : 0 < size) (hbz : bytes ≤ 1000)
    {ops : Array Oper} {rest : List Oper} {o : Oper} {a : Act} {Q : Exit → Act → World → Prop}
    (hgd : o.guard = none) (s x' : Operand) (ho : o.op = .call { callee := .builtin .append, args := #[s, x'], argTypes := #[S, S] }) (hs : a.eval s = v) (hx : a.eval x' = .slice (some ⟨w.heap.size, 0, none⟩) 1 1)
    (hc : cs.toList = enc x) (hl : (enc x).length = size) (h1 : ∀ u ∈ enc x, u.oneCell' = true) (hm : xs.length ≤ 1000000) (hB : B ≤ w.heap.size)
    (h : ∀ v' w', Grow w' B T size enc v' (xs ++ [x]) → Kept v.ownBlock.toList w w' → wpList P ops Q rest (a.put o.dst v') w') :
    wpList P ops Q (o :: rest) a (w.alloc (.cells cs U)) := by
  obtain ⟨i0, hi, hz0, hz1, hz2⟩ := info_parts hE
  have hb1 : (xs.length + 1) * bytes ≤ 1000001 * 1000 := Nat.mul_le_mul (by omega) hbz
  refine wpList_append_own _ hgd s x' S ho B T i0 _ size bytes hS hi hz0 hz1 hz2 hzs hsz v xs.length (xs.flatMap enc) hs (World.ownsRow.alloc hG _) ⟨w.heap.size, 0, none⟩ 1 1 (enc x) hx (by rw [hl, Nat.one_mul]) ?_ h1 (by unfold maxLen; omega) (by omega) (by simp; omega) ?_
  · intro j u hj
    have hb : Blk (w.alloc (.cells cs U)) w.heap.size cs.toList U := by
      have := Blk.new w cs.toList U
      simpa using this
    have e1 : (⟨w.heap.size, 0, none⟩ : Addr).add j = ⟨w.heap.size, j, none⟩ := by unfold Addr.add; split <;> simp_all
    rw [e1, hb.cell j, hc]
    exact hj
  · intro v' w' hown hgrow _
    refine h v' w' ?_ (((Kept.refl _ w).alloc _).trans (kept_grown hgrow) (by intro i hi; exact .inl hi))
    unfold Grow
    rw [List.length_append, List.flatMap_append]
    simpa using hown
end Go.Proofs.Ytokpgbocomhpiaa.Grow
namespace Go.Proofs.Ytokpgbocomhpiaa.Run
open Go.RowKit Go.Shelf Go.Proofs.Ytokpgbocomhpiaa.TK Go.Proofs.Ytokpgbocomhpiaa.Flag Go.Proofs.Ytokpgbocomhpiaa.Read Go.Proofs.Ytokpgbocomhpiaa.Grow Go.Proofs.Ytokpgbocomhpiaa.Words Go.Proofs.Ytokpgbocomhpiaa.Mem
theorem runload_run (B r : Nat) (v : Value) (st : RunSt) (at_ : Int) (w : World) (h : RunAt w B r v st) :
    Calls Try.prog 157 #[.pointer (some ⟨r, 0, none⟩), .int .i64 at_] w fun e w' => e = .returned (.int .u64 (st.dox ⟨1, 0, at_, 0, 0, false⟩).2) ∧ RunAt w' B r v (st.dox ⟨1, 0, at_, 0, 0, false⟩).1 ∧ Kept [r] w w' := by
  go_enter Try.func157, Try.ntmps157
  go_wp2_with fail
  refine (rundo_run B r v st ⟨1, 0, at_, 0, 0, false⟩ w h).mono ?_
  rintro e w1 ⟨rfl, h1, h2⟩
  go_wp2
  go_ret
  exact ⟨rfl, h1, h2⟩
theorem runadd_run (B r : Nat) (v : Value) (st : RunSt) (at_ x : Int) (w : World) (h : RunAt w B r v st) :
    Calls Try.prog 156 #[.pointer (some ⟨r, 0, none⟩), .int .i64 at_, .int .u64 x] w fun e w' => e = .returned (.int .u64 (st.dox ⟨4, 0, at_, 0, x, false⟩).2) ∧ RunAt w' B r v (st.dox ⟨4, 0, at_, 0, x, false⟩).1 ∧ Kept [r] w w' := by
  go_enter Try.func156, Try.ntmps156
  go_wp2_with fail
  refine (rundo_run B r v st ⟨4, 0, at_, 0, x, false⟩ w h).mono ?_
  rintro e w1 ⟨rfl, h1, h2⟩
  go_wp2
  go_ret
  exact ⟨rfl, h1, h2⟩
theorem runstore_run (B r : Nat) (v : Value) (st : RunSt) (at_ x : Int) (w : World) (h : RunAt w B r v st) :
    Calls Try.prog 158 #[.pointer (some ⟨r, 0, none⟩), .int .i64 at_, .int .u64 x] w fun e w' => e = .returned (.tuple #[]) ∧ RunAt w' B r v (st.dox ⟨2, 0, at_, 0, x, false⟩).1 ∧ Kept [r] w w' := by
  go_enter Try.func158, Try.ntmps158
  go_wp2_with fail
  refine (rundo_run B r v st ⟨2, 0, at_, 0, x, false⟩ w h).mono ?_
  rintro e w1 ⟨rfl, h1, h2⟩
  go_wp2
  go_returns
  exact ⟨rfl, h1, h2⟩
theorem runswap_run (B r : Nat) (v : Value) (st : RunSt) (at_ o x : Int) (w : World) (h : RunAt w B r v st) :
    Calls Try.prog 179 #[.pointer (some ⟨r, 0, none⟩), .int .i64 at_, .int .u64 o, .int .u64 x] w fun e w' => e = .returned (.bool ((st.dox ⟨3, 0, at_, o, x, false⟩).2 == 1)) ∧ RunAt w' B r v (st.dox ⟨3, 0, at_, o, x, false⟩).1 ∧ Kept [r] w w' := by
  go_enter Try.func179, Try.ntmps179
  go_wp2_with fail
  refine (rundo_run B r v st ⟨3, 0, at_, o, x, false⟩ w h).mono ?_
  rintro e w1 ⟨rfl, h1, h2⟩
  go_wp2
  go_ret
  exact ⟨rfl, h1, h2⟩
/-- A turn does something. -/
def RunSt.turns (st : RunSt) (s : St) : Bool := st.stop && !(st.sleep && decide ((s.peek st.want.at_).1 = 0))
theorem turn_no (B r rm rg : Nat) (v : Value) (st : RunSt) (s : St) (who : Int) (w : World) (h : Grow w B 25 1 (encI .u64) v st.got) (hR : RMemAt w rm rg s) (ht : st.turns s = false) :
    Calls Try.prog 46 #[.pointer (some ⟨rm, 0, none⟩), .agg (runCells v st).toArray, .int .i64 who] w fun e w' => e = .returned v ∧ Below w.heap.size w w' := by
  obtain ⟨got, used, stop, want, sleep⟩ := st
  simp only [runCells] at h ⊢
  unfold RunSt.turns at ht
  simp only at ht
  have hRb := hR.quiet (below_one w (.cells (runCells v ⟨got, used, stop, want, sleep⟩).toArray 69))
  simp only [runCells] at hRb
  have hRb := hid hRb
  obtain ⟨a, cap, rfl, _, _, _⟩ := h.row encI_len
  clear h hR
  cases stop with
  | false =>
    clear hRb
    go_enter Try.func46, Try.ntmps46
    go_wp2
    go_ret
    exact ⟨rfl, below_one _ _⟩
  | true =>
    have hsl : sleep = true ∧ (s.peek want.at_).1 = 0 := by simpa using ht
    obtain ⟨rfl, hz0⟩ := hsl
    obtain ⟨pk, hpk⟩ : ∃ pk, pk = s.peek want.at_ := ⟨_, rfl⟩
    rw [← hpk] at hz0
    have hz : ((pk.1 : Int) == 0) = true := by simp [hz0]
    have HP := hid hpk
    clear ht hz0 hpk
    go_enter Try.func46, Try.ntmps46
    go_wp2_with fail
    refine (rpeek_run rm rg s _ _ hRb.out).mono ?_
    rintro e w1 ⟨rfl, rfl⟩
    rw [← HP.out]
    go_wp2
    go_ret
    exact ⟨rfl, below_one _ _⟩
theorem turn_yes (B r rm rg : Nat) (v : Value) (st : RunSt) (s : St) (who : Int) (w : World) (h : Grow w B 25 1 (encI .u64) v st.got) (hR : RMemAt w rm rg s) (ht : st.turns s = true) (hlen : st.got.length ≤ 100000)
    (hk : st.want.kind = 1 ∨ st.want.kind = 2 ∨ st.want.kind = 3 ∨ st.want.kind = 4) (hx : 0 ≤ st.want.new ∧ st.want.new < 18446744073709551616) (hc : s.clock < 1000000) (hb : s.bad < 1000000) (hB : B ≤ w.heap.size) (h1 : rm < B) (h2 : rg < B) :
    Calls Try.prog 46 #[.pointer (some ⟨rm, 0, none⟩), .agg (runCells v st).toArray, .int .i64 who] w fun e w' => ∃ v', e = .returned v' ∧ Grow w' B 25 1 (encI .u64) v' (st.got ++ [(s.acc st.want.kind who st.want.at_ st.want.old st.want.new).2]) ∧ RMemAt w' rm rg (s.acc st.want.kind who st.want.at_ st.want.old st.want.new).1 ∧ Kept ([rm, rg] ++ v.ownBlock.toList) w w' := by
  obtain ⟨got, used, stop, want, sleep⟩ := st
  simp only [runCells] at h hk hx hlen ⊢
  unfold RunSt.turns at ht
  simp only [Bool.and_eq_true] at ht
  obtain ⟨rfl, ht⟩ := ht
  have hRb := hR.quiet (below_one w (.cells (runCells v ⟨got, used, true, want, sleep⟩).toArray 69))
  have hGb := h.quiet (below_one w (.cells (runCells v ⟨got, used, true, want, sleep⟩).toArray 69))
  simp only [runCells] at hRb hGb
  have hRb := hid hRb
  have hGb := hid hGb
  have hnm : ∀ i ∈ [rm, rg], v.ownBlock ≠ some i := by
    intro i hi
    simp at hi
    rcases hi with rfl | rfl
    · exact own_low h h1
    · exact own_low h h2
  have HNM := hid hnm
  obtain ⟨a, cap, rfl, _, _, _⟩ := h.row encI_len
  have HK := hid hk
  have HX := hid hx
  have HC := hid hc
  have HBD := hid hb
  have HBS := hid hB
  have HL := hid hlen
  clear h hR hk hx hc hb hB hlen hnm h1 h2
  cases sleep with
  | false =>
    clear ht
    go_enter Try.func46, Try.ntmps46
    go_wp2_with fail
    refine (rdo_run rm rg s _ who _ _ _ _ HK.out HX.out hRb.out HC.out HBD.out).mono ?_
    rintro e w1 ⟨rfl, hR1, hK1⟩
    have hG1 := Grow.keptB hGb.out hK1 HNM.out
    have hk1 : Kept [rm, rg] w w1 := ((Kept.refl _ _).alloc _).trans hK1 (by intro i hi; exact .inl hi)
    have hs1 := Nat.le_trans HBS.out hk1.size
    clear hGb hRb hK1
    go_wp2_with (first | (at_builtin; refine app_oneK (T := 25) _ hG1 info64' Try.underlying60 rfl (by decide) (by omega) rfl _ _ rfl rfl rfl rfl (encI_len _) (encI_one _) (by have := HL.out; omega) hs1 ?_; intro v' w2 hG2 hk2; obtain ⟨a2, c2, rfl, _, _, _⟩ := hG2.row encI_len; have HG2 := hid hG2; clear hG2))
    go_ret
    refine ⟨.slice a2 _ c2, rfl, by have := HG2.out; simpa using this, hR1.kept hk2 ?_ ?_, (Kept.mono (S' := [rm, rg] ++ (Value.slice a got.length cap).ownBlock.toList) hk1 (by intro i hi; exact .inl (List.mem_append_left _ hi))).trans hk2 (by intro i hi; exact .inl (List.mem_append_right _ hi))⟩
    · have := HNM.out rm (by simp); simpa [eq_comm] using this
    · have := HNM.out rg (by simp); simpa [eq_comm] using this
  | true =>
    obtain ⟨pk, hpk⟩ : ∃ pk, pk = s.peek want.at_ := ⟨_, rfl⟩
    rw [← hpk] at ht
    have hz : ((pk.1 : Int) == 0) = false := by simpa using ht
    have HP := hid hpk
    clear ht hpk
    go_enter Try.func46, Try.ntmps46
    go_wp2_with fail
    refine (rpeek_run rm rg s _ _ hRb.out).mono ?_
    rintro e w1 ⟨rfl, rfl⟩
    rw [← HP.out]
    go_wp2_with fail
    refine (rdo_run rm rg s _ who _ _ _ _ HK.out HX.out hRb.out HC.out HBD.out).mono ?_
    rintro e w1 ⟨rfl, hR1, hK1⟩
    have hG1 := Grow.keptB hGb.out hK1 HNM.out
    have hk1 : Kept [rm, rg] w w1 := ((Kept.refl _ _).alloc _).trans hK1 (by intro i hi; exact .inl hi)
    have hs1 := Nat.le_trans HBS.out hk1.size
    clear hGb hRb hK1
    go_wp2_with (first | (at_builtin; refine app_oneK (T := 25) _ hG1 info64' Try.underlying60 rfl (by decide) (by omega) rfl _ _ rfl rfl rfl rfl (encI_len _) (encI_one _) (by have := HL.out; omega) hs1 ?_; intro v' w2 hG2 hk2; obtain ⟨a2, c2, rfl, _, _, _⟩ := hG2.row encI_len; have HG2 := hid hG2; clear hG2))
    go_ret
    refine ⟨.slice a2 _ c2, rfl, by have := HG2.out; simpa using this, hR1.kept hk2 ?_ ?_, (Kept.mono (S' := [rm, rg] ++ (Value.slice a got.length cap).ownBlock.toList) hk1 (by intro i hi; exact .inl (List.mem_append_left _ hi))).trans hk2 (by intro i hi; exact .inl (List.mem_append_right _ hi))⟩
    · have := HNM.out rm (by simp); simpa [eq_comm] using this
    · have := HNM.out rg (by simp); simpa [eq_comm] using this
end Go.Proofs.Ytokpgbocomhpiaa.Run
