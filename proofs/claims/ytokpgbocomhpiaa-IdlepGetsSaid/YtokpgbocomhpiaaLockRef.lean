/- The document's release; a replay; the pokes that came in. -/
import Derived.Test.YtokpgbocomhpiaaRel
import Derived.Test.YtokpgbocomhpiaaAlike
import Derived.Test.YtokpgbocomhpiaaLockD
import Derived.Test.YtokpgbocomhpiaaRead
set_option maxRecDepth 100000
set_option maxHeartbeats 4000000
set_option linter.unusedVariables false
set_option linter.unusedSimpArgs false
namespace Go.Proofs.Ytokpgbocomhpiaa.Run
open Go.RowKit Go.Shelf Go.Proofs.Ytokpgbocomhpiaa.TK Go.Proofs.Ytokpgbocomhpiaa.Flag Go.Proofs.Ytokpgbocomhpiaa.Read Go.Proofs.Ytokpgbocomhpiaa.Grow Go.Proofs.Ytokpgbocomhpiaa.Words Go.Proofs.Ytokpgbocomhpiaa.Mem Go.Proofs.Ytokpgbocomhpiaa.Layout Go.Proofs.Ytokpgbocomhpiaa.Lock
/-- A run as it begins. -/
def runOf (got : List Int) : RunSt := ⟨got, 0, false, ⟨0, 0, 0, 0, 0, false⟩, false⟩
def relRun (k : Int) (st : RunSt) : RunSt := ((st.dox ⟨2, 0, 3 * k + 2, 0, 0, false⟩).1.dox ⟨4, 0, 3 * k + 1, 0, 1, false⟩).1
theorem rrel_run (B r : Nat) (v : Value) (st : RunSt) (k : Int) (w : World) (h : RunAt w B r v st) (hk : 0 ≤ k ∧ k ≤ 1) :
    Calls Try.prog 55 #[.pointer (some ⟨r, 0, none⟩), .int .i64 k] w fun e w' => e = .returned (.tuple #[]) ∧ RunAt w' B r v (relRun k st) ∧ Kept [r] w w' := by
  have HH := hid h
  clear h
  go_enter Try.func55, Try.ntmps55
  go_wp2_with fail
  refine (runstore_run B r v st _ 0 w HH.out).mono ?_
  rintro e w1 ⟨rfl, h1, h2⟩
  have H1 := hid h1
  clear h1 HH
  go_wp2_with fail
  refine (runadd_run B r v _ _ 1 w1 H1.out).mono ?_
  rintro e w2 ⟨rfl, h3, h4⟩
  go_wp2
  go_returns
  exact ⟨rfl, h3, h2.trans h4 (by intro i hi; exact .inl hi)⟩
/-- How far a release is by what its accesses answered. -/
def RlGot : RlSt → List Int → Prop
  | .puts, got => got = []
  | .adds, got => ∃ a, got = [a]
  | .done, got => ∃ a b, got = [a, b]
theorem rl_puts (k : Int) : relRun k (runOf []) = ⟨[], 0, true, ⟨2, 0, 3 * k + 2, 0, 0, false⟩, false⟩ := rfl
theorem rl_adds (k a : Int) : relRun k (runOf [a]) = ⟨[a], 1, true, ⟨4, 0, 3 * k + 1, 0, 1, false⟩, false⟩ := rfl
theorem rl_done (k a b : Int) : relRun k (runOf [a, b]) = ⟨[a, b], 2, false, ⟨0, 0, 0, 0, 0, false⟩, false⟩ := rfl
theorem lock_words {k : Int} (hk : 0 ≤ k ∧ k ≤ 1) : tk k = 3 * k ∧ sv k = 3 * k + 1 ∧ ow k = 3 * k + 2 := by
  have : k = 0 ∨ k = 1 := by omega
  rcases this with rfl | rfl <;> decide
/-- A poke that came in. -/
structure PokeT where
  step : Bool
  act : ActT
def encA (a : ActT) : List Value := [.int .i64 a.kind, .int .i64 a.who, .int .i64 a.at_, .int .u64 a.old, .int .u64 a.new]
def encK (p : PokeT) : List Value := .bool p.step :: encA p.act
theorem pokes_of {w : World} {v : Value} (h : (Leaf.row [.bool, .int .i64, .int .i64, .int .i64, .int .u64, .int .u64]).holds w v) :
    ∃ a c, ∃ pokes : List PokeT, v = .slice a pokes.length c ∧ RowOf encK 6 w a pokes ∧ (∀ q ∈ pokes, 0 ≤ q.act.new ∧ q.act.new < 18446744073709551616) := by
  obtain ⟨a, c, xs, rfl, hr, hok, _⟩ := rows_of encK (fun q => 0 ≤ q.act.new ∧ q.act.new < 18446744073709551616) h (fun cs h => by
    obtain ⟨x0, r, rfl, h0, h⟩ := AllB_cons h
    obtain ⟨x1, r, rfl, h1, h⟩ := AllB_cons h
    obtain ⟨x2, r, rfl, h2, h⟩ := AllB_cons h
    obtain ⟨x3, r, rfl, h3, h⟩ := AllB_cons h
    obtain ⟨x4, r, rfl, h4, h⟩ := AllB_cons h
    obtain ⟨x5, r, rfl, h5, h⟩ := AllB_cons h
    obtain rfl := AllB_nil h
    obtain ⟨b, rfl⟩ := h0
    obtain ⟨i1, rfl, _⟩ := h1
    obtain ⟨i2, rfl, _⟩ := h2
    obtain ⟨i3, rfl, _⟩ := h3
    obtain ⟨i4, rfl, _⟩ := h4
    obtain ⟨i5, rfl, hu⟩ := h5
    exact ⟨⟨b, ⟨i1, i2, i3, i4, i5⟩⟩, rfl, wf_u64 hu⟩)
  exact ⟨a, c, xs, rfl, hr, hok⟩
theorem own_after {w : World} {B : Nat} {v : Value} {xs : List Int} (h : Grow w B 25 1 (encI .u64) v xs) {T' : TypeId} (hT : 25 ≠ T') : ∀ i ∈ v.ownBlock.toList, ∀ cs, ¬ Blk w i cs T' := by
  intro i hi cs hb
  have := own_type h hb hT
  simp at hi
  exact this hi
theorem act_clock (a : ActT) (s : St) : (a.on s).clock = s.clock + 1 ∧ (a.on s).bad ≤ s.bad + 1 ∧ s.bad ≤ (a.on s).bad := by
  unfold ActT.on
  split
  · exact ⟨(acc_clock ..).1, (acc_clock ..).2.2, (acc_clock ..).2.1⟩
  · split
    · exact ⟨(acc_clock ..).1, (acc_clock ..).2.2, (acc_clock ..).2.1⟩
    · split
      · exact ⟨(acc_clock ..).1, (acc_clock ..).2.2, (acc_clock ..).2.1⟩
      · exact ⟨(acc_clock ..).1, (acc_clock ..).2.2, (acc_clock ..).2.1⟩
end Go.Proofs.Ytokpgbocomhpiaa.Run
