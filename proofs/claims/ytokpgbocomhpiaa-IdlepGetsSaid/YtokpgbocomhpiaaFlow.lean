/- Contracts of a flow: what comes next, and what is told of it. -/
import Derived.Test.YtokpgbocomhpiaaMemC
import Derived.Laws.EntriesVeiled
set_option maxRecDepth 100000
set_option maxHeartbeats 4000000
set_option linter.unusedVariables false
set_option linter.unusedSimpArgs false
namespace Go.Proofs.Ytokpgbocomhpiaa.Flow
open Go.RowKit Go.Shelf Go.Proofs.Ytokpgbocomhpiaa.TK Go.Proofs.Ytokpgbocomhpiaa.Flag Go.Proofs.Ytokpgbocomhpiaa.Words Go.Proofs.Ytokpgbocomhpiaa.Mem

/-- A flow's cells, at the head of a machine's block. -/
structure Fl where
  who : Int
  kind : Int
  at_ : Int
  old : Int
  nw : Int
  th : Value
  asleep : Bool
  sub : Value
  af : Value
def fl (f : Fl) : List Value := [.int .i64 f.who, .int .i64 f.kind, .int .i64 f.at_, .int .u64 f.old, .int .u64 f.nw, f.th, .bool f.asleep, f.sub, f.af]
/-- The flow as it is made. -/
def fl0 : Fl := ⟨0, 0, 0, 0, 0, .nilFunc, false, .nilIface, .nilFunc⟩
def FlAt (w : World) (x : Nat) (f : Fl) (rest : List Value) (T : TypeId) : Prop := Blk w x (fl f ++ rest) T
section
variable {w w' : World} {x : Nat} {f : Fl} {rest : List Value} {T : TypeId} {S : List Nat}
theorem FlAt.kept (h : FlAt w x f rest T) (hk : Kept S w w') (hne : x ∉ S) : FlAt w' x f rest T := Blk.kept h hk hne
theorem FlAt.quiet (h : FlAt w x f rest T) (hb : Below w.heap.size w w') : FlAt w' x f rest T := Blk.quiet h hb
theorem FlAt.lt (h : FlAt w x f rest T) : x < w.heap.size := Blk.lt h
theorem FlAt.cells (h : FlAt w x f rest T) : w.cell? ⟨x, 0, none⟩ = some (.int .i64 f.who) ∧ w.cell? ⟨x, 1, none⟩ = some (.int .i64 f.kind) ∧ w.cell? ⟨x, 2, none⟩ = some (.int .i64 f.at_) ∧ w.cell? ⟨x, 3, none⟩ = some (.int .u64 f.old) ∧ w.cell? ⟨x, 4, none⟩ = some (.int .u64 f.nw) ∧ w.cell? ⟨x, 5, none⟩ = some f.th ∧ w.cell? ⟨x, 6, none⟩ = some (.bool f.asleep) ∧ w.cell? ⟨x, 7, none⟩ = some f.sub ∧ w.cell? ⟨x, 8, none⟩ = some f.af :=
  ⟨Blk.cell h 0, Blk.cell h 1, Blk.cell h 2, Blk.cell h 3, Blk.cell h 4, Blk.cell h 5, Blk.cell h 6, Blk.cell h 7, Blk.cell h 8⟩
end
theorem fof_run (x : Nat) (f : Fl) (rest : List Value) (T : TypeId) (v : Int) (w : World) (hb : FlAt w x f rest T) :
    Calls Try.prog 138 #[.pointer (some ⟨x, 0, none⟩), .int .i64 v] w fun e w' => e = .returned (.tuple #[]) ∧ FlAt w' x { f with who := v } rest T ∧ Kept [x] w w' := by
  obtain ⟨c0, c1, c2, c3, c4, c5, c6, c7, c8⟩ := hb.cells
  have hf := Blk.frozen hb
  have HB := hid hb
  clear hb
  go_enter Try.func138, Try.ntmps138
  go_wp2
  go_returns
  exact ⟨rfl, HB.out.set 0 (.int .i64 v), (Kept.refl [x] w).set (.inl (by simp)) _⟩
theorem fwho_run (x : Nat) (f : Fl) (rest : List Value) (T : TypeId) (w : World) (hb : FlAt w x f rest T) :
    Calls Try.prog 232 #[.pointer (some ⟨x, 0, none⟩)] w fun e w' => e = .returned (.int .i64 f.who) ∧ w = w' := by
  obtain ⟨c0, c1, c2, c3, c4, c5, c6, c7, c8⟩ := hb.cells
  clear hb
  go_enter Try.func232, Try.ntmps232
  go_wp2
  go_ret
  exact ⟨rfl, rfl⟩
theorem comes_run (x : Nat) (f : Fl) (rest : List Value) (T : TypeId) (kind at_ old nw : Int) (fn : Fn) (first captured : Array Value) (w : World) (hb : FlAt w x f rest T) :
    Calls Try.prog 200 #[.pointer (some ⟨x, 0, none⟩), .int .i64 kind, .int .i64 at_, .int .u64 old, .int .u64 nw, .func fn first captured] w fun e w' => e = .returned (.tuple #[]) ∧ FlAt w' x { f with kind := kind, at_ := at_, old := old, nw := nw, th := .func fn first captured } rest T ∧ Kept [x] w w' := by
  obtain ⟨c0, c1, c2, c3, c4, c5, c6, c7, c8⟩ := hb.cells
  have hf := Blk.frozen hb
  have HB := hid hb
  clear hb
  go_enter Try.func200, Try.ntmps200
  go_wp2
  go_returns
  exact ⟨rfl, ((((HB.out.set 1 (.int .i64 kind)).set 2 (.int .i64 at_)).set 3 (.int .u64 old)).set 4 (.int .u64 nw)).set 5 (.func fn first captured), (((((Kept.refl [x] w).set (.inl (by simp)) _).set (.inl (by simp)) _).set (.inl (by simp)) _).set (.inl (by simp)) _).set (.inl (by simp)) _⟩
theorem fload_run (x : Nat) (f : Fl) (rest : List Value) (T : TypeId) (at_ : Int) (fn : Fn) (first captured : Array Value) (w : World) (hb : FlAt w x f rest T) :
    Calls Try.prog 164 #[.pointer (some ⟨x, 0, none⟩), .int .i64 at_, .func fn first captured] w fun e w' => e = .returned (.tuple #[]) ∧ FlAt w' x { f with kind := 1, at_ := at_, old := 0, nw := 0, th := .func fn first captured } rest T ∧ Kept [x] w w' := by
  go_enter Try.func164, Try.ntmps164
  go_wp2_with fail
  refine (comes_run x f rest T 1 at_ 0 0 fn first captured _ hb).mono ?_
  rintro e w1 ⟨rfl, hB, hK⟩
  go_wp2
  go_returns
  exact ⟨rfl, hB, hK⟩
theorem fadd_run (x : Nat) (f : Fl) (rest : List Value) (T : TypeId) (at_ nw : Int) (fn : Fn) (first captured : Array Value) (w : World) (hb : FlAt w x f rest T) :
    Calls Try.prog 146 #[.pointer (some ⟨x, 0, none⟩), .int .i64 at_, .int .u64 nw, .func fn first captured] w fun e w' => e = .returned (.tuple #[]) ∧ FlAt w' x { f with kind := 4, at_ := at_, old := 0, nw := nw, th := .func fn first captured } rest T ∧ Kept [x] w w' := by
  go_enter Try.func146, Try.ntmps146
  go_wp2_with fail
  refine (comes_run x f rest T 4 at_ 0 nw fn first captured _ hb).mono ?_
  rintro e w1 ⟨rfl, hB, hK⟩
  go_wp2
  go_returns
  exact ⟨rfl, hB, hK⟩
theorem fsleep_run (x : Nat) (f : Fl) (rest : List Value) (T : TypeId) (at_ : Int) (fn : Fn) (first captured : Array Value) (w : World) (hb : FlAt w x f rest T) :
    Calls Try.prog 139 #[.pointer (some ⟨x, 0, none⟩), .int .i64 at_, .func fn first captured] w fun e w' => e = .returned (.tuple #[]) ∧ FlAt w' x { f with kind := 5, at_ := at_, old := 0, nw := 0, th := .func fn first captured, asleep := false } rest T ∧ Kept [x] w w' := by
  obtain ⟨c0, c1, c2, c3, c4, c5, c6, c7, c8⟩ := hb.cells
  have hf := Blk.frozen hb
  have hB : FlAt (w.setCell ⟨x, 6, none⟩ (.bool false)) x { f with asleep := false } rest T := Blk.set hb 6 (.bool false)
  clear hb
  go_enter Try.func139, Try.ntmps139
  go_wp2_with fail
  refine (comes_run x _ rest T 5 at_ 0 0 fn first captured _ hB).mono ?_
  rintro e w1 ⟨rfl, hB1, hK⟩
  go_wp2
  go_returns
  exact ⟨rfl, hB1, ((Kept.refl [x] w).set (.inl (by simp)) _).trans hK (by intro i hi; exact .inl hi)⟩
theorem fstore_run (x : Nat) (f : Fl) (rest : List Value) (T : TypeId) (at_ nw : Int) (fn : Fn) (first captured : Array Value) (w : World) (hb : FlAt w x f rest T) :
    Calls Try.prog 144 #[.pointer (some ⟨x, 0, none⟩), .int .i64 at_, .int .u64 nw, .func fn first captured] w fun e w' => e = .returned (.tuple #[]) ∧ ∃ b, FlAt w' x { f with kind := 2, at_ := at_, old := 0, nw := nw, th := .func (.func 201) #[] #[.pointer (some ⟨b, 0, none⟩)] } rest T ∧ Blk w' b [.func fn first captured] 1 ∧ w.heap.size ≤ b ∧ Kept [x] w w' := by
  have hlt := hb.lt
  have hB : FlAt (w.alloc (.cells #[.func fn first captured] 1)) x f rest T := hb.quiet (below_one _ _)
  have hX := Blk.new w [.func fn first captured] 1
  go_enter Try.func144, Try.ntmps144
  go_wp2_with fail
  refine (comes_run x f rest T 2 at_ 0 nw (.func 201) #[] #[.pointer (some ⟨w.heap.size, 0, none⟩)] _ hB).mono ?_
  rintro e w1 ⟨rfl, hB1, hK⟩
  go_wp2
  go_returns
  exact ⟨rfl, w.heap.size, hB1, hX.kept hK (by simp; omega), Nat.le_refl _, ((Kept.refl [x] w).alloc _).trans hK (by intro i hi; exact .inl hi)⟩
theorem fswap_run (x : Nat) (f : Fl) (rest : List Value) (T : TypeId) (at_ old nw : Int) (fn : Fn) (first captured : Array Value) (w : World) (hb : FlAt w x f rest T) :
    Calls Try.prog 241 #[.pointer (some ⟨x, 0, none⟩), .int .i64 at_, .int .u64 old, .int .u64 nw, .func fn first captured] w fun e w' => e = .returned (.tuple #[]) ∧ ∃ b, FlAt w' x { f with kind := 3, at_ := at_, old := old, nw := nw, th := .func (.func 257) #[] #[.pointer (some ⟨b, 0, none⟩)] } rest T ∧ Blk w' b [.func fn first captured] 233 ∧ w.heap.size ≤ b ∧ Kept [x] w w' := by
  have hlt := hb.lt
  have hB : FlAt (w.alloc (.cells #[.func fn first captured] 233)) x f rest T := hb.quiet (below_one _ _)
  have hX := Blk.new w [.func fn first captured] 233
  go_enter Try.func241, Try.ntmps241
  go_wp2_with fail
  refine (comes_run x f rest T 3 at_ old nw (.func 257) #[] #[.pointer (some ⟨w.heap.size, 0, none⟩)] _ hB).mono ?_
  rintro e w1 ⟨rfl, hB1, hK⟩
  go_wp2
  go_returns
  exact ⟨rfl, w.heap.size, hB1, hX.kept hK (by simp; omega), Nat.le_refl _, ((Kept.refl [x] w).alloc _).trans hK (by intro i hi; exact .inl hi)⟩
/-- Nothing is to come. -/
def Fl.done (f : Fl) : Bool := decide (f.kind = 0) && (f.sub matches .nilIface)
theorem fdone_nil (w : World) : Calls Try.prog 131 #[.pointer none] w fun e w' => e = .returned (.bool true) ∧ w = w' := by
  go_enter Try.func131, Try.ntmps131
  go_wp2
  go_ret
  exact ⟨rfl, rfl⟩
/-- A flow without a machine in it. -/
theorem fdone_run (x : Nat) (f : Fl) (rest : List Value) (T : TypeId) (w : World) (hb : FlAt w x f rest T) (hs : f.sub = .nilIface) :
    Calls Try.prog 131 #[.pointer (some ⟨x, 0, none⟩)] w fun e w' => e = .returned (.bool (decide (f.kind = 0))) ∧ w = w' := by
  obtain ⟨c0, c1, c2, c3, c4, c5, c6, c7, c8⟩ := hb.cells
  rw [hs] at c7
  clear hb hs
  by_cases hk : f.kind = 0
  · have hd : ((f.kind : Int) == 0) = true := by simp [hk]
    have HK := hid hk
    clear hk
    go_enter Try.func131, Try.ntmps131
    go_wp2
    go_ret
    exact ⟨ret_yes HK.out, rfl⟩
  · have hd : ((f.kind : Int) == 0) = false := by simp [hk]
    have HK := hid hk
    clear hk
    go_enter Try.func131, Try.ntmps131
    go_wp2
    go_ret
    exact ⟨ret_no HK.out, rfl⟩
end Go.Proofs.Ytokpgbocomhpiaa.Flow
