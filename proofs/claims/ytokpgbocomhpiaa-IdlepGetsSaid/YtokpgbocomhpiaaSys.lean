/- Routines as systems of states: what comes next, what follows an answer; a replay. -/
import Derived.Test.YtokpgbocomhpiaaAcqRef
set_option maxRecDepth 100000
set_option maxHeartbeats 4000000
set_option linter.unusedVariables false
set_option linter.unusedSimpArgs false
namespace Go.Proofs.Ytokpgbocomhpiaa.Sys
open Go.RowKit Go.Shelf Go.Proofs.Ytokpgbocomhpiaa.TK Go.Proofs.Ytokpgbocomhpiaa.Flag Go.Proofs.Ytokpgbocomhpiaa.Read Go.Proofs.Ytokpgbocomhpiaa.Grow Go.Proofs.Ytokpgbocomhpiaa.Words Go.Proofs.Ytokpgbocomhpiaa.Mem Go.Proofs.Ytokpgbocomhpiaa.Run
/-- What comes next: an access, and whether one sleeps there. -/
structure Wnt where
  kind : Int
  at_ : Int
  old : Int
  new : Int
  slp : Bool
def Wnt.acc (W : Wnt) : Acc := ⟨W.kind, 0, W.at_, W.old, W.new, false⟩
structure Rsys (σ : Type) where
  want : σ → Option Wnt
  next : σ → Int → σ
variable {σ τ : Type} {M : Rsys σ} {M' : Rsys τ} {got : List Int}
/-- These answers lead on from here to there. -/
inductive Path (M : Rsys σ) : σ → List Int → σ → Prop
  | nil (s : σ) : Path M s [] s
  | cons {s : σ} {a : Int} {l : List Int} {t : σ} (hw : M.want s ≠ none) (h : Path M (M.next s a) l t) : Path M s (a :: l) t
theorem Path.snoc {s t : σ} {l : List Int} {a : Int} (h : Path M s l t) (hw : M.want t ≠ none) : Path M s (l ++ [a]) (M.next t a) := by
  induction h with
  | nil s => exact .cons hw (.nil _)
  | cons hw' _ ih => exact .cons hw' (ih hw)
def runU (got : List Int) (u : Nat) : RunSt := ⟨got, u, false, ⟨0, 0, 0, 0, 0, false⟩, false⟩
def stop0 (got : List Int) (W : Wnt) : RunSt := ⟨got, got.length, true, W.acc, W.slp⟩
/-- A replay goes on. -/
inductive Ran (M : Rsys σ) (got : List Int) : σ → RunSt → σ → RunSt → Prop
  | same (s : σ) (a : RunSt) : Ran M got s a s a
  | goes {s s1 : σ} {b : RunSt} (u : Nat) (hu : u < got.length) (hw : M.want s ≠ none) (h : Ran M got (M.next s got[u]) (runU got (u + 1)) s1 b) : Ran M got s (runU got u) s1 b
  | stops {s : σ} (W : Wnt) (hw : M.want s = some W) : Ran M got s (runU got got.length) s (stop0 got W)
theorem Ran.of_stop {s s1 : σ} {a b : RunSt} (h : Ran M got s a s1 b) (ha : a.stop = true) : s1 = s ∧ b = a := by
  cases h with
  | same => exact ⟨rfl, rfl⟩
  | goes u hu hw h => simp [runU] at ha
  | stops W hw => simp [runU] at ha
theorem Ran.trans {s s1 s2 : σ} {a b c : RunSt} (h : Ran M got s a s1 b) (k : Ran M got s1 b s2 c) : Ran M got s a s2 c := by
  induction h with
  | same => exact k
  | goes u hu hw h ih => exact .goes u hu hw (ih k)
  | stops W hw =>
    obtain ⟨rfl, rfl⟩ := k.of_stop rfl
    exact .stops W hw
/-- Where a replay ends, of all that was answered. -/
def endOf (M : Rsys σ) (got : List Int) (st : σ) : RunSt := match M.want st with | none => runU got got.length | some W => stop0 got W
theorem Ran.ends {s s1 : σ} {a b : RunSt} (h : Ran M got s a s1 b) {st : σ} {u : Nat} (ha : a = runU got u) (hu : u ≤ got.length) (hp : Path M s (got.drop u) st) (hfin : b.stop = false → M.want s1 = none) : s1 = st ∧ b = endOf M got st := by
  induction h generalizing u with
  | same s a =>
    subst ha
    have hn := hfin rfl
    cases hd : got.drop u with
    | nil =>
      rw [hd] at hp
      cases hp
      have : u = got.length := by have := congrArg List.length hd; simp at this; omega
      subst this
      exact ⟨rfl, by unfold endOf; rw [hn]⟩
    | cons x l =>
      rw [hd] at hp
      cases hp with
      | cons hw h => exact absurd hn hw
  | goes v hv hw h ih =>
    have : v = u := by have := congrArg RunSt.used ha; simpa [runU] using this
    subst this
    rw [List.drop_eq_getElem_cons hv] at hp
    cases hp with
    | cons hw' h' => exact ih rfl hv h' hfin
  | stops W hw =>
    have : got.length = u := by have := congrArg RunSt.used ha; simpa [runU] using this
    subst this
    rw [List.drop_length] at hp
    cases hp
    exact ⟨rfl, by unfold endOf; rw [hw]⟩
/-- A routine within another one. -/
theorem Ran.emb (emb : τ → σ) (E : ∀ s W, M'.want s = some W → M.want (emb s) = some W ∧ ∀ a, M.next (emb s) a = emb (M'.next s a)) {s s1 : τ} {a b : RunSt} (h : Ran M' got s a s1 b) : Ran M got (emb s) a (emb s1) b := by
  induction h with
  | same => exact .same _ _
  | goes u hu hw h ih =>
    rename_i s0 s2 b0
    obtain ⟨W, hW⟩ : ∃ W, M'.want s0 = some W := by
      cases e : M'.want s0 with
      | none => exact absurd e hw
      | some W => exact ⟨W, rfl⟩
    obtain ⟨e1, e2⟩ := E _ W hW
    exact .goes u hu (by rw [e1]; simp) (by rw [e2]; exact ih)
  | stops W hw => exact .stops W (E _ W hw).1
/-- A run of these answers, that goes on, or has stopped. -/
structure Fits (got : List Int) (a : RunSt) : Prop where
  ex : (∃ u, u ≤ got.length ∧ a = runU got u) ∨ ∃ W, a = stop0 got W
  rng : ∀ x ∈ got, 0 ≤ x ∧ x < 18446744073709551616
theorem Fits.gots {a : RunSt} (h : Fits got a) : a.got = got := by
  rcases h.ex with ⟨u, _, rfl⟩ | ⟨W, rfl⟩ <;> rfl
theorem Fits.start (h : ∀ x ∈ got, 0 ≤ x ∧ x < 18446744073709551616) : Fits got (runU got 0) := ⟨.inl ⟨0, Nat.zero_le _, rfl⟩, h⟩
/-- What is left of a run. -/
def left (got : List Int) (b : RunSt) : Nat := got.length - b.used + (if b.stop then 0 else 1)
theorem left_eq {w : World} {B r : Nat} {v : Value} {b : RunSt} (h : RunAt w B r v b) : Run.leftOf got.length r w = left got b := by
  have c1 := h.blk.cell 1
  have c2 := h.blk.cell 2
  simp only [runCells, List.getElem?_cons_zero, List.getElem?_cons_succ] at c1 c2
  unfold Run.leftOf left
  rw [c1, c2]
  cases b.stop <;> simp
theorem Ran.left_le {s s1 : σ} {a b : RunSt} (h : Ran M got s a s1 b) : left got b ≤ left got a := by
  induction h with
  | same => exact Nat.le_refl _
  | goes u hu hw h ih =>
    refine Nat.le_trans ih ?_
    unfold left runU
    simp
    omega
  | stops W hw =>
    unfold left runU stop0
    simp
theorem dox_left {a : RunSt} (h : Fits got a) (A : Acc) (ha : a.stop = false) : left got (a.dox A).1 < left got a := by
  rcases h.ex with ⟨u, hu, rfl⟩ | ⟨W, rfl⟩
  · by_cases hlt : u < got.length
    · rw [show ((runU got u).dox A).1 = runU got (u + 1) from congrArg Prod.fst (dox_on got u A hlt)]
      unfold left runU
      simp
      omega
    · obtain rfl : u = got.length := by omega
      rw [show ((runU got got.length).dox A).1 = Run.stopAt got A from congrArg Prod.fst (dox_end got A)]
      unfold left runU Run.stopAt
      simp
  · simp [stop0] at ha
/-- An access, as the system wants it. -/
theorem put_ran {s : σ} {a : RunSt} {W : Wnt} (h : Fits got a) (hs : W.slp = false) (hw : a.stop = false → M.want s = some W) :
    ∃ s1, Ran M got s a s1 (a.dox W.acc).1 ∧ Fits got (a.dox W.acc).1 ∧ ((a.dox W.acc).1.stop = false → a.stop = false ∧ s1 = M.next s (a.dox W.acc).2) ∧ (0 ≤ (a.dox W.acc).2 ∧ (a.dox W.acc).2 < 18446744073709551616) ∧ ((a.dox W.acc).1.stop = true → s1 = s ∧ (a.dox W.acc).2 = 0) := by
  rcases h.ex with ⟨u, hu, rfl⟩ | ⟨W', rfl⟩
  · have hw1 : M.want s = some W := hw rfl
    by_cases hlt : u < got.length
    · have e : (runU got u).dox W.acc = (runU got (u + 1), got[u]) := dox_on got u _ hlt
      rw [e]
      refine ⟨M.next s got[u], .goes u hlt (by rw [hw1]; simp) (.same _ _), ⟨.inl ⟨u + 1, hlt, rfl⟩, h.rng⟩, fun _ => ⟨rfl, rfl⟩, h.rng _ (List.getElem_mem hlt), fun h => by simp [runU] at h⟩
    · obtain rfl : u = got.length := by omega
      have e : (runU got got.length).dox W.acc = (stop0 got W, 0) := by
        have := dox_end got W.acc
        unfold stop0 runU at *
        rw [hs]
        exact this
      rw [e]
      exact ⟨s, .stops W hw1, ⟨.inr ⟨W, rfl⟩, h.rng⟩, fun h => by simp [stop0] at h, ⟨by simp, by simp⟩, fun _ => ⟨rfl, rfl⟩⟩
  · have e : (stop0 got W').dox W.acc = (stop0 got W', 0) := by unfold RunSt.dox stop0; simp
    rw [e]
    exact ⟨s, .same _ _, h, fun h => by simp [stop0] at h, ⟨by simp, by simp⟩, fun _ => ⟨rfl, rfl⟩⟩
end Go.Proofs.Ytokpgbocomhpiaa.Sys
namespace Go.Proofs.Ytokpgbocomhpiaa.Sys
open Go.RowKit Go.Shelf Go.Proofs.Ytokpgbocomhpiaa.TK Go.Proofs.Ytokpgbocomhpiaa.Flag Go.Proofs.Ytokpgbocomhpiaa.Read Go.Proofs.Ytokpgbocomhpiaa.Grow Go.Proofs.Ytokpgbocomhpiaa.Words Go.Proofs.Ytokpgbocomhpiaa.Mem Go.Proofs.Ytokpgbocomhpiaa.Run
variable {σ τ : Type} {got : List Int}
/-- What is known behind an access of the document's. -/
structure Did (M : Rsys σ) (got : List Int) (s : σ) (a : RunSt) (w w' : World) (B r : Nat) (v : Value) (b : RunSt) (s1 : σ) (x : Int) : Prop where
  run : RunAt w' B r v b
  kept : Kept [r] w w'
  ran : Ran M got s a s1 b
  good : Fits got b
  on : b.stop = false → a.stop = false ∧ s1 = M.next s x
  rng : 0 ≤ x ∧ x < 18446744073709551616
  off : b.stop = true → s1 = s ∧ x = 0
  dec : (a.stop = false → left got b < left got a) ∧ left got b ≤ left got a
theorem did {M : Rsys σ} {s : σ} {a : RunSt} {W : Wnt} {w w' : World} {B r : Nat} {v : Value} (h : Fits got a) (hs : W.slp = false) (hw : a.stop = false → M.want s = some W) (hr : RunAt w' B r v (a.dox W.acc).1) (hk : Kept [r] w w') :
    ∃ s1, Did M got s a w w' B r v (a.dox W.acc).1 s1 (a.dox W.acc).2 := by
  obtain ⟨s1, h1, h2, h3, h4, h5⟩ := put_ran (M := M) (s := s) h hs hw
  exact ⟨s1, hr, hk, h1, h2, h3, h4, h5, fun ha => dox_left h W.acc ha, h1.left_le⟩
theorem dload_run (M : Rsys σ) (s : σ) (B r : Nat) (v : Value) (a : RunSt) (at_ : Int) (w : World) (h : RunAt w B r v a) (hg : Fits got a) (hw : a.stop = false → M.want s = some ⟨1, at_, 0, 0, false⟩) :
    Calls Try.prog 157 #[.pointer (some ⟨r, 0, none⟩), .int .i64 at_] w fun e w' => ∃ b s1 x, e = .returned (.int .u64 x) ∧ Did M got s a w w' B r v b s1 x := by
  refine (runload_run B r v a at_ w h).mono ?_
  rintro e w1 ⟨rfl, h1, h2⟩
  obtain ⟨s1, hd⟩ := did (W := ⟨1, at_, 0, 0, false⟩) hg rfl hw h1 h2
  exact ⟨_, s1, _, rfl, hd⟩
theorem dadd_run (M : Rsys σ) (s : σ) (B r : Nat) (v : Value) (a : RunSt) (at_ x : Int) (w : World) (h : RunAt w B r v a) (hg : Fits got a) (hw : a.stop = false → M.want s = some ⟨4, at_, 0, x, false⟩) :
    Calls Try.prog 156 #[.pointer (some ⟨r, 0, none⟩), .int .i64 at_, .int .u64 x] w fun e w' => ∃ b s1 y, e = .returned (.int .u64 y) ∧ Did M got s a w w' B r v b s1 y := by
  refine (runadd_run B r v a at_ x w h).mono ?_
  rintro e w1 ⟨rfl, h1, h2⟩
  obtain ⟨s1, hd⟩ := did (W := ⟨4, at_, 0, x, false⟩) hg rfl hw h1 h2
  exact ⟨_, s1, _, rfl, hd⟩
theorem dstore_run (M : Rsys σ) (s : σ) (B r : Nat) (v : Value) (a : RunSt) (at_ x : Int) (w : World) (h : RunAt w B r v a) (hg : Fits got a) (hw : a.stop = false → M.want s = some ⟨2, at_, 0, x, false⟩) :
    Calls Try.prog 158 #[.pointer (some ⟨r, 0, none⟩), .int .i64 at_, .int .u64 x] w fun e w' => e = .returned (.tuple #[]) ∧ ∃ b s1 y, Did M got s a w w' B r v b s1 y := by
  refine (runstore_run B r v a at_ x w h).mono ?_
  rintro e w1 ⟨rfl, h1, h2⟩
  obtain ⟨s1, hd⟩ := did (W := ⟨2, at_, 0, x, false⟩) hg rfl hw h1 h2
  exact ⟨rfl, _, s1, _, hd⟩
theorem dswap_run (M : Rsys σ) (s : σ) (B r : Nat) (v : Value) (a : RunSt) (at_ o x : Int) (w : World) (h : RunAt w B r v a) (hg : Fits got a) (hw : a.stop = false → M.want s = some ⟨3, at_, o, x, false⟩) :
    Calls Try.prog 179 #[.pointer (some ⟨r, 0, none⟩), .int .i64 at_, .int .u64 o, .int .u64 x] w fun e w' => ∃ b s1 y, e = .returned (.bool (y == 1)) ∧ Did M got s a w w' B r v b s1 y := by
  refine (runswap_run B r v a at_ o x w h).mono ?_
  rintro e w1 ⟨rfl, h1, h2⟩
  obtain ⟨s1, hd⟩ := did (W := ⟨3, at_, o, x, false⟩) hg rfl hw h1 h2
  exact ⟨_, s1, _, rfl, hd⟩
/-- A wait of the document's. -/
theorem dwait_run (M : Rsys σ) (sw : Bool → σ) (s : σ) (at_ : Int) (hw : ∀ b, M.want (sw b) = some ⟨1, at_, 0, 0, b⟩) (hn : ∀ b, M.next (sw b) 0 = sw true) (B r : Nat) (v : Value) (a : RunSt) (w : World) (h : RunAt w B r v a) (hg : Fits got a) (hs : a.stop = false → s = sw false) :
    Calls Try.prog 161 #[.pointer (some ⟨r, 0, none⟩), .int .i64 at_] w fun e w' => ∃ b s1 x, e = .returned (.int .u64 x) ∧ RunAt w' B r v b ∧ Kept [r] w w' ∧ Ran M got s a s1 b ∧ Fits got b ∧ (b.stop = false → a.stop = false ∧ x ≠ 0 ∧ ∃ f, s1 = M.next (sw f) x) ∧ (0 ≤ x ∧ x < 18446744073709551616) ∧ (b.stop = true → x = 0 ∧ (a.stop = false → ∃ f, s1 = sw f)) := by
  have HW := hid hw
  have HN := hid hn
  have hrng := hg.rng
  have hI : ∃ i f0, i = Value.int .u64 0 ∧ f0 = Value.bool true ∧ Kept [r] w w ∧ ((∃ u f, u ≤ got.length ∧ i = .int .u64 0 ∧ f0 = .bool (!f) ∧ RunAt w B r v (runU got u) ∧ a.stop = false ∧ Ran M got s a (sw f) (runU got u)) ∨ (∃ b s1 q, i = .int .u64 0 ∧ f0 = .bool q ∧ b.stop = true ∧ RunAt w B r v b ∧ Ran M got s a s1 b ∧ Fits got b ∧ (a.stop = false → ∃ f, s1 = sw f)) ∨ (∃ u f x q, i = .int .u64 x ∧ f0 = .bool q ∧ x ≠ 0 ∧ (0 ≤ x ∧ x < 18446744073709551616) ∧ u ≤ got.length ∧ RunAt w B r v (runU got u) ∧ a.stop = false ∧ Ran M got s a (M.next (sw f) x) (runU got u))) := by
    refine ⟨_, _, rfl, rfl, Kept.refl _ _, ?_⟩
    rcases hg.ex with ⟨u, hu, rfl⟩ | ⟨W, rfl⟩
    · left
      obtain rfl := hs rfl
      exact ⟨u, false, hu, rfl, rfl, h, rfl, .same _ _⟩
    · right; left
      exact ⟨_, s, true, rfl, rfl, rfl, h, .same _ _, hg, fun h => by simp [stop0] at h⟩
  have HI := hid hI
  have HR := hid hrng
  clear hI hs h hw hn hrng
  go_enter Try.func161, Try.ntmps161
  go_wp2_with fail
  go_loopw [5, 6] (fun i f0 wr => Kept [r] w wr ∧ ((∃ u f, u ≤ got.length ∧ i = .int .u64 0 ∧ f0 = .bool (!f) ∧ RunAt wr B r v (runU got u) ∧ a.stop = false ∧ Ran M got s a (sw f) (runU got u)) ∨ (∃ b s1 q, i = .int .u64 0 ∧ f0 = .bool q ∧ b.stop = true ∧ RunAt wr B r v b ∧ Ran M got s a s1 b ∧ Fits got b ∧ (a.stop = false → ∃ f, s1 = sw f)) ∨ (∃ u f x q, i = .int .u64 x ∧ f0 = .bool q ∧ x ≠ 0 ∧ (0 ≤ x ∧ x < 18446744073709551616) ∧ u ≤ got.length ∧ RunAt wr B r v (runU got u) ∧ a.stop = false ∧ Ran M got s a (M.next (sw f) x) (runU got u)))) (fun i _ wr => Run.leftOf got.length r wr)
  case atStart =>
    obtain ⟨i, f0, rfl, rfl, h⟩ := HI.out
    exact h
  case round =>
    clear HI
    obtain ⟨hK, ⟨u, f, hu, rfl, rfl, hR, ha, hran⟩ | ⟨b, s1, q, rfl, rfl, hb, hR, hran, hgb, hf⟩ | ⟨u, f, x, q, rfl, rfl, hx, hxr, hu, hR, ha, hran⟩⟩ := hrel
    · have c1 := hR.blk.cell 1
      have c2 := hR.blk.cell 2
      simp only [runCells, runU, List.getElem?_cons_zero, List.getElem?_cons_succ] at c1 c2
      have HRR := hid hR
      have HRAN := hid hran
      have HA := hid ha
      have hm : Run.leftOf got.length r wr = got.length - u + 1 := by
        unfold Run.leftOf
        rw [c1, c2]
        simp
      have HM := hid hm
      clear hR hran ha hm
      by_cases hlt : u < got.length
      · have HD := hid (dox_on got u ⟨1, 0, at_, 0, 0, false⟩ hlt)
        obtain ⟨val, hval⟩ : ∃ val, val = got[u] := ⟨_, rfl⟩
        have hvr := HR.out got[u] (List.getElem_mem hlt)
        rw [← hval] at HD hvr
        have HV := hid hval
        clear hval c1
        go_wp2_with fail
        refine (runload_run B r v _ _ wr HRR.out).mono ?_
        rintro e w3 ⟨rfl, h3, hk3⟩
        rw [show (runU got u).dox ⟨1, 0, at_, 0, 0, false⟩ = (Run.at_ got (u + 1), val) from HD.out] at h3 ⊢
        have d1 := h3.blk.cell 1
        have d2 := h3.blk.cell 2
        simp only [runCells, Run.at_, List.getElem?_cons_zero, List.getElem?_cons_succ] at d1 d2
        have H3 := hid h3
        clear h3 c2 HRR
        go_wp2_with fail
        go_roundw
        case rel =>
          refine ⟨hK.trans hk3 (by intro i hi; exact .inl hi), ?_⟩
          have hgo : ∀ x, x = val → Ran M got s a (M.next (sw f) x) (runU got (u + 1)) := by
            rintro x rfl
            refine HRAN.out.trans (.goes u hlt (by rw [HW.out]; simp) ?_)
            rw [← HV.out]
            exact .same _ _
          by_cases hz : val = 0
          · left
            refine ⟨u + 1, true, hlt, by rw [hz], rfl, H3.out, HA.out, ?_⟩
            have := hgo 0 hz.symm
            rw [HN.out] at this
            exact this
          · right; right
            exact ⟨u + 1, f, val, false, rfl, rfl, hz, hvr, hlt, H3.out, HA.out, hgo val rfl⟩
        case measure =>
          rw [HM.out]
          unfold Run.leftOf
          rw [d1, d2]
          simp
          omega
      · obtain rfl : u = got.length := by omega
        have HD := hid (dox_end got ⟨1, 0, at_, 0, 0, false⟩)
        clear c1
        go_wp2_with fail
        refine (runload_run B r v _ _ wr HRR.out).mono ?_
        rintro e w3 ⟨rfl, h3, hk3⟩
        rw [show (runU got got.length).dox ⟨1, 0, at_, 0, 0, false⟩ = (stopAt got ⟨1, 0, at_, 0, 0, false⟩, 0) from HD.out] at h3 ⊢
        have d1 := h3.blk.cell 1
        have d2 := h3.blk.cell 2
        have hfz := h3.blk.frozen
        have hlt3 := h3.blk.lt
        simp only [runCells, stopAt, List.getElem?_cons_zero, List.getElem?_cons_succ] at d1 d2
        have d9 := h3.blk.cell 9
        simp only [runCells, stopAt, List.getElem?_cons_zero, List.getElem?_cons_succ] at d9
        have hb4 : RunAt (w3.setCell ⟨r, 9, none⟩ (.bool f)) B r v (stop0 got ⟨1, at_, 0, 0, f⟩) := ⟨h3.blk.set 9 (.bool f), Grow.keptB (S := [r]) h3.grow ((Kept.refl _ _).set (.inl (by simp)) _) (by intro i hi; simp at hi; subst hi; exact own_type h3.grow h3.blk (by decide)), Nat.le_refl _, h3.len⟩
        have hk4 : Kept [r] wr (w3.setCell ⟨r, 9, none⟩ (.bool f)) := hk3.set (.inl (by simp)) _
        have e1 := hb4.blk.cell 1
        have e2 := hb4.blk.cell 2
        simp only [runCells, stop0, Wnt.acc, List.getElem?_cons_zero, List.getElem?_cons_succ] at e1 e2
        have H4 := hid hb4
        clear h3 c2 HRR hb4
        cases f with
        | false =>
          go_wp2_with fail
          go_roundw
          case rel =>
            refine ⟨hK.trans hk4 (by intro i hi; exact .inl hi), .inr (.inl ⟨_, sw false, _, rfl, rfl, rfl, H4.out, HRAN.out.trans (.stops _ (HW.out _)), ⟨.inr ⟨_, rfl⟩, HR.out⟩, fun _ => ⟨_, rfl⟩⟩)⟩
          case measure =>
            rw [HM.out]
            unfold Run.leftOf
            rw [e1, e2]
            simp
        | true =>
          go_wp2_with fail
          go_roundw
          case rel =>
            refine ⟨hK.trans hk4 (by intro i hi; exact .inl hi), .inr (.inl ⟨_, sw true, _, rfl, rfl, rfl, H4.out, HRAN.out.trans (.stops _ (HW.out _)), ⟨.inr ⟨_, rfl⟩, HR.out⟩, fun _ => ⟨_, rfl⟩⟩)⟩
          case measure =>
            rw [HM.out]
            unfold Run.leftOf
            rw [e1, e2]
            simp
    · have c2 := hR.blk.cell 2
      simp only [runCells, List.getElem?_cons_zero, List.getElem?_cons_succ] at c2
      rw [hb] at c2
      have HB := hid (And.intro hb (And.intro hR (And.intro hran (And.intro hgb hf))))
      clear hb hR hran hgb hf
      go_wp2
      go_ret
      obtain ⟨hb, hR, hran, hgb, hf⟩ := HB.out
      exact ⟨b, s1, 0, rfl, hR, hK, hran, hgb, fun h => (by rw [hb] at h; cases h), ⟨by simp, by simp⟩, fun _ => ⟨rfl, hf⟩⟩
    · have hq : ((x : Int) == 0) = false := by simpa using hx
      have HB := hid (And.intro hx (And.intro hR (And.intro hran (And.intro ha hxr))))
      clear hx hR hran ha hxr
      go_wp2
      go_ret
      obtain ⟨hx, hR, hran, ha, hxr⟩ := HB.out
      exact ⟨_, _, x, rfl, hR, hK, hran, ⟨.inl ⟨u, hu, rfl⟩, HR.out⟩, fun _ => ⟨ha, hx, f, rfl⟩, hxr, fun h => by simp [runU] at h⟩
end Go.Proofs.Ytokpgbocomhpiaa.Sys
