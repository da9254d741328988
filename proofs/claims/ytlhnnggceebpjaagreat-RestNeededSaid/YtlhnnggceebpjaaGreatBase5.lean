/- Texts of mine, laid into one: Sys, SysI, Mach, RefAt, Doc, FlowD. -/
import Derived.Test.YtlhnnggceebpjaaGreatBase4
section
/- Routines as systems of states: what comes next, what follows an answer; a replay. -/
set_option maxRecDepth 100000
set_option maxHeartbeats 4000000
set_option linter.unusedVariables false
set_option linter.unusedSimpArgs false
namespace Go.Proofs.YtlhnnggceebpjaaGreat.Sys
open Go.RowKit Go.Shelf Go.Proofs.YtlhnnggceebpjaaGreat.TK Go.Proofs.YtlhnnggceebpjaaGreat.Flag Go.Proofs.YtlhnnggceebpjaaGreat.Read Go.Proofs.YtlhnnggceebpjaaGreat.Grow Go.Proofs.YtlhnnggceebpjaaGreat.Words Go.Proofs.YtlhnnggceebpjaaGreat.Mem Go.Proofs.YtlhnnggceebpjaaGreat.Run
/-- What comes next: an access, and whether one sleeps there. -/
structure Wnt where
  kind : Int
  at_ : Int
  old : Int
  new : Int
  slp : Bool
def Wnt.acc (W : Wnt) : Acc := ⟨W.kind, 0, W.at_, W.old, W.new, false⟩
structure Rsys (σ : Type) where
  want : σ → Option Wnt
  next : σ → Int → σ
variable {σ τ : Type} {M : Rsys σ} {M' : Rsys τ} {got : List Int}
/-- These answers lead on from here to there. -/
inductive Path (M : Rsys σ) : σ → List Int → σ → Prop
  | nil (s : σ) : Path M s [] s
  | cons {s : σ} {a : Int} {l : List Int} {t : σ} (hw : M.want s ≠ none) (h : Path M (M.next s a) l t) : Path M s (a :: l) t
theorem Path.snoc {s t : σ} {l : List Int} {a : Int} (h : Path M s l t) (hw : M.want t ≠ none) : Path M s (l ++ [a]) (M.next t a) := by
  induction h with
  | nil s => exact .cons hw (.nil _)
  | cons hw' _ ih => exact .cons hw' (ih hw)
def runU (got : List Int) (u : Nat) : RunSt := ⟨got, u, false, ⟨0, 0, 0, 0, 0, false⟩, false⟩
def stop0 (got : List Int) (W : Wnt) : RunSt := ⟨got, got.length, true, W.acc, W.slp⟩
/-- A replay goes on. -/
inductive Ran (M : Rsys σ) (got : List Int) : σ → RunSt → σ → RunSt → Prop
  | same (s : σ) (a : RunSt) : Ran M got s a s a
  | goes {s s1 : σ} {b : RunSt} (u : Nat) (hu : u < got.length) (hw : M.want s ≠ none) (h : Ran M got (M.next s got[u]) (runU got (u + 1)) s1 b) : Ran M got s (runU got u) s1 b
  | stops {s : σ} (W : Wnt) (hw : M.want s = some W) : Ran M got s (runU got got.length) s (stop0 got W)
theorem Ran.of_stop {s s1 : σ} {a b : RunSt} (h : Ran M got s a s1 b) (ha : a.stop = true) : s1 = s ∧ b = a := by
  cases h with
  | same => exact ⟨rfl, rfl⟩
  | goes u hu hw h => simp [runU] at ha
  | stops W hw => simp [runU] at ha
theorem Ran.trans {s s1 s2 : σ} {a b c : RunSt} (h : Ran M got s a s1 b) (k : Ran M got s1 b s2 c) : Ran M got s a s2 c := by
  induction h with
  | same => exact k
  | goes u hu hw h ih => exact .goes u hu hw (ih k)
  | stops W hw =>
    obtain ⟨rfl, rfl⟩ := k.of_stop rfl
    exact .stops W hw
/-- Where a replay ends, of all that was answered. -/
def endOf (M : Rsys σ) (got : List Int) (st : σ) : RunSt := match M.want st with | none => runU got got.length | some W => stop0 got W
theorem Ran.ends {s s1 : σ} {a b : RunSt} (h : Ran M got s a s1 b) {st : σ} {u : Nat} (ha : a = runU got u) (hu : u ≤ got.length) (hp : Path M s (got.drop u) st) (hfin : b.stop = false → M.want s1 = none) : s1 = st ∧ b = endOf M got st := by
  induction h generalizing u with
  | same s a =>
    subst ha
    have hn := hfin rfl
    cases hd : got.drop u with
    | nil =>
      rw [hd] at hp
      cases hp
      have : u = got.length := by have := congrArg List.length hd; simp at this; omega
      subst this
      exact ⟨rfl, by unfold endOf; rw [hn]⟩
    | cons x l =>
      rw [hd] at hp
      cases hp with
      | cons hw h => exact absurd hn hw
  | goes v hv hw h ih =>
    have : v = u := by have := congrArg RunSt.used ha; simpa [runU] using this
    subst this
    rw [List.drop_eq_getElem_cons hv] at hp
    cases hp with
    | cons hw' h' => exact ih rfl hv h' hfin
  | stops W hw =>
    have : got.length = u := by have := congrArg RunSt.used ha; simpa [runU] using this
    subst this
    rw [List.drop_length] at hp
    cases hp
    exact ⟨rfl, by unfold endOf; rw [hw]⟩
/-- A routine within another one. -/
theorem Ran.emb (emb : τ → σ) (E : ∀ s W, M'.want s = some W → M.want (emb s) = some W ∧ ∀ a, M.next (emb s) a = emb (M'.next s a)) {s s1 : τ} {a b : RunSt} (h : Ran M' got s a s1 b) : Ran M got (emb s) a (emb s1) b := by
  induction h with
  | same => exact .same _ _
  | goes u hu hw h ih =>
    rename_i s0 s2 b0
    obtain ⟨W, hW⟩ : ∃ W, M'.want s0 = some W := by
      cases e : M'.want s0 with
      | none => exact absurd e hw
      | some W => exact ⟨W, rfl⟩
    obtain ⟨e1, e2⟩ := E _ W hW
    exact .goes u hu (by rw [e1]; simp) (by rw [e2]; exact ih)
  | stops W hw => exact .stops W (E _ W hw).1
/-- A run of these answers, that goes on, or has stopped. -/
structure Fits (got : List Int) (a : RunSt) : Prop where
  ex : (∃ u, u ≤ got.length ∧ a = runU got u) ∨ ∃ W, a = stop0 got W
  rng : ∀ x ∈ got, 0 ≤ x ∧ x < 18446744073709551616
theorem Fits.gots {a : RunSt} (h : Fits got a) : a.got = got := by
  rcases h.ex with ⟨u, _, rfl⟩ | ⟨W, rfl⟩ <;> rfl
theorem Fits.start (h : ∀ x ∈ got, 0 ≤ x ∧ x < 18446744073709551616) : Fits got (runU got 0) := ⟨.inl ⟨0, Nat.zero_le _, rfl⟩, h⟩
/-- What is left of a run. -/
def left (got : List Int) (b : RunSt) : Nat := got.length - b.used + (if b.stop then 0 else 1)
theorem left_eq {w : World} {B r : Nat} {v : Value} {b : RunSt} (h : RunAt w B r v b) : Run.leftOf got.length r w = left got b := by
  have c1 := h.blk.cell 1
  have c2 := h.blk.cell 2
  simp only [runCells, List.getElem?_cons_zero, List.getElem?_cons_succ] at c1 c2
  unfold Run.leftOf left
  rw [c1, c2]
  cases b.stop <;> simp
theorem Ran.left_le {s s1 : σ} {a b : RunSt} (h : Ran M got s a s1 b) : left got b ≤ left got a := by
  induction h with
  | same => exact Nat.le_refl _
  | goes u hu hw h ih =>
    refine Nat.le_trans ih ?_
    unfold left runU
    simp
    omega
  | stops W hw =>
    unfold left runU stop0
    simp
theorem dox_left {a : RunSt} (h : Fits got a) (A : Acc) (ha : a.stop = false) : left got (a.dox A).1 < left got a := by
  rcases h.ex with ⟨u, hu, rfl⟩ | ⟨W, rfl⟩
  · by_cases hlt : u < got.length
    · rw [show ((runU got u).dox A).1 = runU got (u + 1) from congrArg Prod.fst (dox_on got u A hlt)]
      unfold left runU
      simp
      omega
    · obtain rfl : u = got.length := by omega
      rw [show ((runU got got.length).dox A).1 = Run.stopAt got A from congrArg Prod.fst (dox_end got A)]
      unfold left runU Run.stopAt
      simp
  · simp [stop0] at ha
/-- An access, as the system wants it. -/
theorem put_ran {s : σ} {a : RunSt} {W : Wnt} (h : Fits got a) (hs : W.slp = false) (hw : a.stop = false → M.want s = some W) :
    ∃ s1, Ran M got s a s1 (a.dox W.acc).1 ∧ Fits got (a.dox W.acc).1 ∧ ((a.dox W.acc).1.stop = false → a.stop = false ∧ s1 = M.next s (a.dox W.acc).2) ∧ (0 ≤ (a.dox W.acc).2 ∧ (a.dox W.acc).2 < 18446744073709551616) ∧ ((a.dox W.acc).1.stop = true → s1 = s ∧ (a.dox W.acc).2 = 0) := by
  rcases h.ex with ⟨u, hu, rfl⟩ | ⟨W', rfl⟩
  · have hw1 : M.want s = some W := hw rfl
    by_cases hlt : u < got.length
    · have e : (runU got u).dox W.acc = (runU got (u + 1), got[u]) := dox_on got u _ hlt
      rw [e]
      refine ⟨M.next s got[u], .goes u hlt (by rw [hw1]; simp) (.same _ _), ⟨.inl ⟨u + 1, hlt, rfl⟩, h.rng⟩, fun _ => ⟨rfl, rfl⟩, h.rng _ (List.getElem_mem hlt), fun h => by simp [runU] at h⟩
    · obtain rfl : u = got.length := by omega
      have e : (runU got got.length).dox W.acc = (stop0 got W, 0) := by
        have := dox_end got W.acc
        unfold stop0 runU at *
        rw [hs]
        exact this
      rw [e]
      exact ⟨s, .stops W hw1, ⟨.inr ⟨W, rfl⟩, h.rng⟩, fun h => by simp [stop0] at h, ⟨by simp, by simp⟩, fun _ => ⟨rfl, rfl⟩⟩
  · have e : (stop0 got W').dox W.acc = (stop0 got W', 0) := by unfold RunSt.dox stop0; simp
    rw [e]
    exact ⟨s, .same _ _, h, fun h => by simp [stop0] at h, ⟨by simp, by simp⟩, fun _ => ⟨rfl, rfl⟩⟩
end Go.Proofs.YtlhnnggceebpjaaGreat.Sys
namespace Go.Proofs.YtlhnnggceebpjaaGreat.Sys
open Go.RowKit Go.Shelf Go.Proofs.YtlhnnggceebpjaaGreat.TK Go.Proofs.YtlhnnggceebpjaaGreat.Flag Go.Proofs.YtlhnnggceebpjaaGreat.Read Go.Proofs.YtlhnnggceebpjaaGreat.Grow Go.Proofs.YtlhnnggceebpjaaGreat.Words Go.Proofs.YtlhnnggceebpjaaGreat.Mem Go.Proofs.YtlhnnggceebpjaaGreat.Run
variable {σ τ : Type} {got : List Int}
/-- What is known behind an access of the document's. -/
structure Did (M : Rsys σ) (got : List Int) (s : σ) (a : RunSt) (w w' : World) (B r : Nat) (v : Value) (b : RunSt) (s1 : σ) (x : Int) : Prop where
  run : RunAt w' B r v b
  kept : Kept [r] w w'
  ran : Ran M got s a s1 b
  good : Fits got b
  on : b.stop = false → a.stop = false ∧ s1 = M.next s x
  rng : 0 ≤ x ∧ x < 18446744073709551616
  off : b.stop = true → s1 = s ∧ x = 0
  dec : (a.stop = false → left got b < left got a) ∧ left got b ≤ left got a
theorem did {M : Rsys σ} {s : σ} {a : RunSt} {W : Wnt} {w w' : World} {B r : Nat} {v : Value} (h : Fits got a) (hs : W.slp = false) (hw : a.stop = false → M.want s = some W) (hr : RunAt w' B r v (a.dox W.acc).1) (hk : Kept [r] w w') :
    ∃ s1, Did M got s a w w' B r v (a.dox W.acc).1 s1 (a.dox W.acc).2 := by
  obtain ⟨s1, h1, h2, h3, h4, h5⟩ := put_ran (M := M) (s := s) h hs hw
  exact ⟨s1, hr, hk, h1, h2, h3, h4, h5, fun ha => dox_left h W.acc ha, h1.left_le⟩
theorem dload_run (M : Rsys σ) (s : σ) (B r : Nat) (v : Value) (a : RunSt) (at_ : Int) (w : World) (h : RunAt w B r v a) (hg : Fits got a) (hw : a.stop = false → M.want s = some ⟨1, at_, 0, 0, false⟩) :
    Calls Tryz.prog 144 #[.pointer (some ⟨r, 0, none⟩), .int .i64 at_] w fun e w' => ∃ b s1 x, e = .returned (.int .u64 x) ∧ Did M got s a w w' B r v b s1 x := by
  refine (runload_run B r v a at_ w h).mono ?_
  rintro e w1 ⟨rfl, h1, h2⟩
  obtain ⟨s1, hd⟩ := did (W := ⟨1, at_, 0, 0, false⟩) hg rfl hw h1 h2
  exact ⟨_, s1, _, rfl, hd⟩
theorem dadd_run (M : Rsys σ) (s : σ) (B r : Nat) (v : Value) (a : RunSt) (at_ x : Int) (w : World) (h : RunAt w B r v a) (hg : Fits got a) (hw : a.stop = false → M.want s = some ⟨4, at_, 0, x, false⟩) :
    Calls Tryz.prog 139 #[.pointer (some ⟨r, 0, none⟩), .int .i64 at_, .int .u64 x] w fun e w' => ∃ b s1 y, e = .returned (.int .u64 y) ∧ Did M got s a w w' B r v b s1 y := by
  refine (runadd_run B r v a at_ x w h).mono ?_
  rintro e w1 ⟨rfl, h1, h2⟩
  obtain ⟨s1, hd⟩ := did (W := ⟨4, at_, 0, x, false⟩) hg rfl hw h1 h2
  exact ⟨_, s1, _, rfl, hd⟩
theorem dstore_run (M : Rsys σ) (s : σ) (B r : Nat) (v : Value) (a : RunSt) (at_ x : Int) (w : World) (h : RunAt w B r v a) (hg : Fits got a) (hw : a.stop = false → M.want s = some ⟨2, at_, 0, x, false⟩) :
    Calls Tryz.prog 140 #[.pointer (some ⟨r, 0, none⟩), .int .i64 at_, .int .u64 x] w fun e w' => e = .returned (.tuple #[]) ∧ ∃ b s1 y, Did M got s a w w' B r v b s1 y := by
  refine (runstore_run B r v a at_ x w h).mono ?_
  rintro e w1 ⟨rfl, h1, h2⟩
  obtain ⟨s1, hd⟩ := did (W := ⟨2, at_, 0, x, false⟩) hg rfl hw h1 h2
  exact ⟨rfl, _, s1, _, hd⟩
theorem dswap_run (M : Rsys σ) (s : σ) (B r : Nat) (v : Value) (a : RunSt) (at_ o x : Int) (w : World) (h : RunAt w B r v a) (hg : Fits got a) (hw : a.stop = false → M.want s = some ⟨3, at_, o, x, false⟩) :
    Calls Tryz.prog 152 #[.pointer (some ⟨r, 0, none⟩), .int .i64 at_, .int .u64 o, .int .u64 x] w fun e w' => ∃ b s1 y, e = .returned (.bool (y == 1)) ∧ Did M got s a w w' B r v b s1 y := by
  refine (runswap_run B r v a at_ o x w h).mono ?_
  rintro e w1 ⟨rfl, h1, h2⟩
  obtain ⟨s1, hd⟩ := did (W := ⟨3, at_, o, x, false⟩) hg rfl hw h1 h2
  exact ⟨_, s1, _, rfl, hd⟩
/-- A wait of the document's. -/
theorem dwait_run (M : Rsys σ) (sw : Bool → σ) (s : σ) (at_ : Int) (hw : ∀ b, M.want (sw b) = some ⟨1, at_, 0, 0, b⟩) (hn : ∀ b, M.next (sw b) 0 = sw true) (B r : Nat) (v : Value) (a : RunSt) (w : World) (h : RunAt w B r v a) (hg : Fits got a) (hs : a.stop = false → s = sw false) :
    Calls Tryz.prog 224 #[.pointer (some ⟨r, 0, none⟩), .int .i64 at_] w fun e w' => ∃ b s1 x, e = .returned (.int .u64 x) ∧ RunAt w' B r v b ∧ Kept [r] w w' ∧ Ran M got s a s1 b ∧ Fits got b ∧ (b.stop = false → a.stop = false ∧ x ≠ 0 ∧ ∃ f, s1 = M.next (sw f) x) ∧ (0 ≤ x ∧ x < 18446744073709551616) ∧ (b.stop = true → x = 0 ∧ (a.stop = false → ∃ f, s1 = sw f)) := by
  have HW := hid hw
  have HN := hid hn
  have hrng := hg.rng
  have hI : ∃ i f0, i = Value.int .u64 0 ∧ f0 = Value.bool true ∧ Kept [r] w w ∧ ((∃ u f, u ≤ got.length ∧ i = .int .u64 0 ∧ f0 = .bool (!f) ∧ RunAt w B r v (runU got u) ∧ a.stop = false ∧ Ran M got s a (sw f) (runU got u)) ∨ (∃ b s1 q, i = .int .u64 0 ∧ f0 = .bool q ∧ b.stop = true ∧ RunAt w B r v b ∧ Ran M got s a s1 b ∧ Fits got b ∧ (a.stop = false → ∃ f, s1 = sw f)) ∨ (∃ u f x q, i = .int .u64 x ∧ f0 = .bool q ∧ x ≠ 0 ∧ (0 ≤ x ∧ x < 18446744073709551616) ∧ u ≤ got.length ∧ RunAt w B r v (runU got u) ∧ a.stop = false ∧ Ran M got s a (M.next (sw f) x) (runU got u))) := by
    refine ⟨_, _, rfl, rfl, Kept.refl _ _, ?_⟩
    rcases hg.ex with ⟨u, hu, rfl⟩ | ⟨W, rfl⟩
    · left
      obtain rfl := hs rfl
      exact ⟨u, false, hu, rfl, rfl, h, rfl, .same _ _⟩
    · right; left
      exact ⟨_, s, true, rfl, rfl, rfl, h, .same _ _, hg, fun h => by simp [stop0] at h⟩
  have HI := hid hI
  have HR := hid hrng
  clear hI hs h hw hn hrng
  go_enter Tryz.func224, Tryz.ntmps224
  go_wp2_with fail
  go_loopw [5, 6] (fun i f0 wr => Kept [r] w wr ∧ ((∃ u f, u ≤ got.length ∧ i = .int .u64 0 ∧ f0 = .bool (!f) ∧ RunAt wr B r v (runU got u) ∧ a.stop = false ∧ Ran M got s a (sw f) (runU got u)) ∨ (∃ b s1 q, i = .int .u64 0 ∧ f0 = .bool q ∧ b.stop = true ∧ RunAt wr B r v b ∧ Ran M got s a s1 b ∧ Fits got b ∧ (a.stop = false → ∃ f, s1 = sw f)) ∨ (∃ u f x q, i = .int .u64 x ∧ f0 = .bool q ∧ x ≠ 0 ∧ (0 ≤ x ∧ x < 18446744073709551616) ∧ u ≤ got.length ∧ RunAt wr B r v (runU got u) ∧ a.stop = false ∧ Ran M got s a (M.next (sw f) x) (runU got u)))) (fun i _ wr => Run.leftOf got.length r wr)
  case atStart =>
    obtain ⟨i, f0, rfl, rfl, h⟩ := HI.out
    exact h
  case round =>
    clear HI
    obtain ⟨hK, ⟨u, f, hu, rfl, rfl, hR, ha, hran⟩ | ⟨b, s1, q, rfl, rfl, hb, hR, hran, hgb, hf⟩ | ⟨u, f, x, q, rfl, rfl, hx, hxr, hu, hR, ha, hran⟩⟩ := hrel
    · have c1 := hR.blk.cell 1
      have c2 := hR.blk.cell 2
      simp only [runCells, runU, List.getElem?_cons_zero, List.getElem?_cons_succ] at c1 c2
      have HRR := hid hR
      have HRAN := hid hran
      have HA := hid ha
      have hm : Run.leftOf got.length r wr = got.length - u + 1 := by
        unfold Run.leftOf
        rw [c1, c2]
        simp
      have HM := hid hm
      clear hR hran ha hm
      by_cases hlt : u < got.length
      · have HD := hid (dox_on got u ⟨1, 0, at_, 0, 0, false⟩ hlt)
        obtain ⟨val, hval⟩ : ∃ val, val = got[u] := ⟨_, rfl⟩
        have hvr := HR.out got[u] (List.getElem_mem hlt)
        rw [← hval] at HD hvr
        have HV := hid hval
        clear hval c1
        go_wp2_with fail
        refine (runload_run B r v _ _ wr HRR.out).mono ?_
        rintro e w3 ⟨rfl, h3, hk3⟩
        rw [show (runU got u).dox ⟨1, 0, at_, 0, 0, false⟩ = (Run.at_ got (u + 1), val) from HD.out] at h3 ⊢
        have d1 := h3.blk.cell 1
        have d2 := h3.blk.cell 2
        simp only [runCells, Run.at_, List.getElem?_cons_zero, List.getElem?_cons_succ] at d1 d2
        have H3 := hid h3
        clear h3 c2 HRR
        go_wp2_with fail
        go_roundw
        case rel =>
          refine ⟨hK.trans hk3 (by intro i hi; exact .inl hi), ?_⟩
          have hgo : ∀ x, x = val → Ran M got s a (M.next (sw f) x) (runU got (u + 1)) := by
            rintro x rfl
            refine HRAN.out.trans (.goes u hlt (by rw [HW.out]; simp) ?_)
            rw [← HV.out]
            exact .same _ _
          by_cases hz : val = 0
          · left
            refine ⟨u + 1, true, hlt, by rw [hz], rfl, H3.out, HA.out, ?_⟩
            have := hgo 0 hz.symm
            rw [HN.out] at this
            exact this
          · right; right
            exact ⟨u + 1, f, val, false, rfl, rfl, hz, hvr, hlt, H3.out, HA.out, hgo val rfl⟩
        case measure =>
          rw [HM.out]
          unfold Run.leftOf
          rw [d1, d2]
          simp
          omega
      · obtain rfl : u = got.length := by omega
        have HD := hid (dox_end got ⟨1, 0, at_, 0, 0, false⟩)
        clear c1
        go_wp2_with fail
        refine (runload_run B r v _ _ wr HRR.out).mono ?_
        rintro e w3 ⟨rfl, h3, hk3⟩
        rw [show (runU got got.length).dox ⟨1, 0, at_, 0, 0, false⟩ = (stopAt got ⟨1, 0, at_, 0, 0, false⟩, 0) from HD.out] at h3 ⊢
        have d1 := h3.blk.cell 1
        have d2 := h3.blk.cell 2
        have hfz := h3.blk.frozen
        have hlt3 := h3.blk.lt
        simp only [runCells, stopAt, List.getElem?_cons_zero, List.getElem?_cons_succ] at d1 d2
        have d9 := h3.blk.cell 9
        simp only [runCells, stopAt, List.getElem?_cons_zero, List.getElem?_cons_succ] at d9
        have hb4 : RunAt (w3.setCell ⟨r, 9, none⟩ (.bool f)) B r v (stop0 got ⟨1, at_, 0, 0, f⟩) := ⟨h3.blk.set 9 (.bool f), Grow.keptB (S := [r]) h3.grow ((Kept.refl _ _).set (.inl (by simp)) _) (by intro i hi; simp at hi; subst hi; exact own_type h3.grow h3.blk (by decide)), Nat.le_refl _, h3.len⟩
        have hk4 : Kept [r] wr (w3.setCell ⟨r, 9, none⟩ (.bool f)) := hk3.set (.inl (by simp)) _
        have e1 := hb4.blk.cell 1
        have e2 := hb4.blk.cell 2
        simp only [runCells, stop0, Wnt.acc, List.getElem?_cons_zero, List.getElem?_cons_succ] at e1 e2
        have H4 := hid hb4
        clear h3 c2 HRR hb4
        cases f with
        | false =>
          go_wp2_with fail
          go_roundw
          case rel =>
            refine ⟨hK.trans hk4 (by intro i hi; exact .inl hi), .inr (.inl ⟨_, sw false, _, rfl, rfl, rfl, H4.out, HRAN.out.trans (.stops _ (HW.out _)), ⟨.inr ⟨_, rfl⟩, HR.out⟩, fun _ => ⟨_, rfl⟩⟩)⟩
          case measure =>
            rw [HM.out]
            unfold Run.leftOf
            rw [e1, e2]
            simp
        | true =>
          go_wp2_with fail
          go_roundw
          case rel =>
            refine ⟨hK.trans hk4 (by intro i hi; exact .inl hi), .inr (.inl ⟨_, sw true, _, rfl, rfl, rfl, H4.out, HRAN.out.trans (.stops _ (HW.out _)), ⟨.inr ⟨_, rfl⟩, HR.out⟩, fun _ => ⟨_, rfl⟩⟩)⟩
          case measure =>
            rw [HM.out]
            unfold Run.leftOf
            rw [e1, e2]
            simp
    · have c2 := hR.blk.cell 2
      simp only [runCells, List.getElem?_cons_zero, List.getElem?_cons_succ] at c2
      rw [hb] at c2
      have HB := hid (And.intro hb (And.intro hR (And.intro hran (And.intro hgb hf))))
      clear hb hR hran hgb hf
      go_wp2
      go_ret
      obtain ⟨hb, hR, hran, hgb, hf⟩ := HB.out
      exact ⟨b, s1, 0, rfl, hR, hK, hran, hgb, fun h => (by rw [hb] at h; cases h), ⟨by simp, by simp⟩, fun _ => ⟨rfl, hf⟩⟩
    · have hq : ((x : Int) == 0) = false := by simpa using hx
      have HB := hid (And.intro hx (And.intro hR (And.intro hran (And.intro ha hxr))))
      clear hx hR hran ha hxr
      go_wp2
      go_ret
      obtain ⟨hx, hR, hran, ha, hxr⟩ := HB.out
      exact ⟨_, _, x, rfl, hR, hK, hran, ⟨.inl ⟨u, hu, rfl⟩, HR.out⟩, fun _ => ⟨ha, hx, f, rfl⟩, hxr, fun h => by simp [runU] at h⟩
end Go.Proofs.YtlhnnggceebpjaaGreat.Sys
end

section
/- What the laws of steps know of a world, over any machine. -/
set_option maxRecDepth 100000
set_option maxHeartbeats 4000000
set_option linter.unusedVariables false
set_option linter.unusedSimpArgs false
namespace Go.Proofs.YtlhnnggceebpjaaGreat.Sys
open Go.RowKit Go.Shelf Go.Proofs.YtlhnnggceebpjaaGreat.TK Go.Proofs.YtlhnnggceebpjaaGreat.Flag Go.Proofs.YtlhnnggceebpjaaGreat.Read Go.Proofs.YtlhnnggceebpjaaGreat.Grow Go.Proofs.YtlhnnggceebpjaaGreat.Words Go.Proofs.YtlhnnggceebpjaaGreat.Mem Go.Proofs.YtlhnnggceebpjaaGreat.Run Go.Proofs.YtlhnnggceebpjaaGreat.Lock Go.Proofs.YtlhnnggceebpjaaGreat.Flow
/-- A block of none of these types. -/
def Not (Own : List TypeId) (w : World) (i : Nat) : Prop := ∀ T ∈ Own, ∀ cs, ¬ Blk w i cs T
/-- The types of the two memories, of a run, of a list of words. -/
def theirs : List TypeId := [25, 166, 64, 56]
/-- A machine's place in a world, and what it stands on. -/
structure MachOf {σ : Type} (At : World → σ → Prop) (Own : List TypeId) : Prop where
  kept : ∀ (w w' : World) (st : σ) (S : List Nat), At w st → Kept S w w' → (∀ i ∈ S, Not Own w i) → At w' st
  own : ∀ T ∈ Own, T ∉ theirs
theorem MachOf.quiet {σ : Type} {At : World → σ → Prop} {Own : List TypeId} (h : MachOf At Own) {w w' : World} {st : σ} (hA : At w st) (hb : Below w.heap.size w w') : At w' st :=
  h.kept w w' st [] hA (Kept.of_below hb []) (by simp)
/-- What a step keeps: all but the memory's blocks, and the machine's own. -/
def KeptOwn (Own : List TypeId) (lo m g : Nat) (w w' : World) : Prop := ∃ S, Kept S w w' ∧ ∀ i ∈ S, i = m ∨ i = g ∨ (lo ≤ i ∧ ∃ T ∈ Own, ∃ cs, Blk w i cs T)
theorem not_of {Own : List TypeId} {w : World} {i : Nat} {cs : List Value} {T : TypeId} (h : Blk w i cs T) (hT : T ∉ Own) : Not Own w i :=
  fun T' hT' => blk_not h (fun e => hT (by rw [e]; exact hT'))
/-- The state behind a step, and the memory's. -/
def stepOf {σ : Type} (M : Rsys σ) (who : Int) (st : σ) (s : St) : σ × St :=
  match M.want st with
  | none => (st, s)
  | some W => if W.slp && decide ((s.peek W.at_).1 = 0) then (st, s) else (M.next st (s.acc W.kind who W.at_ W.old W.new).2, (s.acc W.kind who W.at_ W.old W.new).1)
/-- What the law knows of a world, behind n pokes. -/
structure SI {σ : Type} (M : Rsys σ) (At : World → σ → Prop) (s0 : σ) (w0 w : World) (B m g rm rg : Nat) (st : σ) (s : St) (v : Value) (got : List Int) (n : Nat) : Prop where
  low : Below w0.heap.size w0 w
  both : Both w m g rm rg s
  mach : At w st
  grow : Grow w B 25 1 (encI .u64) v got
  path : Path M s0 got st
  rng : ∀ x ∈ got, 0 ≤ x ∧ x < 18446744073709551616
  len : got.length ≤ n
  size : B ≤ w.heap.size
  clock : s.clock ≤ n ∧ s.bad ≤ n
  ltB : m < B ∧ g < B ∧ rm < B ∧ rg < B
  ge : w0.heap.size ≤ m ∧ w0.heap.size ≤ g ∧ w0.heap.size ≤ rm ∧ w0.heap.size ≤ rg ∧ w0.heap.size ≤ B
section
variable {σ : Type} {M : Rsys σ} {At : World → σ → Prop} {Own : List TypeId} {s0 st st' : σ} {w0 w w' : World} {B m g rm rg : Nat} {s s' : St} {v v' : Value} {got got' : List Int} {n : Nat}
theorem SI.quiet (hM : MachOf At Own) (h : SI M At s0 w0 w B m g rm rg st s v got n) (hb : Below w.heap.size w w') : SI M At s0 w0 w' B m g rm rg st s v got n :=
  ⟨h.low.trans (hb.mono h.low.size), h.both.quiet hb, hM.quiet h.mach hb, h.grow.quiet hb, h.path, h.rng, h.len, Nat.le_trans h.size hb.size, h.clock, h.ltB, h.ge⟩
theorem SI.notOwn (hM : MachOf At Own) (h : SI M At s0 w0 w B m g rm rg st s v got n) : ∀ i ∈ [m, g, rm, rg], Not Own w i := by
  obtain ⟨_, _, a1, a2, _⟩ := h.both.rmem.ex
  obtain ⟨_, _, b1, b2, _⟩ := h.both.mem.ex
  have q : ∀ T, T ∈ theirs → T ∉ Own := fun T hT hO => hM.own T hO hT
  intro i hi
  simp at hi
  rcases hi with rfl | rfl | rfl | rfl
  · exact not_of b1 (q _ (by decide))
  · exact not_of b2 (q _ (by decide))
  · exact not_of a1 (q _ (by decide))
  · exact not_of a2 (q _ (by decide))
theorem SI.ownLow (h : SI M At s0 w0 w B m g rm rg st s v got n) {i : Nat} (hi : i < B) : i ∉ v.ownBlock.toList := by
  have := own_low h.grow hi
  simpa using this
/-- An access by both. -/
theorem SI.poke (hM : MachOf At Own) (h : SI M At s0 w0 w B m g rm rg st s v got n) (hB : Both w' m g rm rg s') (hK : Kept [m, g, rm, rg] w w') (hc : s'.clock = s.clock + 1 ∧ s'.bad ≤ s.bad + 1) : SI M At s0 w0 w' B m g rm rg st s' v got (n + 1) := by
  obtain ⟨l1, l2, l3, l4⟩ := h.ltB
  obtain ⟨g1, g2, g3, g4, g5⟩ := h.ge
  obtain ⟨c1, c2⟩ := h.clock
  refine ⟨below_kept h.low hK (by simp; omega) h.low.size, hB, hM.kept _ _ _ _ h.mach hK (h.notOwn hM), Grow.kept h.grow hK (by simp; omega), h.path, h.rng, Nat.le_succ_of_le h.len, Nat.le_trans h.size hK.size, ⟨by push_cast; omega, by push_cast; omega⟩, h.ltB, h.ge⟩
/-- The document's turn. -/
theorem SI.turn (hM : MachOf At Own) (h : SI M At s0 w0 w B m g rm rg st s v got n) (hK : Kept ([rm, rg] ++ v.ownBlock.toList) w w') : MemAt w' m g s ∧ At w' st ∧ Below w0.heap.size w0 w' := by
  obtain ⟨l1, l2, l3, l4⟩ := h.ltB
  obtain ⟨g1, g2, g3, g4, g5⟩ := h.ge
  have q := h.both.neR
  refine ⟨h.both.mem.kept hK (by simp only [List.mem_append, List.mem_cons, List.not_mem_nil, or_false]; rintro (h1 | h1); rcases h1 with h1 | h1; exact q.1 h1; exact h.both.n1 h1; exact h.ownLow l1 h1) (by simp only [List.mem_append, List.mem_cons, List.not_mem_nil, or_false]; rintro (h1 | h1); rcases h1 with h1 | h1; exact q.2 h1; exact h.both.n2 h1; exact h.ownLow l2 h1), hM.kept _ _ _ _ h.mach hK ?_, ?_⟩
  · intro i hi
    rcases List.mem_append.1 hi with hi | hi
    · exact h.notOwn hM i (by simp at hi; rcases hi with rfl | rfl <;> simp)
    · intro T hT
      exact own_after h.grow (fun e => hM.own T hT (by rw [← e]; decide)) i hi
  · refine below_kept h.low hK ?_ h.low.size
    intro i hi
    rcases List.mem_append.1 hi with hi | hi
    · simp at hi; omega
    · have := own_le h.grow i (by simpa using hi)
      omega
/-- A run's block. -/
theorem SI.side {r : Nat} {cs : List Value} (hM : MachOf At Own) (h : SI M At s0 w0 w B m g rm rg st s v got n) (hK : Kept [r] w w') (hr : B ≤ r) (hb : Blk w r cs 56) : SI M At s0 w0 w' B m g rm rg st s v got n := by
  obtain ⟨l1, l2, l3, l4⟩ := h.ltB
  obtain ⟨g1, g2, g3, g4, g5⟩ := h.ge
  have ho := own_type h.grow hb (by decide)
  exact ⟨below_kept h.low hK (by simp; omega) h.low.size, ⟨h.both.mem.kept hK (by simp; omega) (by simp; omega), h.both.rmem.kept hK (by simp; omega) (by simp; omega), h.both.n1, h.both.n2⟩, hM.kept _ _ _ _ h.mach hK (by intro i hi; simp at hi; subst hi; exact not_of hb (fun hO => hM.own _ hO (by decide))), Grow.keptB h.grow hK (by intro i hi; simp at hi; subst hi; exact ho), h.path, h.rng, h.len, Nat.le_trans h.size hK.size, h.clock, h.ltB, h.ge⟩
/-- A turn of the document's, and a step. -/
theorem SI.stepped {w1 w2 : World} (hM : MachOf At Own) (h : SI M At s0 w0 w B m g rm rg st s v got n) (hlow : Below w0.heap.size w0 w1) (hG : Grow w1 B 25 1 (encI .u64) v' got') (hR : RMemAt w1 rm rg s') (hS : w.heap.size ≤ w1.heap.size) (hA : At w2 st') (hMm : MemAt w2 m g s') (hK : KeptOwn Own w0.heap.size m g w1 w2) (hp : Path M s0 got' st') (hrng : ∀ x ∈ got', 0 ≤ x ∧ x < 18446744073709551616) (hln : got'.length ≤ n + 1) (hc : s'.clock ≤ s.clock + 1 ∧ s'.bad ≤ s.bad + 1) : SI M At s0 w0 w2 B m g rm rg st' s' v' got' (n + 1) := by
  obtain ⟨l1, l2, l3, l4⟩ := h.ltB
  obtain ⟨g1, g2, g3, g4, g5⟩ := h.ge
  obtain ⟨c1, c2⟩ := h.clock
  have q := h.both.neR
  have q1 := h.both.n1
  have q2 := h.both.n2
  obtain ⟨S, hK, hS2⟩ := hK
  obtain ⟨_, _, a1, a2, _⟩ := hR.ex
  have nr : ∀ {i : Nat} {T : TypeId} {cs : List Value}, Blk w1 i cs T → T ∈ theirs → i ≠ m → i ≠ g → i ∉ S := by
    intro i T cs hb hT hm hg hi
    rcases hS2 i hi with rfl | rfl | ⟨_, T', hT', cs', hb'⟩
    · exact hm rfl
    · exact hg rfl
    · exact Blk.ne hb hb' (fun e => hM.own T' hT' (by rw [← e]; exact hT)) rfl
  refine ⟨below_kept hlow hK ?_ hlow.size, ⟨hMm, hR.kept hK (nr a1 (by decide) (Ne.symm q.1) (Ne.symm q.2)) (nr a2 (by decide) (Ne.symm q1) (Ne.symm q2)), q1, q2⟩, hA, Grow.keptB hG hK ?_, hp, hrng, hln, Nat.le_trans h.size (Nat.le_trans hS hK.size), ⟨by push_cast; omega, by push_cast; omega⟩, h.ltB, h.ge⟩
  · intro i hi
    rcases hS2 i hi with rfl | rfl | ⟨h1, _⟩
    · exact g1
    · exact g2
    · exact h1
  · intro i hi
    rcases hS2 i hi with rfl | rfl | ⟨h1, T', hT', cs', hb'⟩
    · exact own_low hG l1
    · exact own_low hG l2
    · exact own_type hG hb' (fun e => hM.own T' hT' (by rw [← e]; decide))
end
/-- It is asleep. -/
def asleepOf {σ : Type} (M : Rsys σ) (st : σ) (s : St) : Bool := match M.want st with | none => false | some W => W.slp && decide ((s.peek W.at_).1 = 0)
theorem stepOf_go {σ : Type} {M : Rsys σ} {who : Int} {st : σ} {s : St} {kd ad o nw : Int} {slp : Bool} (h : M.want st = some ⟨kd, ad, o, nw, slp⟩) (ht : (slp && decide ((s.peek ad).1 = 0)) = false) : stepOf M who st s = (M.next st (s.acc kd who ad o nw).2, (s.acc kd who ad o nw).1) := by
  unfold stepOf
  rw [h]
  simp only
  rw [if_neg (by rw [ht]; simp)]
theorem acc_clock2 (s : St) (k who a o w : Int) : (s.acc k who a o w).1.clock ≤ s.clock + 1 ∧ (s.acc k who a o w).1.bad ≤ s.bad + 1 := by
  have := acc_clock s k who a o w
  omega
theorem rng_snoc {got : List Int} {a : Int} (h : ∀ x ∈ got, 0 ≤ x ∧ x < 18446744073709551616) (ha : 0 ≤ a ∧ a < 18446744073709551616) : ∀ x ∈ got ++ [a], 0 ≤ x ∧ x < 18446744073709551616 := by
  intro x hx
  rcases List.mem_append.1 hx with hx | hx
  · exact h x hx
  · simp at hx; subst hx; exact ha
/-- A turn, of a run that stopped. -/
theorem turn_go (B rm rg : Nat) (v : Value) (got : List Int) (W : Wnt) (s : St) (who : Int) (w : World) (h : Grow w B 25 1 (encI .u64) v got) (hR : RMemAt w rm rg s) (ht : (W.slp && decide ((s.peek W.at_).1 = 0)) = false) (hlen : got.length ≤ 100000)
    (hk : W.kind = 1 ∨ W.kind = 2 ∨ W.kind = 3 ∨ W.kind = 4) (hx : 0 ≤ W.new ∧ W.new < 18446744073709551616) (hc : s.clock < 1000000) (hb : s.bad < 1000000) (hB : B ≤ w.heap.size) (h1 : rm < B) (h2 : rg < B) :
    Calls Tryz.prog 34 #[.pointer (some ⟨rm, 0, none⟩), .agg #[v, .int .i64 (got.length : Int), .bool true, .int .i64 W.kind, .int .i64 0, .int .i64 W.at_, .int .u64 W.old, .int .u64 W.new, .bool false, .bool W.slp], .int .i64 who] w fun e w' => ∃ v', e = .returned v' ∧ Grow w' B 25 1 (encI .u64) v' (got ++ [(s.acc W.kind who W.at_ W.old W.new).2]) ∧ RMemAt w' rm rg (s.acc W.kind who W.at_ W.old W.new).1 ∧ Kept ([rm, rg] ++ v.ownBlock.toList) w w' :=
  turn_yes B 0 rm rg v (stop0 got W) s who w h hR (by unfold RunSt.turns stop0 Wnt.acc; simp only; rw [ht]; rfl) hlen hk hx hc hb hB h1 h2
theorem turn_off (B rm rg : Nat) (v : Value) (got : List Int) (s : St) (who : Int) (w : World) (h : Grow w B 25 1 (encI .u64) v got) (hR : RMemAt w rm rg s) :
    Calls Tryz.prog 34 #[.pointer (some ⟨rm, 0, none⟩), .agg #[v, .int .i64 (got.length : Int), .bool false, .int .i64 0, .int .i64 0, .int .i64 0, .int .u64 0, .int .u64 0, .bool false, .bool false], .int .i64 who] w fun e w' => e = .returned v ∧ Below w.heap.size w w' :=
  turn_no B 0 rm rg v (runU got got.length) s who w h hR rfl
theorem turn_sleep (B rm rg : Nat) (v : Value) (got : List Int) (W : Wnt) (s : St) (who : Int) (w : World) (h : Grow w B 25 1 (encI .u64) v got) (hR : RMemAt w rm rg s) (ht : (W.slp && decide ((s.peek W.at_).1 = 0)) = true) :
    Calls Tryz.prog 34 #[.pointer (some ⟨rm, 0, none⟩), .agg #[v, .int .i64 (got.length : Int), .bool true, .int .i64 W.kind, .int .i64 0, .int .i64 W.at_, .int .u64 W.old, .int .u64 W.new, .bool false, .bool W.slp], .int .i64 who] w fun e w' => e = .returned v ∧ Below w.heap.size w w' :=
  turn_no B 0 rm rg v (stop0 got W) s who w h hR (by unfold RunSt.turns stop0 Wnt.acc; simp only; rw [ht]; rfl)
end Go.Proofs.YtlhnnggceebpjaaGreat.Sys
end

section
/- Machines in general: what is pending, a step; a machine by its states. -/
set_option maxRecDepth 100000
set_option maxHeartbeats 4000000
set_option linter.unusedVariables false
set_option linter.unusedSimpArgs false
namespace Go.Proofs.YtlhnnggceebpjaaGreat.Mach
open Go.RowKit Go.Shelf Go.Proofs.YtlhnnggceebpjaaGreat.TK Go.Proofs.YtlhnnggceebpjaaGreat.Flag Go.Proofs.YtlhnnggceebpjaaGreat.Words Go.Proofs.YtlhnnggceebpjaaGreat.Mem Go.Proofs.YtlhnnggceebpjaaGreat.Flow Go.Proofs.YtlhnnggceebpjaaGreat.Layout Go.Proofs.YtlhnnggceebpjaaGreat.Lock Go.Proofs.YtlhnnggceebpjaaGreat.Run Go.Proofs.YtlhnnggceebpjaaGreat.Sys
/-- What is to come: an access, and the method that follows it. -/
inductive Nx
  | load (at_ : Int) (fn : Nat)
  | add (at_ v : Int) (fn : Nat)
  | store (at_ v : Int) (fn : Nat)
  | swap (at_ o v : Int) (fn : Nat)
  | done
def Nx.want : Nx → Option Wnt
  | .load a _ => some ⟨1, a, 0, 0, false⟩
  | .add a v _ => some ⟨4, a, 0, v, false⟩
  | .store a v _ => some ⟨2, a, 0, v, false⟩
  | .swap a o v _ => some ⟨3, a, o, v, false⟩
  | .done => none
def Nx.fn : Nx → Nat
  | .load _ f => f
  | .add _ _ f => f
  | .store _ _ f => f
  | .swap _ _ _ f => f
  | .done => 0
def Nx.val : Nx → Int
  | .load _ _ => 0
  | .add _ v _ => v
  | .store _ v _ => v
  | .swap _ _ v _ => v
  | .done => 0
def Nx.over : Nx → Bool
  | .done => true
  | _ => false
/-- What the method is called with. -/
def Nx.args (n : Nx) (x : Nat) (a : Int) : Array Value :=
  match n with
  | .load _ _ => #[.pointer (some ⟨x, 0, none⟩), .int .u64 a]
  | .add _ _ _ => #[.pointer (some ⟨x, 0, none⟩), .int .u64 a]
  | .store _ _ _ => #[.pointer (some ⟨x, 0, none⟩)]
  | .swap _ _ _ _ => #[.pointer (some ⟨x, 0, none⟩), .bool (a == 1)]
  | .done => #[]
/-- A flow of this machine's, with nothing said of what comes. -/
def Idle (w : World) (x : Nat) (who : Int) (rest : List Value) (T : TypeId) : Prop := ∃ f, FlAt w x f rest T ∧ f.who = who ∧ f.sub = .nilIface ∧ f.asleep = false
def Pend (w : World) (x : Nat) (who : Int) (rest : List Value) (T : TypeId) : Nx → Prop
  | .load a m => FlAt w x ⟨who, 1, a, 0, 0, meth m x, false, .nilIface, .nilFunc⟩ rest T ∨ ∃ af, FlAt w x ⟨who, 1, a, 0, 0, meth m x, false, .nilIface, af⟩ rest T
  | .add a v m => ∃ af, FlAt w x ⟨who, 4, a, 0, v, meth m x, false, .nilIface, af⟩ rest T
  | .store a v m => ∃ af b, FlAt w x ⟨who, 2, a, 0, v, .func (.func 239) #[] #[.pointer (some ⟨b, 0, none⟩)], false, .nilIface, af⟩ rest T ∧ Blk w b [meth m x] 1
  | .swap a o v m => ∃ af b, FlAt w x ⟨who, 3, a, o, v, .func (.func 226) #[] #[.pointer (some ⟨b, 0, none⟩)], false, .nilIface, af⟩ rest T ∧ Blk w b [meth m x] 204
  | .done => ∃ f, FlAt w x f rest T ∧ f.who = who ∧ f.sub = .nilIface ∧ f.asleep = false ∧ f.kind = 0
theorem Pend.idle {w : World} {x : Nat} {who : Int} {rest : List Value} {T : TypeId} {n : Nx} (h : Pend w x who rest T n) : Idle w x who rest T := by
  cases n with
  | load a m => rcases h with h | ⟨af, h⟩ <;> exact ⟨_, h, rfl, rfl, rfl⟩
  | add a v m => obtain ⟨af, h⟩ := h; exact ⟨_, h, rfl, rfl, rfl⟩
  | store a v m => obtain ⟨af, b, h, _⟩ := h; exact ⟨_, h, rfl, rfl, rfl⟩
  | swap a o v m => obtain ⟨af, b, h, _⟩ := h; exact ⟨_, h, rfl, rfl, rfl⟩
  | done => obtain ⟨f, h, h1, h2, h3, _⟩ := h; exact ⟨f, h, h1, h2, h3⟩
theorem Pend.blk {w : World} {x : Nat} {who : Int} {rest : List Value} {T : TypeId} {n : Nx} (h : Pend w x who rest T n) : ∃ cs, Blk w x cs T := by
  obtain ⟨f, h, _⟩ := h.idle
  exact ⟨_, h⟩
theorem Idle.set {w : World} {x : Nat} {who : Int} {rest : List Value} {T : TypeId} (h : Idle w x who rest T) (i : Nat) (v : Value) : Idle (w.setCell ⟨x, i + 9, none⟩ v) x who (rest.set i v) T := by
  obtain ⟨f, h, h1, h2, h3⟩ := h
  refine ⟨f, ?_, h1, h2, h3⟩
  have := Blk.set h (i + 9) v
  unfold FlAt
  rw [List.set_append_right _ _ (by simp [fl])] at this
  simpa [fl] using this
/-- The same of one that is done. -/
theorem Pend.setD {w : World} {x : Nat} {who : Int} {rest : List Value} {T : TypeId} (h : Pend w x who rest T .done) (i : Nat) (v : Value) : Pend (w.setCell ⟨x, i + 9, none⟩ v) x who (rest.set i v) T .done := by
  obtain ⟨f, h, h1, h2, h3, h4⟩ := h
  refine ⟨f, ?_, h1, h2, h3, h4⟩
  have := Blk.set h (i + 9) v
  unfold FlAt
  rw [List.set_append_right _ _ (by simp [fl])] at this
  simpa [fl] using this
theorem Idle.kept {w w' : World} {x : Nat} {who : Int} {rest : List Value} {T : TypeId} {S : List Nat} (h : Idle w x who rest T) (hk : Kept S w w') (hx : x ∉ S) : Idle w' x who rest T := by
  obtain ⟨f, h, h1⟩ := h
  exact ⟨f, FlAt.kept h hk hx, h1⟩
theorem Idle.quiet {w w' : World} {x : Nat} {who : Int} {rest : List Value} {T : TypeId} (h : Idle w x who rest T) (hb : Below w.heap.size w w') : Idle w' x who rest T := h.kept (Kept.of_below hb []) (by simp)
theorem Idle.rest {w : World} {x : Nat} {who : Int} {rest : List Value} {T : TypeId} (h : Idle w x who rest T) (i : Nat) : w.cell? ⟨x, i + 9, none⟩ = rest[i]? := by
  obtain ⟨f, h, _⟩ := h
  have := Blk.cell h (i + 9)
  rw [List.getElem?_append_right (by simp [fl])] at this
  simpa [fl] using this
theorem Idle.frozen {w : World} {x : Nat} {who : Int} {rest : List Value} {T : TypeId} (h : Idle w x who rest T) (i : Nat) : w.frozen? ⟨x, i, none⟩ = false := by
  obtain ⟨f, h, _⟩ := h
  exact Blk.frozen h i
theorem Idle.lt {w : World} {x : Nat} {who : Int} {rest : List Value} {T : TypeId} (h : Idle w x who rest T) : x < w.heap.size := by
  obtain ⟨f, h, _⟩ := h
  exact Blk.lt h
/-- The types of a machine's blocks: its own, what follows a store, or a swap, a layout. -/
def ownT (T : TypeId) : List TypeId := [T, 1, 204, 214]
theorem Pend.kept {w w' : World} {x : Nat} {who : Int} {rest : List Value} {T : TypeId} {n : Nx} {S : List Nat} (h : Pend w x who rest T n) (hk : Kept S w w') (hS : ∀ i ∈ S, Not (ownT T) w i) : Pend w' x who rest T n := by
  have hx : x ∉ S := by
    intro hi
    obtain ⟨cs, hb⟩ := h.blk
    exact hS x hi T (by simp [ownT]) cs hb
  cases n with
  | load a m => rcases h with h | ⟨af, h⟩; exact .inl (h.kept hk hx); exact .inr ⟨af, h.kept hk hx⟩
  | add a v m => obtain ⟨af, h⟩ := h; exact ⟨af, h.kept hk hx⟩
  | store a v m => obtain ⟨af, b, h, h2⟩ := h; exact ⟨af, b, h.kept hk hx, h2.kept hk (fun hi => hS b hi _ (by simp [ownT]) _ h2)⟩
  | swap a o v m => obtain ⟨af, b, h, h2⟩ := h; exact ⟨af, b, h.kept hk hx, h2.kept hk (fun hi => hS b hi _ (by simp [ownT]) _ h2)⟩
  | done => obtain ⟨f, h, h1⟩ := h; exact ⟨f, h.kept hk hx, h1⟩
theorem Pend.quiet {w w' : World} {x : Nat} {who : Int} {rest : List Value} {T : TypeId} {n : Nx} (h : Pend w x who rest T n) (hb : Below w.heap.size w w') : Pend w' x who rest T n := h.kept (Kept.of_below hb []) (by simp)
section
variable {x : Nat} {who : Int} {rest : List Value} {T : TypeId} {w : World}
theorem iload_run (h : Idle w x who rest T) (at_ : Int) (m : Nat) :
    Calls Tryz.prog 183 #[.pointer (some ⟨x, 0, none⟩), .int .i64 at_, meth m x] w fun e w' => e = .returned (.tuple #[]) ∧ Pend w' x who rest T (.load at_ m) ∧ Kept [x] w w' := by
  obtain ⟨⟨who', kd, at0, o, nw, th, asl, sub, af⟩, h, h1, h2, h3⟩ := h
  simp only at h1 h2 h3
  subst h1 h2 h3
  refine (fload_run x _ rest T at_ _ _ _ w h).mono ?_
  rintro e w1 ⟨rfl, h, hK⟩
  exact ⟨rfl, .inr ⟨af, h⟩, hK⟩
theorem iadd_run (h : Idle w x who rest T) (at_ v : Int) (m : Nat) :
    Calls Tryz.prog 132 #[.pointer (some ⟨x, 0, none⟩), .int .i64 at_, .int .u64 v, meth m x] w fun e w' => e = .returned (.tuple #[]) ∧ Pend w' x who rest T (.add at_ v m) ∧ Kept [x] w w' := by
  obtain ⟨⟨who', kd, at0, o, nw, th, asl, sub, af⟩, h, h1, h2, h3⟩ := h
  simp only at h1 h2 h3
  subst h1 h2 h3
  refine (fadd_run x _ rest T at_ v _ _ _ w h).mono ?_
  rintro e w1 ⟨rfl, h, hK⟩
  exact ⟨rfl, ⟨af, h⟩, hK⟩
theorem istore_run (h : Idle w x who rest T) (at_ v : Int) (m : Nat) :
    Calls Tryz.prog 188 #[.pointer (some ⟨x, 0, none⟩), .int .i64 at_, .int .u64 v, meth m x] w fun e w' => e = .returned (.tuple #[]) ∧ Pend w' x who rest T (.store at_ v m) ∧ Kept [x] w w' := by
  obtain ⟨⟨who', kd, at0, o, nw, th, asl, sub, af⟩, h, h1, h2, h3⟩ := h
  simp only at h1 h2 h3
  subst h1 h2 h3
  refine (fstore_run x _ rest T at_ v _ _ _ w h).mono ?_
  rintro e w1 ⟨rfl, b, h, hb, _, hK⟩
  exact ⟨rfl, ⟨af, b, h, hb⟩, hK⟩
theorem iswap_run (h : Idle w x who rest T) (at_ o v : Int) (m : Nat) :
    Calls Tryz.prog 166 #[.pointer (some ⟨x, 0, none⟩), .int .i64 at_, .int .u64 o, .int .u64 v, meth m x] w fun e w' => e = .returned (.tuple #[]) ∧ Pend w' x who rest T (.swap at_ o v m) ∧ Kept [x] w w' := by
  obtain ⟨⟨who', kd, at0, o0, nw, th, asl, sub, af⟩, h, h1, h2, h3⟩ := h
  simp only at h1 h2 h3
  subst h1 h2 h3
  refine (fswap_run x _ rest T at_ o v _ _ _ w h).mono ?_
  rintro e w1 ⟨rfl, b, h, hb, _, hK⟩
  exact ⟨rfl, ⟨af, b, h, hb⟩, hK⟩
theorem iof_run (h : FlAt w x fl0 rest T) (who : Int) :
    Calls Tryz.prog 123 #[.pointer (some ⟨x, 0, none⟩), .int .i64 who] w fun e w' => e = .returned (.tuple #[]) ∧ Pend w' x who rest T .done ∧ Kept [x] w w' := by
  refine (fof_run x fl0 rest T who w h).mono ?_
  rintro e w1 ⟨rfl, h, hK⟩
  exact ⟨rfl, ⟨_, h, rfl, rfl, rfl, rfl⟩, hK⟩
theorem pend_done {n : Nx} (h : Pend w x who rest T n) : Calls Tryz.prog 130 #[.pointer (some ⟨x, 0, none⟩)] w fun e w' => e = .returned (.bool n.over) ∧ w = w' := by
  have key : ∀ f, FlAt w x f rest T → f.sub = .nilIface → f.over = n.over → Calls Tryz.prog 130 #[.pointer (some ⟨x, 0, none⟩)] w fun e w' => e = .returned (.bool n.over) ∧ w = w' := by
    intro f hf hs ho
    have := fdone_any x f rest T w hf (.inl hs)
    rw [ho] at this
    exact this
  cases n with
  | load a m => rcases h with h | ⟨af, h⟩ <;> exact key _ h rfl rfl
  | add a v m => obtain ⟨af, h⟩ := h; exact key _ h rfl rfl
  | store a v m => obtain ⟨af, b, h, _⟩ := h; exact key _ h rfl rfl
  | swap a o v m => obtain ⟨af, b, h, _⟩ := h; exact key _ h rfl rfl
  | done => obtain ⟨f, h, _, h2, _, h4⟩ := h; exact key _ h h2 (by unfold Fl.over; rw [h2, h4]; rfl)
theorem pend_over {n : Nx} (h : Pend w x who rest T n) : ∃ f', FlAt w x f' rest T ∧ f'.fine ∧ f'.over = n.over := by
  cases n with
  | load a m => rcases h with h | ⟨af, h⟩ <;> exact ⟨_, h, .inl rfl, rfl⟩
  | add a v m => obtain ⟨af, h⟩ := h; exact ⟨_, h, .inl rfl, rfl⟩
  | store a v m => obtain ⟨af, b, h, _⟩ := h; exact ⟨_, h, .inl rfl, rfl⟩
  | swap a o v m => obtain ⟨af, b, h, _⟩ := h; exact ⟨_, h, .inl rfl, rfl⟩
  | done => obtain ⟨f, h, _, h2, _, h4⟩ := h; exact ⟨_, h, .inl h2, by unfold Fl.over; rw [h2, h4]; rfl⟩
end
/-- A machine by its states: what comes, what its other cells hold, what follows an answer. -/
structure Mch (σ : Type) where
  T : TypeId
  nx : σ → Nx
  rest : σ → List Value
  next : σ → Int → σ
  ok : σ → Prop
def Mch.sys {σ : Type} (K : Mch σ) : Rsys σ := ⟨fun st => (K.nx st).want, K.next⟩
/-- The machine in a world, its block from lo on, and its layout. -/
def Mch.at_ {σ : Type} (K : Mch σ) (lo l x : Nat) (p t g who : Int) (w : World) (st : σ) : Prop := Pend w x who (K.rest st) K.T (K.nx st) ∧ lo ≤ x ∧ Lay w l p t g ∧ K.ok st
/-- Its methods do what its states say. -/
structure Goes {σ : Type} (K : Mch σ) (l x : Nat) (p t g who : Int) : Prop where
  own : ∀ T ∈ ownT K.T, T ∉ theirs
  neq : K.T ≠ 1 ∧ K.T ≠ 204 ∧ K.T ≠ 214
  val : ∀ st, K.ok st → 0 ≤ (K.nx st).val ∧ (K.nx st).val < 18446744073709551616
  ok : ∀ st a, K.ok st → 0 ≤ a ∧ a < 18446744073709551616 → K.ok (K.next st a)
  enters : ∀ st, (K.nx st) ≠ .done → ∀ vs w, (callFunc (K.nx st).fn vs).run Tryz.prog w = .ok (.enter (K.nx st).fn vs) w
  goes : ∀ st a w, K.nx st ≠ .done → K.ok st → 0 ≤ a ∧ a < 18446744073709551616 → Pend w x who (K.rest st) K.T .done → Lay w l p t g → Calls Tryz.prog (K.nx st).fn ((K.nx st).args x a) w fun e w' => (∃ r, e = .returned r) ∧ Pend w' x who (K.rest (K.next st a)) K.T (K.nx (K.next st a)) ∧ Kept [x] w w'
theorem mach_of {σ : Type} {K : Mch σ} {lo l x : Nat} {p t g who : Int} (h : ∀ T ∈ ownT K.T, T ∉ theirs) : MachOf (K.at_ lo l x p t g who) (ownT K.T) := by
  refine ⟨?_, h⟩
  rintro w w' st S ⟨h1, h2, h3, h4⟩ hK hS
  refine ⟨h1.kept hK hS, h2, h3.kept hK ?_, h4⟩
  intro hi
  exact hS l hi 214 (by simp [ownT]) _ h3.1
section
variable {σ : Type} {K : Mch σ} {lo l x m mg : Nat} {p t g who : Int} {st : σ} {s : St} {w : World}
theorem fl_cleared (who k a o nw : Int) (th af : Value) (rest : List Value) (T : TypeId) (w : World) (h : FlAt w x (Fl.cleared ⟨who, k, a, o, nw, th, false, .nilIface, af⟩) rest T) : Pend w x who rest T .done := ⟨_, h, rfl, rfl, rfl, rfl⟩
/-- A step of the flow. -/
theorem mch_fstep (G : Goes K l x p t g who) (hA : K.at_ lo l x p t g who w st) (hM : MemAt w m mg s) (hc : s.clock < 1000000) (hbd : s.bad < 1000000) :
    Calls Tryz.prog 127 #[.pointer (some ⟨x, 0, none⟩), .pointer (some ⟨m, 0, none⟩)] w fun e w' => e = .returned (.bool (K.nx (stepOf K.sys who st s).1).over) ∧ K.at_ lo l x p t g who w' (stepOf K.sys who st s).1 ∧ MemAt w' m mg (stepOf K.sys who st s).2 ∧ Kept [x, m, mg] w w' := by
  obtain ⟨h1, h2, h3, h4⟩ := hA
  obtain ⟨cs, hb⟩ := h1.blk
  have n1 : K.T ≠ 166 := fun e => G.own K.T (by simp [ownT]) (by rw [e]; decide)
  have n2 : K.T ≠ 25 := fun e => G.own K.T (by simp [ownT]) (by rw [e]; decide)
  have hxm : x ≠ m := hM.neT hb n1
  have hxg : x ≠ mg := hM.neG hb n2
  have hlx : l ≠ x := Blk.ne h3.1 hb (fun e => G.neq.2.2 e.symm)
  have hlm := hM.neT h3.1 (by decide)
  have hlg := hM.neG h3.1 (by decide)
  have hgo := G.goes st
  have hen := G.enters st
  have hv := G.val st h4
  -- what follows the access, and what is then
  have fin : ∀ (kd ad o nw : Int), (K.sys).want st = some ⟨kd, ad, o, nw, false⟩ → (0 ≤ nw ∧ nw < 18446744073709551616) → K.nx st ≠ .done → ∀ w1, Pend w1 x who (K.rest st) K.T .done → MemAt w1 m mg (s.acc kd who ad o nw).1 → Kept [x, m, mg] w w1 →
      Calls Tryz.prog (K.nx st).fn ((K.nx st).args x (s.acc kd who ad o nw).2) w1 fun e w' => (∃ r, e = .returned r) ∧ (K.at_ lo l x p t g who w' (stepOf K.sys who st s).1 ∧ MemAt w' m mg (stepOf K.sys who st s).2 ∧ Kept [x, m, mg] w w') := by
    intro kd ad o nw hwt hnw hnd w1 hp1 hM1 hK1
    have hr := (acc_wf hM.wf kd who ad o hnw).2
    rw [stepOf_go hwt rfl]
    refine (hgo _ w1 hnd h4 hr hp1 (h3.kept hK1 (by simp [hlx, hlm, hlg]))).mono ?_
    rintro e w2 ⟨he, hp2, hK2⟩
    refine ⟨he, ⟨hp2, h2, (h3.kept hK1 (by simp [hlx, hlm, hlg])).kept hK2 (by simp [hlx]), G.ok st _ h4 hr⟩, hM1.kept hK2 (by simp; omega) (by simp; omega), hK1.trans hK2 (by intro i hi; simp at hi; subst hi; exact .inl (by simp))⟩
  have ovr : ∀ w', (K.at_ lo l x p t g who w' (stepOf K.sys who st s).1 ∧ MemAt w' m mg (stepOf K.sys who st s).2 ∧ Kept [x, m, mg] w w') → ∃ f' rest', FlAt w' x f' rest' K.T ∧ f'.fine ∧ f'.over = (K.nx (stepOf K.sys who st s).1).over := by
    rintro w' ⟨⟨hp, _⟩, _⟩
    obtain ⟨f', a, b, c⟩ := pend_over hp
    exact ⟨f', _, a, b, c⟩
  cases hnx : K.nx st with
  | load a fn =>
    have hwt : K.sys.want st = some ⟨1, a, 0, 0, false⟩ := by show (K.nx st).want = _; rw [hnx]; rfl
    rw [hnx] at h1 hgo hen fin
    rcases h1 with h1 | ⟨af, h1⟩
    · refine fstep_then _ x m mg _ _ _ s w _ h1 rfl hM hxm hxg ⟨by simp, by simp⟩ hc hbd (by simp) rfl (.inl (by simp)) _ _ _ rfl (hen (by simp)) ?_ ovr
      intro w1 q1 q2 q3
      exact fin 1 a 0 0 hwt ⟨by omega, by omega⟩ (by simp) w1 (fl_cleared _ _ _ _ _ _ _ _ _ _ q1) q2 q3
    · refine fstep_then _ x m mg _ _ _ s w _ h1 rfl hM hxm hxg ⟨by simp, by simp⟩ hc hbd (by simp) rfl (.inl (by simp)) _ _ _ rfl (hen (by simp)) ?_ ovr
      intro w1 q1 q2 q3
      exact fin 1 a 0 0 hwt ⟨by omega, by omega⟩ (by simp) w1 (fl_cleared _ _ _ _ _ _ _ _ _ _ q1) q2 q3
  | add a v fn =>
    have hwt : K.sys.want st = some ⟨4, a, 0, v, false⟩ := by show (K.nx st).want = _; rw [hnx]; rfl
    rw [hnx] at h1 hgo hen fin hv
    obtain ⟨af, h1⟩ := h1
    refine fstep_then _ x m mg _ _ _ s w _ h1 rfl hM hxm hxg hv hc hbd (by simp) rfl (.inl (by simp)) _ _ _ rfl (hen (by simp)) ?_ ovr
    intro w1 q1 q2 q3
    exact fin 4 a 0 v hwt hv (by simp) w1 (fl_cleared _ _ _ _ _ _ _ _ _ _ q1) q2 q3
  | store a v fn =>
    have hwt : K.sys.want st = some ⟨2, a, 0, v, false⟩ := by show (K.nx st).want = _; rw [hnx]; rfl
    rw [hnx] at h1 hgo hen fin hv
    obtain ⟨af, b, h1, hB⟩ := h1
    refine fstep_then _ x m mg _ _ _ s w _ h1 rfl hM hxm hxg hv hc hbd (by simp) rfl (.inl (by simp)) _ _ _ rfl (enters_of Tryz.func239 (by kernel_rfl) rfl) ?_ ovr
    intro w1 q1 q2 q3
    have hbx : b ∉ [x, m, mg] := by
      have n1 := Blk.ne hB hb (fun e => G.neq.1 e.symm)
      have n2 := hM.neT hB (by decide)
      have n3 := hM.neG hB (by decide)
      simp [n1, n2, n3]
    exact fstore1_run _ b _ _ _ w1 _ (hB.kept q3 hbx) (hen (by simp)) (fin 2 a 0 v hwt hv (by simp) w1 (fl_cleared _ _ _ _ _ _ _ _ _ _ q1) q2 q3)
  | swap a o v fn =>
    have hwt : K.sys.want st = some ⟨3, a, o, v, false⟩ := by show (K.nx st).want = _; rw [hnx]; rfl
    rw [hnx] at h1 hgo hen fin hv
    obtain ⟨af, b, h1, hB⟩ := h1
    refine fstep_then _ x m mg _ _ _ s w _ h1 rfl hM hxm hxg hv hc hbd (by simp) rfl (.inl (by simp)) _ _ _ rfl (enters_of Tryz.func226 (by kernel_rfl) rfl) ?_ ovr
    intro w1 q1 q2 q3
    have hbx : b ∉ [x, m, mg] := by
      have n1 := Blk.ne hB hb (fun e => G.neq.2.1 e.symm)
      have n2 := hM.neT hB (by decide)
      have n3 := hM.neG hB (by decide)
      simp [n1, n2, n3]
    exact fswap1_run _ b _ _ _ w1 _ (hB.kept q3 hbx) (hen (by simp)) (fin 3 a o v hwt hv (by simp) w1 (fl_cleared _ _ _ _ _ _ _ _ _ _ q1) q2 q3)
  | done =>
    have hwt : K.sys.want st = none := by show (K.nx st).want = _; rw [hnx]; rfl
    have hst : stepOf K.sys who st s = (st, s) := by unfold stepOf; rw [hwt]
    rw [hst]
    rw [hnx] at h1
    obtain ⟨f, hf, q1, q2, q3, q4⟩ := h1
    refine (fstep_done x f _ _ _ w hf q2 q4).mono ?_
    rintro e w' ⟨rfl, rfl⟩
    refine ⟨?_, ⟨?_, h2, h3, h4⟩, hM, Kept.refl _ _⟩
    · simp only [hnx]; rfl
    · rw [hnx]; exact ⟨f, hf, q1, q2, q3, q4⟩
theorem mch_kept (h2 : lo ≤ x) {cs : List Value} (hb : Blk w x cs K.T) {w' : World} (hK : Kept [x, m, mg] w w') : KeptOwn (ownT K.T) lo m mg w w' := by
  refine ⟨_, hK, ?_⟩
  intro i hi
  simp at hi
  rcases hi with rfl | rfl | rfl
  · exact .inr (.inr ⟨h2, _, by simp [ownT], _, hb⟩)
  · exact .inl rfl
  · exact .inr (.inl rfl)
end
theorem mch_over {σ : Type} (K : Mch σ) (st : σ) : (K.nx st).over = (K.sys.want st).isNone := by
  show _ = (K.nx st).want.isNone
  cases K.nx st <;> rfl
theorem mch_wnt {σ : Type} {K : Mch σ} {l x : Nat} {p t g who : Int} (G : Goes K l x p t g who) {st : σ} {W : Wnt} (h : K.sys.want st = some W) (hok : K.ok st) : W.slp = false ∧ (W.kind = 1 ∨ W.kind = 2 ∨ W.kind = 3 ∨ W.kind = 4) ∧ (0 ≤ W.new ∧ W.new < 18446744073709551616) := by
  have hv := G.val st hok
  have h : (K.nx st).want = some W := h
  cases hn : K.nx st <;> rw [hn] at h hv <;> first | (obtain rfl := Option.some.inj h; refine ⟨rfl, by simp, ?_⟩; first | exact hv | simp) | cases h
/-- What is known in the midst of a method's region. -/
structure MI (w0 w : World) (x : Nat) (who : Int) (rest : List Value) (T : TypeId) (l : Nat) (p t g : Int) : Prop where
  pend : Pend w x who rest T .done
  lay : Lay w l p t g
  kept : Kept [x] w0 w
theorem MI.start {w : World} {x : Nat} {who : Int} {rest : List Value} {T : TypeId} {l : Nat} {p t g : Int} (h : Pend w x who rest T .done) (hL : Lay w l p t g) : MI w w x who rest T l p t g := ⟨h, hL, Kept.refl _ _⟩
theorem MI.put {w0 w : World} {x : Nat} {who : Int} {rest : List Value} {T : TypeId} {l : Nat} {p t g : Int} (h : MI w0 w x who rest T l p t g) (hT : T ≠ 214) (i : Nat) (v : Value) : MI w0 (w.setCell ⟨x, i + 9, none⟩ v) x who (rest.set i v) T l p t g := by
  obtain ⟨cs, hb⟩ := h.pend.blk
  exact ⟨h.pend.setD i v, h.lay.kept (S := [x]) ((Kept.refl _ _).set (.inl (by simp)) _) (by have := Blk.ne h.lay.1 hb (Ne.symm hT); simpa using this), h.kept.set (.inl (by simp)) _⟩
theorem MI.drew {w0 w : World} {x : Nat} {who : Int} {rest : List Value} {T : TypeId} {l : Nat} {p t g : Int} (h : MI w0 w x who rest T l p t g) : MI w0 w.drew x who rest T l p t g := ⟨h.pend.quiet (below_drewN (Below.refl _ w) 1), h.lay.quiet (below_drewN (Below.refl _ w) 1), h.kept.drew⟩
theorem MI.quiet {w0 w w' : World} {x : Nat} {who : Int} {rest : List Value} {T : TypeId} {l : Nat} {p t g : Int} (h : MI w0 w x who rest T l p t g) (hb : Below w.heap.size w w') : MI w0 w' x who rest T l p t g := ⟨h.pend.quiet hb, h.lay.quiet hb, h.kept.quiet hb⟩
end Go.Proofs.YtlhnnggceebpjaaGreat.Mach
end

section
/- The document's places, as the program's. -/
set_option maxRecDepth 100000
set_option maxHeartbeats 4000000
set_option linter.unusedVariables false
set_option linter.unusedSimpArgs false
namespace Go.Proofs.YtlhnnggceebpjaaGreat.Ref05
open Go.RowKit Go.Shelf Go.Proofs.YtlhnnggceebpjaaGreat.TK Go.Proofs.YtlhnnggceebpjaaGreat.Flag Go.Proofs.YtlhnnggceebpjaaGreat.Words Go.Proofs.YtlhnnggceebpjaaGreat.Mem Go.Proofs.YtlhnnggceebpjaaGreat.Layout Go.Proofs.YtlhnnggceebpjaaGreat.Run
def pr (P p f : Int) : Int := placeN true 20 p P 264 f 8
def rg (P p i : Int) : Int := placeN true 28 p P 264 (i % 256) 256
def th (P T t f : Int) : Int := placeN true (20 + P * 264) t T 3 f 3
def gg (P T G n f : Int) : Int := placeN true (20 + P * 264 + T * 3) n G 2 f 2
theorem rproc5_run (p f : Int) (w : World) (hp : 0 ≤ p ∧ p ≤ 1000) (hf : 0 ≤ f ∧ f < 8) :
    Calls Tryz.prog 65 #[.int .i64 p, .int .i64 f] w fun e w' => e = .returned (.int .i64 (20 + p * 264 + f)) ∧ w = w' := by
  go_enter Tryz.func65, Tryz.ntmps65
  go_wp2
  go_ret
  exact ⟨ret_int (by omega), rfl⟩
theorem procat_run (P T G p f : Int) (w : World) (hP : 0 ≤ P ∧ P ≤ 1000) (hf : 0 ≤ f ∧ f < 8) :
    Calls Tryz.prog 147 #[.agg #[.int .i64 P, .int .i64 T, .int .i64 G], .int .i64 p, .int .i64 f] w fun e w' => e = .returned (.int .i64 (pr P p f)) ∧ Below w.heap.size w w' := by
  by_cases h1 : p < 0
  · have d1 : decide (p < 0) = true := decide_eq_true h1
    have e := hid (show pr P p f = -1 by unfold pr placeN; rw [if_neg (by omega)])
    rw [e.out]
    go_enter Tryz.func147, Tryz.ntmps147
    go_wp2
    go_ret
    exact ⟨rfl, below_one _ _⟩
  have d1 : decide (p < 0) = false := decide_eq_false h1
  by_cases h2 : P ≤ p
  · have d2 : decide (P ≤ p) = true := decide_eq_true h2
    have e := hid (show pr P p f = -1 by unfold pr placeN; rw [if_neg (by omega)])
    rw [e.out]
    go_enter Tryz.func147, Tryz.ntmps147
    go_wp2
    go_ret
    exact ⟨rfl, below_one _ _⟩
  have d2 : decide (P ≤ p) = false := decide_eq_false h2
  have e := hid (show pr P p f = 20 + p * 264 + f by unfold pr placeN; rw [if_pos (by simp; omega)])
  rw [e.out]
  go_enter Tryz.func147, Tryz.ntmps147
  go_wp2_with fail
  refine (rproc5_run p f _ (by omega) hf).mono ?_
  rintro e w1 ⟨rfl, rfl⟩
  go_wp2
  go_ret
  exact ⟨rfl, below_one _ _⟩
theorem threadat_run (P T G t f : Int) (w : World) (hP : 0 ≤ P ∧ P ≤ 1000) (hT : T ≤ 1000) (hf : 0 ≤ f ∧ f < 3) :
    Calls Tryz.prog 161 #[.agg #[.int .i64 P, .int .i64 T, .int .i64 G], .int .i64 t, .int .i64 f] w fun e w' => e = .returned (.int .i64 (th P T t f)) ∧ Below w.heap.size w w' := by
  by_cases h1 : t < 0
  · have d1 : decide (t < 0) = true := decide_eq_true h1
    have e := hid (show th P T t f = -1 by unfold th placeN; rw [if_neg (by omega)])
    rw [e.out]
    go_enter Tryz.func161, Tryz.ntmps161
    go_wp2
    go_ret
    exact ⟨rfl, below_one _ _⟩
  have d1 : decide (t < 0) = false := decide_eq_false h1
  by_cases h2 : T ≤ t
  · have d2 : decide (T ≤ t) = true := decide_eq_true h2
    have e := hid (show th P T t f = -1 by unfold th placeN; rw [if_neg (by omega)])
    rw [e.out]
    go_enter Tryz.func161, Tryz.ntmps161
    go_wp2
    go_ret
    exact ⟨rfl, below_one _ _⟩
  have d2 : decide (T ≤ t) = false := decide_eq_false h2
  have e := hid (show th P T t f = 20 + 264 * P + 3 * t + f by unfold th placeN; rw [if_pos (by simp; omega)]; omega)
  rw [e.out]
  go_enter Tryz.func161, Tryz.ntmps161
  go_wp2_with fail
  refine (rthread_run P T G t f _ hP (by omega) (by omega)).mono ?_
  rintro e w1 ⟨rfl, hb⟩
  go_wp2
  go_ret
  exact ⟨rfl, Below.then_ (below_one _ _) hb⟩
theorem rring5_run (p i : Int) (w : World) (hp : 0 ≤ p ∧ p ≤ 1000) (hi : 0 ≤ i ∧ i < 18446744073709551616) :
    Calls Tryz.prog 72 #[.int .i64 p, .int .u64 i] w fun e w' => e = .returned (.int .i64 (28 + p * 264 + i % 256)) ∧ w = w' := by
  have hi0 : 0 ≤ i := hi.1
  have hm : i.tmod 256 = i % 256 := Int.tmod_eq_emod_of_nonneg hi.1
  have hm2 : 0 ≤ i % 256 ∧ i % 256 < 256 := by omega
  go_enter Tryz.func72, Tryz.ntmps72
  go_wp2
  go_ret
  exact ⟨ret_int (by omega), rfl⟩
theorem ringat_run (P T G p i : Int) (w : World) (hP : 0 ≤ P ∧ P ≤ 1000) (hi : 0 ≤ i ∧ i < 18446744073709551616) :
    Calls Tryz.prog 154 #[.agg #[.int .i64 P, .int .i64 T, .int .i64 G], .int .i64 p, .int .u64 i] w fun e w' => e = .returned (.int .i64 (rg P p i)) ∧ Below w.heap.size w w' := by
  have hm2 : 0 ≤ i % 256 ∧ i % 256 < 256 := by omega
  by_cases h1 : p < 0
  · have d1 : decide (p < 0) = true := decide_eq_true h1
    have e := hid (show rg P p i = -1 by unfold rg placeN; rw [if_neg (by omega)])
    rw [e.out]
    go_enter Tryz.func154, Tryz.ntmps154
    go_wp2
    go_ret
    exact ⟨rfl, below_one _ _⟩
  have d1 : decide (p < 0) = false := decide_eq_false h1
  by_cases h2 : P ≤ p
  · have d2 : decide (P ≤ p) = true := decide_eq_true h2
    have e := hid (show rg P p i = -1 by unfold rg placeN; rw [if_neg (by omega)])
    rw [e.out]
    go_enter Tryz.func154, Tryz.ntmps154
    go_wp2
    go_ret
    exact ⟨rfl, below_one _ _⟩
  have d2 : decide (P ≤ p) = false := decide_eq_false h2
  have e := hid (show rg P p i = 28 + p * 264 + i % 256 by unfold rg placeN; rw [if_pos (by simp; omega)])
  rw [e.out]
  go_enter Tryz.func154, Tryz.ntmps154
  go_wp2_with fail
  refine (rring5_run p i _ (by omega) hi).mono ?_
  rintro e w1 ⟨rfl, rfl⟩
  go_wp2
  go_ret
  exact ⟨rfl, below_one _ _⟩
theorem rg5_run (P T G n f : Int) (w : World) (hP : 0 ≤ P ∧ P ≤ 1000) (hT : 0 ≤ T ∧ T ≤ 1000) (hn : 0 ≤ n ∧ n ≤ 100000) (hf : 0 ≤ f ∧ f < 2) :
    Calls Tryz.prog 66 #[.agg #[.int .i64 P, .int .i64 T, .int .i64 G], .int .i64 n, .int .i64 f] w fun e w' => e = .returned (.int .i64 (20 + P * 264 + T * 3 + n * 2 + f)) ∧ Below w.heap.size w w' := by
  go_enter Tryz.func66, Tryz.ntmps66
  go_wp2
  go_ret
  exact ⟨ret_int (by omega), below_one _ _⟩
theorem gat_run (P T G n f : Int) (w : World) (hP : 0 ≤ P ∧ P ≤ 1000) (hT : 0 ≤ T ∧ T ≤ 1000) (hG : G ≤ 100000) (hf : 0 ≤ f ∧ f < 2) :
    Calls Tryz.prog 169 #[.agg #[.int .i64 P, .int .i64 T, .int .i64 G], .int .i64 n, .int .i64 f] w fun e w' => e = .returned (.int .i64 (gg P T G n f)) ∧ Below w.heap.size w w' := by
  by_cases h1 : n < 0
  · have d1 : decide (n < 0) = true := decide_eq_true h1
    have e := hid (show gg P T G n f = -1 by unfold gg placeN; rw [if_neg (by omega)])
    rw [e.out]
    go_enter Tryz.func169, Tryz.ntmps169
    go_wp2
    go_ret
    exact ⟨rfl, below_one _ _⟩
  have d1 : decide (n < 0) = false := decide_eq_false h1
  by_cases h2 : G ≤ n
  · have d2 : decide (G ≤ n) = true := decide_eq_true h2
    have e := hid (show gg P T G n f = -1 by unfold gg placeN; rw [if_neg (by omega)])
    rw [e.out]
    go_enter Tryz.func169, Tryz.ntmps169
    go_wp2
    go_ret
    exact ⟨rfl, below_one _ _⟩
  have d2 : decide (G ≤ n) = false := decide_eq_false h2
  have e := hid (show gg P T G n f = 20 + P * 264 + T * 3 + n * 2 + f by unfold gg placeN; rw [if_pos (by simp; omega)])
  rw [e.out]
  go_enter Tryz.func169, Tryz.ntmps169
  go_wp2_with fail
  refine (rg5_run P T G n f _ hP hT (by omega) hf).mono ?_
  rintro e w1 ⟨rfl, hb⟩
  go_wp2
  go_ret
  exact ⟨rfl, Below.then_ (below_one _ _) hb⟩
end Go.Proofs.YtlhnnggceebpjaaGreat.Ref05
end

section
/- The document's routines: what is known in their midst. -/
set_option maxRecDepth 100000
set_option maxHeartbeats 4000000
set_option linter.unusedVariables false
set_option linter.unusedSimpArgs false
namespace Go.Proofs.YtlhnnggceebpjaaGreat.Doc
open Go.RowKit Go.Shelf Go.Proofs.YtlhnnggceebpjaaGreat.TK Go.Proofs.YtlhnnggceebpjaaGreat.Flag Go.Proofs.YtlhnnggceebpjaaGreat.Read Go.Proofs.YtlhnnggceebpjaaGreat.Grow Go.Proofs.YtlhnnggceebpjaaGreat.Words Go.Proofs.YtlhnnggceebpjaaGreat.Mem Go.Proofs.YtlhnnggceebpjaaGreat.Layout Go.Proofs.YtlhnnggceebpjaaGreat.Run Go.Proofs.YtlhnnggceebpjaaGreat.Sys Go.Proofs.YtlhnnggceebpjaaGreat.Ref05
/-- Since the routine began, at w0: it went on from s0, a to s, b; its config lies in the box bx. -/
structure DI {σ : Type} (M : Rsys σ) (got : List Int) (s0 : σ) (a : RunSt) (w0 w : World) (B r bx : Nat) (v : Value) (P T G : Int) (b : RunSt) (s : σ) : Prop where
  run : RunAt w B r v b
  kept : Kept [r] w0 w
  ran : Ran M got s0 a s b
  good : Fits got b
  box : Blk w bx [.int .i64 P, .int .i64 T, .int .i64 G] 23
section
variable {σ : Type} {M : Rsys σ} {got : List Int} {s0 s : σ} {a b : RunSt} {w0 w w' : World} {B r bx : Nat} {v : Value} {P T G : Int}
theorem DI.quiet (h : DI M got s0 a w0 w B r bx v P T G b s) (hb : Below w.heap.size w w') : DI M got s0 a w0 w' B r bx v P T G b s := ⟨h.run.quiet hb, h.kept.quiet hb, h.ran, h.good, h.box.quiet hb⟩
theorem DI.ne (h : DI M got s0 a w0 w B r bx v P T G b s) : bx ≠ r := Blk.ne h.box h.run.blk (by decide)
theorem DI.start (h : RunAt w B r v a) (hg : Fits got a) (s0 : σ) : DI M got s0 a w (w.alloc (.cells #[.int .i64 P, .int .i64 T, .int .i64 G] 23)) B r w.heap.size v P T G a s0 :=
  ⟨h.quiet (below_one _ _), (Kept.refl _ _).alloc _, .same _ _, hg, Blk.new w _ _⟩
theorem DI.cells (h : DI M got s0 a w0 w B r bx v P T G b s) : w.cell? ⟨bx, 0, none⟩ = some (.int .i64 P) ∧ w.cell? ⟨bx, 1, none⟩ = some (.int .i64 T) ∧ w.cell? ⟨bx, 2, none⟩ = some (.int .i64 G) ∧ w.cell? ⟨r, 2, none⟩ = some (.bool b.stop) :=
  ⟨h.box.cell 0, h.box.cell 1, h.box.cell 2, h.run.blk.cell 2⟩
theorem DI.did {x : Int} {b' : RunSt} {s' : σ} (h : DI M got s0 a w0 w B r bx v P T G b s) (d : Did M got s b w w' B r v b' s' x) : DI M got s0 a w0 w' B r bx v P T G b' s' :=
  ⟨d.run, h.kept.trans d.kept (by intro i hi; exact .inl hi), h.ran.trans d.ran, d.good, h.box.kept d.kept (by have := h.ne; simpa using this)⟩
/-- Behind an access that answered x. -/
def On {σ : Type} (M : Rsys σ) (got : List Int) (b : RunSt) (s : σ) (b' : RunSt) (s' : σ) (x : Int) : Prop := (b'.stop = false → b.stop = false ∧ s' = M.next s x) ∧ (0 ≤ x ∧ x < 18446744073709551616) ∧ (b'.stop = true → s' = s ∧ x = 0) ∧ (b.stop = false → left got b' < left got b) ∧ left got b' ≤ left got b
theorem dl_run (h : DI M got s0 a w0 w B r bx v P T G b s) (at_ : Int) (hw : b.stop = false → M.want s = some ⟨1, at_, 0, 0, false⟩) :
    Calls Tryz.prog 144 #[.pointer (some ⟨r, 0, none⟩), .int .i64 at_] w fun e w' => ∃ b' s' x, e = .returned (.int .u64 x) ∧ DI M got s0 a w0 w' B r bx v P T G b' s' ∧ On M got b s b' s' x := by
  refine (dload_run M s B r v b at_ w h.run h.good hw).mono ?_
  rintro e w1 ⟨b', s', x, rfl, d⟩
  exact ⟨b', s', x, rfl, h.did d, d.on, d.rng, d.off, d.dec⟩
theorem da_run (h : DI M got s0 a w0 w B r bx v P T G b s) (at_ y : Int) (hw : b.stop = false → M.want s = some ⟨4, at_, 0, y, false⟩) :
    Calls Tryz.prog 139 #[.pointer (some ⟨r, 0, none⟩), .int .i64 at_, .int .u64 y] w fun e w' => ∃ b' s' x, e = .returned (.int .u64 x) ∧ DI M got s0 a w0 w' B r bx v P T G b' s' ∧ On M got b s b' s' x := by
  refine (dadd_run M s B r v b at_ y w h.run h.good hw).mono ?_
  rintro e w1 ⟨b', s', x, rfl, d⟩
  exact ⟨b', s', x, rfl, h.did d, d.on, d.rng, d.off, d.dec⟩
theorem ds_run (h : DI M got s0 a w0 w B r bx v P T G b s) (at_ y : Int) (hw : b.stop = false → M.want s = some ⟨2, at_, 0, y, false⟩) :
    Calls Tryz.prog 140 #[.pointer (some ⟨r, 0, none⟩), .int .i64 at_, .int .u64 y] w fun e w' => e = .returned (.tuple #[]) ∧ ∃ b' s' x, DI M got s0 a w0 w' B r bx v P T G b' s' ∧ On M got b s b' s' x := by
  refine (dstore_run M s B r v b at_ y w h.run h.good hw).mono ?_
  rintro e w1 ⟨rfl, b', s', x, d⟩
  exact ⟨rfl, b', s', x, h.did d, d.on, d.rng, d.off, d.dec⟩
theorem dw_run (h : DI M got s0 a w0 w B r bx v P T G b s) (at_ o y : Int) (hw : b.stop = false → M.want s = some ⟨3, at_, o, y, false⟩) :
    Calls Tryz.prog 152 #[.pointer (some ⟨r, 0, none⟩), .int .i64 at_, .int .u64 o, .int .u64 y] w fun e w' => ∃ b' s' x, e = .returned (.bool (x == 1)) ∧ DI M got s0 a w0 w' B r bx v P T G b' s' ∧ On M got b s b' s' x := by
  refine (dswap_run M s B r v b at_ o y w h.run h.good hw).mono ?_
  rintro e w1 ⟨b', s', x, rfl, d⟩
  exact ⟨b', s', x, rfl, h.did d, d.on, d.rng, d.off, d.dec⟩
end
end Go.Proofs.YtlhnnggceebpjaaGreat.Doc
end

section
/- A flow that runs another machine. -/
set_option maxRecDepth 100000
set_option maxHeartbeats 4000000
set_option linter.unusedVariables false
set_option linter.unusedSimpArgs false
namespace Go.Proofs.YtlhnnggceebpjaaGreat.Flow
open Go.RowKit Go.Shelf Go.Proofs.YtlhnnggceebpjaaGreat.TK Go.Proofs.YtlhnnggceebpjaaGreat.Flag Go.Proofs.YtlhnnggceebpjaaGreat.Words Go.Proofs.YtlhnnggceebpjaaGreat.Mem Go.Proofs.YtlhnnggceebpjaaGreat.Lock Go.Proofs.YtlhnnggceebpjaaGreat.Mach
/-- This type's Step is that function. -/
structure StepOf (ty : TypeId) (F : Nat) : Prop where
  meth : ∀ (y : Nat) (w : World), (method 461 ty (.pointer (some ⟨y, 0, none⟩)) "Step").run Tryz.prog w = .ok (F, .pointer (some ⟨y, 0, none⟩)) w
  enters : ∀ vs w, (callFunc F vs).run Tryz.prog w = .ok (.enter F vs) w
theorem none_run (ty : TypeId) (F y : Nat) (o : Bool) (w : World) (hS : StepOf ty F) (H : Calls Tryz.prog F #[.pointer (some ⟨y, 0, none⟩), .pointer none] w fun e w' => e = .returned (.bool o) ∧ w = w') :
    Calls Tryz.prog 201 #[.iface ty (.pointer (some ⟨y, 0, none⟩))] w fun e w' => e = .returned (.bool o) ∧ w = w' := by
  have hq : ∀ w : World, (binOp .eql 155 (.iface ty (.pointer (some ⟨y, 0, none⟩))) .nilIface).run Tryz.prog w = .ok (.bool false) w := fun w => run_eql_held_nil w _ _ _ (by kernel_rfl)
  have hs := hS.meth y
  have he := hS.enters
  have HH := hid H
  clear H hS
  go_enter Tryz.func201, Tryz.ntmps201
  go_wp2_with fail
  refine HH.out.mono ?_
  rintro e w1 ⟨rfl, rfl⟩
  go_wp2
  go_ret
  exact ⟨rfl, rfl⟩
theorem frun_run (x : Nat) (f : Fl) (rest : List Value) (T : TypeId) (ty : TypeId) (F y : Nat) (fn : Fn) (first captured : Array Value) (w : World) (hb : FlAt w x f rest T) (hS : StepOf ty F) (H : Calls Tryz.prog F #[.pointer (some ⟨y, 0, none⟩), .pointer none] w fun e w' => e = .returned (.bool false) ∧ w = w') :
    Calls Tryz.prog 124 #[.pointer (some ⟨x, 0, none⟩), .iface ty (.pointer (some ⟨y, 0, none⟩)), .func fn first captured] w fun e w' => e = .returned (.tuple #[]) ∧ FlAt w' x { f with sub := .iface ty (.pointer (some ⟨y, 0, none⟩)), af := .func fn first captured } rest T ∧ Kept [x] w w' := by
  obtain ⟨c0, c1, c2, c3, c4, c5, c6, c7, c8⟩ := hb.cells
  have hf := Blk.frozen hb
  have HB := hid hb
  have HN := hid (none_run ty F y false w hS H)
  clear hb H hS
  go_enter Tryz.func124, Tryz.ntmps124
  go_wp2_with fail
  refine HN.out.mono ?_
  rintro e w1 ⟨rfl, rfl⟩
  go_wp2
  go_returns
  exact ⟨rfl, (HB.out.set 7 (.iface ty (.pointer (some ⟨y, 0, none⟩)))).set 8 (.func fn first captured), ((Kept.refl [x] w).set (.inl (by simp)) _).set (.inl (by simp)) _⟩
/-- This type cannot be asleep. -/
def NoSleeper (ty : TypeId) : Prop := ∀ (y : Nat) (w : World), (Instr.typeAssert (.iface ty (.pointer (some ⟨y, 0, none⟩))) 155 265 true).run Tryz.prog w = .ok (.tuple #[.nilIface, .bool false]) w
/-- A flow that runs a machine which cannot be asleep is not asleep. -/
theorem fasleep_sub (x m g : Nat) (f : Fl) (rest : List Value) (T : TypeId) (ty : TypeId) (y : Nat) (s : St) (w : World) (hb : FlAt w x f rest T) (hs : f.sub = .iface ty (.pointer (some ⟨y, 0, none⟩))) (hk : f.kind = 0) (hN : NoSleeper ty) (hM : MemAt w m g s) :
    Calls Tryz.prog 162 #[.pointer (some ⟨x, 0, none⟩), .pointer (some ⟨m, 0, none⟩)] w fun e w' => e = .returned (.bool false) ∧ w = w' := by
  obtain ⟨c0, c1, c2, c3, c4, c5, c6, c7, c8⟩ := hb.cells
  rw [hs] at c7
  rw [hk] at c1
  have hta := hN y
  have HM := hid hM
  clear hb hs hk hN hM
  go_enter Tryz.func162, Tryz.ntmps162
  go_wp2_with fail
  refine (mpeek_run m g s _ _ HM.out).mono ?_
  rintro e w1 ⟨rfl, rfl⟩
  go_wp2
  go_ret
  exact ⟨rfl, rfl⟩
/-- A step of a flow that runs a machine: the machine goes on. -/
theorem fstep_sub (x m g : Nat) (f : Fl) (rest : List Value) (T : TypeId) (ty : TypeId) (F y : Nat) (s : St) (w : World) (R : World → Prop) (hb : FlAt w x f rest T) (hs : f.sub = .iface ty (.pointer (some ⟨y, 0, none⟩))) (hk : f.kind = 0) (hS : StepOf ty F) (hN : NoSleeper ty) (hM : MemAt w m g s)
    (H : Calls Tryz.prog F #[.pointer (some ⟨y, 0, none⟩), .pointer (some ⟨m, 0, none⟩)] w fun e w' => e = .returned (.bool false) ∧ FlAt w' x f rest T ∧ R w') :
    Calls Tryz.prog 127 #[.pointer (some ⟨x, 0, none⟩), .pointer (some ⟨m, 0, none⟩)] w fun e w' => e = .returned (.bool false) ∧ R w' := by
  have hfine : f.fine := .inr ⟨_, _, hs⟩
  have hov : f.over = false := by unfold Fl.over; rw [hs]; simp
  have HD := fdone_any x f rest T w hb hfine
  rw [hov] at HD
  have HD := hid HD
  have HA := hid (fasleep_sub x m g f rest T ty y s w hb hs hk hN hM)
  have HH := hid H
  have HF := hid (And.intro hs hfine)
  have HOV := hid hov
  obtain ⟨c0, c1, c2, c3, c4, c5, c6, c7, c8⟩ := hb.cells
  rw [hs] at c7
  have hq : ∀ w : World, (binOp .eql 155 (.iface ty (.pointer (some ⟨y, 0, none⟩))) .nilIface).run Tryz.prog w = .ok (.bool false) w := fun w => run_eql_held_nil w _ _ _ (by kernel_rfl)
  have hme := hS.meth y
  have hen := hS.enters
  clear hb hs hk hS hN hM H hfine hov c0 c1 c2 c3 c4 c5 c6 c8
  go_enter Tryz.func127, Tryz.ntmps127
  go_wp2_with fail
  refine HD.out.mono ?_
  rintro e w1 ⟨rfl, rfl⟩
  go_wp2_with fail
  refine HA.out.mono ?_
  rintro e w1 ⟨rfl, rfl⟩
  go_wp2_with fail
  refine HH.out.mono ?_
  rintro e w1 ⟨rfl, hb1, hR⟩
  have HD1 := fdone_any x f rest T w1 hb1 HF.out.2
  rw [HOV.out] at HD1
  have HD1 := hid HD1
  have HR := hid hR
  clear hb1 hR
  go_wp2_with fail
  refine HD1.out.mono ?_
  rintro e w2 ⟨rfl, rfl⟩
  go_wp2
  go_ret
  exact ⟨rfl, HR.out⟩
/-- A flow behind a machine that it ran. -/
def Fl.left (f : Fl) : Fl := { f with sub := .nilIface, af := .nilFunc }
/-- .. the machine is done, and what follows it goes on. -/
theorem fstep_sub_done (o : Bool) (x m g : Nat) (f : Fl) (rest : List Value) (T : TypeId) (ty : TypeId) (F y FA : Nat) (s : St) (w : World) (R1 R : World → Prop) (hb : FlAt w x f rest T) (hs : f.sub = .iface ty (.pointer (some ⟨y, 0, none⟩))) (hk : f.kind = 0) (haf : f.af = meth FA x) (hS : StepOf ty F) (hN : NoSleeper ty) (hM : MemAt w m g s)
    (eg : ∀ vs w, (callFunc FA vs).run Tryz.prog w = .ok (.enter FA vs) w)
    (H : Calls Tryz.prog F #[.pointer (some ⟨y, 0, none⟩), .pointer (some ⟨m, 0, none⟩)] w fun e w' => e = .returned (.bool true) ∧ FlAt w' x f rest T ∧ R1 w')
    (hthen : ∀ w1 w2, R1 w1 → Kept [x] w1 w2 → FlAt w2 x f.left rest T → Calls Tryz.prog FA #[.pointer (some ⟨x, 0, none⟩)] w2 fun e w' => (∃ r, e = .returned r) ∧ R w')
    (hR : ∀ w', R w' → ∃ f' rest', FlAt w' x f' rest' T ∧ f'.fine ∧ f'.over = o) :
    Calls Tryz.prog 127 #[.pointer (some ⟨x, 0, none⟩), .pointer (some ⟨m, 0, none⟩)] w fun e w' => e = .returned (.bool o) ∧ R w' := by
  have hfine : f.fine := .inr ⟨_, _, hs⟩
  have hov : f.over = false := by unfold Fl.over; rw [hs]; simp
  have HD := fdone_any x f rest T w hb hfine
  rw [hov] at HD
  have HD := hid HD
  have HA := hid (fasleep_sub x m g f rest T ty y s w hb hs hk hN hM)
  have HH := hid H
  have HT := hid hthen
  have HRR := hid hR
  have HAF := hid haf
  obtain ⟨c0, c1, c2, c3, c4, c5, c6, c7, c8⟩ := hb.cells
  rw [hs] at c7
  have hq : ∀ w : World, (binOp .eql 155 (.iface ty (.pointer (some ⟨y, 0, none⟩))) .nilIface).run Tryz.prog w = .ok (.bool false) w := fun w => run_eql_held_nil w _ _ _ (by kernel_rfl)
  have hme := hS.meth y
  have hen := hS.enters
  clear hb hs hk hS hN hM H hfine hov c0 c1 c2 c3 c4 c5 c6 c8 hthen hR haf
  go_enter Tryz.func127, Tryz.ntmps127
  go_wp2_with fail
  refine HD.out.mono ?_
  rintro e w1 ⟨rfl, rfl⟩
  go_wp2_with fail
  refine HA.out.mono ?_
  rintro e w1 ⟨rfl, rfl⟩
  go_wp2_with fail
  refine HH.out.mono ?_
  rintro e w1 ⟨rfl, hb1, hR1⟩
  obtain ⟨c0, c1, c2, c3, c4, c5, c6, c7', c8⟩ := hb1.cells
  rw [HAF.out] at c8
  have hf := Blk.frozen hb1
  have hb2 : FlAt ((w1.setCell ⟨x, 7, none⟩ .nilIface).setCell ⟨x, 8, none⟩ .nilFunc) x f.left rest T := (Blk.set hb1 7 .nilIface).set 8 .nilFunc
  have hk2 : Kept [x] w1 ((w1.setCell ⟨x, 7, none⟩ .nilIface).setCell ⟨x, 8, none⟩ .nilFunc) := ((Kept.refl [x] w1).set (.inl (by simp)) _).set (.inl (by simp)) _
  have H2 := hid (HT.out w1 _ hR1 hk2 hb2)
  simp only [meth] at c8
  clear hb1 hR1 hb2 hk2 c0 c1 c2 c3 c4 c5 c6
  go_wp2_with fail
  refine H2.out.mono ?_
  rintro e w2 ⟨⟨r, rfl⟩, hR2⟩
  obtain ⟨f', rest', hb', hfine', ho⟩ := HRR.out w2 hR2
  have HD2 := fdone_any x f' rest' T w2 hb' hfine'
  rw [ho] at HD2
  have HD2 := hid HD2
  have HR2 := hid hR2
  clear hb' hR2 ho hfine'
  go_wp2_with fail
  refine HD2.out.mono ?_
  rintro e w3 ⟨rfl, rfl⟩
  go_wp2
  go_ret
  exact ⟨rfl, HR2.out⟩
end Go.Proofs.YtlhnnggceebpjaaGreat.Flow
end
