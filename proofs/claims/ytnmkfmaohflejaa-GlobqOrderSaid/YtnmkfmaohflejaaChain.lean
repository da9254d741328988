/- Lists by links that are laid in words: plain laws. -/
import Derived.Test.YtnmkfmaohflejaaRoad
import Derived.Test.YtnmkfmaohflejaaBase6
set_option maxRecDepth 100000
set_option maxHeartbeats 4000000
set_option linter.unusedVariables false
set_option linter.unusedSimpArgs false
namespace Go.Proofs.Ytnmkfmaohflejaa.Chain
open Go.RowKit Go.Shelf Go.Proofs.Ytnmkfmaohflejaa.TK Go.Proofs.Ytnmkfmaohflejaa.Words Go.Proofs.Ytnmkfmaohflejaa.Mem Go.Proofs.Ytnmkfmaohflejaa.Layout Go.Proofs.Ytnmkfmaohflejaa.Run Go.Proofs.Ytnmkfmaohflejaa.Sys Go.Proofs.Ytnmkfmaohflejaa.Mach Go.Proofs.Ytnmkfmaohflejaa.Ref05 Go.Proofs.Ytnmkfmaohflejaa.Road Go.Proofs.Ytnmkfmaohflejaa.MapL
/-- From x on the links nx tell these numbers, and no more. -/
def Chain (nx : Int → Int) : Int → List Int → Prop
  | x, [] => x = 0
  | x, t :: r => x = t + 1 ∧ Chain nx (nx t) r
theorem Chain.congr {nx nx' : Int → Int} : ∀ {xs : List Int} {x : Int}, Chain nx x xs → (∀ t ∈ xs, nx' t = nx t) → Chain nx' x xs
  | [], x, h, _ => h
  | t :: r, x, h, e => ⟨h.1, by rw [e t (by simp)]; exact Chain.congr h.2 (fun u hu => e u (by simp [hu]))⟩
theorem nOf_one {p : Int} (h : 0 ≤ p ∧ p ≤ 1000000) : MapL.nOf (p + 1) = p := by
  unfold MapL.nOf
  simp only [IntKind.wrap_i64, IntKind.wrap_u64]
  omega
/-- The program's way through it. -/
theorem wlk_chain (rd : Int → Int × Bool) : ∀ (xs : List Int) (x : Int) (out : List Int) (f : Nat), Chain (fun t => (rd t).1) x xs → (∀ t ∈ xs, (rd t).2 = true ∧ 0 ≤ t ∧ t ≤ 1000000) → (out ++ xs).Nodup → xs.length ≤ f → wlk rd f x out = (out ++ xs, true)
  | [], x, out, f, h, _, _, _ => by rw [show x = 0 from h, wlk_zero, List.append_nil]
  | t :: r, x, out, f, h, hin, hn, hl => by
    obtain ⟨f, rfl⟩ : ∃ k, f = k + 1 := ⟨f - 1, by simp at hl; omega⟩
    have e := h.1
    have ht := hin t (by simp)
    have hno : MapL.nOf x = t := by rw [e]; exact nOf_one ht.2
    have hx : x ≠ 0 := by omega
    have hm : t ∉ out := fun hm => (List.nodup_append.1 hn).2.2 t hm t (by simp) rfl
    show (if x = 0 then _ else _) = _
    rw [if_neg hx, hno, if_neg (by simp [ht.1, hm])]
    rw [wlk_chain rd r _ (out ++ [t]) f h.2 (fun u hu => hin u (by simp [hu])) (by simpa using hn) (by simp at hl; omega)]
    simp
theorem perm_set : ∀ (ys : List Int) (k : Nat) (z : Int) (h : k < ys.length), (z :: ys).Perm (ys[k] :: ys.set k z)
  | y :: ys, 0, z, h => by simpa using List.Perm.swap y z ys
  | y :: ys, k + 1, z, h => by
    have h' : k < ys.length := by simpa using h
    have ih := perm_set ys k z h'
    have e1 : (z :: y :: ys).Perm (y :: z :: ys) := List.Perm.swap y z ys
    have e2 : (y :: z :: ys).Perm (y :: ys[k] :: ys.set k z) := ih.cons y
    have e3 : (y :: ys[k] :: ys.set k z).Perm (ys[k] :: y :: ys.set k z) := List.Perm.swap _ _ _
    simpa using (e1.trans e2).trans e3
/-- One is taken out, and the last one comes in its place. -/
def takeOut (xs : List Int) (k : Nat) (z : Int) : List Int := (xs.set k z).take (xs.length - 1)
theorem takeOut_len (xs : List Int) (k : Nat) (z : Int) : (takeOut xs k z).length = xs.length - 1 := by unfold takeOut; simp
theorem takeOut_perm (xs : List Int) (k : Nat) (h : k < xs.length) : xs.Perm (xs[k] :: takeOut xs k (xs[xs.length - 1]'(by omega))) := by
  obtain ⟨ys, z, rfl⟩ : ∃ ys z, xs = ys ++ [z] := ⟨xs.dropLast, xs.getLast (by intro e; simp [e] at h), (List.dropLast_concat_getLast _).symm⟩
  have hz : (ys ++ [z])[(ys ++ [z]).length - 1]'(by simp) = z := by simp
  rw [hz]
  unfold takeOut
  rw [show (ys ++ [z]).length - 1 = ys.length by simp]
  by_cases hk : k < ys.length
  · rw [List.set_append_left _ _ hk, List.take_append_of_le_length (by simp), List.getElem_append_left hk]
    rw [List.take_of_length_le (by simp)]
    exact (List.perm_append_singleton z ys).trans (perm_set ys k z hk)
  · have e : k = ys.length := by simp at h; omega
    subst e
    rw [List.set_append_right _ _ (by simp), List.take_append_of_le_length (by simp), List.take_length]
    simp
theorem th_eq {P T t f : Int} (ht : 0 ≤ t ∧ t < T) (hf : 0 ≤ f ∧ f < 3) : th P T t f = 20 + 264 * P + 3 * t + f := by
  unfold th placeN
  rw [if_pos ⟨rfl, ht.1, ht.2, hf.1, hf.2⟩]
  omega
theorem pr_eq {P p f : Int} (hp : 0 ≤ p ∧ p < P) (hf : 0 ≤ f ∧ f < 8) : pr P p f = 20 + 264 * p + f := by
  unfold pr placeN
  rw [if_pos ⟨rfl, hp.1, hp.2, hf.1, hf.2⟩]
  omega
theorem gg_eq {P T G q f : Int} (hq : 0 ≤ q ∧ q < G) (hf : 0 ≤ f ∧ f < 2) : gg P T G q f = 20 + 264 * P + 3 * T + 2 * q + f := by
  unfold gg placeN
  rw [if_pos ⟨rfl, hq.1, hq.2, hf.1, hf.2⟩]
  omega
section
variable {σ : Type} {M : Rsys σ} {n k : Nat} {st st1 st' : σ} {f f' : Int → Int}
theorem rd_load (a x : Int) (hw : M.want st = some ⟨1, a, 0, 0, false⟩) (h0 : 0 ≤ a) (h1 : a < (n : Int)) (hx : f a = x) (hn : M.next st x = st1) (h : Road.Road M n st1 f k st' f') : Road.Road M n st f (k + 1) st' f' := .load a hw h0 h1 (by rw [hx, hn]; exact h)
theorem rd_store (a v : Int) (hw : M.want st = some ⟨2, a, 0, v, false⟩) (h0 : 0 ≤ a) (h1 : a < (n : Int)) (hn : M.next st 0 = st1) (h : Road.Road M n st1 (upd f a v) k st' f') : Road.Road M n st f (k + 1) st' f' := .store a v hw h0 h1 (by rw [hn]; exact h)
theorem rd_add (a v x y : Int) (hw : M.want st = some ⟨4, a, 0, v, false⟩) (h0 : 0 ≤ a) (h1 : a < (n : Int)) (hx : f a = x) (hy : (x + v) % 4294967296 = y) (hn : M.next st y = st1) (h : Road.Road M n st1 (upd f a y) k st' f') : Road.Road M n st f (k + 1) st' f' := .add a v hw h0 h1 (by rw [hx, hy, hn]; exact h)
theorem rd_swap1 (a o v : Int) (hw : M.want st = some ⟨3, a, o, v, false⟩) (h0 : 0 ≤ a) (h1 : a < (n : Int)) (ho : f a = o) (hn : M.next st 1 = st1) (h : Road.Road M n st1 (upd f a v) k st' f') : Road.Road M n st f (k + 1) st' f' := .swap1 a o v hw h0 h1 ho (by rw [hn]; exact h)
theorem rd_swap0 (a o v : Int) (hw : M.want st = some ⟨3, a, o, v, false⟩) (h0 : 0 ≤ a) (h1 : a < (n : Int)) (ho : f a ≠ o) (hn : M.next st 0 = st1) (h : Road.Road M n st1 f k st' f') : Road.Road M n st f (k + 1) st' f' := .swap0 a o v hw h0 h1 ho (by rw [hn]; exact h)
end
end Go.Proofs.Ytnmkfmaohflejaa.Chain
namespace Go.Proofs.Ytnmkfmaohflejaa.Grow
open Go.RowKit Go.Proofs.Ytnmkfmaohflejaa.TK Go.Proofs.Ytnmkfmaohflejaa.Read
theorem flat1 : ∀ ys : List Int, ys.flatMap (encI .i64) = ys.map (fun x => Value.int .i64 x)
  | [] => rfl
  | y :: ys => by rw [List.flatMap_cons, flat1 ys]; rfl
/-- A list of one's own that is not empty: its cells, and what a store to one of them makes of it. -/
theorem Grow.parts {w : World} {B : Nat} {T : TypeId} {v : Value} {xs : List Int} (h : Grow w B T 1 (encI .i64) v xs) (hn : 0 < xs.length) :
    ∃ g cap, v = .slice (some ⟨g, 0, none⟩) xs.length cap ∧ B ≤ g ∧ (∀ i (hi : i < xs.length), w.cell? ⟨g, i, none⟩ = some (.int .i64 xs[i])) ∧ (∀ i, w.frozen? ⟨g, i, none⟩ = false) ∧ xs.length ≤ cap ∧ (∃ cs, Blk w g cs T) ∧
      ∀ (k : Nat) (z : Int), k < xs.length → Grow (w.setCell ⟨g, k, none⟩ (.int .i64 z)) B T 1 (encI .i64) v (xs.set k z) := by
  rcases h.2 with ⟨rfl, h0⟩ | ⟨g, cap, cur, rfl, hg, hh, hc, hm, hs, htake⟩
  · omega
  have hB : Blk w g cur.toList T := by unfold Blk; simpa using hh
  rw [Nat.mul_one, flat1] at htake
  have hget : ∀ i (hi : i < xs.length), cur.toList[i]? = some (.int .i64 xs[i]) := by
    intro i hi
    have := congrArg (fun l => l[i]?) htake
    simp only [List.getElem?_take, hi, if_true, List.getElem?_map, List.getElem?_eq_getElem hi, Option.map_some] at this
    exact this
  refine ⟨g, cap, rfl, hg, fun i hi => (hB.cell i).trans (hget i hi), fun i => hB.frozen i, hc, ⟨_, hB⟩, ?_⟩
  intro k z hk
  refine ⟨by rw [flat1]; simp, .inr ⟨g, cap, (cur.toList.set k (.int .i64 z)).toArray, by rw [List.length_set], hg, hB.set k _, by rw [List.length_set]; exact hc, hm, by simpa using hs, ?_⟩⟩
  rw [flat1, List.length_set, Nat.mul_one, List.toList_toArray, List.take_set, htake, List.map_set]
end Go.Proofs.Ytnmkfmaohflejaa.Grow
