/-
  WORDS FOR A STABLE SORT IN MEMORY: the row's world (SWB: what lies in the row; blocks that the comparison laid), loads, the exchange of two elements; the exchange as lists.
-/
import Derived.Test.YtcfninipcghbmaaStabP
import Derived.Test.YtcfninipcghbmaaLib
import Derived.Test.YtcfninipcghbmaaObj
import Derived.Shelf.SlSortCmp.KitK
import Derived.Lib.QuietBelow
import Derived.Deep.LoopGhost
set_option linter.unusedVariables false
set_option linter.unusedSimpArgs false
namespace Go.Proofs.Ytcfninipcghbmaa
open Go.Shelf Go.RowKit Go.Sort

section
variable {α : Type} [Inhabited α]
theorem at_split (P S : List α) (x : α) : (P ++ x :: S).toArray[P.length]! = x := by
  rw [getElem!_pos _ _ (by simp)]
  simp
omit [Inhabited α] in
theorem set_split (P S : List α) (x y : α) : (P ++ x :: S).set P.length y = P ++ y :: S := by
  rw [List.set_append_right _ _ (Nat.le_refl _)]
  simp
theorem at_split2 (P M S : List α) (x y : α) : (P ++ x :: (M ++ y :: S)).toArray[P.length + 1 + M.length]! = y := by
  have h := at_split (P ++ x :: M) S y
  rw [show (P ++ x :: M).length = P.length + 1 + M.length by simp; omega, List.append_assoc] at h
  exact h
omit [Inhabited α] in
theorem set_split2 (P M S : List α) (x y z : α) : (P ++ x :: (M ++ y :: S)).set (P.length + 1 + M.length) z = P ++ x :: (M ++ z :: S) := by
  have h := set_split (P ++ x :: M) S y z
  rw [show (P ++ x :: M).length = P.length + 1 + M.length by simp; omega, List.append_assoc, List.append_assoc] at h
  exact h
theorem swp_split (P M S : List α) (x y : α) : swp (P ++ x :: (M ++ y :: S)).toArray P.length (P.length + 1 + M.length) = (P ++ y :: (M ++ x :: S)).toArray := by
  unfold swp
  rw [at_split, at_split2]
  simp only [List.setIfInBounds_toArray]
  rw [set_split, set_split2]
theorem swp_split' (P M S : List α) (x y : α) : swp (P ++ x :: (M ++ y :: S)).toArray (P.length + 1 + M.length) P.length = (P ++ y :: (M ++ x :: S)).toArray := by
  unfold swp
  rw [at_split, at_split2]
  simp only [List.setIfInBounds_toArray]
  rw [set_split2, set_split]
end

/-- What is asked of the comparison: it tells 'cf', and turns nothing. -/
def CmpB {α : Type} (P : Program) (g : Nat) (enc : α → List Value) (cf : α → α → Int) : Prop :=
  ∀ (W : World) (x y : α), Calls P g #[.agg (enc x).toArray, .agg (enc y).toArray] W fun e w' => e = .returned (.int .i64 (cf x y)) ∧ Below W.heap.size W w'

/-- W is the world w0, but the row (elements of k cells, from ⟨blk, off⟩ on) holds l, and blocks may have been laid. -/
def SWB {α : Type} [Inhabited α] (enc : α → List Value) (k : Nat) (w0 : World) (blk off : Nat) (l : List α) (W : World) : Prop := ∃ d, SWK enc k (redrawn w0 d) blk off l.toArray W
section
variable {α : Type} [Inhabited α] {enc : α → List Value} {k : Nat} {w0 W W' : World} {blk off : Nat} {l l0 : List α}
abbrev RowL (enc : α → List Value) (k : Nat) (w0 : World) (blk off : Nat) (l0 : List α) : Prop := RowK enc k w0 blk off l0.toArray
theorem RowL.re (R : RowL enc k w0 blk off l0) (d : Nat) : RowL enc k (redrawn w0 d) blk off l0 := ⟨R.hk, R.h1, R.hH, R.hblk⟩
theorem SWB.start (R : RowL enc k w0 blk off l0) : SWB enc k w0 blk off l0 w0 := ⟨w0.drawn, SWK.start (w0 := redrawn w0 w0.drawn) R.hH⟩
theorem SWB.below (h : SWB enc k w0 blk off l W) (hb : Below W.heap.size W W') : SWB enc k w0 blk off l W' := by
  obtain ⟨d, n, os, rfl⟩ := h
  obtain ⟨p, rfl⟩ := regrown_of_below hb
  exact ⟨p.d, 0, os ++ p.os, by unfold sortWorldK; rw [← grow_grow]; rfl⟩
theorem SWB.drew (h : SWB enc k w0 blk off l W) : SWB enc k w0 blk off l W.drew := h.below (Below.refl _ _).drew
theorem SWB.le (h : SWB enc k w0 blk off l W) : w0.heap.size ≤ W.heap.size := by obtain ⟨d, h⟩ := h; exact h.le
theorem SWB.lt (h : SWB enc k w0 blk off l W) (hblk : blk < w0.heap.size) : blk < W.heap.size := Nat.lt_of_lt_of_le hblk h.le
omit [Inhabited α] in
theorem size_of_len {l l0 : List α} (hs : l.length = l0.length) : l.toArray.size = l0.toArray.size := by simpa using hs
theorem get_of {l : List α} {i : Nat} {x : α} (hx : l[i]? = some x) : i < l.toArray.size ∧ l.toArray[i]! = x := by
  obtain ⟨h, rfl⟩ := List.getElem?_eq_some_iff.1 hx
  exact ⟨by simpa using h, by rw [getElem!_pos _ i (by simpa using h)]; simp⟩
theorem SWB.load (h : SWB enc k w0 blk off l W) (R : RowL enc k w0 blk off l0) (hs : l.length = l0.length) (P : Program) {i : Nat} {x : α} (hx : l[i]? = some x) :
    Sem.run P (loadCellsFrom ⟨blk, off + i * k, none⟩ 0 k #[]) W = .ok (enc x).toArray W := by
  obtain ⟨d, h⟩ := h
  have g := get_of hx
  have := h.load (R.re d) (size_of_len hs) P i g.1
  rwa [g.2] at this
theorem SWB.ld (h : SWB enc k w0 blk off l W) (R : RowL enc k w0 blk off l0) (hs : l.length = l0.length) (P : Program) {i : Nat} {x : α} (hx : l[i]? = some x) (d : Nat) (os : Array Obj) :
    Sem.run P (loadCellsFrom ⟨blk, off + i * k, none⟩ 0 k #[]) (grow (redrawn W d) os) = .ok (enc x).toArray (grow (redrawn W d) os) := (h.below (below_regrown W d os)).load R hs P hx
theorem SWB.st1 (h : SWB enc k w0 blk off l W) (R : RowL enc k w0 blk off l0) (hs : l.length = l0.length) (P : Program) {i : Nat} (hi : i < l.length) (y : α) :
    Sem.run P (storeCells ⟨blk, off + i * k, none⟩ (enc y) 0) W.drew = .ok () (W.drew.setCells blk (off + i * k) (enc y)) := by
  obtain ⟨d, h⟩ := h
  exact h.st1 (R.re d) (size_of_len hs) P i (by simpa using hi) y
theorem SWB.st2 (h : SWB enc k w0 blk off l W) (R : RowL enc k w0 blk off l0) (hs : l.length = l0.length) (P : Program) {i j : Nat} (hi : i < l.length) (hj : j < l.length) (y x : α) :
    Sem.run P (storeCells ⟨blk, off + j * k, none⟩ (enc x) 0) (W.drew.setCells blk (off + i * k) (enc y)) = .ok () ((W.drew.setCells blk (off + i * k) (enc y)).setCells blk (off + j * k) (enc x)) := by
  obtain ⟨d, h⟩ := h
  exact h.st2 (R.re d) (size_of_len hs) P i j (by simpa using hi) (by simpa using hj) y x
theorem SWB.cells (h : SWB enc k w0 blk off l W) (R : RowL enc k w0 blk off l0) (hs : l.length = l0.length) {i : Nat} {x : α} (hx : l[i]? = some x) :
    (∀ j v, (enc x)[j]? = some v → W.cell? ⟨blk, off + i * k + j, none⟩ = some v) ∧ ∀ j, j < k → W.frozen? ⟨blk, off + i * k + j, none⟩ = false := by
  obtain ⟨d, h⟩ := h
  have g := get_of hx
  have hh := h.holds (R.re d).hblk (R.re d).hH (size_of_len hs)
  refine ⟨fun j v hv => ?_, fun j hj => (hh.cell (c := j) g.1 hj).2⟩
  have hj : j < k := by have := (List.getElem?_eq_some_iff.1 hv).1; rwa [R.hk] at this
  rw [(hh.cell (c := j) g.1 hj).1, g.2, getElem!_pos (enc x) j (by rw [R.hk]; exact hj)]
  exact congrArg some (List.getElem?_eq_some_iff.1 hv).2
/-- The exchange, the elements told by the row's parts. -/
theorem SWB.swapped {A M S : List α} {x y : α} (h : SWB enc k w0 blk off (A ++ x :: (M ++ y :: S)) W) (R : RowL enc k w0 blk off l0) {i j : Nat} (hi : i = A.length) (hj : j = A.length + 1 + M.length) :
    SWB enc k w0 blk off (A ++ y :: (M ++ x :: S)) ((W.drew.setCells blk (off + i * k) (enc y)).setCells blk (off + j * k) (enc x)) ∧
    SWB enc k w0 blk off (A ++ y :: (M ++ x :: S)) ((W.drew.setCells blk (off + j * k) (enc x)).setCells blk (off + i * k) (enc y)) := by
  subst hi hj
  obtain ⟨d, h⟩ := h
  refine ⟨⟨d, ?_⟩, ⟨d, ?_⟩⟩
  · have := h.swapped (R.re d) A.length (A.length + 1 + M.length) (by simp) (by simp; omega)
    rwa [swp_split, at_split, at_split2] at this
  · have := h.swapped (R.re d) (A.length + 1 + M.length) A.length (by simp; omega) (by simp)
    rwa [swp_split', at_split, at_split2] at this
end
end Go.Proofs.Ytcfninipcghbmaa
