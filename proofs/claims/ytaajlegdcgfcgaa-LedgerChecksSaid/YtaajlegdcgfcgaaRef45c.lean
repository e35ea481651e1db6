/-
  LAYER 45: the reference: Begun: the plain law, and a cell of an own row set anew.
-/
import Derived.Test.YtaajlegdcgfcgaaRef45b
import Derived.Test.YtaajlegdcgfcgaaLedger6
set_option linter.unusedVariables false
set_option linter.unusedSimpArgs false
namespace Go.Proofs.Ytaajlegdcgfcgaa
open Go.RowKit Go.Maps

theorem flatMap_set {α : Type} {enc : α → List Value} {sz : Nat} (henc : ∀ x, (enc x).length = sz) (l : List α) (k j : Nat) (x y : α) (v : Value) (hx : l[k]? = some x) (hj : j < sz) (hy : enc y = (enc x).set j v) : (l.set k y).flatMap enc = (l.flatMap enc).set (k * sz + j) v := by
  induction l generalizing k with
  | nil => simp at hx
  | cons a r ih =>
    cases k with
    | zero =>
      simp at hx
      subst hx
      rw [List.set_cons_zero, List.flatMap_cons, List.flatMap_cons, hy, Nat.zero_mul, Nat.zero_add, List.set_append_left _ _ (by rw [henc]; exact hj)]
    | succ k =>
      rw [List.set_cons_succ, List.flatMap_cons, List.flatMap_cons, ih k (by simpa using hx), List.set_append_right _ _ (by rw [henc, Nat.add_mul]; omega), henc]
      congr 2
      rw [Nat.add_mul]
      omega
/-- A cell of a row of the call's own, set anew. -/
theorem OwnL.set_ {α : Type} {enc : α → List Value} {e : TypeId} {sz : Nat} {w : World} {base n c : Nat} {A : Option Addr} {l : List α} (henc : ∀ x, (enc x).length = sz) (h : OwnL enc e sz w base A n c l) {g o : Nat} (hA : A = some ⟨g, o, none⟩) {k j : Nat} {x y : α} {v : Value} (hx : l[k]? = some x) (hj : j < sz) (hy : enc y = (enc x).set j v) :
    OwnL enc e sz (w.setCell ⟨g, o + (k * sz + j), none⟩ v) base A n c (l.set k y) := by
  subst hA
  rcases h.own.2 with ⟨hv, h0⟩ | ⟨g', cap, cur, hv, hg, hh, h1, h2, h3, h4⟩
  · cases hv
  · cases hv
    refine ⟨⟨by rw [flatMap_set henc l k j x y v hx hj hy, List.length_set]; exact h.own.1, .inr ⟨g, c, cur.setIfInBounds (k * sz + j) v, rfl, hg, ?_, h1, h2, by simpa using h3, ?_⟩⟩, by rw [List.length_set]; exact h.len⟩
    · rw [Nat.zero_add]
      simp [World.setCell, Array.getElem?_modify, hh]
    · rw [flatMap_set henc l k j x y v hx hj hy, Array.toList_setIfInBounds, List.take_set, h4]

theorem rising_at_take {row : List Int} (h : Rising row) {k : Nat} {x : Int} (hk : row[k]? = some x) : row.takeWhile (fun y => decide (y < x)) = row.take k ∧ row.dropWhile (fun y => decide (y < x)) = row.drop k := by
  refine takeWhile_of_split _ row k (fun y hy => ?_) (fun y hy => ?_)
  · obtain ⟨i, hi, rfl⟩ := List.getElem_of_mem hy
    rw [List.getElem_take]
    have hi' : i < k ∧ i < row.length := by rw [List.length_take] at hi; omega
    obtain ⟨hlt, he⟩ := List.getElem?_eq_some_iff.1 hk
    have := List.pairwise_iff_getElem.1 h i k hi'.2 hlt hi'.1
    rw [he] at this
    exact decide_eq_true this
  · rw [hk] at hy
    cases hy
    exact decide_eq_false (by omega)
theorem markAll_snoc (js : List Int) (x : Int) : markAll [] (js ++ [x]) = putR (markAll [] js) x := by simp [markAll, List.foldl_append]
theorem begunP_len (js : List Int) : (begunP js).length = (markAll [] js).length := by simp [begunP]
theorem begunP_at (js : List Int) (k : Nat) : (begunP js)[k]? = ((markAll [] js)[k]?).map (fun j => (⟨j, cntI js j⟩ : LRep)) := by simp [begunP]
theorem putR_mem {l : List Int} {x : Int} (h : x ∈ l) : putR l x = l := by rw [putR, if_pos h]
/-- The law of Begun's one step. -/
theorem begunP_hit (js : List Int) (x : Int) (k : Nat) (y : LRep) (hk : (begunP js)[k]? = some y) (hy : y.job = x) : begunP (js ++ [x]) = (begunP js).set k ⟨x, y.code + 1⟩ := by
  rw [begunP_at] at hk
  obtain ⟨j, hj, rfl⟩ := Option.map_eq_some_iff.1 hk
  obtain rfl : j = x := hy
  have hm : j ∈ markAll [] js := List.mem_of_getElem? hj
  have hr := rising_markAll (row := []) List.Pairwise.nil js
  apply List.ext_getElem?
  intro i
  rw [begunP_at, markAll_snoc, putR_mem hm, ← cntI_snoc, List.getElem?_set, begunP_len]
  by_cases hik : k = i
  · subst hik
    have hlt : k < (markAll [] js).length := (List.getElem?_eq_some_iff.1 hj).1
    rw [if_pos rfl, if_pos hlt, hj]
    simp
  · rw [if_neg hik, begunP_at]
    cases hz : (markAll [] js)[i]? with
    | none => rfl
    | some z =>
      have hne : z ≠ j := by
        rintro rfl
        have h1 := (List.getElem?_eq_some_iff.1 hz)
        have h2 := (List.getElem?_eq_some_iff.1 hj)
        obtain ⟨l1, e1⟩ := h1
        obtain ⟨l2, e2⟩ := h2
        exact hik ((List.getElem_inj (rising_nodup hr)).1 (e2.trans e1.symm))
      simp [hne]
theorem begunP_miss (js : List Int) (x : Int) (k : Nat) (h1 : ∀ y ∈ (begunP js).take k, y.job < x) (h2 : ∀ y, (begunP js)[k]? = some y → x < y.job) : begunP (js ++ [x]) = (begunP js).take k ++ [(⟨x, 1⟩ : LRep)] ++ (begunP js).drop k := by
  have hr := rising_markAll (row := []) List.Pairwise.nil js
  have g1 : ∀ y ∈ (markAll [] js).take k, y < x := fun y hy => by
    have : (⟨y, cntI js y⟩ : LRep) ∈ (begunP js).take k := by
      rw [begunP, ← List.map_take]
      exact List.mem_map.2 ⟨y, hy, rfl⟩
    exact h1 _ this
  have g2 : ∀ y, (markAll [] js)[k]? = some y → x < y := fun y hy => h2 ⟨y, cntI js y⟩ (by rw [begunP_at, hy]; rfl)
  obtain ⟨e1, e2⟩ := takeWhile_of_split (fun y => decide (y < x)) (markAll [] js) k (fun y hy => decide_eq_true (g1 y hy)) (fun y hy => decide_eq_false (by have := g2 y hy; omega))
  have hx : x ∉ markAll [] js := by
    intro hm
    rw [← List.take_append_drop k (markAll [] js)] at hm
    rcases List.mem_append.1 hm with hm | hm
    · have := g1 x hm; omega
    · obtain ⟨i, hi, he⟩ := List.getElem_of_mem hm
      have hi2 : k + i < (markAll [] js).length := by rw [List.length_drop] at hi; omega
      rw [List.getElem_drop] at he
      have hk := g2 _ (List.getElem?_eq_getElem (show k < (markAll [] js).length by omega))
      rcases Nat.eq_zero_or_pos i with h0 | h0
      · subst h0
        simp only [Nat.add_zero] at he
        omega
      · have := List.pairwise_iff_getElem.1 hr k (k + i) (by omega) hi2 (by omega)
        omega
  have hxj : x ∉ js := fun h => hx ((mem_markAll _ _ _).2 (.inl h))
  have hmap : ∀ l : List Int, (∀ y ∈ l, y ≠ x) → l.map (fun j => (⟨j, cntI (js ++ [x]) j⟩ : LRep)) = l.map (fun j => (⟨j, cntI js j⟩ : LRep)) := fun l hl => by
    apply List.map_congr_left
    intro y hy
    rw [← cntI_snoc]
    simp [hl y hy]
  unfold begunP
  rw [markAll_snoc, putR, if_neg hx, e1, e2, List.map_append, List.map_cons, ← List.map_take, ← List.map_drop]
  rw [hmap _ (fun y hy e => hx (e ▸ List.mem_of_mem_take hy)), hmap _ (fun y hy e => hx (e ▸ List.mem_of_mem_drop hy)), ← cntI_snoc]
  simp [cntI_none hxj]

end Go.Proofs.Ytaajlegdcgfcgaa
