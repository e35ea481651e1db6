/-
  INSERTION INTO A RISING ROW: the plain law.
-/
import Derived.Test.YthhnocnkicoimaaSetL
set_option linter.unusedVariables false
set_option linter.unusedSimpArgs false
namespace Go.Proofs.Ythhnocnkicoimaa
open Go.RowKit Go.Maps

theorem split_at {α : Type} {l : List α} {k : Nat} {x : α} (h : l[k]? = some x) : l = l.take k ++ x :: l.drop (k + 1) := by
  obtain ⟨hlt, he⟩ := List.getElem?_eq_some_iff.1 h
  have e := List.take_append_drop k l
  rw [List.drop_eq_getElem_cons hlt, he] at e
  exact e.symm
theorem rising_notin {M : List Int} (hr : Rising M) {x : Int} {k : Nat} (h1 : ∀ y ∈ M.take k, y < x) (h2 : ∀ y, M[k]? = some y → x < y) : x ∉ M := by
  intro hm
  obtain ⟨i, hi, he⟩ := List.getElem_of_mem hm
  by_cases hik : i < k
  · have : x ∈ M.take k := List.mem_iff_getElem.2 ⟨i, by rw [List.length_take]; omega, by rw [List.getElem_take]; exact he⟩
    have := h1 x this
    omega
  · have hk := h2 _ (List.getElem?_eq_getElem (show k < M.length by omega))
    rcases Nat.lt_or_ge k i with h0 | h0
    · have := List.pairwise_iff_getElem.1 hr k i (by omega) hi h0
      omega
    · obtain rfl : i = k := by omega
      omega
theorem putR_at {M : List Int} (hr : Rising M) {x : Int} {k : Nat} (h1 : ∀ y ∈ M.take k, y < x) (h2 : ∀ y, M[k]? = some y → x < y) : putR M x = M.take k ++ x :: M.drop k := by
  obtain ⟨e1, e2⟩ := takeWhile_of_split (fun y => decide (y < x)) M k (fun y hy => decide_eq_true (h1 y hy)) (fun y hy => decide_eq_false (by have := h2 y hy; omega))
  rw [putR, if_neg (rising_notin hr h1 h2), e1, e2]
theorem ins_hit {β : Type} {M : List Int} (hr : Rising M) {x : Int} {f g : Int → β} {b : β} (hg : ∀ y, y ≠ x → g y = f y) (hgx : g x = b) {k : Nat} (hk : M[k]? = some x) : M.map g = (M.map f).take k ++ b :: (M.map f).drop (k + 1) := by
  have e := split_at hk
  have hn := rising_nodup hr
  rw [e, List.nodup_append] at hn
  obtain ⟨_, h2, h3⟩ := hn
  obtain ⟨h4, _⟩ := List.nodup_cons.1 h2
  conv => lhs; rw [e]
  rw [List.map_append, List.map_cons, hgx, ← List.map_take, ← List.map_drop]
  congr 1
  · exact List.map_congr_left fun y hy => hg y fun e' => h3 y hy x List.mem_cons_self e'
  · congr 1
    exact List.map_congr_left fun y hy => hg y fun e' => h4 (e' ▸ hy)
theorem ins_miss {β : Type} {M : List Int} (hr : Rising M) {x : Int} {f g : Int → β} {b : β} (hg : ∀ y, y ≠ x → g y = f y) (hgx : g x = b) {k : Nat} (h1 : ∀ y ∈ M.take k, y < x) (h2 : ∀ y, M[k]? = some y → x < y) : (putR M x).map g = (M.map f).take k ++ b :: (M.map f).drop k := by
  have hx := rising_notin hr h1 h2
  rw [putR_at hr h1 h2, List.map_append, List.map_cons, hgx, ← List.map_take, ← List.map_drop]
  congr 1
  · exact List.map_congr_left fun y hy => hg y fun e' => hx (e' ▸ List.mem_of_mem_take hy)
  · congr 1
    exact List.map_congr_left fun y hy => hg y fun e' => hx (e' ▸ List.mem_of_mem_drop hy)

end Go.Proofs.Ythhnocnkicoimaa
