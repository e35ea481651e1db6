/-
  LAYER 45: the plain law of Ends.
-/
import Derived.Test.YtaajlegdcgfcgaaLedger9
import Derived.Test.YtaajlegdcgfcgaaIns
set_option linter.unusedVariables false
set_option linter.unusedSimpArgs false
namespace Go.Proofs.Ytaajlegdcgfcgaa
open Go.RowKit Go.Maps

theorem lastR_place (l : List LRow) (p : Int) (h : p ∈ l.map (·.place)) : (lastR l p).place = p := by
  have key : ∀ (l : List LRow) (a : LRow), (a.place = p ∨ p ∈ l.map (·.place)) → (l.foldl (fun a r => if r.place = p then r else a) a).place = p := by
    intro l
    induction l with
    | nil => intro a h; simpa using h
    | cons r l ih =>
      intro a h
      rw [List.foldl_cons]
      apply ih
      by_cases e : r.place = p
      · left; rw [if_pos e]; exact e
      · rw [if_neg e]
        rcases h with h | h
        · exact .inl h
        · rw [List.map_cons, List.mem_cons] at h
          exact h.elim (fun h => absurd h.symm e) .inr
  exact key l rowZ (.inr h)
theorem endsP_mem (l : List LRow) (y : LRow) (h : y ∈ endsP l) : y.place ∈ markAll [] (l.map (·.place)) ∧ lastR l y.place = y := by
  obtain ⟨p, hp, rfl⟩ := List.mem_map.1 h
  have := lastR_place l p (((mem_markAll _ _ _).1 hp).resolve_right (by simp))
  rw [this]
  exact ⟨hp, rfl⟩
theorem endsP_at (l : List LRow) (k : Nat) (y : LRow) (h : (endsP l)[k]? = some y) : (markAll [] (l.map (·.place)))[k]? = some y.place := by
  unfold endsP at h
  rw [List.getElem?_map] at h
  obtain ⟨p, hp, rfl⟩ := Option.map_eq_some_iff.1 h
  rw [lastR_place l p (((mem_markAll _ _ _).1 (List.mem_of_getElem? hp)).resolve_right (by simp))]
  exact hp
theorem endsP_len (l : List LRow) : (endsP l).length = (markAll [] (l.map (·.place))).length := by simp [endsP]
theorem endsP_take (l : List LRow) (k : Nat) (x : Int) (h : ∀ y ∈ (endsP l).take k, y.place < x) : ∀ q ∈ (markAll [] (l.map (·.place))).take k, q < x := by
  intro q hq
  obtain ⟨i, hi, rfl⟩ := List.getElem_of_mem hq
  rw [List.length_take] at hi
  have hi2 : i < (endsP l).length := by rw [endsP_len]; omega
  have h1 := endsP_at l i _ (List.getElem?_eq_getElem hi2)
  have h2 := h (endsP l)[i] (List.mem_iff_getElem.2 ⟨i, by rw [List.length_take]; omega, by rw [List.getElem_take]⟩)
  rw [List.getElem?_eq_getElem (by omega)] at h1
  rw [List.getElem_take]
  rw [Option.some.inj h1]
  exact h2
theorem endsP_snoc_row (l : List LRow) (r : LRow) : markAll [] ((l ++ [r]).map (·.place)) = putR (markAll [] (l.map (·.place))) r.place := by simp [markAll, List.foldl_append]
theorem endsP_hit (l : List LRow) (r y : LRow) (k : Nat) (hk : (endsP l)[k]? = some y) (hy : y.place = r.place) : endsP (l ++ [r]) = (endsP l).take k ++ r :: (endsP l).drop (k + 1) := by
  have hr := rising_markAll (row := []) List.Pairwise.nil (l.map (·.place))
  have h1 := endsP_at l k y hk
  rw [hy] at h1
  have hm : r.place ∈ markAll [] (l.map (·.place)) := List.mem_of_getElem? h1
  unfold endsP
  rw [endsP_snoc_row, putR, if_pos hm]
  exact ins_hit hr (f := lastR l) (fun q hq => by rw [lastR_snoc, if_neg (fun e => hq e.symm)]) (by rw [lastR_snoc, if_pos rfl]) h1
theorem endsP_miss (l : List LRow) (r : LRow) (k : Nat) (h1 : ∀ y ∈ (endsP l).take k, y.place < r.place) (h2 : ∀ y, (endsP l)[k]? = some y → r.place < y.place) : endsP (l ++ [r]) = (endsP l).take k ++ r :: (endsP l).drop k := by
  have hr := rising_markAll (row := []) List.Pairwise.nil (l.map (·.place))
  unfold endsP
  rw [endsP_snoc_row]
  refine ins_miss hr (f := lastR l) (fun q hq => by rw [lastR_snoc, if_neg (fun e => hq e.symm)]) (by rw [lastR_snoc, if_pos rfl]) (endsP_take l k _ h1) fun q hq => ?_
  have hk : k < (endsP l).length := by rw [endsP_len]; exact (List.getElem?_eq_some_iff.1 hq).1
  have h3 := endsP_at l k _ (List.getElem?_eq_getElem hk)
  rw [hq] at h3
  have := h2 _ (List.getElem?_eq_getElem hk)
  rw [Option.some.inj h3]
  exact this

end Go.Proofs.Ytaajlegdcgfcgaa
