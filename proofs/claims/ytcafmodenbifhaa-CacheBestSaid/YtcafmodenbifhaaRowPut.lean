/-
  A row of the call's own: an element is laid anew, whole.
-/
import Derived.Test.YtcafmodenbifhaaLib
import Derived.Deep.MidRow
set_option linter.unusedVariables false
set_option linter.unusedSimpArgs false
namespace Go.Proofs.Ytcafmodenbifhaa
open Go.RowKit

theorem Blk.setCells {g : Nat} {t : TypeId} : ∀ (vs : List Value) (o : Nat) {w : World} {cs : Array Value}, Blk w g t cs → o + vs.length ≤ cs.size →
    ∃ cs', Blk (w.setCells g o vs) g t cs' ∧ cs'.toList = cs.toList.take o ++ vs ++ cs.toList.drop (o + vs.length)
  | [], o, w, cs, h, _ => ⟨cs, h, by simp⟩
  | v :: r, o, w, cs, h, hl => by
    simp only [List.length_cons] at hl
    obtain ⟨cs', h1, h2⟩ := Blk.setCells r (o + 1) (h.set_ o v) (by simp; omega)
    refine ⟨cs', h1, ?_⟩
    rw [h2, Array.toList_setIfInBounds]
    have ho : o < cs.toList.length := by simp; omega
    rw [List.take_set, List.drop_set_of_lt (by omega), List.take_add_one, List.getElem?_eq_getElem ho]
    have e : (List.take o cs.toList ++ (some cs.toList[o]).toList).set o v = List.take o cs.toList ++ [v] := by
      have hl : (List.take o cs.toList).length = o := by rw [List.length_take]; omega
      rw [List.set_append_right _ _ (by omega), hl, Nat.sub_self]
      rfl
    rw [e, List.length_cons, show o + 1 + r.length = o + (r.length + 1) by omega]
    simp
theorem Kept.setCells (b : Nat) : ∀ (vs : List Value) (o : Nat) (w : World), Kept (fun k => k = b) w (w.setCells b o vs) ∧ (w.setCells b o vs).heap.size = w.heap.size
  | [], o, w => ⟨Kept.refl _ _, rfl⟩
  | v :: r, o, w => by
    obtain ⟨h1, h2⟩ := Kept.setCells b r (o + 1) (w.setCell ⟨b, o, none⟩ v)
    have h0 : Kept (fun k => k = b) w (w.setCell ⟨b, o, none⟩ v) := Kept.setCell (F := fun k => k = b) (p := ⟨b, o, none⟩) (Kept.refl _ w) (fun _ => rfl) v
    have hs : (w.setCell ⟨b, o, none⟩ v).heap.size = w.heap.size := by simp [World.setCell]
    exact ⟨h0.trans h1 (fun _ _ h => h), h2.trans hs⟩
theorem flatMap_set {α : Type} {enc : α → List Value} {sz : Nat} (henc : ∀ x, (enc x).length = sz) : ∀ (l : List α) (i : Nat) (x : α), i < l.length →
    (l.set i x).flatMap enc = (l.flatMap enc).take (i * sz) ++ enc x ++ (l.flatMap enc).drop (i * sz + sz)
  | [], i, x, h => by simp at h
  | y :: l, 0, x, _ => by
    simp only [List.set_cons_zero, List.flatMap_cons, Nat.zero_mul, List.take_zero, List.nil_append, Nat.zero_add]
    rw [List.drop_append_of_le_length (by rw [henc]; exact Nat.le_refl _), List.drop_eq_nil_of_le (by rw [henc]; exact Nat.le_refl _)]
    simp
  | y :: l, i + 1, x, h => by
    simp only [List.length_cons] at h
    have ih := flatMap_set henc l i x (by omega)
    simp only [List.set_cons_succ, List.flatMap_cons, ih]
    have e1 : (i + 1) * sz = (enc y).length + i * sz := by rw [henc, Nat.add_mul, Nat.one_mul, Nat.add_comm]
    have e2 : (i + 1) * sz + sz = (enc y).length + (i * sz + sz) := by rw [e1, Nat.add_assoc]
    rw [e2, e1, List.take_append, List.drop_append]
    have t1 : List.take ((enc y).length + i * sz) (enc y) = enc y := List.take_of_length_le (by omega)
    have t2 : List.drop ((enc y).length + (i * sz + sz)) (enc y) = [] := List.drop_eq_nil_of_le (by omega)
    rw [t1, t2]
    simp
section
variable {α : Type} {enc : α → List Value} {e : TypeId} {sz : Nat} {w : World} {base : Nat} {A : Option Addr} {n c : Nat} {l : List α}
theorem OwnL.put (h : OwnL enc e sz w base A n c l) (henc : ∀ x, (enc x).length = sz) {i : Nat} (hi : i < n) (x : α) :
    ∃ b, A = some ⟨b, 0, none⟩ ∧ base ≤ b ∧ w.there b (i * sz) sz ∧ OwnL enc e sz (w.setCells b (i * sz) (enc x)) base A n c (l.set i x) ∧ Kept (fun k => k = b) w (w.setCells b (i * sz) (enc x)) ∧ (w.setCells b (i * sz) (enc x)).heap.size = w.heap.size := by
  obtain ⟨hlen, h2⟩ := h.own
  rcases h2 with ⟨_, h0⟩ | ⟨g, cap, cur, hv, hg, hb, hc, hm, hs, ht⟩
  · omega
  · cases hv
    have hmul : i * sz + sz ≤ n * sz := by
      have : (i + 1) * sz ≤ n * sz := Nat.mul_le_mul_right _ hi
      rw [Nat.add_mul, Nat.one_mul] at this
      exact this
    have hcap : n * sz ≤ c * sz := Nat.mul_le_mul_right _ hc
    obtain ⟨cs', h3, h4⟩ := Blk.setCells (enc x) (i * sz) (show Blk w g e cur from hb) (by rw [henc]; omega)
    obtain ⟨h5, h6⟩ := Kept.setCells g (enc x) (i * sz) w
    refine ⟨g, rfl, hg, fun j hj => ?_, ⟨⟨?_, .inr ⟨g, c, cs', rfl, hg, h3, hc, hm, ?_, ?_⟩⟩, by rw [List.length_set]; exact h.len⟩, h5, h6⟩
    · rw [Blk.cell (show Blk w g e cur from hb) (i * sz + j), Array.getElem?_eq_getElem (by omega)]
      exact ⟨rfl, Blk.frozen (show Blk w g e cur from hb) _⟩
    · rw [flatMap_set henc l i x (by rw [h.len]; exact hi)]
      simp only [List.length_append, List.length_take, List.length_drop, henc, hlen]
      omega
    · have : cs'.toList.length = cur.toList.length := by
        rw [h4]
        simp only [List.length_append, List.length_take, List.length_drop, henc, Array.length_toList]
        omega
      simpa [hs] using this
    · rw [flatMap_set henc l i x (by rw [h.len]; exact hi), ← ht, h4, henc]
      have hA : (List.take (i * sz) cur.toList).length = i * sz := by rw [List.length_take, Array.length_toList]; omega
      have e1 : List.take (n * sz) (List.take (i * sz) cur.toList ++ (enc x ++ List.drop (i * sz + sz) cur.toList)) = List.take (i * sz) cur.toList ++ (enc x ++ List.take (n * sz - (i * sz + sz)) (List.drop (i * sz + sz) cur.toList)) := by
        rw [List.take_append, hA, List.take_append, henc, List.take_of_length_le (l := List.take (i * sz) cur.toList) (by omega), List.take_of_length_le (l := enc x) (by rw [henc]; omega), Nat.sub_sub]
      rw [List.append_assoc, e1, List.take_take, Nat.min_eq_left (by omega), List.drop_take, List.append_assoc]
end
end Go.Proofs.Ytcafmodenbifhaa
