/-
  A ROW OF THE CALL'S OWN, sorted or stored into: it is the call's own still.
-/
import Derived.Test.YtcfninipcghbmaaStabW
set_option linter.unusedVariables false
set_option linter.unusedSimpArgs false
namespace Go.Proofs.Ytcfninipcghbmaa
open Go.Shelf Go.RowKit Go.Sort

section
variable {α : Type} [Inhabited α] {enc : α → List Value} {k : Nat} {w0 W : World} {l l0 : List α} {e base g n c : Nat}
theorem SWB.own (hO : OwnL enc e k w0 base (some ⟨g, 0, none⟩) n c l0) (R : RowL enc k w0 g 0 l0) (h : SWB enc k w0 g 0 l W) (hs : l.length = l0.length) : OwnL enc e k W base (some ⟨g, 0, none⟩) n c l := by
  have hcells : ∀ i x, l[i]? = some x → ∀ j v, (enc x)[j]? = some v → W.cell? ⟨g, i * k + j, none⟩ = some v := fun i x hx j v hv => by
    have := (h.cells R hs hx).1 j v hv
    rwa [Nat.zero_add] at this
  have hl := hO.len
  rcases hO.own.2 with ⟨hv, _⟩ | ⟨g', cap, cur, hv, hg, hh, h1, h2, h3, h4⟩
  · cases hv
  · injection hv with hA hn hc
    injection hA with hA
    injection hA with hA
    subst hA
    have hsh : ∃ cur' : Array Value, W.heap[g]? = some (.cells cur' e (0, 0)) ∧ cur'.size = cur.size := by
      obtain ⟨d, m, os, rfl⟩ := h
      refine ⟨putCells id 0 (flatK enc k l.toArray) cur, ?_, by simp [putCells]⟩
      unfold sortWorldK putRowK putRow mapBlock grow
      show (_ ++ os)[g]? = _
      rw [Array.getElem?_append_left (by rw [Array.size_modify]; exact R.hblk), Array.getElem?_modify, if_pos rfl]
      show Option.map _ (w0.heap[g]?) = _
      rw [hh]
      rfl
    obtain ⟨cur', hh', hsz⟩ := hsh
    have hfl : (l.flatMap enc).length = n * k := by rw [flatMap_len R.hk, hs, hl]
    refine ⟨⟨hfl, .inr ⟨g, cap, cur', by rw [hc], hg, hh', h1, h2, by rw [hsz]; exact h3, ?_⟩⟩, by rw [hs, hl]⟩
    have hnk : n * k ≤ cur'.size := by rw [hsz, h3]; exact Nat.mul_le_mul_right k h1
    apply List.ext_getElem?
    intro t
    rcases Nat.lt_or_ge t (n * k) with ht | ht
    · have k0 : 0 < k := by rcases Nat.eq_zero_or_pos k with q | q; (subst q; simp at ht); exact q
      have hi : t / k < l.length := by rw [hs, hl]; exact (Nat.div_lt_iff_lt_mul k0).2 ht
      have hm : t % k < k := Nat.mod_lt _ k0
      have hx := List.getElem?_eq_getElem hi
      have hj : (enc l[t / k])[t % k]? = some ((enc l[t / k])[t % k]'(by rw [R.hk]; exact hm)) := List.getElem?_eq_getElem _
      have hc1 := hcells _ _ hx _ _ hj
      have e1 : t / k * k + t % k = t := by rw [Nat.mul_comm]; exact Nat.div_add_mod t k
      rw [e1, cell_of_row _ _ _ _ _ _ hh'] at hc1
      rw [List.getElem?_take, if_pos ht, Array.getElem?_toList, hc1]
      have hf : ∀ (r : List α) (i j : Nat) (x : α), r[i]? = some x → j < k → (r.flatMap enc)[i * k + j]? = (enc x)[j]? := by
        intro r
        induction r with
        | nil => intro i j x h; simp at h
        | cons y r ih =>
          intro i j x h hj
          rw [List.flatMap_cons]
          cases i with
          | zero => simp at h; subst h; rw [Nat.zero_mul, Nat.zero_add, List.getElem?_append_left (by rw [R.hk]; exact hj)]
          | succ i => rw [List.getElem?_append_right (by rw [R.hk, Nat.add_mul]; omega), R.hk, show (i + 1) * k + j - k = i * k + j by rw [Nat.add_mul]; omega]; exact ih i j x (by simpa using h) hj
      have := hf l (t / k) (t % k) _ hx hm
      rw [e1, hj] at this
      exact this.symm
    · rw [List.getElem?_eq_none (by rw [List.length_take]; omega), List.getElem?_eq_none (by rw [hfl]; exact ht)]
end
end Go.Proofs.Ytcfninipcghbmaa
