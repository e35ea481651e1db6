/-
  THE PLAIN LAW OF A STABLE SORT, further: a pass over blocks.
-/
import Derived.Test.YtcfninipcghbmaaStabP
set_option linter.unusedVariables false
set_option linter.unusedSimpArgs false
namespace Go.Proofs.Ytcfninipcghbmaa
section
variable {α : Type} {lt : α → α → Bool}
/-- A pass over blocks of k: the first c are sorted; behind them the row is as the pass found it (b). -/
structure Pass (lt : α → α → Bool) (k c : Nat) (o b l : List α) : Prop where
  len : l.length = o.length
  blen : b.length = o.length
  done : ∀ i, i < c → (l.drop (i * k)).take k = ssort lt ((o.drop (i * k)).take k)
  rest : l.drop (c * k) = b.drop (c * k)
theorem Pass.start {k : Nat} {o b : List α} (h : b.length = o.length) : Pass lt k 0 o b b := ⟨h, h, fun i hi => by omega, rfl⟩
theorem Pass.step {k c : Nat} {o b l : List α} (h : Pass lt k c o b l) (hc : c * k ≤ o.length) : Pass lt k (c + 1) o b (l.take (c * k) ++ (ssort lt ((o.drop (c * k)).take k) ++ b.drop (c * k + k))) := by
  have hz : (ssort lt ((o.drop (c * k)).take k)).length = min k (o.length - c * k) := by rw [length_ssort, List.length_take, List.length_drop]
  have ht : (l.take (c * k)).length = c * k := by rw [List.length_take, h.len]; omega
  have hk : (c + 1) * k = c * k + k := by rw [Nat.add_mul, Nat.one_mul]
  refine ⟨?_, h.blen, fun i hi => ?_, ?_⟩
  · rw [List.length_append, List.length_append, ht, hz, List.length_drop, h.blen]; omega
  · rcases Nat.lt_or_ge i c with hic | hic
    · rw [← h.done i hic]
      have h1 : i * k + k ≤ c * k := by
        have := Nat.mul_le_mul_right k (show i + 1 ≤ c from hic)
        rwa [Nat.add_mul, Nat.one_mul] at this
      rw [List.drop_append_of_le_length (by rw [ht]; omega), List.take_append_of_le_length (by rw [List.length_drop, ht]; omega), List.drop_take, List.take_take]
      congr 1
      omega
    · obtain rfl : i = c := by omega
      rw [List.drop_append_of_le_length (by rw [ht]; exact Nat.le_refl _), List.drop_of_length_le (by rw [ht]; exact Nat.le_refl _), List.nil_append]
      by_cases hf : i * k + k ≤ o.length
      · rw [List.take_append_of_le_length (by rw [hz]; omega), List.take_of_length_le (by rw [hz]; omega)]
      · rw [List.drop_of_length_le (l := b) (by rw [h.blen]; omega), List.append_nil, List.take_of_length_le (by rw [hz]; omega)]
  · rw [hk, List.drop_append, List.drop_of_length_le (by rw [ht]; omega), List.nil_append, ht, show c * k + k - c * k = k by omega]
    by_cases hf : c * k + k ≤ o.length
    · rw [List.drop_append, List.drop_of_length_le (by rw [hz]; omega), List.nil_append, hz, show k - min k (o.length - c * k) = 0 by omega, List.drop_zero]
    · rw [List.drop_of_length_le (l := b) (by rw [h.blen]; omega), List.append_nil, List.drop_of_length_le (by rw [hz]; omega)]
theorem Pass.finish {k c : Nat} {o b l : List α} (h : Pass lt k c o b l) (hc : o.length ≤ c * k) : SB lt k o l := by
  refine ⟨h.len, fun i => ?_⟩
  rcases Nat.lt_or_ge i c with hic | hic
  · exact h.done i hic
  · have h1 : c * k ≤ i * k := Nat.mul_le_mul_right k hic
    rw [List.drop_of_length_le (by rw [h.len]; omega), List.drop_of_length_le (by omega)]
    simp [ssort]
end
end Go.Proofs.Ytcfninipcghbmaa
