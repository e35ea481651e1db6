/-
 PLAIN WORDS: parts of a list, Put as a list, a number of 64 bits.
-/
import Derived.Test.YtcafmodenbifhaaLib
set_option linter.unusedVariables false
set_option linter.unusedSimpArgs false
namespace Go.Proofs.Ytcafmodenbifhaa
open Go.RowKit

theorem take_succ_of {α : Type} (l : List α) (k : Nat) (y : α) (h : l[k]? = some y) : l.take (k + 1) = l.take k ++ [y] := by
 rw [List.take_add_one, h]; rfl
theorem take_all {α : Type} (l : List α) (k n : Nat) (h : l.length = n) (hk : ¬ k < n) : l.take k = l := List.take_of_length_le (by omega)

/-- Put, as a list. -/
def putR (l : List Int) (x : Int) : List Int := if x ∈ l then l else l.takeWhile (· < x) ++ x :: l.dropWhile (· < x)
theorem takeWhile_of_split {α : Type} (p : α → Bool) (l : List α) (k : Nat) (h1 : ∀ y ∈ l.take k, p y = true) (h2 : ∀ y, l[k]? = some y → p y = false) : l.takeWhile p = l.take k ∧ l.dropWhile p = l.drop k := by
 induction l generalizing k with
 | nil => simp
 | cons a r ih =>
  cases k with
  | zero => have := h2 a rfl; simp [List.takeWhile, List.dropWhile, this]
  | succ k =>
   have ha := h1 a (by simp)
   obtain ⟨e1, e2⟩ := ih k (fun y hy => h1 y (by simp [hy])) (fun y hy => h2 y (by simpa using hy))
   simp [List.takeWhile, List.dropWhile, ha, e1, e2]

theorem filter_take_succ {α : Type} (p : α → Bool) (l : List α) (k : Nat) (y : α) (h : l[k]? = some y) : (l.take (k + 1)).filter p = (l.take k).filter p ++ (if p y then [y] else []) := by
 rw [take_succ_of l k y h, List.filter_append]
 cases hp : p y <;> simp [hp]

theorem eq_of_take {α : Type} (l m : List α) (k n : Nat) (hl : l.length = n) (hm : m.length = n) (hk : ¬ k < n) (h : l.take k = m.take k) : l = m := by
 rw [take_all l k n hl hk, take_all m k n hm hk] at h
 exact h

/-- A number of 64 bits. -/
def wf64 (x : Int) : Prop := (Lit.int .i64 x).wf = true
instance (x : Int) : Decidable (wf64 x) := inferInstanceAs (Decidable (_ = true))
theorem wf64_mk {x : Int} (h : -9223372036854775808 ≤ x ∧ x ≤ 9223372036854775807) : wf64 x := WalkArith.wf_i64 h
theorem wf64_bd {x : Int} (h : wf64 x) : -9223372036854775808 ≤ x ∧ x ≤ 9223372036854775807 := by
 simpa [wf64, Lit.wf, IntKind.min, IntKind.max, IntKind.signed, IntKind.bits] using h

end Go.Proofs.Ytcafmodenbifhaa
