/-
 THE MEMORY OF AN OBJECT: S its blocks before a call, S' its blocks behind it: nothing else has changed, what is new in S' is new memory.
-/
import Derived.Test.YtcafmodenbifhaaLib
set_option linter.unusedVariables false
set_option linter.unusedSimpArgs false
namespace Go.Proofs.Ytcafmodenbifhaa
open Go.RowKit

theorem below_dN {B : Nat} {w : World} (n : Nat) : Below B w (w.drewN n) := ⟨rfl, rfl, rfl, Nat.le_refl _, fun _ _ => rfl⟩
structure Turned (S S' : Nat → Prop) (w w' : World) : Prop where
 kept : Kept S w w'
 new : ∀ k, S' k → S k ∨ w.heap.size ≤ k
section
variable {S S' S1 S2 : Nat → Prop} {w w' w1 w2 : World} {B : Nat}
theorem Turned.refl (S : Nat → Prop) (w : World) : Turned S S w w := ⟨Kept.refl _ _, fun _ h => .inl h⟩
theorem Turned.trans (h : Turned S S1 w w1) (k : Turned S1 S2 w1 w2) : Turned S S2 w w2 :=
 ⟨h.kept.trans k.kept (fun i hi h1 => (h.new i h1).resolve_right (by omega)), fun i hi => (k.new i hi).elim (h.new i) (fun hge => .inr (Nat.le_trans h.kept.size hge))⟩
theorem Turned.of_below (hb : Below w.heap.size w w') : Turned S S w w' := ⟨Kept.of_below hb, fun _ h => .inl h⟩
theorem Turned.then_below (h : Turned S S' w w1) (hb : Below w1.heap.size w1 w2) : Turned S S' w w2 := h.trans (.of_below hb)
theorem Turned.after_below (hb : Below w.heap.size w w1) (h : Turned S S' w1 w2) : Turned S S' w w2 := (Turned.of_below hb).trans h
theorem Turned.below (h : Turned S S' w w') (hB : B ≤ w.heap.size) (hS : ∀ k, S k → B ≤ k) : Below B w w' := h.kept.below hB (fun i hi hs => by have := hS i hs; omega)
theorem Turned.ge (h : Turned S S' w w') (hB : B ≤ w.heap.size) (hS : ∀ k, S k → B ≤ k) : ∀ k, S' k → B ≤ k := fun k hk => (h.new k hk).elim (hS k) (fun h => by omega)
theorem Turned.size (h : Turned S S' w w') : w.heap.size ≤ w'.heap.size := h.kept.size
/-- What stands apart stands as it was. -/
theorem Turned.out (h : Turned S S' w w') {k : Nat} (hk : k < w.heap.size) (hn : ¬ S k) : w'.heap[k]? = w.heap[k]? := h.kept.block k hk hn
theorem Turned.apart (h : Turned S S' w w') {Z : Nat → Prop} (hz : ∀ k, Z k → k < w.heap.size) (hd : ∀ k, S k → ¬ Z k) : ∀ k, S' k → ¬ Z k := fun k hk hzk => (h.new k hk).elim (fun hs => hd k hs hzk) (fun hg => by have := hz k hzk; omega)
end

end Go.Proofs.Ytcafmodenbifhaa
