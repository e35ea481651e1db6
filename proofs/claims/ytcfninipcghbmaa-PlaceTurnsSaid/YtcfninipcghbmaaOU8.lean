/-
  A [2]uint8 among what comes in, as data.
-/
import Derived.Test.YtcfninipcghbmaaOpen2
import Derived.Test.YtcfninipcghbmaaTRes
set_option linter.unusedVariables false
set_option linter.unusedSimpArgs false
namespace Go.Proofs.Ytcfninipcghbmaa
open Go.ChangeShapes Go.WideShapes Go.ChangeAt Go.RowKit Go.Deep

section
variable {H : Type} {enc : TypeId × Value → H} {P : Program} {w : World} {base : Nat} {spare : Nat → Bool} {held : Bool} {cs : List Value} {xs : List (DataW H × List MemPlace)} {n : Nat}
theorem elemU {e N : Nat} (hf : ∀ i, i < N → DataW.trod enc P w base spare held n e ((cs.drop (i * 1)).take 1) = xs[i]?) (hxl : xs.length = N) (i : Nat) (hi : i < N) (hk : P.underlying e = some (.int .u8)) : ∃ a : Nat, cs[i]? = some (.int .u8 (a : Int)) ∧ a < 256 := by
  have h := hf i hi
  rw [List.getElem?_eq_getElem (by omega)] at h
  obtain ⟨a, hcs, _, hw⟩ := DataW.trod_int hk h
  have hb := Go.bounds_u8 hw
  refine ⟨a.toNat, ?_, by omega⟩
  have : ((cs.drop (i * 1)).take 1)[0]? = some (.int .u8 a) := by rw [hcs]; rfl
  rw [show ((a.toNat : Nat) : Int) = a by omega]
  simpa [List.getElem?_take, List.getElem?_drop] using this
end
set_option maxRecDepth 100000 in
theorem open_U8x2 {H : Type} {enc : TypeId × Value → H} {w : World} {base : Nat} {spare : Nat → Bool} {held : Bool} (n : Nat) (cs : List Value) (x : DataW H × List MemPlace) (h : DataW.trod enc Try.prog w base spare held n 34 cs = some x) : ∃ p q : Nat, cs = [.int .u8 (p : Int), .int .u8 (q : Int)] ∧ p < 256 ∧ q < 256 := by
  obtain ⟨xs, m, _, _, hcl, hxl, hf⟩ := DataW.trod_array Try.underlying34 h
  have hc : Try.prog.cellsOf 34 = 2 := by kernel_rfl
  rw [hc] at hcl
  have hci : Try.prog.cellsOf 5 = 1 := by kernel_rfl
  rw [hci] at hf
  obtain ⟨a0, e0, w0⟩ := elemU hf hxl 0 (by omega) Try.underlying5
  obtain ⟨a1, e1, w1⟩ := elemU hf hxl 1 (by omega) Try.underlying5
  refine ⟨a0, a1, ?_, w0, w1⟩
  apply List.ext_getElem?
  intro i
  match i with
  | 0 => exact e0
  | 1 => exact e1
  | i + 2 => rw [List.getElem?_eq_none (by omega)]; rfl
end Go.Proofs.Ytcfninipcghbmaa
