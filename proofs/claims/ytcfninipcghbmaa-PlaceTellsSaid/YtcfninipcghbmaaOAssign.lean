/-
  A api.Assign among what comes in, as data.
-/
import Derived.Test.YtcfninipcghbmaaOpen2
import Derived.Test.YtcfninipcghbmaaTAssign
set_option linter.unusedVariables false
set_option linter.unusedSimpArgs false
namespace Go.Proofs.Ytcfninipcghbmaa
open Go.ChangeShapes Go.WideShapes Go.ChangeAt Go.RowKit Go.Deep

set_option maxRecDepth 100000 in
theorem open_Assign {H : Type} {enc : TypeId × Value → H} {w : World} {base : Nat} {spare : Nat → Bool} {held : Bool} (n : Nat) (cs : List Value) (x : DataW H × List MemPlace) (h : DataW.trod enc Try.prog w base spare held n 112 cs = some x) : ∃ a, cs = encAssign a ∧ wfAssign a := by
  obtain ⟨xs, m, _, _, hcl, hxl, hf⟩ := DataW.trod_struct Try.underlying112 h
  have hc : Try.prog.cellsOf 112 = 2 := by kernel_rfl
  rw [hc] at hcl
  obtain ⟨a0, e0, w0⟩ := fieldI hf hxl 0 _ rfl Try.underlying3 (by kernel_rfl)
  obtain ⟨a1, e1, w1⟩ := fieldI hf hxl 1 _ rfl Try.underlying3 (by kernel_rfl)
  refine ⟨⟨a0, a1⟩, ?_, w0, w1⟩
  apply List.ext_getElem?
  intro i
  match i with
  | 0 => exact e0
  | 1 => exact e1
  | i + 2 => rw [List.getElem?_eq_none (by omega)]; rfl

end Go.Proofs.Ytcfninipcghbmaa
