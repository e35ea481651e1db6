/-
  A api.Res among what comes in, as data.
-/
import Derived.Test.YtcafmodenbifhaaOpen2
import Derived.Test.YtcafmodenbifhaaTRes
set_option linter.unusedVariables false
set_option linter.unusedSimpArgs false
namespace Go.Proofs.Ytcafmodenbifhaa
open Go.ChangeShapes Go.WideShapes Go.ChangeAt Go.RowKit Go.Deep

set_option maxRecDepth 100000 in
theorem open_Res {H : Type} {enc : TypeId × Value → H} {w : World} {base : Nat} {spare : Nat → Bool} {held : Bool} (n : Nat) (cs : List Value) (x : DataW H × List MemPlace) (h : DataW.trod enc Try.prog w base spare held n 53 cs = some x) : ∃ a, cs = encRes a ∧ wfRes a := by
  obtain ⟨xs, m, _, _, hcl, hxl, hf⟩ := DataW.trod_array Try.underlying53 h
  have hc : Try.prog.cellsOf 53 = 3 := by kernel_rfl
  rw [hc] at hcl
  have hci : Try.prog.cellsOf 3 = 1 := by kernel_rfl
  rw [hci] at hf
  obtain ⟨a0, e0, w0⟩ := elemI hf hxl 0 (by omega) Try.underlying3
  obtain ⟨a1, e1, w1⟩ := elemI hf hxl 1 (by omega) Try.underlying3
  obtain ⟨a2, e2, w2⟩ := elemI hf hxl 2 (by omega) Try.underlying3
  refine ⟨⟨a0, a1, a2⟩, ?_, w0, w1, w2⟩
  apply List.ext_getElem?
  intro i
  match i with
  | 0 => exact e0
  | 1 => exact e1
  | 2 => exact e2
  | i + 3 => rw [List.getElem?_eq_none (by omega)]; rfl

end Go.Proofs.Ytcafmodenbifhaa
