/-
  A reevelaw30.Act among what comes in, as data.
-/
import Derived.Test.YthhnocnkicoimaaOpen2
import Derived.Test.YthhnocnkicoimaaTAct30
import Derived.Test.YthhnocnkicoimaaORes
set_option linter.unusedVariables false
set_option linter.unusedSimpArgs false
namespace Go.Proofs.Ythhnocnkicoimaa
open Go.ChangeShapes Go.WideShapes Go.ChangeAt Go.RowKit Go.Deep

set_option maxRecDepth 100000 in
theorem open_Act30 {H : Type} {enc : TypeId × Value → H} {w : World} {base : Nat} {spare : Nat → Bool} {held : Bool} (n : Nat) (cs : List Value) (x : DataW H × List MemPlace) (h : DataW.trod enc Try.prog w base spare held n 38 cs = some x) : ∃ a, cs = encAct30 a ∧ wfAct30 a := by
  obtain ⟨xs, m, _, _, hcl, hxl, hf⟩ := DataW.trod_struct Try.underlying38 h
  have hc : Try.prog.cellsOf 38 = 5 := by kernel_rfl
  rw [hc] at hcl
  obtain ⟨a0, e0, w0⟩ := fieldI hf hxl 0 _ rfl Try.underlying3 (by kernel_rfl)
  obtain ⟨a1, e1, w1⟩ := fieldI hf hxl 1 _ rfl Try.underlying3 (by kernel_rfl)
  obtain ⟨y2, hy2⟩ := field_part hf hxl 2 _ rfl 3 (by kernel_rfl)
  obtain ⟨a2, e2, w2⟩ := open_Res _ _ _ hy2
  refine ⟨⟨a0, a1, a2⟩, ?_, w0, w1, w2⟩
  apply List.ext_getElem?
  intro i
  match i with
  | 0 => exact e0
  | 1 => exact e1
  | 2 => exact (part_at e2 0 (by omega))
  | 3 => exact (part_at e2 1 (by omega))
  | 4 => exact (part_at e2 2 (by omega))
  | i + 5 => rw [List.getElem?_eq_none (by omega)]; rfl

end Go.Proofs.Ythhnocnkicoimaa
