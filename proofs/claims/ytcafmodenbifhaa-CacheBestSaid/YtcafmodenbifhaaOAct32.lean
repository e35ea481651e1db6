/-
  A reevelaw32.Act among what comes in, as data.
-/
import Derived.Test.YtcafmodenbifhaaOpen2
import Derived.Test.YtcafmodenbifhaaTAct32
import Derived.Test.YtcafmodenbifhaaONode
import Derived.Test.YtcafmodenbifhaaORes
set_option linter.unusedVariables false
set_option linter.unusedSimpArgs false
namespace Go.Proofs.Ytcafmodenbifhaa
open Go.ChangeShapes Go.WideShapes Go.ChangeAt Go.RowKit Go.Deep

set_option maxRecDepth 100000 in
theorem open_Act32 {H : Type} {enc : TypeId × Value → H} {w : World} {base : Nat} {spare : Nat → Bool} {held : Bool} (n : Nat) (cs : List Value) (x : DataW H × List MemPlace) (h : DataW.trod enc Try.prog w base spare held n 57 cs = some x) : ∃ a, cs = encAct32 a ∧ wfAct32 a := by
  obtain ⟨xs, m, _, _, hcl, hxl, hf⟩ := DataW.trod_struct Try.underlying57 h
  have hc : Try.prog.cellsOf 57 = 14 := by kernel_rfl
  rw [hc] at hcl
  obtain ⟨a0, e0, w0⟩ := fieldI hf hxl 0 _ rfl Try.underlying3 (by kernel_rfl)
  obtain ⟨y1, hy1⟩ := field_part hf hxl 1 _ rfl 10 (by kernel_rfl)
  obtain ⟨a1, e1, w1⟩ := open_Node _ _ _ hy1
  obtain ⟨y2, hy2⟩ := field_part hf hxl 2 _ rfl 3 (by kernel_rfl)
  obtain ⟨a2, e2, w2⟩ := open_Res _ _ _ hy2
  refine ⟨⟨a0, a1, a2⟩, ?_, w0, w1, w2⟩
  apply List.ext_getElem?
  intro i
  match i with
  | 0 => exact e0
  | 1 => exact (part_at e1 0 (by omega))
  | 2 => exact (part_at e1 1 (by omega))
  | 3 => exact (part_at e1 2 (by omega))
  | 4 => exact (part_at e1 3 (by omega))
  | 5 => exact (part_at e1 4 (by omega))
  | 6 => exact (part_at e1 5 (by omega))
  | 7 => exact (part_at e1 6 (by omega))
  | 8 => exact (part_at e1 7 (by omega))
  | 9 => exact (part_at e1 8 (by omega))
  | 10 => exact (part_at e1 9 (by omega))
  | 11 => exact (part_at e2 0 (by omega))
  | 12 => exact (part_at e2 1 (by omega))
  | 13 => exact (part_at e2 2 (by omega))
  | i + 14 => rw [List.getElem?_eq_none (by omega)]; rfl

end Go.Proofs.Ytcafmodenbifhaa
