/-
  A reevelaw41.Act among what comes in, as data.
-/
import Derived.Test.YthhnocnkicoimaaDoorOpen2
import Derived.Test.YthhnocnkicoimaaDoorTAct41
import Derived.Test.YthhnocnkicoimaaDoorOMsg
set_option linter.unusedVariables false
set_option linter.unusedSimpArgs false
namespace Go.Proofs.YthhnocnkicoimaaDoor
open Go.ChangeShapes Go.WideShapes Go.ChangeAt Go.RowKit Go.Deep

set_option maxRecDepth 100000 in
theorem open_Act41 {H : Type} {enc : TypeId × Value → H} {w : World} {base : Nat} {spare : Nat → Bool} {held : Bool} (n : Nat) (cs : List Value) (x : DataW H × List MemPlace) (h : DataW.trod enc Tryd.prog w base spare held n 40 cs = some x) : ∃ a, cs = encAct41 a ∧ wfAct41 a := by
  obtain ⟨xs, m, _, _, hcl, hxl, hf⟩ := DataW.trod_struct Tryd.underlying40 h
  have hc : Tryd.prog.cellsOf 40 = 13 := by kernel_rfl
  rw [hc] at hcl
  obtain ⟨a0, e0, w0⟩ := fieldI hf hxl 0 _ rfl Tryd.underlying3 (by kernel_rfl)
  obtain ⟨y1, hy1⟩ := field_part hf hxl 1 _ rfl 12 (by kernel_rfl)
  obtain ⟨a1, e1, w1⟩ := open_Msg _ _ _ hy1
  refine ⟨⟨a0, a1⟩, ?_, w0, w1⟩
  apply List.ext_getElem?
  intro i
  match i with
  | 0 => exact e0
  | 1 => exact (part_at e1 0 (by omega))
  | 2 => exact (part_at e1 1 (by omega))
  | 3 => exact (part_at e1 2 (by omega))
  | 4 => exact (part_at e1 3 (by omega))
  | 5 => exact (part_at e1 4 (by omega))
  | 6 => exact (part_at e1 5 (by omega))
  | 7 => exact (part_at e1 6 (by omega))
  | 8 => exact (part_at e1 7 (by omega))
  | 9 => exact (part_at e1 8 (by omega))
  | 10 => exact (part_at e1 9 (by omega))
  | 11 => exact (part_at e1 10 (by omega))
  | 12 => exact (part_at e1 11 (by omega))
  | i + 13 => rw [List.getElem?_eq_none (by omega)]; rfl

end Go.Proofs.YthhnocnkicoimaaDoor
