/-
  A api.Node among what comes in, as data.
-/
import Derived.Test.YtcafmodenbifhaaOpen2
import Derived.Test.YtcafmodenbifhaaTNode
import Derived.Test.YtcafmodenbifhaaORes
set_option linter.unusedVariables false
set_option linter.unusedSimpArgs false
namespace Go.Proofs.Ytcafmodenbifhaa
open Go.ChangeShapes Go.WideShapes Go.ChangeAt Go.RowKit Go.Deep

set_option maxRecDepth 100000 in
theorem open_Node {H : Type} {enc : TypeId × Value → H} {w : World} {base : Nat} {spare : Nat → Bool} {held : Bool} (n : Nat) (cs : List Value) (x : DataW H × List MemPlace) (h : DataW.trod enc Try.prog w base spare held n 55 cs = some x) : ∃ a, cs = encNode a ∧ wfNode a := by
  obtain ⟨xs, m, _, _, hcl, hxl, hf⟩ := DataW.trod_struct Try.underlying55 h
  have hc : Try.prog.cellsOf 55 = 10 := by kernel_rfl
  rw [hc] at hcl
  obtain ⟨a0, e0, w0⟩ := fieldI hf hxl 0 _ rfl Try.underlying3 (by kernel_rfl)
  obtain ⟨a1, e1, w1⟩ := fieldI hf hxl 1 _ rfl Try.underlying3 (by kernel_rfl)
  obtain ⟨a2, e2, w2⟩ := fieldI hf hxl 2 _ rfl Try.underlying3 (by kernel_rfl)
  obtain ⟨y3, hy3⟩ := field_part hf hxl 3 _ rfl 3 (by kernel_rfl)
  obtain ⟨a3, e3, w3⟩ := open_Res _ _ _ hy3
  obtain ⟨y4, hy4⟩ := field_part hf hxl 4 _ rfl 3 (by kernel_rfl)
  obtain ⟨a4, e4, w4⟩ := open_Res _ _ _ hy4
  obtain ⟨a5, e5⟩ := fieldB hf hxl 5 _ rfl Try.underlying4 (by kernel_rfl)
  refine ⟨⟨a0, a1, a2, a3, a4, a5⟩, ?_, w0, w1, w2, w3, w4⟩
  apply List.ext_getElem?
  intro i
  match i with
  | 0 => exact e0
  | 1 => exact e1
  | 2 => exact e2
  | 3 => exact (part_at e3 0 (by omega))
  | 4 => exact (part_at e3 1 (by omega))
  | 5 => exact (part_at e3 2 (by omega))
  | 6 => exact (part_at e4 0 (by omega))
  | 7 => exact (part_at e4 1 (by omega))
  | 8 => exact (part_at e4 2 (by omega))
  | 9 => exact e5
  | i + 10 => rw [List.getElem?_eq_none (by omega)]; rfl

end Go.Proofs.Ytcafmodenbifhaa
