/-
 A api.Res among what comes in, as data.
 A api.Msg among what comes in, as data.
-/
import Derived.Test.YthhnocnkicoimaaDoorOpen2
import Derived.Test.YthhnocnkicoimaaDoorTRes
import Derived.Test.YthhnocnkicoimaaDoorTMsg
set_option linter.unusedVariables false
set_option linter.unusedSimpArgs false
namespace Go.Proofs.YthhnocnkicoimaaDoor
open Go.ChangeShapes Go.WideShapes Go.ChangeAt Go.RowKit Go.Deep

set_option maxRecDepth 100000 in
theorem open_Res {H : Type} {enc : TypeId × Value → H} {w : World} {base : Nat} {spare : Nat → Bool} {held : Bool} (n : Nat) (cs : List Value) (x : DataW H × List MemPlace) (h : DataW.trod enc Tryd.prog w base spare held n 36 cs = some x) : ∃ a, cs = encRes a ∧ wfRes a := by
 obtain ⟨xs, m, _, _, hcl, hxl, hf⟩ := DataW.trod_array Tryd.underlying36 h
 have hc : Tryd.prog.cellsOf 36 = 3 := by kernel_rfl
 rw [hc] at hcl
 have hci : Tryd.prog.cellsOf 3 = 1 := by kernel_rfl
 rw [hci] at hf
 obtain ⟨a0, e0, w0⟩ := elemI hf hxl 0 (by omega) Tryd.underlying3
 obtain ⟨a1, e1, w1⟩ := elemI hf hxl 1 (by omega) Tryd.underlying3
 obtain ⟨a2, e2, w2⟩ := elemI hf hxl 2 (by omega) Tryd.underlying3
 refine ⟨⟨a0, a1, a2⟩, ?_, w0, w1, w2⟩
 apply List.ext_getElem?
 intro i
 match i with
 | 0 => exact e0
 | 1 => exact e1
 | 2 => exact e2
 | i + 3 => rw [List.getElem?_eq_none (by omega)]; rfl

end Go.Proofs.YthhnocnkicoimaaDoor
namespace Go.Proofs.YthhnocnkicoimaaDoor
open Go.ChangeShapes Go.WideShapes Go.ChangeAt Go.RowKit Go.Deep

set_option maxRecDepth 100000 in
theorem open_Msg {H : Type} {enc : TypeId × Value → H} {w : World} {base : Nat} {spare : Nat → Bool} {held : Bool} (n : Nat) (cs : List Value) (x : DataW H × List MemPlace) (h : DataW.trod enc Tryd.prog w base spare held n 38 cs = some x) : ∃ a, cs = encMsg a ∧ wfMsg a := by
 obtain ⟨xs, m, _, _, hcl, hxl, hf⟩ := DataW.trod_struct Tryd.underlying38 h
 have hc : Tryd.prog.cellsOf 38 = 12 := by kernel_rfl
 rw [hc] at hcl
 obtain ⟨a0, e0, w0⟩ := fieldI hf hxl 0 _ rfl Tryd.underlying3 (by kernel_rfl)
 obtain ⟨a1, e1, w1⟩ := fieldI hf hxl 1 _ rfl Tryd.underlying3 (by kernel_rfl)
 obtain ⟨a2, e2, w2⟩ := fieldI hf hxl 2 _ rfl Tryd.underlying3 (by kernel_rfl)
 obtain ⟨a3, e3, w3⟩ := fieldI hf hxl 3 _ rfl Tryd.underlying3 (by kernel_rfl)
 obtain ⟨a4, e4, w4⟩ := fieldI hf hxl 4 _ rfl Tryd.underlying3 (by kernel_rfl)
 obtain ⟨a5, e5, w5⟩ := fieldI hf hxl 5 _ rfl Tryd.underlying3 (by kernel_rfl)
 obtain ⟨a6, e6, w6⟩ := fieldI hf hxl 6 _ rfl Tryd.underlying3 (by kernel_rfl)
 obtain ⟨a7, e7, w7⟩ := fieldI hf hxl 7 _ rfl Tryd.underlying3 (by kernel_rfl)
 obtain ⟨a8, e8, w8⟩ := fieldI hf hxl 8 _ rfl Tryd.underlying3 (by kernel_rfl)
 obtain ⟨y9, hy9⟩ := field_part hf hxl 9 _ rfl 3 (by kernel_rfl)
 obtain ⟨a9, e9, w9⟩ := open_Res _ _ _ hy9
 refine ⟨⟨a0, a1, a2, a3, a4, a5, a6, a7, a8, a9⟩, ?_, w0, w1, w2, w3, w4, w5, w6, w7, w8, w9⟩
 apply List.ext_getElem?
 intro i
 match i with
 | 0 => exact e0
 | 1 => exact e1
 | 2 => exact e2
 | 3 => exact e3
 | 4 => exact e4
 | 5 => exact e5
 | 6 => exact e6
 | 7 => exact e7
 | 8 => exact e8
 | 9 => exact (part_at e9 0 (by omega))
 | 10 => exact (part_at e9 1 (by omega))
 | 11 => exact (part_at e9 2 (by omega))
 | i + 12 => rw [List.getElem?_eq_none (by omega)]; rfl

end Go.Proofs.YthhnocnkicoimaaDoor
