/-
  ARGUMENTS OPENED, further: bools, strings, arrays, structs in structs.
-/
import Derived.Test.YthhnocnkicoimaaDoorOpen
set_option linter.unusedVariables false
set_option linter.unusedSimpArgs false
namespace Go.Proofs.YthhnocnkicoimaaDoor
open Go.RowKit Go.ChangeShapes Go.WideShapes Go.Deep

theorem part_at {β : Type} {cs sub : List β} {off n : Nat} (h : (cs.drop off).take n = sub) (j : Nat) (hj : j < n) : cs[off + j]? = sub[j]? := by
  rw [← h, List.getElem?_take, if_pos hj, List.getElem?_drop]
section
variable {H : Type} {enc : TypeId × Value → H} {P : Program} {w : World} {base : Nat} {spare : Nat → Bool} {held : Bool} {fs : Array Field} {cs : List Value} {xs : List (DataW H × List MemPlace)} {n : Nat}
theorem fieldB (hf : ∀ (i : Nat) (f : Field), fs[i]? = some f → DataW.trod enc P w base spare held n f.type ((cs.drop f.offset).take (P.cellsOf f.type)) = xs[i]?)
    (hxl : xs.length = fs.size) (i : Nat) (f : Field) (hi : fs[i]? = some f) (hk : P.underlying f.type = some .bool) (hc : P.cellsOf f.type = 1) : ∃ a : Bool, cs[f.offset]? = some (.bool a) := by
  have h := hf i f hi
  have hil : i < xs.length := by rw [hxl]; exact (Array.getElem?_eq_some_iff.1 hi).1
  rw [List.getElem?_eq_getElem hil, hc] at h
  obtain ⟨a, hcs, _⟩ := DataW.trod_bool hk h
  refine ⟨a, ?_⟩
  have : ((cs.drop f.offset).take 1)[0]? = some (.bool a) := by rw [hcs]; rfl
  simpa [List.getElem?_take, List.getElem?_drop] using this
theorem fieldS (hf : ∀ (i : Nat) (f : Field), fs[i]? = some f → DataW.trod enc P w base spare held n f.type ((cs.drop f.offset).take (P.cellsOf f.type)) = xs[i]?)
    (hxl : xs.length = fs.size) (i : Nat) (f : Field) (hi : fs[i]? = some f) (hk : P.underlying f.type = some .string) (hc : P.cellsOf f.type = 1) : ∃ a : ByteArray, cs[f.offset]? = some (.string a) ∧ a.size ≤ maxLen := by
  have h := hf i f hi
  have hil : i < xs.length := by rw [hxl]; exact (Array.getElem?_eq_some_iff.1 hi).1
  rw [List.getElem?_eq_getElem hil, hc] at h
  obtain ⟨a, hcs, _, hw⟩ := DataW.trod_string hk h
  refine ⟨a, ?_, hw⟩
  have : ((cs.drop f.offset).take 1)[0]? = some (.string a) := by rw [hcs]; rfl
  simpa [List.getElem?_take, List.getElem?_drop] using this
theorem field_part (hf : ∀ (i : Nat) (f : Field), fs[i]? = some f → DataW.trod enc P w base spare held n f.type ((cs.drop f.offset).take (P.cellsOf f.type)) = xs[i]?)
    (hxl : xs.length = fs.size) (i : Nat) (f : Field) (hi : fs[i]? = some f) (k : Nat) (hc : P.cellsOf f.type = k) : ∃ y, DataW.trod enc P w base spare held n f.type ((cs.drop f.offset).take k) = some y := by
  have h := hf i f hi
  have hil : i < xs.length := by rw [hxl]; exact (Array.getElem?_eq_some_iff.1 hi).1
  rw [List.getElem?_eq_getElem hil, hc] at h
  exact ⟨_, h⟩
theorem elemI {e N : Nat} (hf : ∀ i, i < N → DataW.trod enc P w base spare held n e ((cs.drop (i * 1)).take 1) = xs[i]?) (hxl : xs.length = N) (i : Nat) (hi : i < N) (hk : P.underlying e = some (.int .i64)) : ∃ a : Int, cs[i]? = some (.int .i64 a) ∧ wf64 a := by
  have h := hf i hi
  rw [List.getElem?_eq_getElem (by omega)] at h
  obtain ⟨a, hcs, _, hw⟩ := DataW.trod_int hk h
  refine ⟨a, ?_, hw⟩
  have : ((cs.drop (i * 1)).take 1)[0]? = some (.int .i64 a) := by rw [hcs]; rfl
  simpa [List.getElem?_take, List.getElem?_drop] using this
end

end Go.Proofs.YthhnocnkicoimaaDoor
