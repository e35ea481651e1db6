/-
  A row among what comes in, as data.
-/
import Derived.Test.YtaajlegdcgfcgaaOpen
import Derived.Test.YtaajlegdcgfcgaaLedger1
namespace Go.Proofs.Ytaajlegdcgfcgaa
open Go.ChangeShapes Go.WideShapes Go.ChangeAt Go.RowKit Go.Deep
set_option linter.unusedVariables false
theorem list7 {α : Type} {cs : List α} {a b c d e f g : α} (h : cs.length = 7) (h0 : cs[0]? = some a) (h1 : cs[1]? = some b) (h2 : cs[2]? = some c) (h3 : cs[3]? = some d) (h4 : cs[4]? = some e) (h5 : cs[5]? = some f) (h6 : cs[6]? = some g) : cs = [a, b, c, d, e, f, g] := by
  match cs, h with
  | [x0, x1, x2, x3, x4, x5, x6], _ => simp at h0 h1 h2 h3 h4 h5 h6; subst h0 h1 h2 h3 h4 h5 h6; rfl
theorem open_row {H : Type} {enc : TypeId × Value → H} {w : World} {base : Nat} {spare : Nat → Bool} {held : Bool} (n : Nat) (cs : List Value) (x : DataW H × List MemPlace) (h : DataW.trod enc Try.prog w base spare held n 146 cs = some x) : ∃ a, cs = encR a ∧ wfR a := by
  obtain ⟨xs, m, _, _, hcl, hxl, hf⟩ := DataW.trod_struct Try.underlying146 h
  have hc : Try.prog.cellsOf 146 = 7 := by kernel_rfl
  rw [hc] at hcl
  obtain ⟨a0, e0, w0⟩ := fieldI hf hxl 0 _ rfl Try.underlying3 (by kernel_rfl)
  obtain ⟨a1, e1, w1⟩ := fieldI hf hxl 1 _ rfl Try.underlying3 (by kernel_rfl)
  obtain ⟨a2, e2, w2⟩ := fieldI hf hxl 2 _ rfl Try.underlying3 (by kernel_rfl)
  obtain ⟨a3, e3, w3⟩ := fieldI hf hxl 3 _ rfl Try.underlying3 (by kernel_rfl)
  obtain ⟨a4, e4, w4⟩ := fieldI hf hxl 4 _ rfl Try.underlying3 (by kernel_rfl)
  obtain ⟨a5, e5, w5⟩ := fieldI hf hxl 5 _ rfl Try.underlying3 (by kernel_rfl)
  obtain ⟨a6, e6, w6⟩ := fieldI hf hxl 6 _ rfl Try.underlying3 (by kernel_rfl)
  exact ⟨⟨a0, a1, a2, a3, a4, a5, a6⟩, list7 hcl e0 e1 e2 e3 e4 e5 e6, w0, w1, w2, w3, w4, w5, w6⟩

end Go.Proofs.Ytaajlegdcgfcgaa
