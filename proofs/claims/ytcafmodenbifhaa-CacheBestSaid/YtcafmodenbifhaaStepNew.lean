/-
 A step of a region that makes memory.
-/
import Derived.Test.YtcafmodenbifhaaAnyAuto
set_option linter.unusedVariables false
set_option linter.unusedSimpArgs false
namespace Go.Proofs.Ytcafmodenbifhaa
open Go.RowKit Go.Maps

theorem step_new {P : Program} {Q : Exit → Act → World → Prop} {a : Act} {w w' : World} {o : Oper} {Vs : List MV} {i : Nat} {x : Value} (hr : (execOp a.eval o).run P w = .ok (.value x) w') (hx : Vof Vs i x w') (hb : Below w.heap.size w w') :
  Oper.wp P o a w (fun a' w' => ∃ v, a' = a.put o.dst v ∧ Vof Vs i v w' ∧ Below w.heap.size w w') Q := by
 unfold Oper.wp
 rw [hr]
 exact ⟨x, rfl, hx, hb⟩
end Go.Proofs.Ytcafmodenbifhaa
