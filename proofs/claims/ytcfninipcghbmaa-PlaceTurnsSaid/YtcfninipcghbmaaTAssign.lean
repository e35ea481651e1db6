/-
  A api.Assign, as a structure: its cells, its value, its bounds.
-/
import Derived.Test.YtcfninipcghbmaaSetL
set_option linter.unusedVariables false
set_option linter.unusedSimpArgs false
namespace Go.Proofs.Ytcfninipcghbmaa
open Go.RowKit

structure LAssign where
  job : Int
  node : Int
  deriving DecidableEq
def encAssign (r : LAssign) : List Value := [.int .i64 r.job, .int .i64 r.node]
abbrev aggAssign (r : LAssign) : Value := .agg #[.int .i64 r.job, .int .i64 r.node]
abbrev boxAssign (r : LAssign) : Array Value := #[.int .i64 r.job, .int .i64 r.node]
def wfAssign (r : LAssign) : Prop := wf64 r.job ∧ wf64 r.node
abbrev zeroAssign : Value := .agg #[.int .i64 0, .int .i64 0]
theorem Assign_len (r : LAssign) : (encAssign r).length = 2 := rfl
theorem Assign_one (r : LAssign) : ∀ u ∈ encAssign r, u.oneCell' = true := by
  intro u hu
  simp [encAssign] at hu
  rcases hu with rfl | rfl <;> rfl
theorem Try.infoAssign : (Try.prog.info? 112).map (fun i => (i.zero, i.size, i.bytes)) = some (some (zeroAssign), 2, 16) := by kernel_rfl

end Go.Proofs.Ytcfninipcghbmaa
