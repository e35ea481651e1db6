/-
  A api.Node, as a structure: its cells, its value, its bounds.
-/
import Derived.Test.YtcafmodenbifhaaTRes
set_option linter.unusedVariables false
set_option linter.unusedSimpArgs false
namespace Go.Proofs.Ytcafmodenbifhaa
open Go.RowKit

structure LNode where
  id : Int
  inc : Int
  load : Int
  cap : LRes
  used : LRes
  up : Bool
  deriving DecidableEq
def encNode (r : LNode) : List Value := [.int .i64 r.id, .int .i64 r.inc, .int .i64 r.load, .int .i64 r.cap.a, .int .i64 r.cap.b, .int .i64 r.cap.c, .int .i64 r.used.a, .int .i64 r.used.b, .int .i64 r.used.c, .bool r.up]
abbrev aggNode (r : LNode) : Value := .agg #[.int .i64 r.id, .int .i64 r.inc, .int .i64 r.load, .int .i64 r.cap.a, .int .i64 r.cap.b, .int .i64 r.cap.c, .int .i64 r.used.a, .int .i64 r.used.b, .int .i64 r.used.c, .bool r.up]
abbrev boxNode (r : LNode) : Array Value := #[.int .i64 r.id, .int .i64 r.inc, .int .i64 r.load, .int .i64 r.cap.a, .int .i64 r.cap.b, .int .i64 r.cap.c, .int .i64 r.used.a, .int .i64 r.used.b, .int .i64 r.used.c, .bool r.up]
def wfNode (r : LNode) : Prop := wf64 r.id ∧ wf64 r.inc ∧ wf64 r.load ∧ wfRes r.cap ∧ wfRes r.used
abbrev zeroNode : Value := .agg #[.int .i64 0, .int .i64 0, .int .i64 0, .int .i64 0, .int .i64 0, .int .i64 0, .int .i64 0, .int .i64 0, .int .i64 0, .bool false]
theorem Node_len (r : LNode) : (encNode r).length = 10 := rfl
theorem Node_one (r : LNode) : ∀ u ∈ encNode r, u.oneCell' = true := by
  intro u hu
  simp [encNode] at hu
  rcases hu with rfl | rfl | rfl | rfl | rfl | rfl | rfl | rfl | rfl | rfl <;> rfl
theorem Try.infoNode : (Try.prog.info? 55).map (fun i => (i.zero, i.size, i.bytes)) = some (some (zeroNode), 10, 80) := by kernel_rfl

end Go.Proofs.Ytcafmodenbifhaa
