/-
  A reevelaw32.Act, as a structure: its cells, its value, its bounds.
-/
import Derived.Test.YtcafmodenbifhaaTNode
import Derived.Test.YtcafmodenbifhaaTRes
set_option linter.unusedVariables false
set_option linter.unusedSimpArgs false
namespace Go.Proofs.Ytcafmodenbifhaa
open Go.RowKit

structure LAct32 where
  kind : Int
  node : LNode
  need : LRes
  deriving DecidableEq
def encAct32 (r : LAct32) : List Value := [.int .i64 r.kind, .int .i64 r.node.id, .int .i64 r.node.inc, .int .i64 r.node.load, .int .i64 r.node.cap.a, .int .i64 r.node.cap.b, .int .i64 r.node.cap.c, .int .i64 r.node.used.a, .int .i64 r.node.used.b, .int .i64 r.node.used.c, .bool r.node.up, .int .i64 r.need.a, .int .i64 r.need.b, .int .i64 r.need.c]
abbrev aggAct32 (r : LAct32) : Value := .agg #[.int .i64 r.kind, .int .i64 r.node.id, .int .i64 r.node.inc, .int .i64 r.node.load, .int .i64 r.node.cap.a, .int .i64 r.node.cap.b, .int .i64 r.node.cap.c, .int .i64 r.node.used.a, .int .i64 r.node.used.b, .int .i64 r.node.used.c, .bool r.node.up, .int .i64 r.need.a, .int .i64 r.need.b, .int .i64 r.need.c]
abbrev boxAct32 (r : LAct32) : Array Value := #[.int .i64 r.kind, .int .i64 r.node.id, .int .i64 r.node.inc, .int .i64 r.node.load, .int .i64 r.node.cap.a, .int .i64 r.node.cap.b, .int .i64 r.node.cap.c, .int .i64 r.node.used.a, .int .i64 r.node.used.b, .int .i64 r.node.used.c, .bool r.node.up, .int .i64 r.need.a, .int .i64 r.need.b, .int .i64 r.need.c]
def wfAct32 (r : LAct32) : Prop := wf64 r.kind ∧ wfNode r.node ∧ wfRes r.need
abbrev zeroAct32 : Value := .agg #[.int .i64 0, .int .i64 0, .int .i64 0, .int .i64 0, .int .i64 0, .int .i64 0, .int .i64 0, .int .i64 0, .int .i64 0, .int .i64 0, .bool false, .int .i64 0, .int .i64 0, .int .i64 0]
theorem Act32_len (r : LAct32) : (encAct32 r).length = 14 := rfl
theorem Act32_one (r : LAct32) : ∀ u ∈ encAct32 r, u.oneCell' = true := by
  intro u hu
  simp [encAct32] at hu
  rcases hu with rfl | rfl | rfl | rfl | rfl | rfl | rfl | rfl | rfl | rfl | rfl | rfl | rfl | rfl <;> rfl
theorem Try.infoAct32 : (Try.prog.info? 57).map (fun i => (i.zero, i.size, i.bytes)) = some (some (zeroAct32), 14, 112) := by kernel_rfl

end Go.Proofs.Ytcafmodenbifhaa
