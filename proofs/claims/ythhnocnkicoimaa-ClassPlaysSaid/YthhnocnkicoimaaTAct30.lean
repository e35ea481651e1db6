/-
  A reevelaw30.Act, as a structure: its cells, its value, its bounds.
-/
import Derived.Test.YthhnocnkicoimaaTRes
set_option linter.unusedVariables false
set_option linter.unusedSimpArgs false
namespace Go.Proofs.Ythhnocnkicoimaa
open Go.RowKit

structure LAct30 where
  kind : Int
  id : Int
  need : LRes
  deriving DecidableEq
def encAct30 (r : LAct30) : List Value := [.int .i64 r.kind, .int .i64 r.id, .int .i64 r.need.a, .int .i64 r.need.b, .int .i64 r.need.c]
abbrev aggAct30 (r : LAct30) : Value := .agg #[.int .i64 r.kind, .int .i64 r.id, .int .i64 r.need.a, .int .i64 r.need.b, .int .i64 r.need.c]
abbrev boxAct30 (r : LAct30) : Array Value := #[.int .i64 r.kind, .int .i64 r.id, .int .i64 r.need.a, .int .i64 r.need.b, .int .i64 r.need.c]
def wfAct30 (r : LAct30) : Prop := wf64 r.kind ∧ wf64 r.id ∧ wfRes r.need
abbrev zeroAct30 : Value := .agg #[.int .i64 0, .int .i64 0, .int .i64 0, .int .i64 0, .int .i64 0]
theorem Act30_len (r : LAct30) : (encAct30 r).length = 5 := rfl
theorem Act30_one (r : LAct30) : ∀ u ∈ encAct30 r, u.oneCell' = true := by
  intro u hu
  simp [encAct30] at hu
  rcases hu with rfl | rfl | rfl | rfl | rfl <;> rfl
theorem Try.infoAct30 : (Try.prog.info? 38).map (fun i => (i.zero, i.size, i.bytes)) = some (some (zeroAct30), 5, 40) := by kernel_rfl

end Go.Proofs.Ythhnocnkicoimaa
