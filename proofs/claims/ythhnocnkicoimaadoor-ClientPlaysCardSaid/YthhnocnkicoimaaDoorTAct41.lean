/-
  A reevelaw41.Act, as a structure: its cells, its value, its bounds.
-/
import Derived.Test.YthhnocnkicoimaaDoorTMsg
set_option linter.unusedVariables false
set_option linter.unusedSimpArgs false
namespace Go.Proofs.YthhnocnkicoimaaDoor
open Go.RowKit

structure LAct41 where
  kind : Int
  msg : LMsg
  deriving DecidableEq
def encAct41 (r : LAct41) : List Value := [.int .i64 r.kind, .int .i64 r.msg.kind, .int .i64 r.msg.frm, .int .i64 r.msg.to_, .int .i64 r.msg.epoch, .int .i64 r.msg.inc, .int .i64 r.msg.job, .int .i64 r.msg.tick, .int .i64 r.msg.prio, .int .i64 r.msg.code, .int .i64 r.msg.res.a, .int .i64 r.msg.res.b, .int .i64 r.msg.res.c]
abbrev aggAct41 (r : LAct41) : Value := .agg #[.int .i64 r.kind, .int .i64 r.msg.kind, .int .i64 r.msg.frm, .int .i64 r.msg.to_, .int .i64 r.msg.epoch, .int .i64 r.msg.inc, .int .i64 r.msg.job, .int .i64 r.msg.tick, .int .i64 r.msg.prio, .int .i64 r.msg.code, .int .i64 r.msg.res.a, .int .i64 r.msg.res.b, .int .i64 r.msg.res.c]
abbrev boxAct41 (r : LAct41) : Array Value := #[.int .i64 r.kind, .int .i64 r.msg.kind, .int .i64 r.msg.frm, .int .i64 r.msg.to_, .int .i64 r.msg.epoch, .int .i64 r.msg.inc, .int .i64 r.msg.job, .int .i64 r.msg.tick, .int .i64 r.msg.prio, .int .i64 r.msg.code, .int .i64 r.msg.res.a, .int .i64 r.msg.res.b, .int .i64 r.msg.res.c]
def wfAct41 (r : LAct41) : Prop := wf64 r.kind ∧ wfMsg r.msg
abbrev zeroAct41 : Value := .agg #[.int .i64 0, .int .i64 0, .int .i64 0, .int .i64 0, .int .i64 0, .int .i64 0, .int .i64 0, .int .i64 0, .int .i64 0, .int .i64 0, .int .i64 0, .int .i64 0, .int .i64 0]
theorem Act41_len (r : LAct41) : (encAct41 r).length = 13 := rfl
theorem Act41_one (r : LAct41) : ∀ u ∈ encAct41 r, u.oneCell' = true := by
  intro u hu
  simp [encAct41] at hu
  rcases hu with rfl | rfl | rfl | rfl | rfl | rfl | rfl | rfl | rfl | rfl | rfl | rfl | rfl <;> rfl
theorem Tryd.infoAct41 : (Tryd.prog.info? 40).map (fun i => (i.zero, i.size, i.bytes)) = some (some (zeroAct41), 13, 104) := by kernel_rfl

end Go.Proofs.YthhnocnkicoimaaDoor
