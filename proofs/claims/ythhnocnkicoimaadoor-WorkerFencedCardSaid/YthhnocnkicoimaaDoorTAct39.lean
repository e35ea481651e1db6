/-
  A reevelaw39.Act, as a structure: its cells, its value, its bounds.
-/
import Derived.Test.YthhnocnkicoimaaDoorTMsg
import Derived.Test.YthhnocnkicoimaaDoorTRes
set_option linter.unusedVariables false
set_option linter.unusedSimpArgs false
namespace Go.Proofs.YthhnocnkicoimaaDoor
open Go.RowKit

structure LAct39 where
  kind : Int
  now : Int
  n : Int
  msg : LMsg
  res : LRes
  deriving DecidableEq
def encAct39 (r : LAct39) : List Value := [.int .i64 r.kind, .int .i64 r.now, .int .i64 r.n, .int .i64 r.msg.kind, .int .i64 r.msg.frm, .int .i64 r.msg.to_, .int .i64 r.msg.epoch, .int .i64 r.msg.inc, .int .i64 r.msg.job, .int .i64 r.msg.tick, .int .i64 r.msg.prio, .int .i64 r.msg.code, .int .i64 r.msg.res.a, .int .i64 r.msg.res.b, .int .i64 r.msg.res.c, .int .i64 r.res.a, .int .i64 r.res.b, .int .i64 r.res.c]
abbrev aggAct39 (r : LAct39) : Value := .agg #[.int .i64 r.kind, .int .i64 r.now, .int .i64 r.n, .int .i64 r.msg.kind, .int .i64 r.msg.frm, .int .i64 r.msg.to_, .int .i64 r.msg.epoch, .int .i64 r.msg.inc, .int .i64 r.msg.job, .int .i64 r.msg.tick, .int .i64 r.msg.prio, .int .i64 r.msg.code, .int .i64 r.msg.res.a, .int .i64 r.msg.res.b, .int .i64 r.msg.res.c, .int .i64 r.res.a, .int .i64 r.res.b, .int .i64 r.res.c]
abbrev boxAct39 (r : LAct39) : Array Value := #[.int .i64 r.kind, .int .i64 r.now, .int .i64 r.n, .int .i64 r.msg.kind, .int .i64 r.msg.frm, .int .i64 r.msg.to_, .int .i64 r.msg.epoch, .int .i64 r.msg.inc, .int .i64 r.msg.job, .int .i64 r.msg.tick, .int .i64 r.msg.prio, .int .i64 r.msg.code, .int .i64 r.msg.res.a, .int .i64 r.msg.res.b, .int .i64 r.msg.res.c, .int .i64 r.res.a, .int .i64 r.res.b, .int .i64 r.res.c]
def wfAct39 (r : LAct39) : Prop := wf64 r.kind ∧ wf64 r.now ∧ wf64 r.n ∧ wfMsg r.msg ∧ wfRes r.res
abbrev zeroAct39 : Value := .agg #[.int .i64 0, .int .i64 0, .int .i64 0, .int .i64 0, .int .i64 0, .int .i64 0, .int .i64 0, .int .i64 0, .int .i64 0, .int .i64 0, .int .i64 0, .int .i64 0, .int .i64 0, .int .i64 0, .int .i64 0, .int .i64 0, .int .i64 0, .int .i64 0]
theorem Act39_len (r : LAct39) : (encAct39 r).length = 18 := rfl
theorem Act39_one (r : LAct39) : ∀ u ∈ encAct39 r, u.oneCell' = true := by
  intro u hu
  simp [encAct39] at hu
  rcases hu with rfl | rfl | rfl | rfl | rfl | rfl | rfl | rfl | rfl | rfl | rfl | rfl | rfl | rfl | rfl | rfl | rfl | rfl <;> rfl
theorem Tryd.infoAct39 : (Tryd.prog.info? 62).map (fun i => (i.zero, i.size, i.bytes)) = some (some (zeroAct39), 18, 144) := by kernel_rfl

end Go.Proofs.YthhnocnkicoimaaDoor
