/-
 A api.Msg, as a structure: its cells, its value, its bounds.
-/
import Derived.Test.YthhnocnkicoimaaDoorTRes
set_option linter.unusedVariables false
set_option linter.unusedSimpArgs false
namespace Go.Proofs.YthhnocnkicoimaaDoor
open Go.RowKit

structure LMsg where
 kind : Int
 frm : Int
 to_ : Int
 epoch : Int
 inc : Int
 job : Int
 tick : Int
 prio : Int
 code : Int
 res : LRes
 deriving DecidableEq
def encMsg (r : LMsg) : List Value := [.int .i64 r.kind, .int .i64 r.frm, .int .i64 r.to_, .int .i64 r.epoch, .int .i64 r.inc, .int .i64 r.job, .int .i64 r.tick, .int .i64 r.prio, .int .i64 r.code, .int .i64 r.res.a, .int .i64 r.res.b, .int .i64 r.res.c]
abbrev aggMsg (r : LMsg) : Value := .agg #[.int .i64 r.kind, .int .i64 r.frm, .int .i64 r.to_, .int .i64 r.epoch, .int .i64 r.inc, .int .i64 r.job, .int .i64 r.tick, .int .i64 r.prio, .int .i64 r.code, .int .i64 r.res.a, .int .i64 r.res.b, .int .i64 r.res.c]
abbrev boxMsg (r : LMsg) : Array Value := #[.int .i64 r.kind, .int .i64 r.frm, .int .i64 r.to_, .int .i64 r.epoch, .int .i64 r.inc, .int .i64 r.job, .int .i64 r.tick, .int .i64 r.prio, .int .i64 r.code, .int .i64 r.res.a, .int .i64 r.res.b, .int .i64 r.res.c]
def wfMsg (r : LMsg) : Prop := wf64 r.kind ∧ wf64 r.frm ∧ wf64 r.to_ ∧ wf64 r.epoch ∧ wf64 r.inc ∧ wf64 r.job ∧ wf64 r.tick ∧ wf64 r.prio ∧ wf64 r.code ∧ wfRes r.res
abbrev zeroMsg : Value := .agg #[.int .i64 0, .int .i64 0, .int .i64 0, .int .i64 0, .int .i64 0, .int .i64 0, .int .i64 0, .int .i64 0, .int .i64 0, .int .i64 0, .int .i64 0, .int .i64 0]
theorem Msg_len (r : LMsg) : (encMsg r).length = 12 := rfl
theorem Msg_one (r : LMsg) : ∀ u ∈ encMsg r, u.oneCell' = true := by
 intro u hu
 simp [encMsg] at hu
 rcases hu with rfl | rfl | rfl | rfl | rfl | rfl | rfl | rfl | rfl | rfl | rfl | rfl <;> rfl
theorem Tryd.infoMsg : (Tryd.prog.info? 38).map (fun i => (i.zero, i.size, i.bytes)) = some (some (zeroMsg), 12, 96) := by kernel_rfl

end Go.Proofs.YthhnocnkicoimaaDoor
