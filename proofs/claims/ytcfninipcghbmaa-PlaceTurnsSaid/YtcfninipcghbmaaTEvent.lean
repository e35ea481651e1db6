/-
  A api.Event, as a structure: its cells, its value, its bounds.
-/
import Derived.Test.YtcfninipcghbmaaTRes
set_option linter.unusedVariables false
set_option linter.unusedSimpArgs false
namespace Go.Proofs.Ytcfninipcghbmaa
open Go.RowKit

structure LEvent where
  kind : Int
  node : Int
  job : Int
  inc : Int
  prio : Int
  res : LRes
  deriving DecidableEq
def encEvent (r : LEvent) : List Value := [.int .i64 r.kind, .int .i64 r.node, .int .i64 r.job, .int .i64 r.inc, .int .i64 r.prio, .int .i64 r.res.a, .int .i64 r.res.b, .int .i64 r.res.c]
abbrev aggEvent (r : LEvent) : Value := .agg #[.int .i64 r.kind, .int .i64 r.node, .int .i64 r.job, .int .i64 r.inc, .int .i64 r.prio, .int .i64 r.res.a, .int .i64 r.res.b, .int .i64 r.res.c]
abbrev boxEvent (r : LEvent) : Array Value := #[.int .i64 r.kind, .int .i64 r.node, .int .i64 r.job, .int .i64 r.inc, .int .i64 r.prio, .int .i64 r.res.a, .int .i64 r.res.b, .int .i64 r.res.c]
def wfEvent (r : LEvent) : Prop := wf64 r.kind ∧ wf64 r.node ∧ wf64 r.job ∧ wf64 r.inc ∧ wf64 r.prio ∧ wfRes r.res
abbrev zeroEvent : Value := .agg #[.int .i64 0, .int .i64 0, .int .i64 0, .int .i64 0, .int .i64 0, .int .i64 0, .int .i64 0, .int .i64 0]
theorem Event_len (r : LEvent) : (encEvent r).length = 8 := rfl
theorem Event_one (r : LEvent) : ∀ u ∈ encEvent r, u.oneCell' = true := by
  intro u hu
  simp [encEvent] at hu
  rcases hu with rfl | rfl | rfl | rfl | rfl | rfl | rfl | rfl <;> rfl
theorem Try.infoEvent : (Try.prog.info? 115).map (fun i => (i.zero, i.size, i.bytes)) = some (some (zeroEvent), 8, 64) := by kernel_rfl

end Go.Proofs.Ytcfninipcghbmaa
