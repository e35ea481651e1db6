/-
  A api.Job, as a structure: its cells, its value, its bounds.
-/
import Derived.Test.YtcafmodenbifhaaTRes
set_option linter.unusedVariables false
set_option linter.unusedSimpArgs false
namespace Go.Proofs.Ytcafmodenbifhaa
open Go.RowKit

structure LJob where
  id : Int
  prio : Int
  seq : Int
  phase : Int
  node : Int
  need : LRes
  deriving DecidableEq
def encJob (r : LJob) : List Value := [.int .i64 r.id, .int .i64 r.prio, .int .i64 r.seq, .int .i64 r.phase, .int .i64 r.node, .int .i64 r.need.a, .int .i64 r.need.b, .int .i64 r.need.c]
abbrev aggJob (r : LJob) : Value := .agg #[.int .i64 r.id, .int .i64 r.prio, .int .i64 r.seq, .int .i64 r.phase, .int .i64 r.node, .int .i64 r.need.a, .int .i64 r.need.b, .int .i64 r.need.c]
abbrev boxJob (r : LJob) : Array Value := #[.int .i64 r.id, .int .i64 r.prio, .int .i64 r.seq, .int .i64 r.phase, .int .i64 r.node, .int .i64 r.need.a, .int .i64 r.need.b, .int .i64 r.need.c]
def wfJob (r : LJob) : Prop := wf64 r.id ∧ wf64 r.prio ∧ wf64 r.seq ∧ wf64 r.phase ∧ wf64 r.node ∧ wfRes r.need
abbrev zeroJob : Value := .agg #[.int .i64 0, .int .i64 0, .int .i64 0, .int .i64 0, .int .i64 0, .int .i64 0, .int .i64 0, .int .i64 0]
theorem Job_len (r : LJob) : (encJob r).length = 8 := rfl
theorem Job_one (r : LJob) : ∀ u ∈ encJob r, u.oneCell' = true := by
  intro u hu
  simp [encJob] at hu
  rcases hu with rfl | rfl | rfl | rfl | rfl | rfl | rfl | rfl <;> rfl
theorem Try.infoJob : (Try.prog.info? 75).map (fun i => (i.zero, i.size, i.bytes)) = some (some (zeroJob), 8, 64) := by kernel_rfl

end Go.Proofs.Ytcafmodenbifhaa
