/-
  A reeveref30.Member, as a structure: its cells, its value, its bounds.
-/
import Derived.Test.YthhnocnkicoimaaSetL
set_option linter.unusedVariables false
set_option linter.unusedSimpArgs false
namespace Go.Proofs.Ythhnocnkicoimaa
open Go.RowKit

structure LMember where
  id : Int
  cls : Int
  deriving DecidableEq
def encMember (r : LMember) : List Value := [.int .i64 r.id, .int .i64 r.cls]
abbrev aggMember (r : LMember) : Value := .agg #[.int .i64 r.id, .int .i64 r.cls]
abbrev boxMember (r : LMember) : Array Value := #[.int .i64 r.id, .int .i64 r.cls]
def wfMember (r : LMember) : Prop := wf64 r.id ∧ wf64 r.cls
abbrev zeroMember : Value := .agg #[.int .i64 0, .int .i64 0]
theorem Member_len (r : LMember) : (encMember r).length = 2 := rfl
theorem Member_one (r : LMember) : ∀ u ∈ encMember r, u.oneCell' = true := by
  intro u hu
  simp [encMember] at hu
  rcases hu with rfl | rfl <;> rfl
theorem Try.infoMember : (Try.prog.info? 96).map (fun i => (i.zero, i.size, i.bytes)) = some (some (zeroMember), 2, 16) := by kernel_rfl

end Go.Proofs.Ythhnocnkicoimaa
