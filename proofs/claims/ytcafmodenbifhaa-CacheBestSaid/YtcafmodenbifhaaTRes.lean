/-
 A api.Res, as a structure: its cells, its value, its bounds.
-/
import Derived.Test.YtcafmodenbifhaaPlain
set_option linter.unusedVariables false
set_option linter.unusedSimpArgs false
namespace Go.Proofs.Ytcafmodenbifhaa
open Go.RowKit

structure LRes where
 a : Int
 b : Int
 c : Int
 deriving DecidableEq
def encRes (r : LRes) : List Value := [.int .i64 r.a, .int .i64 r.b, .int .i64 r.c]
abbrev aggRes (r : LRes) : Value := .agg #[.int .i64 r.a, .int .i64 r.b, .int .i64 r.c]
abbrev boxRes (r : LRes) : Array Value := #[.int .i64 r.a, .int .i64 r.b, .int .i64 r.c]
def wfRes (r : LRes) : Prop := wf64 r.a ∧ wf64 r.b ∧ wf64 r.c
abbrev zeroRes : Value := .agg #[.int .i64 0, .int .i64 0, .int .i64 0]
theorem Res_len (r : LRes) : (encRes r).length = 3 := rfl
theorem Res_one (r : LRes) : ∀ u ∈ encRes r, u.oneCell' = true := by
 intro u hu
 simp [encRes] at hu
 rcases hu with rfl | rfl | rfl <;> rfl
theorem Try.infoRes : (Try.prog.info? 53).map (fun i => (i.zero, i.size, i.bytes)) = some (some (zeroRes), 3, 24) := by kernel_rfl

end Go.Proofs.Ytcafmodenbifhaa
