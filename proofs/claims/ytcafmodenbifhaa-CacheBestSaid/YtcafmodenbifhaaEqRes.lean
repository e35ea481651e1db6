/-
 EQUALITY of two api.Res.
-/
import Derived.Test.YtcafmodenbifhaaTRes
import Derived.ChangeKeysEq
import Derived.Laws.StructEq
set_option linter.unusedVariables false
set_option linter.unusedSimpArgs false
namespace Go.Proofs.Ytcafmodenbifhaa
open Go.RowKit

theorem LRes.ext_iff' (a b : LRes) : a = b ↔ a.a = b.a ∧ a.b = b.b ∧ a.c = b.c := by
 cases a; cases b; simp
theorem equalRes (d : Nat) (a b : LRes) (w : World) : (Op.equalIn (d + 2) 53 (aggRes a) (aggRes b)).run Try.prog w = .ok (decide (a = b)) w := by
 obtain ⟨i, hi, hz⟩ := Option.map_eq_some_iff.1 Try.infoInt
 have hc : Try.prog.cellsOf 3 = 1 := by kernel_rfl
 rw [run_equalIn_array w (d + 1) _ _ Try.underlying53 hi, hc, show List.range 3 = [0, 1, 2] from rfl]
 have hk : Try.prog.plainKey 3 = true := by kernel_rfl
 have hq := fun (x y : Int) (W : World) => run_equalIn_int (P := Try.prog) W d 3 .i64 .i64 x y Try.underlying3
 have p0 := fun (c : LRes) (W : World) => run_part_plain (w := W) (P := Try.prog) hk (xs := #[.int .i64 c.a, .int .i64 c.b, .int .i64 c.c]) (off := 0) (v := .int .i64 c.a) rfl
 have p1 := fun (c : LRes) (W : World) => run_part_plain (w := W) (P := Try.prog) hk (xs := #[.int .i64 c.a, .int .i64 c.b, .int .i64 c.c]) (off := 1) (v := .int .i64 c.b) rfl
 have p2 := fun (c : LRes) (W : World) => run_part_plain (w := W) (P := Try.prog) hk (xs := #[.int .i64 c.a, .int .i64 c.b, .int .i64 c.c]) (off := 2) (v := .int .i64 c.c) rfl
 simp only [Op.eqItems, Sem.run_bind, Sem.run_ite, Sem.run_pure, Nat.zero_mul, Nat.mul_one, p0, p1, p2, Result.andThen_ok, hq]
 have hd : decide (a = b) = ((a.a == b.a) && (a.b == b.b) && (a.c == b.c)) := by
  rw [Bool.eq_iff_iff]
  simp [LRes.ext_iff', and_assoc]
 rw [hd]
 cases (a.a == b.a) <;> cases (a.b == b.b) <;> cases (a.c == b.c) <;> simp
theorem eqlRes (a b : LRes) (w : World) : (binOp .eql 53 (aggRes a) (aggRes b)).run Try.prog w = .ok (.bool (decide (a = b))) w := by
 rw [run_eql_struct, equalRes]; rfl
theorem neqRes (a b : LRes) (w : World) : (binOp .neq 53 (aggRes a) (aggRes b)).run Try.prog w = .ok (.bool (!decide (a = b))) w := by
 rw [run_neq_struct, equalRes]; rfl
theorem guardRes (op : BinOp) (x y : Operand) (a b : LRes) (w : World) : (eqGuard op 53 x y (aggRes a) (aggRes b)).run Try.prog w = .ok () w :=
 run_eqGuard_agg w op 53 x y _ _ (by kernel_rfl)

end Go.Proofs.Ytcafmodenbifhaa
