/-
  EQUALITY of two structs that hold arrays: field by field; of two api.Node.
-/
import Derived.Test.YtcafmodenbifhaaEqRes
import Derived.Test.YtcafmodenbifhaaTNode
set_option linter.unusedVariables false
set_option linter.unusedSimpArgs false
namespace Go.Proofs.Ytcafmodenbifhaa
open Go.RowKit

/-- What is asked of the fields: each part's two values, and what their comparison comes to. -/
def FieldsEq (P : Program) (d : Nat) (xs ys : Array Value) (w : World) : List (Bool × TypeId × Nat) → List Bool → Prop
  | [], [] => True
  | s :: r, b :: bs => s.1 = true ∧ (∃ u v, (part s.2.1 xs s.2.2).run P w = .ok u w ∧ (part s.2.1 ys s.2.2).run P w = .ok v w ∧ (Op.equalIn d s.2.1 u v).run P w = .ok b w) ∧ FieldsEq P d xs ys w r bs
  | _, _ => False
theorem run_eqFields_all {P : Program} {d : Nat} {xs ys : Array Value} {w : World} : ∀ (fs : List Field) (sp : List (Bool × TypeId × Nat)) (bs : List Bool), fs.map (fun f => (f.name != "_", f.type, f.offset)) = sp → FieldsEq P d xs ys w sp bs →
    (Op.eqFields d xs ys fs).run P w = .ok (bs.all id) w
  | [], sp, bs, h, hf => by
    subst h
    cases bs with
    | nil => simp [Op.eqFields]
    | cons b bs => exact hf.elim
  | f :: fs, sp, bs, h, hf => by
    subst h
    cases bs with
    | nil => exact hf.elim
    | cons b bs =>
      obtain ⟨hn, ⟨u, v, h1, h2, h3⟩, hr⟩ := hf
      have ih := run_eqFields_all fs _ bs rfl hr
      have hn' : (f.name != "_") = true := hn
      simp only [Op.eqFields, Sem.run_bind, Sem.run_ite, hn', if_true, h1, h2, h3, Result.andThen_ok]
      have hne : f.name ≠ "_" := by simpa using hn'
      cases b
      · simp [hne]
      · simp [hne, ih]
theorem LNode.ext_iff' (a b : LNode) : a = b ↔ a.id = b.id ∧ a.inc = b.inc ∧ a.load = b.load ∧ a.cap = b.cap ∧ a.used = b.used ∧ a.up = b.up := by
  cases a; cases b; simp
theorem equalNode (d : Nat) (a b : LNode) (w : World) : (Op.equalIn (d + 4) 55 (aggNode a) (aggNode b)).run Try.prog w = .ok (decide (a = b)) w := by
  rw [run_equalIn_struct w (d + 3) _ _ _ (by kernel_rfl) (by kernel_rfl)]
  rw [run_eqFields_all _ [(true, 3, 0), (true, 3, 1), (true, 3, 2), (true, 53, 3), (true, 53, 6), (true, 4, 9)] [a.id == b.id, a.inc == b.inc, a.load == b.load, decide (a.cap = b.cap), decide (a.used = b.used), a.up == b.up] (by kernel_rfl)
    ⟨rfl, ⟨.int .i64 a.id, .int .i64 b.id, by kernel_rfl, by kernel_rfl, run_equalIn_int w (d + 2) 3 .i64 .i64 _ _ Try.underlying3⟩,
     rfl, ⟨.int .i64 a.inc, .int .i64 b.inc, by kernel_rfl, by kernel_rfl, run_equalIn_int w (d + 2) 3 .i64 .i64 _ _ Try.underlying3⟩,
     rfl, ⟨.int .i64 a.load, .int .i64 b.load, by kernel_rfl, by kernel_rfl, run_equalIn_int w (d + 2) 3 .i64 .i64 _ _ Try.underlying3⟩,
     rfl, ⟨aggRes a.cap, aggRes b.cap, by kernel_rfl, by kernel_rfl, equalRes (d + 1) a.cap b.cap w⟩,
     rfl, ⟨aggRes a.used, aggRes b.used, by kernel_rfl, by kernel_rfl, equalRes (d + 1) a.used b.used w⟩,
     rfl, ⟨.bool a.up, .bool b.up, by kernel_rfl, by kernel_rfl, run_equalIn_bool' w (d + 2) 4 _ _ Try.underlying4⟩, trivial⟩]
  congr 1
  rw [Bool.eq_iff_iff]
  simp [LNode.ext_iff', and_assoc]
theorem eqlNode (a b : LNode) (w : World) : (binOp .eql 55 (aggNode a) (aggNode b)).run Try.prog w = .ok (.bool (decide (a = b))) w := by
  rw [run_eql_struct, equalNode]; rfl
theorem neqNode (a b : LNode) (w : World) : (binOp .neq 55 (aggNode a) (aggNode b)).run Try.prog w = .ok (.bool (!decide (a = b))) w := by
  rw [run_neq_struct, equalNode]; rfl
end Go.Proofs.Ytcafmodenbifhaa
