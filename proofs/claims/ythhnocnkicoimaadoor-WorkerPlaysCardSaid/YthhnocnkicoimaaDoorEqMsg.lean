/-
  EQUALITY of two api.Msg, and of two [2]int, as run equations.
-/
import Derived.Test.YthhnocnkicoimaaDoorEqRes
import Derived.Test.YthhnocnkicoimaaDoorTMsg
import Derived.Test.YthhnocnkicoimaaDoorLib
set_option linter.unusedVariables false
set_option linter.unusedSimpArgs false
namespace Go.Proofs.YthhnocnkicoimaaDoor
open Go.RowKit

/-- The cells of a message's box. -/
theorem msgCells {w : World} {b : Nat} {m : LMsg} (h : Blk w b 38 (boxMsg m)) : w.cell? ⟨b, 0, none⟩ = some (.int .i64 m.kind) ∧ w.cell? ⟨b, 1, none⟩ = some (.int .i64 m.frm) ∧ w.cell? ⟨b, 2, none⟩ = some (.int .i64 m.to_) ∧ w.cell? ⟨b, 3, none⟩ = some (.int .i64 m.epoch) ∧ w.cell? ⟨b, 4, none⟩ = some (.int .i64 m.inc) ∧ w.cell? ⟨b, 5, none⟩ = some (.int .i64 m.job) ∧ w.cell? ⟨b, 6, none⟩ = some (.int .i64 m.tick) ∧ w.cell? ⟨b, 7, none⟩ = some (.int .i64 m.prio) ∧ w.cell? ⟨b, 8, none⟩ = some (.int .i64 m.code) ∧ w.cell? ⟨b, 9, none⟩ = some (.int .i64 m.res.a) ∧ w.cell? ⟨b, 10, none⟩ = some (.int .i64 m.res.b) ∧ w.cell? ⟨b, 11, none⟩ = some (.int .i64 m.res.c) :=
  ⟨(h.cell 0).trans rfl, (h.cell 1).trans rfl, (h.cell 2).trans rfl, (h.cell 3).trans rfl, (h.cell 4).trans rfl, (h.cell 5).trans rfl, (h.cell 6).trans rfl, (h.cell 7).trans rfl, (h.cell 8).trans rfl, (h.cell 9).trans rfl, (h.cell 10).trans rfl, (h.cell 11).trans rfl⟩
/-- What is asked of the fields: each part's two values, and what their comparison comes to. -/
def FieldsEqM (P : Program) (d : Nat) (xs ys : Array Value) (w : World) : List (Bool × TypeId × Nat) → List Bool → Prop
  | [], [] => True
  | s :: r, b :: bs => s.1 = true ∧ (∃ u v, (part s.2.1 xs s.2.2).run P w = .ok u w ∧ (part s.2.1 ys s.2.2).run P w = .ok v w ∧ (Op.equalIn d s.2.1 u v).run P w = .ok b w) ∧ FieldsEqM P d xs ys w r bs
  | _, _ => False
theorem run_eqFieldsM {P : Program} {d : Nat} {xs ys : Array Value} {w : World} : ∀ (fs : List Field) (sp : List (Bool × TypeId × Nat)) (bs : List Bool), fs.map (fun f => (f.name != "_", f.type, f.offset)) = sp → FieldsEqM P d xs ys w sp bs →
    (Op.eqFields d xs ys fs).run P w = .ok (bs.all id) w
  | [], sp, bs, h, hf => by
    subst h
    cases bs with
    | nil => simp [Op.eqFields]
    | cons b bs => exact hf.elim
  | f :: fs, sp, bs, h, hf => by
    subst h
    cases bs with
    | nil => exact hf.elim
    | cons b bs =>
      obtain ⟨hn, ⟨u, v, h1, h2, h3⟩, hr⟩ := hf
      have ih := run_eqFieldsM fs _ bs rfl hr
      have hn' : (f.name != "_") = true := hn
      simp only [Op.eqFields, Sem.run_bind, Sem.run_ite, hn', if_true, h1, h2, h3, Result.andThen_ok]
      have hne : f.name ≠ "_" := by simpa using hn'
      cases b
      · simp [hne]
      · simp [hne, ih]
theorem LMsg.ext_iff' (a b : LMsg) : a = b ↔ a.kind = b.kind ∧ a.frm = b.frm ∧ a.to_ = b.to_ ∧ a.epoch = b.epoch ∧ a.inc = b.inc ∧ a.job = b.job ∧ a.tick = b.tick ∧ a.prio = b.prio ∧ a.code = b.code ∧ a.res = b.res := by
  cases a; cases b; simp
set_option maxRecDepth 100000 in
theorem equalMsg (d : Nat) (a b : LMsg) (w : World) : (Op.equalIn (d + 4) 38 (aggMsg a) (aggMsg b)).run Tryd.prog w = .ok (decide (a = b)) w := by
  rw [run_equalIn_struct w (d + 3) _ _ _ (by kernel_rfl) (by kernel_rfl)]
  rw [run_eqFieldsM _ [(true, 3, 0), (true, 3, 1), (true, 3, 2), (true, 3, 3), (true, 3, 4), (true, 3, 5), (true, 3, 6), (true, 3, 7), (true, 3, 8), (true, 36, 9)] [a.kind == b.kind, a.frm == b.frm, a.to_ == b.to_, a.epoch == b.epoch, a.inc == b.inc, a.job == b.job, a.tick == b.tick, a.prio == b.prio, a.code == b.code, decide (a.res = b.res)] (by kernel_rfl)
    ⟨rfl, ⟨.int .i64 a.kind, .int .i64 b.kind, by kernel_rfl, by kernel_rfl, run_equalIn_int w (d + 2) 3 .i64 .i64 _ _ Tryd.underlying3⟩,
     rfl, ⟨.int .i64 a.frm, .int .i64 b.frm, by kernel_rfl, by kernel_rfl, run_equalIn_int w (d + 2) 3 .i64 .i64 _ _ Tryd.underlying3⟩,
     rfl, ⟨.int .i64 a.to_, .int .i64 b.to_, by kernel_rfl, by kernel_rfl, run_equalIn_int w (d + 2) 3 .i64 .i64 _ _ Tryd.underlying3⟩,
     rfl, ⟨.int .i64 a.epoch, .int .i64 b.epoch, by kernel_rfl, by kernel_rfl, run_equalIn_int w (d + 2) 3 .i64 .i64 _ _ Tryd.underlying3⟩,
     rfl, ⟨.int .i64 a.inc, .int .i64 b.inc, by kernel_rfl, by kernel_rfl, run_equalIn_int w (d + 2) 3 .i64 .i64 _ _ Tryd.underlying3⟩,
     rfl, ⟨.int .i64 a.job, .int .i64 b.job, by kernel_rfl, by kernel_rfl, run_equalIn_int w (d + 2) 3 .i64 .i64 _ _ Tryd.underlying3⟩,
     rfl, ⟨.int .i64 a.tick, .int .i64 b.tick, by kernel_rfl, by kernel_rfl, run_equalIn_int w (d + 2) 3 .i64 .i64 _ _ Tryd.underlying3⟩,
     rfl, ⟨.int .i64 a.prio, .int .i64 b.prio, by kernel_rfl, by kernel_rfl, run_equalIn_int w (d + 2) 3 .i64 .i64 _ _ Tryd.underlying3⟩,
     rfl, ⟨.int .i64 a.code, .int .i64 b.code, by kernel_rfl, by kernel_rfl, run_equalIn_int w (d + 2) 3 .i64 .i64 _ _ Tryd.underlying3⟩,
     rfl, ⟨aggRes a.res, aggRes b.res, by kernel_rfl, by kernel_rfl, equalRes (d + 1) a.res b.res w⟩, trivial⟩]
  congr 1
  rw [Bool.eq_iff_iff]
  simp [LMsg.ext_iff', and_assoc]
theorem eqlMsg (a b : LMsg) (w : World) : (binOp .eql 38 (aggMsg a) (aggMsg b)).run Tryd.prog w = .ok (.bool (decide (a = b))) w := by
  rw [run_eql_struct, equalMsg]; rfl
theorem neqMsg (a b : LMsg) (w : World) : (binOp .neq 38 (aggMsg a) (aggMsg b)).run Tryd.prog w = .ok (.bool (!decide (a = b))) w := by
  rw [run_neq_struct, equalMsg]; rfl
theorem guardMsg (op : BinOp) (x y : Operand) (a b : LMsg) (w : World) : (eqGuard op 38 x y (aggMsg a) (aggMsg b)).run Tryd.prog w = .ok () w :=
  run_eqGuard_agg w op 38 x y _ _ (by kernel_rfl)
theorem equalTwo (d : Nat) (a b c e : Int) (w : World) : (Op.equalIn (d + 2) 125 (.agg #[.int .i64 a, .int .i64 b]) (.agg #[.int .i64 c, .int .i64 e])).run Tryd.prog w = .ok (decide ((a, b) = (c, e))) w := by
  obtain ⟨i, hi, hz⟩ := Option.map_eq_some_iff.1 Tryd.infoInt
  have hc : Tryd.prog.cellsOf 3 = 1 := by kernel_rfl
  rw [run_equalIn_array w (d + 1) _ _ Tryd.underlying125 hi, hc, show List.range 2 = [0, 1] from rfl]
  have hk : Tryd.prog.plainKey 3 = true := by kernel_rfl
  have hq := fun (x y : Int) (W : World) => run_equalIn_int (P := Tryd.prog) W d 3 .i64 .i64 x y Tryd.underlying3
  have p0 := fun (x y : Int) (W : World) => run_part_plain (w := W) (P := Tryd.prog) hk (xs := #[.int .i64 x, .int .i64 y]) (off := 0) (v := .int .i64 x) rfl
  have p1 := fun (x y : Int) (W : World) => run_part_plain (w := W) (P := Tryd.prog) hk (xs := #[.int .i64 x, .int .i64 y]) (off := 1) (v := .int .i64 y) rfl
  simp only [Op.eqItems, Sem.run_bind, Sem.run_ite, Sem.run_pure, Nat.zero_mul, Nat.mul_one, p0, p1, Result.andThen_ok, hq]
  have hd : decide ((a, b) = (c, e)) = ((a == c) && (b == e)) := by
    rw [Bool.eq_iff_iff]
    simp
  rw [hd]
  cases (a == c) <;> cases (b == e) <;> simp
theorem neqTwo (a b c e : Int) (w : World) : (binOp .neq 125 (.agg #[.int .i64 a, .int .i64 b]) (.agg #[.int .i64 c, .int .i64 e])).run Tryd.prog w = .ok (.bool (!decide ((a, b) = (c, e)))) w := by
  rw [run_neq_struct, equalTwo]; rfl
theorem guardTwo (op : BinOp) (x y : Operand) (a b c e : Int) (w : World) : (eqGuard op 125 x y (.agg #[.int .i64 a, .int .i64 b]) (.agg #[.int .i64 c, .int .i64 e])).run Tryd.prog w = .ok () w :=
  run_eqGuard_agg w op 125 x y _ _ (by kernel_rfl)
end Go.Proofs.YthhnocnkicoimaaDoor
