/-
 A reevelaw39.Act, as a structure: its cells, its value, its bounds.
 LAYER 39 (worker): an act of 18 cells as a whole: read, laid (not cell by cell: the kernel's memory).
-/
import Derived.Test.YthhnocnkicoimaaDoorTMsg
import Derived.Test.YthhnocnkicoimaaDoorTRes
import Derived.Deep.MidRow
import Derived.Deep.WholeRow
set_option linter.unusedVariables false
set_option linter.unusedSimpArgs false
namespace Go.Proofs.YthhnocnkicoimaaDoor
open Go.RowKit

structure LAct39 where
 kind : Int
 now : Int
 n : Int
 msg : LMsg
 res : LRes
 deriving DecidableEq
def encAct39 (r : LAct39) : List Value := [.int .i64 r.kind, .int .i64 r.now, .int .i64 r.n, .int .i64 r.msg.kind, .int .i64 r.msg.frm, .int .i64 r.msg.to_, .int .i64 r.msg.epoch, .int .i64 r.msg.inc, .int .i64 r.msg.job, .int .i64 r.msg.tick, .int .i64 r.msg.prio, .int .i64 r.msg.code, .int .i64 r.msg.res.a, .int .i64 r.msg.res.b, .int .i64 r.msg.res.c, .int .i64 r.res.a, .int .i64 r.res.b, .int .i64 r.res.c]
abbrev aggAct39 (r : LAct39) : Value := .agg #[.int .i64 r.kind, .int .i64 r.now, .int .i64 r.n, .int .i64 r.msg.kind, .int .i64 r.msg.frm, .int .i64 r.msg.to_, .int .i64 r.msg.epoch, .int .i64 r.msg.inc, .int .i64 r.msg.job, .int .i64 r.msg.tick, .int .i64 r.msg.prio, .int .i64 r.msg.code, .int .i64 r.msg.res.a, .int .i64 r.msg.res.b, .int .i64 r.msg.res.c, .int .i64 r.res.a, .int .i64 r.res.b, .int .i64 r.res.c]
abbrev boxAct39 (r : LAct39) : Array Value := #[.int .i64 r.kind, .int .i64 r.now, .int .i64 r.n, .int .i64 r.msg.kind, .int .i64 r.msg.frm, .int .i64 r.msg.to_, .int .i64 r.msg.epoch, .int .i64 r.msg.inc, .int .i64 r.msg.job, .int .i64 r.msg.tick, .int .i64 r.msg.prio, .int .i64 r.msg.code, .int .i64 r.msg.res.a, .int .i64 r.msg.res.b, .int .i64 r.msg.res.c, .int .i64 r.res.a, .int .i64 r.res.b, .int .i64 r.res.c]
def wfAct39 (r : LAct39) : Prop := wf64 r.kind ∧ wf64 r.now ∧ wf64 r.n ∧ wfMsg r.msg ∧ wfRes r.res
abbrev zeroAct39 : Value := .agg #[.int .i64 0, .int .i64 0, .int .i64 0, .int .i64 0, .int .i64 0, .int .i64 0, .int .i64 0, .int .i64 0, .int .i64 0, .int .i64 0, .int .i64 0, .int .i64 0, .int .i64 0, .int .i64 0, .int .i64 0, .int .i64 0, .int .i64 0, .int .i64 0]
theorem Act39_len (r : LAct39) : (encAct39 r).length = 18 := rfl
theorem Act39_one (r : LAct39) : ∀ u ∈ encAct39 r, u.oneCell' = true := by
 intro u hu
 simp [encAct39] at hu
 rcases hu with rfl | rfl | rfl | rfl | rfl | rfl | rfl | rfl | rfl | rfl | rfl | rfl | rfl | rfl | rfl | rfl | rfl | rfl <;> rfl
theorem Tryd.infoAct39 : (Tryd.prog.info? 62).map (fun i => (i.zero, i.size, i.bytes)) = some (some (zeroAct39), 18, 144) := by kernel_rfl

end Go.Proofs.YthhnocnkicoimaaDoor
namespace Go.Proofs.YthhnocnkicoimaaDoor
open Go.RowKit Go.Maps

/-- An act is read as a whole. -/
theorem load39 {ops : Array Oper} {rest : List Oper} {op : Oper} {a : Act} {w : World} {Q : Exit → Act → World → Prop} (hgd : op.guard = none) (x : Operand) (ho : op.op = .load 62 x) (b o : Nat) (hx : a.eval x = .pointer (some ⟨b, o, none⟩)) (m : LAct39) (hc : ∀ j v, (encAct39 m)[j]? = some v → w.cell? ⟨b, o + j, none⟩ = some v) (h : wpList Tryd.prog ops Q rest (a.put op.dst (.agg (boxAct39 m))) w) : wpList Tryd.prog ops Q (op :: rest) a w :=
 wpList_load_mid hgd 62 x ho b o hx (encAct39 m) _ (fun j v hv => hc j v hv) Tryd.underlying62 rfl (by kernel_rfl) h
/-- An act is laid as a whole into a box just made. -/
theorem store39 {ops : Array Oper} {rest : List Oper} {op : Oper} {a : Act} {w : World} {Q : Exit → Act → World → Prop} (hgd : op.guard = none) (hd : op.dst = none) (x y : Operand) (ho : op.op = .store 62 x y) (c : Array Value) (m : LAct39) (hx : a.eval x = .pointer (some ⟨w.heap.size, 0, none⟩)) (hy : a.eval y = .agg (boxAct39 m)) (hcs : c.size = 18) (h : wpList Tryd.prog ops Q rest a (w.alloc (.cells (boxAct39 m) 62))) : wpList Tryd.prog ops Q (op :: rest) a (w.alloc (.cells c 62)) :=
 wpList_plain hgd fun K9 hK => by
  unfold Oper.wp execOp
  have hr := run_storeAt_new (P := Tryd.prog) w 62 c (boxAct39 m) (by kernel_rfl) (hcs.trans rfl) (by simp [boxAct39, Value.oneCell'])
  simp only [ho, hx, hy, Sem.run_bind, Sem.run_pure, Result.andThen_ok, hr]
  have h2 : ∀ d, d = none → K9 (a.put d undef) (w.alloc (.cells (boxAct39 m) 62)) := fun d e => by subst e; exact hK _ _ h
  exact h2 _ hd
end Go.Proofs.YthhnocnkicoimaaDoor
