/-
 LAYER 35 (msg): the document's Check of any message, each region looked at once.
-/
import Derived.Test.YthhnocnkicoimaaDoorMsg10
import Derived.Test.YthhnocnkicoimaaDoorMsg7
import Derived.Test.YthhnocnkicoimaaDoorAnyAuto
import Derived.Deep.Cut
set_option linter.unusedVariables false
set_option linter.unusedSimpArgs false
namespace Go.Proofs.YthhnocnkicoimaaDoor
open Go.RowKit

theorem res_zero_right : rightR ⟨0, 0, 0⟩ = true := by decide
/-- The operations of a region. -/
def opsIn (id : Nat) : Code → List Oper
 | .region i ops _ => if i = id then ops.toList else []
 | .seq a b => opsIn id a ++ opsIn id b
 | .cond _ a b => opsIn id a ++ opsIn id b
 | .block _ a => opsIn id a
 | .loop a => opsIn id a
 | _ => []
section
variable {P : Program} {ops : Array Oper} {Q : Exit → Act → World → Prop}
theorem ev_q {a : Act} {w : World} {o : Oper} {Vs : List MV} {x : Value} (hdep : ∀ j, (o.after.any fun e => Region.binds .any e && e.on == j) = true → ∀ dj, dstOf ops j = some dj → ∃ v, a.tmps[dj]? = some v ∧ Vof Vs j v w) (j dj : Nat)
  (h1 : (o.after.any fun e => Region.binds .any e && e.on == j) = true := by kernel_rfl) (h2 : dstOf ops j = some dj := by kernel_rfl) (hV : ∀ v, Vof Vs j v w → v = x := by exact fun v h => h) : a.tmps[dj]? = some x := by
 obtain ⟨v, h3, h4⟩ := hdep j h1 dj h2
 rw [h3, hV v h4]
theorem want_q {a : Act} {w : World} {o : Oper} {Vs : List MV} (hdep : ∀ j, (o.after.any fun e => Region.binds .any e && e.on == j) = true → ∀ dj, dstOf ops j = some dj → ∃ v, a.tmps[dj]? = some v ∧ Vof Vs j v w) (j dj : Nat) (b : Bool)
  (hg : o.guard = some (j, b) := by rfl) (h1 : (o.after.any fun e => Region.binds .any e && e.on == j) = true := by kernel_rfl) (h2 : dstOf ops j = some dj := by kernel_rfl) (hb : ∀ v, Vof Vs j v w → v = .bool b := by exact fun v h => h) : Region.wanted o (yielded ops a.tmps) = true :=
 (want_dep hdep j dj b hg h1 h2 hb).trans (by cases b <;> rfl)
theorem step_move {a : Act} {w : World} {o : Oper} {Vs : List MV} {i t : Nat} {x : Value} (he : a.tmps[t]? = some x) (ho : o.op = .move (.tmp t) := by rfl) (hv : Vof Vs i x w := by rfl) : Oper.wp P o a w (fun a' w' => ∃ v, a' = a.put o.dst v ∧ Vof Vs i v w' ∧ Below w.heap.size w w') Q :=
 step_val ((BigFrame.run_move _ ho w).trans (by rw [ev_of he])) hv
end
set_option maxRecDepth 100000 in
set_option maxHeartbeats 3200000 in
theorem r11_Et {m : LMsg} {b1 : Nat}  {l : List Value} {df : List Deferred} {w0 : World} {Q : Exit → Act → World → Prop} {os : List Oper} (hos : opsIn 11 (Tryd.f43.body.getD .skip) = os) (hlen : l.length = 114) (h1 : l[1]? = some (.pointer (some ⟨b1, 0, none⟩))) (h7 : l[7]? = some (.int .u8 69)) (HZ : Hid (Blk w0 b1 38 (boxMsg m))) (ht : inM m.epoch 1 4294967295 = true)
  (fin : ∀ w, Below w0.heap.size w0 w → FinC (fun ls => Q .normal ⟨ls.toArray, df⟩ w) w l 46 (([.o (eqV (.int .u8 69)), .b true, .b true, .o (eqV (.pointer (some ⟨b1, 3, none⟩))), .o (eqV (.int .i64 m.epoch)), .b true, .b false, .b false, .b false, .o (eqV (.int .u8 69)), .b false, .b false, .u, .u, .u, .u, .b false, .b false, .b false, .o (eqV (.int .u8 69)), .b false, .b false, .u, .u, .u, .u, .b false, .b false, .b false, .o (eqV (.int .u8 69)), .b false, .b false, .u, .u, .u, .u, .b false, .b false, .b false, .o (eqV (.int .u8 69)), .b false, .b false, .u, .u, .u, .u, .b false, .b false, .b false, .o (eqV (.int .u8 69)), .b false, .b false, .u, .u, .u, .u, .b false, .b false, .b false, .o (eqV (.int .u8 69)), .b false, .b false, .u, .u, .u, .u, .b false, .b false] : List TE).map TE.mv) []) : (Code.region 11 os.toArray false).wp Tryd.prog Q ⟨l.toArray, df⟩ w0 := by
 subst hos
 refine wp_region_autoL 46 _ [false, false, true, false, false, false, true, true, true, false, false, true, true, true, true, true, true, true, true, false, false, true, true, true, true, true, true, true, true, false, false, true, true, true, true, true, true, true, true, false, false, true, true, true, true, true, true, true, true, false, false, true, true, true, true, true, true, true, true, false, false, true, true, true, true, true, true, true] (by rw [hlen]; kernel_rfl) (by kernel_rfl) (by rw [hlen]; kernel_rfl) (by kernel_rfl) ⟨?_, ?_, ?_, ?_, ?_, ?_, ?_, ?_, ?_, ?_, ?_, ?_, ?_, ?_, ?_, ?_, ?_, trivial⟩ fin
 ·intro a w hb hoth hdep
  refine step_on (want_none rfl) ?_
  exact step_move (ev_other hoth 7 (by kernel_rfl) h7)
 ·intro a w hb hoth hdep
  refine step_on (want_none rfl) ?_
  have e46 := ev_q (x := .int .u8 69) hdep 0 46
  refine step_val (x := .bool true) ?_ rfl
  simp [go_sem, e46]
 ·intro a w hb hoth hdep
  refine step_on (want_q hdep 2 48 true) ?_
  have e1 := ev_other hoth 1 (by kernel_rfl) h1
  refine step_val (x := .pointer (some ⟨b1, 3, none⟩)) ?_ rfl
  simp [go_sem, e1]
 ·intro a w hb hoth hdep
  refine step_on (want_q hdep 2 48 true) ?_
  have e49 := ev_q (x := .pointer (some ⟨b1, 3, none⟩)) hdep 3 49
  have c3 : w.cell? ⟨b1, 3, none⟩ = some (.int .i64 m.epoch) := ((HZ.out.below hb HZ.out.lt).cell 3).trans rfl
  refine step_val (x := .int .i64 m.epoch) ?_ rfl
  simp [go_sem, e49, c3]
 ·intro a w hb hoth hdep
  refine step_on (want_q hdep 2 48 true) ?_
  have e50 := ev_q (x := .int .i64 m.epoch) hdep 4 50
  refine step_call (f := 79) (args := #[.int .i64 m.epoch, .int .i64 1, .int .i64 4294967295]) ?_ ?_
  ·simp [go_sem, e50]
  ·have hcx := refIn_t m.epoch 1 4294967295 w
   rw [ht] at hcx
   (with_reducible refine hcx.mono ?_)
   rintro e w2 ⟨rfl, rfl⟩
   exact ⟨_, rfl, rfl, Below.refl _ _⟩
 ·intro a w hb hoth hdep
  refine step_on (want_q hdep 8 54 false) ?_
  exact step_move (ev_other hoth 7 (by kernel_rfl) h7)
 ·intro a w hb hoth hdep
  refine step_on (want_q hdep 8 54 false) ?_
  have e55 := ev_q (x := .int .u8 69) hdep 9 55
  refine step_val (x := .bool false) ?_ rfl
  simp [go_sem, e55]
 ·intro a w hb hoth hdep
  refine step_on (want_q hdep 18 64 false) ?_
  exact step_move (ev_other hoth 7 (by kernel_rfl) h7)
 ·intro a w hb hoth hdep
  refine step_on (want_q hdep 18 64 false) ?_
  have e65 := ev_q (x := .int .u8 69) hdep 19 65
  refine step_val (x := .bool false) ?_ rfl
  simp [go_sem, e65]
 ·intro a w hb hoth hdep
  refine step_on (want_q hdep 28 74 false) ?_
  exact step_move (ev_other hoth 7 (by kernel_rfl) h7)
 ·intro a w hb hoth hdep
  refine step_on (want_q hdep 28 74 false) ?_
  have e75 := ev_q (x := .int .u8 69) hdep 29 75
  refine step_val (x := .bool false) ?_ rfl
  simp [go_sem, e75]
 ·intro a w hb hoth hdep
  refine step_on (want_q hdep 38 84 false) ?_
  exact step_move (ev_other hoth 7 (by kernel_rfl) h7)
 ·intro a w hb hoth hdep
  refine step_on (want_q hdep 38 84 false) ?_
  have e85 := ev_q (x := .int .u8 69) hdep 39 85
  refine step_val (x := .bool false) ?_ rfl
  simp [go_sem, e85]
 ·intro a w hb hoth hdep
  refine step_on (want_q hdep 48 94 false) ?_
  exact step_move (ev_other hoth 7 (by kernel_rfl) h7)
 ·intro a w hb hoth hdep
  refine step_on (want_q hdep 48 94 false) ?_
  have e95 := ev_q (x := .int .u8 69) hdep 49 95
  refine step_val (x := .bool false) ?_ rfl
  simp [go_sem, e95]
 ·intro a w hb hoth hdep
  refine step_on (want_q hdep 58 104 false) ?_
  exact step_move (ev_other hoth 7 (by kernel_rfl) h7)
 ·intro a w hb hoth hdep
  refine step_on (want_q hdep 58 104 false) ?_
  have e105 := ev_q (x := .int .u8 69) hdep 59 105
  refine step_val (x := .bool false) ?_ rfl
  simp [go_sem, e105]
set_option maxRecDepth 100000 in
set_option maxHeartbeats 3200000 in
theorem r11_Ef {m : LMsg} {b1 : Nat}  {l : List Value} {df : List Deferred} {w0 : World} {Q : Exit → Act → World → Prop} {os : List Oper} (hos : opsIn 11 (Tryd.f43.body.getD .skip) = os) (hlen : l.length = 114) (h1 : l[1]? = some (.pointer (some ⟨b1, 0, none⟩))) (h7 : l[7]? = some (.int .u8 69)) (HZ : Hid (Blk w0 b1 38 (boxMsg m))) (ht : inM m.epoch 1 4294967295 = false)
  (fin : ∀ w, Below w0.heap.size w0 w → FinC (fun ls => Q .normal ⟨ls.toArray, df⟩ w) w l 46 (([.o (eqV (.int .u8 69)), .b true, .b true, .o (eqV (.pointer (some ⟨b1, 3, none⟩))), .o (eqV (.int .i64 m.epoch)), .b false, .b true, .b true, .b true, .u, .u, .u, .u, .u, .u, .u, .u, .b true, .b true, .u, .u, .u, .u, .u, .u, .u, .u, .b true, .b true, .u, .u, .u, .u, .u, .u, .u, .u, .b true, .b true, .u, .u, .u, .u, .u, .u, .u, .u, .b true, .b true, .u, .u, .u, .u, .u, .u, .u, .u, .b true, .b true, .u, .u, .u, .u, .u, .u, .u, .u, .b true] : List TE).map TE.mv) []) : (Code.region 11 os.toArray false).wp Tryd.prog Q ⟨l.toArray, df⟩ w0 := by
 subst hos
 refine wp_region_autoL 46 _ [false, false, true, false, false, false, true, true, true, true, true, true, true, true, true, true, true, true, true, true, true, true, true, true, true, true, true, true, true, true, true, true, true, true, true, true, true, true, true, true, true, true, true, true, true, true, true, true, true, true, true, true, true, true, true, true, true, true, true, true, true, true, true, true, true, true, true, true] (by rw [hlen]; kernel_rfl) (by kernel_rfl) (by rw [hlen]; kernel_rfl) (by kernel_rfl) ⟨?_, ?_, ?_, ?_, ?_, trivial⟩ fin
 ·intro a w hb hoth hdep
  refine step_on (want_none rfl) ?_
  exact step_move (ev_other hoth 7 (by kernel_rfl) h7)
 ·intro a w hb hoth hdep
  refine step_on (want_none rfl) ?_
  have e46 := ev_q (x := .int .u8 69) hdep 0 46
  refine step_val (x := .bool true) ?_ rfl
  simp [go_sem, e46]
 ·intro a w hb hoth hdep
  refine step_on (want_q hdep 2 48 true) ?_
  have e1 := ev_other hoth 1 (by kernel_rfl) h1
  refine step_val (x := .pointer (some ⟨b1, 3, none⟩)) ?_ rfl
  simp [go_sem, e1]
 ·intro a w hb hoth hdep
  refine step_on (want_q hdep 2 48 true) ?_
  have e49 := ev_q (x := .pointer (some ⟨b1, 3, none⟩)) hdep 3 49
  have c3 : w.cell? ⟨b1, 3, none⟩ = some (.int .i64 m.epoch) := ((HZ.out.below hb HZ.out.lt).cell 3).trans rfl
  refine step_val (x := .int .i64 m.epoch) ?_ rfl
  simp [go_sem, e49, c3]
 ·intro a w hb hoth hdep
  refine step_on (want_q hdep 2 48 true) ?_
  have e50 := ev_q (x := .int .i64 m.epoch) hdep 4 50
  refine step_call (f := 79) (args := #[.int .i64 m.epoch, .int .i64 1, .int .i64 4294967295]) ?_ ?_
  ·simp [go_sem, e50]
  ·have hcx := refIn_t m.epoch 1 4294967295 w
   rw [ht] at hcx
   (with_reducible refine hcx.mono ?_)
   rintro e w2 ⟨rfl, rfl⟩
   exact ⟨_, rfl, rfl, Below.refl _ _⟩
set_option maxRecDepth 100000 in
set_option maxHeartbeats 3200000 in
theorem r11_It {m : LMsg} {b1 : Nat}  {l : List Value} {df : List Deferred} {w0 : World} {Q : Exit → Act → World → Prop} {os : List Oper} (hos : opsIn 11 (Tryd.f43.body.getD .skip) = os) (hlen : l.length = 114) (h1 : l[1]? = some (.pointer (some ⟨b1, 0, none⟩))) (h7 : l[7]? = some (.int .u8 73)) (HZ : Hid (Blk w0 b1 38 (boxMsg m))) (ht : inM m.inc 1 2147483647 = true)
  (fin : ∀ w, Below w0.heap.size w0 w → FinC (fun ls => Q .normal ⟨ls.toArray, df⟩ w) w l 46 (([.o (eqV (.int .u8 73)), .b false, .b false, .u, .u, .u, .u, .b false, .b false, .o (eqV (.int .u8 73)), .b true, .b true, .o (eqV (.pointer (some ⟨b1, 4, none⟩))), .o (eqV (.int .i64 m.inc)), .b true, .b false, .b false, .b false, .b false, .o (eqV (.int .u8 73)), .b false, .b false, .u, .u, .u, .u, .b false, .b false, .b false, .o (eqV (.int .u8 73)), .b false, .b false, .u, .u, .u, .u, .b false, .b false, .b false, .o (eqV (.int .u8 73)), .b false, .b false, .u, .u, .u, .u, .b false, .b false, .b false, .o (eqV (.int .u8 73)), .b false, .b false, .u, .u, .u, .u, .b false, .b false, .b false, .o (eqV (.int .u8 73)), .b false, .b false, .u, .u, .u, .u, .b false, .b false] : List TE).map TE.mv) []) : (Code.region 11 os.toArray false).wp Tryd.prog Q ⟨l.toArray, df⟩ w0 := by
 subst hos
 refine wp_region_autoL 46 _ [false, false, true, true, true, true, true, true, true, false, false, true, false, false, false, true, true, true, true, false, false, true, true, true, true, true, true, true, true, false, false, true, true, true, true, true, true, true, true, false, false, true, true, true, true, true, true, true, true, false, false, true, true, true, true, true, true, true, true, false, false, true, true, true, true, true, true, true] (by rw [hlen]; kernel_rfl) (by kernel_rfl) (by rw [hlen]; kernel_rfl) (by kernel_rfl) ⟨?_, ?_, ?_, ?_, ?_, ?_, ?_, ?_, ?_, ?_, ?_, ?_, ?_, ?_, ?_, ?_, ?_, trivial⟩ fin
 ·intro a w hb hoth hdep
  refine step_on (want_none rfl) ?_
  exact step_move (ev_other hoth 7 (by kernel_rfl) h7)
 ·intro a w hb hoth hdep
  refine step_on (want_none rfl) ?_
  have e46 := ev_q (x := .int .u8 73) hdep 0 46
  refine step_val (x := .bool false) ?_ rfl
  simp [go_sem, e46]
 ·intro a w hb hoth hdep
  refine step_on (want_q hdep 8 54 false) ?_
  exact step_move (ev_other hoth 7 (by kernel_rfl) h7)
 ·intro a w hb hoth hdep
  refine step_on (want_q hdep 8 54 false) ?_
  have e55 := ev_q (x := .int .u8 73) hdep 9 55
  refine step_val (x := .bool true) ?_ rfl
  simp [go_sem, e55]
 ·intro a w hb hoth hdep
  refine step_on (want_q hdep 11 57 true) ?_
  have e1 := ev_other hoth 1 (by kernel_rfl) h1
  refine step_val (x := .pointer (some ⟨b1, 4, none⟩)) ?_ rfl
  simp [go_sem, e1]
 ·intro a w hb hoth hdep
  refine step_on (want_q hdep 11 57 true) ?_
  have e58 := ev_q (x := .pointer (some ⟨b1, 4, none⟩)) hdep 12 58
  have c4 : w.cell? ⟨b1, 4, none⟩ = some (.int .i64 m.inc) := ((HZ.out.below hb HZ.out.lt).cell 4).trans rfl
  refine step_val (x := .int .i64 m.inc) ?_ rfl
  simp [go_sem, e58, c4]
 ·intro a w hb hoth hdep
  refine step_on (want_q hdep 11 57 true) ?_
  have e59 := ev_q (x := .int .i64 m.inc) hdep 13 59
  refine step_call (f := 79) (args := #[.int .i64 m.inc, .int .i64 1, .int .i64 2147483647]) ?_ ?_
  ·simp [go_sem, e59]
  ·have hcx := refIn_t m.inc 1 2147483647 w
   rw [ht] at hcx
   (with_reducible refine hcx.mono ?_)
   rintro e w2 ⟨rfl, rfl⟩
   exact ⟨_, rfl, rfl, Below.refl _ _⟩
 ·intro a w hb hoth hdep
  refine step_on (want_q hdep 18 64 false) ?_
  exact step_move (ev_other hoth 7 (by kernel_rfl) h7)
 ·intro a w hb hoth hdep
  refine step_on (want_q hdep 18 64 false) ?_
  have e65 := ev_q (x := .int .u8 73) hdep 19 65
  refine step_val (x := .bool false) ?_ rfl
  simp [go_sem, e65]
 ·intro a w hb hoth hdep
  refine step_on (want_q hdep 28 74 false) ?_
  exact step_move (ev_other hoth 7 (by kernel_rfl) h7)
 ·intro a w hb hoth hdep
  refine step_on (want_q hdep 28 74 false) ?_
  have e75 := ev_q (x := .int .u8 73) hdep 29 75
  refine step_val (x := .bool false) ?_ rfl
  simp [go_sem, e75]
 ·intro a w hb hoth hdep
  refine step_on (want_q hdep 38 84 false) ?_
  exact step_move (ev_other hoth 7 (by kernel_rfl) h7)
 ·intro a w hb hoth hdep
  refine step_on (want_q hdep 38 84 false) ?_
  have e85 := ev_q (x := .int .u8 73) hdep 39 85
  refine step_val (x := .bool false) ?_ rfl
  simp [go_sem, e85]
 ·intro a w hb hoth hdep
  refine step_on (want_q hdep 48 94 false) ?_
  exact step_move (ev_other hoth 7 (by kernel_rfl) h7)
 ·intro a w hb hoth hdep
  refine step_on (want_q hdep 48 94 false) ?_
  have e95 := ev_q (x := .int .u8 73) hdep 49 95
  refine step_val (x := .bool false) ?_ rfl
  simp [go_sem, e95]
 ·intro a w hb hoth hdep
  refine step_on (want_q hdep 58 104 false) ?_
  exact step_move (ev_other hoth 7 (by kernel_rfl) h7)
 ·intro a w hb hoth hdep
  refine step_on (want_q hdep 58 104 false) ?_
  have e105 := ev_q (x := .int .u8 73) hdep 59 105
  refine step_val (x := .bool false) ?_ rfl
  simp [go_sem, e105]
set_option maxRecDepth 100000 in
set_option maxHeartbeats 3200000 in
theorem r11_If {m : LMsg} {b1 : Nat}  {l : List Value} {df : List Deferred} {w0 : World} {Q : Exit → Act → World → Prop} {os : List Oper} (hos : opsIn 11 (Tryd.f43.body.getD .skip) = os) (hlen : l.length = 114) (h1 : l[1]? = some (.pointer (some ⟨b1, 0, none⟩))) (h7 : l[7]? = some (.int .u8 73)) (HZ : Hid (Blk w0 b1 38 (boxMsg m))) (ht : inM m.inc 1 2147483647 = false)
  (fin : ∀ w, Below w0.heap.size w0 w → FinC (fun ls => Q .normal ⟨ls.toArray, df⟩ w) w l 46 (([.o (eqV (.int .u8 73)), .b false, .b false, .u, .u, .u, .u, .b false, .b false, .o (eqV (.int .u8 73)), .b true, .b true, .o (eqV (.pointer (some ⟨b1, 4, none⟩))), .o (eqV (.int .i64 m.inc)), .b false, .b true, .b true, .b true, .b true, .u, .u, .u, .u, .u, .u, .u, .u, .b true, .b true, .u, .u, .u, .u, .u, .u, .u, .u, .b true, .b true, .u, .u, .u, .u, .u, .u, .u, .u, .b true, .b true, .u, .u, .u, .u, .u, .u, .u, .u, .b true, .b true, .u, .u, .u, .u, .u, .u, .u, .u, .b true] : List TE).map TE.mv) []) : (Code.region 11 os.toArray false).wp Tryd.prog Q ⟨l.toArray, df⟩ w0 := by
 subst hos
 refine wp_region_autoL 46 _ [false, false, true, true, true, true, true, true, true, false, false, true, false, false, false, true, true, true, true, true, true, true, true, true, true, true, true, true, true, true, true, true, true, true, true, true, true, true, true, true, true, true, true, true, true, true, true, true, true, true, true, true, true, true, true, true, true, true, true, true, true, true, true, true, true, true, true, true] (by rw [hlen]; kernel_rfl) (by kernel_rfl) (by rw [hlen]; kernel_rfl) (by kernel_rfl) ⟨?_, ?_, ?_, ?_, ?_, ?_, ?_, trivial⟩ fin
 ·intro a w hb hoth hdep
  refine step_on (want_none rfl) ?_
  exact step_move (ev_other hoth 7 (by kernel_rfl) h7)
 ·intro a w hb hoth hdep
  refine step_on (want_none rfl) ?_
  have e46 := ev_q (x := .int .u8 73) hdep 0 46
  refine step_val (x := .bool false) ?_ rfl
  simp [go_sem, e46]
 ·intro a w hb hoth hdep
  refine step_on (want_q hdep 8 54 false) ?_
  exact step_move (ev_other hoth 7 (by kernel_rfl) h7)
 ·intro a w hb hoth hdep
  refine step_on (want_q hdep 8 54 false) ?_
  have e55 := ev_q (x := .int .u8 73) hdep 9 55
  refine step_val (x := .bool true) ?_ rfl
  simp [go_sem, e55]
 ·intro a w hb hoth hdep
  refine step_on (want_q hdep 11 57 true) ?_
  have e1 := ev_other hoth 1 (by kernel_rfl) h1
  refine step_val (x := .pointer (some ⟨b1, 4, none⟩)) ?_ rfl
  simp [go_sem, e1]
 ·intro a w hb hoth hdep
  refine step_on (want_q hdep 11 57 true) ?_
  have e58 := ev_q (x := .pointer (some ⟨b1, 4, none⟩)) hdep 12 58
  have c4 : w.cell? ⟨b1, 4, none⟩ = some (.int .i64 m.inc) := ((HZ.out.below hb HZ.out.lt).cell 4).trans rfl
  refine step_val (x := .int .i64 m.inc) ?_ rfl
  simp [go_sem, e58, c4]
 ·intro a w hb hoth hdep
  refine step_on (want_q hdep 11 57 true) ?_
  have e59 := ev_q (x := .int .i64 m.inc) hdep 13 59
  refine step_call (f := 79) (args := #[.int .i64 m.inc, .int .i64 1, .int .i64 2147483647]) ?_ ?_
  ·simp [go_sem, e59]
  ·have hcx := refIn_t m.inc 1 2147483647 w
   rw [ht] at hcx
   (with_reducible refine hcx.mono ?_)
   rintro e w2 ⟨rfl, rfl⟩
   exact ⟨_, rfl, rfl, Below.refl _ _⟩
set_option maxRecDepth 100000 in
set_option maxHeartbeats 3200000 in
theorem r11_Jt {m : LMsg} {b1 : Nat}  {l : List Value} {df : List Deferred} {w0 : World} {Q : Exit → Act → World → Prop} {os : List Oper} (hos : opsIn 11 (Tryd.f43.body.getD .skip) = os) (hlen : l.length = 114) (h1 : l[1]? = some (.pointer (some ⟨b1, 0, none⟩))) (h7 : l[7]? = some (.int .u8 74)) (HZ : Hid (Blk w0 b1 38 (boxMsg m))) (ht : inM m.job 1 2147483647 = true)
  (fin : ∀ w, Below w0.heap.size w0 w → FinC (fun ls => Q .normal ⟨ls.toArray, df⟩ w) w l 46 (([.o (eqV (.int .u8 74)), .b false, .b false, .u, .u, .u, .u, .b false, .b false, .o (eqV (.int .u8 74)), .b false, .b false, .u, .u, .u, .u, .b false, .b false, .b false, .o (eqV (.int .u8 74)), .b true, .b true, .o (eqV (.pointer (some ⟨b1, 5, none⟩))), .o (eqV (.int .i64 m.job)), .b true, .b false, .b false, .b false, .b false, .o (eqV (.int .u8 74)), .b false, .b false, .u, .u, .u, .u, .b false, .b false, .b false, .o (eqV (.int .u8 74)), .b false, .b false, .u, .u, .u, .u, .b false, .b false, .b false, .o (eqV (.int .u8 74)), .b false, .b false, .u, .u, .u, .u, .b false, .b false, .b false, .o (eqV (.int .u8 74)), .b false, .b false, .u, .u, .u, .u, .b false, .b false] : List TE).map TE.mv) []) : (Code.region 11 os.toArray false).wp Tryd.prog Q ⟨l.toArray, df⟩ w0 := by
 subst hos
 refine wp_region_autoL 46 _ [false, false, true, true, true, true, true, true, true, false, false, true, true, true, true, true, true, true, true, false, false, true, false, false, false, true, true, true, true, false, false, true, true, true, true, true, true, true, true, false, false, true, true, true, true, true, true, true, true, false, false, true, true, true, true, true, true, true, true, false, false, true, true, true, true, true, true, true] (by rw [hlen]; kernel_rfl) (by kernel_rfl) (by rw [hlen]; kernel_rfl) (by kernel_rfl) ⟨?_, ?_, ?_, ?_, ?_, ?_, ?_, ?_, ?_, ?_, ?_, ?_, ?_, ?_, ?_, ?_, ?_, trivial⟩ fin
 ·intro a w hb hoth hdep
  refine step_on (want_none rfl) ?_
  exact step_move (ev_other hoth 7 (by kernel_rfl) h7)
 ·intro a w hb hoth hdep
  refine step_on (want_none rfl) ?_
  have e46 := ev_q (x := .int .u8 74) hdep 0 46
  refine step_val (x := .bool false) ?_ rfl
  simp [go_sem, e46]
 ·intro a w hb hoth hdep
  refine step_on (want_q hdep 8 54 false) ?_
  exact step_move (ev_other hoth 7 (by kernel_rfl) h7)
 ·intro a w hb hoth hdep
  refine step_on (want_q hdep 8 54 false) ?_
  have e55 := ev_q (x := .int .u8 74) hdep 9 55
  refine step_val (x := .bool false) ?_ rfl
  simp [go_sem, e55]
 ·intro a w hb hoth hdep
  refine step_on (want_q hdep 18 64 false) ?_
  exact step_move (ev_other hoth 7 (by kernel_rfl) h7)
 ·intro a w hb hoth hdep
  refine step_on (want_q hdep 18 64 false) ?_
  have e65 := ev_q (x := .int .u8 74) hdep 19 65
  refine step_val (x := .bool true) ?_ rfl
  simp [go_sem, e65]
 ·intro a w hb hoth hdep
  refine step_on (want_q hdep 21 67 true) ?_
  have e1 := ev_other hoth 1 (by kernel_rfl) h1
  refine step_val (x := .pointer (some ⟨b1, 5, none⟩)) ?_ rfl
  simp [go_sem, e1]
 ·intro a w hb hoth hdep
  refine step_on (want_q hdep 21 67 true) ?_
  have e68 := ev_q (x := .pointer (some ⟨b1, 5, none⟩)) hdep 22 68
  have c5 : w.cell? ⟨b1, 5, none⟩ = some (.int .i64 m.job) := ((HZ.out.below hb HZ.out.lt).cell 5).trans rfl
  refine step_val (x := .int .i64 m.job) ?_ rfl
  simp [go_sem, e68, c5]
 ·intro a w hb hoth hdep
  refine step_on (want_q hdep 21 67 true) ?_
  have e69 := ev_q (x := .int .i64 m.job) hdep 23 69
  refine step_call (f := 79) (args := #[.int .i64 m.job, .int .i64 1, .int .i64 2147483647]) ?_ ?_
  ·simp [go_sem, e69]
  ·have hcx := refIn_t m.job 1 2147483647 w
   rw [ht] at hcx
   (with_reducible refine hcx.mono ?_)
   rintro e w2 ⟨rfl, rfl⟩
   exact ⟨_, rfl, rfl, Below.refl _ _⟩
 ·intro a w hb hoth hdep
  refine step_on (want_q hdep 28 74 false) ?_
  exact step_move (ev_other hoth 7 (by kernel_rfl) h7)
 ·intro a w hb hoth hdep
  refine step_on (want_q hdep 28 74 false) ?_
  have e75 := ev_q (x := .int .u8 74) hdep 29 75
  refine step_val (x := .bool false) ?_ rfl
  simp [go_sem, e75]
 ·intro a w hb hoth hdep
  refine step_on (want_q hdep 38 84 false) ?_
  exact step_move (ev_other hoth 7 (by kernel_rfl) h7)
 ·intro a w hb hoth hdep
  refine step_on (want_q hdep 38 84 false) ?_
  have e85 := ev_q (x := .int .u8 74) hdep 39 85
  refine step_val (x := .bool false) ?_ rfl
  simp [go_sem, e85]
 ·intro a w hb hoth hdep
  refine step_on (want_q hdep 48 94 false) ?_
  exact step_move (ev_other hoth 7 (by kernel_rfl) h7)
 ·intro a w hb hoth hdep
  refine step_on (want_q hdep 48 94 false) ?_
  have e95 := ev_q (x := .int .u8 74) hdep 49 95
  refine step_val (x := .bool false) ?_ rfl
  simp [go_sem, e95]
 ·intro a w hb hoth hdep
  refine step_on (want_q hdep 58 104 false) ?_
  exact step_move (ev_other hoth 7 (by kernel_rfl) h7)
 ·intro a w hb hoth hdep
  refine step_on (want_q hdep 58 104 false) ?_
  have e105 := ev_q (x := .int .u8 74) hdep 59 105
  refine step_val (x := .bool false) ?_ rfl
  simp [go_sem, e105]
set_option maxRecDepth 100000 in
set_option maxHeartbeats 3200000 in
theorem r11_Jf {m : LMsg} {b1 : Nat}  {l : List Value} {df : List Deferred} {w0 : World} {Q : Exit → Act → World → Prop} {os : List Oper} (hos : opsIn 11 (Tryd.f43.body.getD .skip) = os) (hlen : l.length = 114) (h1 : l[1]? = some (.pointer (some ⟨b1, 0, none⟩))) (h7 : l[7]? = some (.int .u8 74)) (HZ : Hid (Blk w0 b1 38 (boxMsg m))) (ht : inM m.job 1 2147483647 = false)
  (fin : ∀ w, Below w0.heap.size w0 w → FinC (fun ls => Q .normal ⟨ls.toArray, df⟩ w) w l 46 (([.o (eqV (.int .u8 74)), .b false, .b false, .u, .u, .u, .u, .b false, .b false, .o (eqV (.int .u8 74)), .b false, .b false, .u, .u, .u, .u, .b false, .b false, .b false, .o (eqV (.int .u8 74)), .b true, .b true, .o (eqV (.pointer (some ⟨b1, 5, none⟩))), .o (eqV (.int .i64 m.job)), .b false, .b true, .b true, .b true, .b true, .u, .u, .u, .u, .u, .u, .u, .u, .b true, .b true, .u, .u, .u, .u, .u, .u, .u, .u, .b true, .b true, .u, .u, .u, .u, .u, .u, .u, .u, .b true, .b true, .u, .u, .u, .u, .u, .u, .u, .u, .b true] : List TE).map TE.mv) []) : (Code.region 11 os.toArray false).wp Tryd.prog Q ⟨l.toArray, df⟩ w0 := by
 subst hos
 refine wp_region_autoL 46 _ [false, false, true, true, true, true, true, true, true, false, false, true, true, true, true, true, true, true, true, false, false, true, false, false, false, true, true, true, true, true, true, true, true, true, true, true, true, true, true, true, true, true, true, true, true, true, true, true, true, true, true, true, true, true, true, true, true, true, true, true, true, true, true, true, true, true, true, true] (by rw [hlen]; kernel_rfl) (by kernel_rfl) (by rw [hlen]; kernel_rfl) (by kernel_rfl) ⟨?_, ?_, ?_, ?_, ?_, ?_, ?_, ?_, ?_, trivial⟩ fin
 ·intro a w hb hoth hdep
  refine step_on (want_none rfl) ?_
  exact step_move (ev_other hoth 7 (by kernel_rfl) h7)
 ·intro a w hb hoth hdep
  refine step_on (want_none rfl) ?_
  have e46 := ev_q (x := .int .u8 74) hdep 0 46
  refine step_val (x := .bool false) ?_ rfl
  simp [go_sem, e46]
 ·intro a w hb hoth hdep
  refine step_on (want_q hdep 8 54 false) ?_
  exact step_move (ev_other hoth 7 (by kernel_rfl) h7)
 ·intro a w hb hoth hdep
  refine step_on (want_q hdep 8 54 false) ?_
  have e55 := ev_q (x := .int .u8 74) hdep 9 55
  refine step_val (x := .bool false) ?_ rfl
  simp [go_sem, e55]
 ·intro a w hb hoth hdep
  refine step_on (want_q hdep 18 64 false) ?_
  exact step_move (ev_other hoth 7 (by kernel_rfl) h7)
 ·intro a w hb hoth hdep
  refine step_on (want_q hdep 18 64 false) ?_
  have e65 := ev_q (x := .int .u8 74) hdep 19 65
  refine step_val (x := .bool true) ?_ rfl
  simp [go_sem, e65]
 ·intro a w hb hoth hdep
  refine step_on (want_q hdep 21 67 true) ?_
  have e1 := ev_other hoth 1 (by kernel_rfl) h1
  refine step_val (x := .pointer (some ⟨b1, 5, none⟩)) ?_ rfl
  simp [go_sem, e1]
 ·intro a w hb hoth hdep
  refine step_on (want_q hdep 21 67 true) ?_
  have e68 := ev_q (x := .pointer (some ⟨b1, 5, none⟩)) hdep 22 68
  have c5 : w.cell? ⟨b1, 5, none⟩ = some (.int .i64 m.job) := ((HZ.out.below hb HZ.out.lt).cell 5).trans rfl
  refine step_val (x := .int .i64 m.job) ?_ rfl
  simp [go_sem, e68, c5]
 ·intro a w hb hoth hdep
  refine step_on (want_q hdep 21 67 true) ?_
  have e69 := ev_q (x := .int .i64 m.job) hdep 23 69
  refine step_call (f := 79) (args := #[.int .i64 m.job, .int .i64 1, .int .i64 2147483647]) ?_ ?_
  ·simp [go_sem, e69]
  ·have hcx := refIn_t m.job 1 2147483647 w
   rw [ht] at hcx
   (with_reducible refine hcx.mono ?_)
   rintro e w2 ⟨rfl, rfl⟩
   exact ⟨_, rfl, rfl, Below.refl _ _⟩
set_option maxRecDepth 100000 in
set_option maxHeartbeats 3200000 in
theorem r11_Tt {m : LMsg} {b1 : Nat}  {l : List Value} {df : List Deferred} {w0 : World} {Q : Exit → Act → World → Prop} {os : List Oper} (hos : opsIn 11 (Tryd.f43.body.getD .skip) = os) (hlen : l.length = 114) (h1 : l[1]? = some (.pointer (some ⟨b1, 0, none⟩))) (h7 : l[7]? = some (.int .u8 84)) (HZ : Hid (Blk w0 b1 38 (boxMsg m))) (ht : inM m.tick 0 1099511627776 = true)
  (fin : ∀ w, Below w0.heap.size w0 w → FinC (fun ls => Q .normal ⟨ls.toArray, df⟩ w) w l 46 (([.o (eqV (.int .u8 84)), .b false, .b false, .u, .u, .u, .u, .b false, .b false, .o (eqV (.int .u8 84)), .b false, .b false, .u, .u, .u, .u, .b false, .b false, .b false, .o (eqV (.int .u8 84)), .b false, .b false, .u, .u, .u, .u, .b false, .b false, .b false, .o (eqV (.int .u8 84)), .b true, .b true, .o (eqV (.pointer (some ⟨b1, 6, none⟩))), .o (eqV (.int .i64 m.tick)), .b true, .b false, .b false, .b false, .b false, .o (eqV (.int .u8 84)), .b false, .b false, .u, .u, .u, .u, .b false, .b false, .b false, .o (eqV (.int .u8 84)), .b false, .b false, .u, .u, .u, .u, .b false, .b false, .b false, .o (eqV (.int .u8 84)), .b false, .b false, .u, .u, .u, .u, .b false, .b false] : List TE).map TE.mv) []) : (Code.region 11 os.toArray false).wp Tryd.prog Q ⟨l.toArray, df⟩ w0 := by
 subst hos
 refine wp_region_autoL 46 _ [false, false, true, true, true, true, true, true, true, false, false, true, true, true, true, true, true, true, true, false, false, true, true, true, true, true, true, true, true, false, false, true, false, false, false, true, true, true, true, false, false, true, true, true, true, true, true, true, true, false, false, true, true, true, true, true, true, true, true, false, false, true, true, true, true, true, true, true] (by rw [hlen]; kernel_rfl) (by kernel_rfl) (by rw [hlen]; kernel_rfl) (by kernel_rfl) ⟨?_, ?_, ?_, ?_, ?_, ?_, ?_, ?_, ?_, ?_, ?_, ?_, ?_, ?_, ?_, ?_, ?_, trivial⟩ fin
 ·intro a w hb hoth hdep
  refine step_on (want_none rfl) ?_
  exact step_move (ev_other hoth 7 (by kernel_rfl) h7)
 ·intro a w hb hoth hdep
  refine step_on (want_none rfl) ?_
  have e46 := ev_q (x := .int .u8 84) hdep 0 46
  refine step_val (x := .bool false) ?_ rfl
  simp [go_sem, e46]
 ·intro a w hb hoth hdep
  refine step_on (want_q hdep 8 54 false) ?_
  exact step_move (ev_other hoth 7 (by kernel_rfl) h7)
 ·intro a w hb hoth hdep
  refine step_on (want_q hdep 8 54 false) ?_
  have e55 := ev_q (x := .int .u8 84) hdep 9 55
  refine step_val (x := .bool false) ?_ rfl
  simp [go_sem, e55]
 ·intro a w hb hoth hdep
  refine step_on (want_q hdep 18 64 false) ?_
  exact step_move (ev_other hoth 7 (by kernel_rfl) h7)
 ·intro a w hb hoth hdep
  refine step_on (want_q hdep 18 64 false) ?_
  have e65 := ev_q (x := .int .u8 84) hdep 19 65
  refine step_val (x := .bool false) ?_ rfl
  simp [go_sem, e65]
 ·intro a w hb hoth hdep
  refine step_on (want_q hdep 28 74 false) ?_
  exact step_move (ev_other hoth 7 (by kernel_rfl) h7)
 ·intro a w hb hoth hdep
  refine step_on (want_q hdep 28 74 false) ?_
  have e75 := ev_q (x := .int .u8 84) hdep 29 75
  refine step_val (x := .bool true) ?_ rfl
  simp [go_sem, e75]
 ·intro a w hb hoth hdep
  refine step_on (want_q hdep 31 77 true) ?_
  have e1 := ev_other hoth 1 (by kernel_rfl) h1
  refine step_val (x := .pointer (some ⟨b1, 6, none⟩)) ?_ rfl
  simp [go_sem, e1]
 ·intro a w hb hoth hdep
  refine step_on (want_q hdep 31 77 true) ?_
  have e78 := ev_q (x := .pointer (some ⟨b1, 6, none⟩)) hdep 32 78
  have c6 : w.cell? ⟨b1, 6, none⟩ = some (.int .i64 m.tick) := ((HZ.out.below hb HZ.out.lt).cell 6).trans rfl
  refine step_val (x := .int .i64 m.tick) ?_ rfl
  simp [go_sem, e78, c6]
 ·intro a w hb hoth hdep
  refine step_on (want_q hdep 31 77 true) ?_
  have e79 := ev_q (x := .int .i64 m.tick) hdep 33 79
  refine step_call (f := 79) (args := #[.int .i64 m.tick, .int .i64 0, .int .i64 1099511627776]) ?_ ?_
  ·simp [go_sem, e79]
  ·have hcx := refIn_t m.tick 0 1099511627776 w
   rw [ht] at hcx
   (with_reducible refine hcx.mono ?_)
   rintro e w2 ⟨rfl, rfl⟩
   exact ⟨_, rfl, rfl, Below.refl _ _⟩
 ·intro a w hb hoth hdep
  refine step_on (want_q hdep 38 84 false) ?_
  exact step_move (ev_other hoth 7 (by kernel_rfl) h7)
 ·intro a w hb hoth hdep
  refine step_on (want_q hdep 38 84 false) ?_
  have e85 := ev_q (x := .int .u8 84) hdep 39 85
  refine step_val (x := .bool false) ?_ rfl
  simp [go_sem, e85]
 ·intro a w hb hoth hdep
  refine step_on (want_q hdep 48 94 false) ?_
  exact step_move (ev_other hoth 7 (by kernel_rfl) h7)
 ·intro a w hb hoth hdep
  refine step_on (want_q hdep 48 94 false) ?_
  have e95 := ev_q (x := .int .u8 84) hdep 49 95
  refine step_val (x := .bool false) ?_ rfl
  simp [go_sem, e95]
 ·intro a w hb hoth hdep
  refine step_on (want_q hdep 58 104 false) ?_
  exact step_move (ev_other hoth 7 (by kernel_rfl) h7)
 ·intro a w hb hoth hdep
  refine step_on (want_q hdep 58 104 false) ?_
  have e105 := ev_q (x := .int .u8 84) hdep 59 105
  refine step_val (x := .bool false) ?_ rfl
  simp [go_sem, e105]
set_option maxRecDepth 100000 in
set_option maxHeartbeats 3200000 in
theorem r11_Tf {m : LMsg} {b1 : Nat}  {l : List Value} {df : List Deferred} {w0 : World} {Q : Exit → Act → World → Prop} {os : List Oper} (hos : opsIn 11 (Tryd.f43.body.getD .skip) = os) (hlen : l.length = 114) (h1 : l[1]? = some (.pointer (some ⟨b1, 0, none⟩))) (h7 : l[7]? = some (.int .u8 84)) (HZ : Hid (Blk w0 b1 38 (boxMsg m))) (ht : inM m.tick 0 1099511627776 = false)
  (fin : ∀ w, Below w0.heap.size w0 w → FinC (fun ls => Q .normal ⟨ls.toArray, df⟩ w) w l 46 (([.o (eqV (.int .u8 84)), .b false, .b false, .u, .u, .u, .u, .b false, .b false, .o (eqV (.int .u8 84)), .b false, .b false, .u, .u, .u, .u, .b false, .b false, .b false, .o (eqV (.int .u8 84)), .b false, .b false, .u, .u, .u, .u, .b false, .b false, .b false, .o (eqV (.int .u8 84)), .b true, .b true, .o (eqV (.pointer (some ⟨b1, 6, none⟩))), .o (eqV (.int .i64 m.tick)), .b false, .b true, .b true, .b true, .b true, .u, .u, .u, .u, .u, .u, .u, .u, .b true, .b true, .u, .u, .u, .u, .u, .u, .u, .u, .b true, .b true, .u, .u, .u, .u, .u, .u, .u, .u, .b true] : List TE).map TE.mv) []) : (Code.region 11 os.toArray false).wp Tryd.prog Q ⟨l.toArray, df⟩ w0 := by
 subst hos
 refine wp_region_autoL 46 _ [false, false, true, true, true, true, true, true, true, false, false, true, true, true, true, true, true, true, true, false, false, true, true, true, true, true, true, true, true, false, false, true, false, false, false, true, true, true, true, true, true, true, true, true, true, true, true, true, true, true, true, true, true, true, true, true, true, true, true, true, true, true, true, true, true, true, true, true] (by rw [hlen]; kernel_rfl) (by kernel_rfl) (by rw [hlen]; kernel_rfl) (by kernel_rfl) ⟨?_, ?_, ?_, ?_, ?_, ?_, ?_, ?_, ?_, ?_, ?_, trivial⟩ fin
 ·intro a w hb hoth hdep
  refine step_on (want_none rfl) ?_
  exact step_move (ev_other hoth 7 (by kernel_rfl) h7)
 ·intro a w hb hoth hdep
  refine step_on (want_none rfl) ?_
  have e46 := ev_q (x := .int .u8 84) hdep 0 46
  refine step_val (x := .bool false) ?_ rfl
  simp [go_sem, e46]
 ·intro a w hb hoth hdep
  refine step_on (want_q hdep 8 54 false) ?_
  exact step_move (ev_other hoth 7 (by kernel_rfl) h7)
 ·intro a w hb hoth hdep
  refine step_on (want_q hdep 8 54 false) ?_
  have e55 := ev_q (x := .int .u8 84) hdep 9 55
  refine step_val (x := .bool false) ?_ rfl
  simp [go_sem, e55]
 ·intro a w hb hoth hdep
  refine step_on (want_q hdep 18 64 false) ?_
  exact step_move (ev_other hoth 7 (by kernel_rfl) h7)
 ·intro a w hb hoth hdep
  refine step_on (want_q hdep 18 64 false) ?_
  have e65 := ev_q (x := .int .u8 84) hdep 19 65
  refine step_val (x := .bool false) ?_ rfl
  simp [go_sem, e65]
 ·intro a w hb hoth hdep
  refine step_on (want_q hdep 28 74 false) ?_
  exact step_move (ev_other hoth 7 (by kernel_rfl) h7)
 ·intro a w hb hoth hdep
  refine step_on (want_q hdep 28 74 false) ?_
  have e75 := ev_q (x := .int .u8 84) hdep 29 75
  refine step_val (x := .bool true) ?_ rfl
  simp [go_sem, e75]
 ·intro a w hb hoth hdep
  refine step_on (want_q hdep 31 77 true) ?_
  have e1 := ev_other hoth 1 (by kernel_rfl) h1
  refine step_val (x := .pointer (some ⟨b1, 6, none⟩)) ?_ rfl
  simp [go_sem, e1]
 ·intro a w hb hoth hdep
  refine step_on (want_q hdep 31 77 true) ?_
  have e78 := ev_q (x := .pointer (some ⟨b1, 6, none⟩)) hdep 32 78
  have c6 : w.cell? ⟨b1, 6, none⟩ = some (.int .i64 m.tick) := ((HZ.out.below hb HZ.out.lt).cell 6).trans rfl
  refine step_val (x := .int .i64 m.tick) ?_ rfl
  simp [go_sem, e78, c6]
 ·intro a w hb hoth hdep
  refine step_on (want_q hdep 31 77 true) ?_
  have e79 := ev_q (x := .int .i64 m.tick) hdep 33 79
  refine step_call (f := 79) (args := #[.int .i64 m.tick, .int .i64 0, .int .i64 1099511627776]) ?_ ?_
  ·simp [go_sem, e79]
  ·have hcx := refIn_t m.tick 0 1099511627776 w
   rw [ht] at hcx
   (with_reducible refine hcx.mono ?_)
   rintro e w2 ⟨rfl, rfl⟩
   exact ⟨_, rfl, rfl, Below.refl _ _⟩
set_option maxRecDepth 100000 in
set_option maxHeartbeats 3200000 in
theorem r11_Pt {m : LMsg} {b1 : Nat}  {l : List Value} {df : List Deferred} {w0 : World} {Q : Exit → Act → World → Prop} {os : List Oper} (hos : opsIn 11 (Tryd.f43.body.getD .skip) = os) (hlen : l.length = 114) (h1 : l[1]? = some (.pointer (some ⟨b1, 0, none⟩))) (h7 : l[7]? = some (.int .u8 80)) (HZ : Hid (Blk w0 b1 38 (boxMsg m))) (ht : inM m.prio 0 99 = true)
  (fin : ∀ w, Below w0.heap.size w0 w → FinC (fun ls => Q .normal ⟨ls.toArray, df⟩ w) w l 46 (([.o (eqV (.int .u8 80)), .b false, .b false, .u, .u, .u, .u, .b false, .b false, .o (eqV (.int .u8 80)), .b false, .b false, .u, .u, .u, .u, .b false, .b false, .b false, .o (eqV (.int .u8 80)), .b false, .b false, .u, .u, .u, .u, .b false, .b false, .b false, .o (eqV (.int .u8 80)), .b false, .b false, .u, .u, .u, .u, .b false, .b false, .b false, .o (eqV (.int .u8 80)), .b true, .b true, .o (eqV (.pointer (some ⟨b1, 7, none⟩))), .o (eqV (.int .i64 m.prio)), .b true, .b false, .b false, .b false, .b false, .o (eqV (.int .u8 80)), .b false, .b false, .u, .u, .u, .u, .b false, .b false, .b false, .o (eqV (.int .u8 80)), .b false, .b false, .u, .u, .u, .u, .b false, .b false] : List TE).map TE.mv) []) : (Code.region 11 os.toArray false).wp Tryd.prog Q ⟨l.toArray, df⟩ w0 := by
 subst hos
 refine wp_region_autoL 46 _ [false, false, true, true, true, true, true, true, true, false, false, true, true, true, true, true, true, true, true, false, false, true, true, true, true, true, true, true, true, false, false, true, true, true, true, true, true, true, true, false, false, true, false, false, false, true, true, true, true, false, false, true, true, true, true, true, true, true, true, false, false, true, true, true, true, true, true, true] (by rw [hlen]; kernel_rfl) (by kernel_rfl) (by rw [hlen]; kernel_rfl) (by kernel_rfl) ⟨?_, ?_, ?_, ?_, ?_, ?_, ?_, ?_, ?_, ?_, ?_, ?_, ?_, ?_, ?_, ?_, ?_, trivial⟩ fin
 ·intro a w hb hoth hdep
  refine step_on (want_none rfl) ?_
  exact step_move (ev_other hoth 7 (by kernel_rfl) h7)
 ·intro a w hb hoth hdep
  refine step_on (want_none rfl) ?_
  have e46 := ev_q (x := .int .u8 80) hdep 0 46
  refine step_val (x := .bool false) ?_ rfl
  simp [go_sem, e46]
 ·intro a w hb hoth hdep
  refine step_on (want_q hdep 8 54 false) ?_
  exact step_move (ev_other hoth 7 (by kernel_rfl) h7)
 ·intro a w hb hoth hdep
  refine step_on (want_q hdep 8 54 false) ?_
  have e55 := ev_q (x := .int .u8 80) hdep 9 55
  refine step_val (x := .bool false) ?_ rfl
  simp [go_sem, e55]
 ·intro a w hb hoth hdep
  refine step_on (want_q hdep 18 64 false) ?_
  exact step_move (ev_other hoth 7 (by kernel_rfl) h7)
 ·intro a w hb hoth hdep
  refine step_on (want_q hdep 18 64 false) ?_
  have e65 := ev_q (x := .int .u8 80) hdep 19 65
  refine step_val (x := .bool false) ?_ rfl
  simp [go_sem, e65]
 ·intro a w hb hoth hdep
  refine step_on (want_q hdep 28 74 false) ?_
  exact step_move (ev_other hoth 7 (by kernel_rfl) h7)
 ·intro a w hb hoth hdep
  refine step_on (want_q hdep 28 74 false) ?_
  have e75 := ev_q (x := .int .u8 80) hdep 29 75
  refine step_val (x := .bool false) ?_ rfl
  simp [go_sem, e75]
 ·intro a w hb hoth hdep
  refine step_on (want_q hdep 38 84 false) ?_
  exact step_move (ev_other hoth 7 (by kernel_rfl) h7)
 ·intro a w hb hoth hdep
  refine step_on (want_q hdep 38 84 false) ?_
  have e85 := ev_q (x := .int .u8 80) hdep 39 85
  refine step_val (x := .bool true) ?_ rfl
  simp [go_sem, e85]
 ·intro a w hb hoth hdep
  refine step_on (want_q hdep 41 87 true) ?_
  have e1 := ev_other hoth 1 (by kernel_rfl) h1
  refine step_val (x := .pointer (some ⟨b1, 7, none⟩)) ?_ rfl
  simp [go_sem, e1]
 ·intro a w hb hoth hdep
  refine step_on (want_q hdep 41 87 true) ?_
  have e88 := ev_q (x := .pointer (some ⟨b1, 7, none⟩)) hdep 42 88
  have c7 : w.cell? ⟨b1, 7, none⟩ = some (.int .i64 m.prio) := ((HZ.out.below hb HZ.out.lt).cell 7).trans rfl
  refine step_val (x := .int .i64 m.prio) ?_ rfl
  simp [go_sem, e88, c7]
 ·intro a w hb hoth hdep
  refine step_on (want_q hdep 41 87 true) ?_
  have e89 := ev_q (x := .int .i64 m.prio) hdep 43 89
  refine step_call (f := 79) (args := #[.int .i64 m.prio, .int .i64 0, .int .i64 99]) ?_ ?_
  ·simp [go_sem, e89]
  ·have hcx := refIn_t m.prio 0 99 w
   rw [ht] at hcx
   (with_reducible refine hcx.mono ?_)
   rintro e w2 ⟨rfl, rfl⟩
   exact ⟨_, rfl, rfl, Below.refl _ _⟩
 ·intro a w hb hoth hdep
  refine step_on (want_q hdep 48 94 false) ?_
  exact step_move (ev_other hoth 7 (by kernel_rfl) h7)
 ·intro a w hb hoth hdep
  refine step_on (want_q hdep 48 94 false) ?_
  have e95 := ev_q (x := .int .u8 80) hdep 49 95
  refine step_val (x := .bool false) ?_ rfl
  simp [go_sem, e95]
 ·intro a w hb hoth hdep
  refine step_on (want_q hdep 58 104 false) ?_
  exact step_move (ev_other hoth 7 (by kernel_rfl) h7)
 ·intro a w hb hoth hdep
  refine step_on (want_q hdep 58 104 false) ?_
  have e105 := ev_q (x := .int .u8 80) hdep 59 105
  refine step_val (x := .bool false) ?_ rfl
  simp [go_sem, e105]
set_option maxRecDepth 100000 in
set_option maxHeartbeats 3200000 in
theorem r11_Pf {m : LMsg} {b1 : Nat}  {l : List Value} {df : List Deferred} {w0 : World} {Q : Exit → Act → World → Prop} {os : List Oper} (hos : opsIn 11 (Tryd.f43.body.getD .skip) = os) (hlen : l.length = 114) (h1 : l[1]? = some (.pointer (some ⟨b1, 0, none⟩))) (h7 : l[7]? = some (.int .u8 80)) (HZ : Hid (Blk w0 b1 38 (boxMsg m))) (ht : inM m.prio 0 99 = false)
  (fin : ∀ w, Below w0.heap.size w0 w → FinC (fun ls => Q .normal ⟨ls.toArray, df⟩ w) w l 46 (([.o (eqV (.int .u8 80)), .b false, .b false, .u, .u, .u, .u, .b false, .b false, .o (eqV (.int .u8 80)), .b false, .b false, .u, .u, .u, .u, .b false, .b false, .b false, .o (eqV (.int .u8 80)), .b false, .b false, .u, .u, .u, .u, .b false, .b false, .b false, .o (eqV (.int .u8 80)), .b false, .b false, .u, .u, .u, .u, .b false, .b false, .b false, .o (eqV (.int .u8 80)), .b true, .b true, .o (eqV (.pointer (some ⟨b1, 7, none⟩))), .o (eqV (.int .i64 m.prio)), .b false, .b true, .b true, .b true, .b true, .u, .u, .u, .u, .u, .u, .u, .u, .b true, .b true, .u, .u, .u, .u, .u, .u, .u, .u, .b true] : List TE).map TE.mv) []) : (Code.region 11 os.toArray false).wp Tryd.prog Q ⟨l.toArray, df⟩ w0 := by
 subst hos
 refine wp_region_autoL 46 _ [false, false, true, true, true, true, true, true, true, false, false, true, true, true, true, true, true, true, true, false, false, true, true, true, true, true, true, true, true, false, false, true, true, true, true, true, true, true, true, false, false, true, false, false, false, true, true, true, true, true, true, true, true, true, true, true, true, true, true, true, true, true, true, true, true, true, true, true] (by rw [hlen]; kernel_rfl) (by kernel_rfl) (by rw [hlen]; kernel_rfl) (by kernel_rfl) ⟨?_, ?_, ?_, ?_, ?_, ?_, ?_, ?_, ?_, ?_, ?_, ?_, ?_, trivial⟩ fin
 ·intro a w hb hoth hdep
  refine step_on (want_none rfl) ?_
  exact step_move (ev_other hoth 7 (by kernel_rfl) h7)
 ·intro a w hb hoth hdep
  refine step_on (want_none rfl) ?_
  have e46 := ev_q (x := .int .u8 80) hdep 0 46
  refine step_val (x := .bool false) ?_ rfl
  simp [go_sem, e46]
 ·intro a w hb hoth hdep
  refine step_on (want_q hdep 8 54 false) ?_
  exact step_move (ev_other hoth 7 (by kernel_rfl) h7)
 ·intro a w hb hoth hdep
  refine step_on (want_q hdep 8 54 false) ?_
  have e55 := ev_q (x := .int .u8 80) hdep 9 55
  refine step_val (x := .bool false) ?_ rfl
  simp [go_sem, e55]
 ·intro a w hb hoth hdep
  refine step_on (want_q hdep 18 64 false) ?_
  exact step_move (ev_other hoth 7 (by kernel_rfl) h7)
 ·intro a w hb hoth hdep
  refine step_on (want_q hdep 18 64 false) ?_
  have e65 := ev_q (x := .int .u8 80) hdep 19 65
  refine step_val (x := .bool false) ?_ rfl
  simp [go_sem, e65]
 ·intro a w hb hoth hdep
  refine step_on (want_q hdep 28 74 false) ?_
  exact step_move (ev_other hoth 7 (by kernel_rfl) h7)
 ·intro a w hb hoth hdep
  refine step_on (want_q hdep 28 74 false) ?_
  have e75 := ev_q (x := .int .u8 80) hdep 29 75
  refine step_val (x := .bool false) ?_ rfl
  simp [go_sem, e75]
 ·intro a w hb hoth hdep
  refine step_on (want_q hdep 38 84 false) ?_
  exact step_move (ev_other hoth 7 (by kernel_rfl) h7)
 ·intro a w hb hoth hdep
  refine step_on (want_q hdep 38 84 false) ?_
  have e85 := ev_q (x := .int .u8 80) hdep 39 85
  refine step_val (x := .bool true) ?_ rfl
  simp [go_sem, e85]
 ·intro a w hb hoth hdep
  refine step_on (want_q hdep 41 87 true) ?_
  have e1 := ev_other hoth 1 (by kernel_rfl) h1
  refine step_val (x := .pointer (some ⟨b1, 7, none⟩)) ?_ rfl
  simp [go_sem, e1]
 ·intro a w hb hoth hdep
  refine step_on (want_q hdep 41 87 true) ?_
  have e88 := ev_q (x := .pointer (some ⟨b1, 7, none⟩)) hdep 42 88
  have c7 : w.cell? ⟨b1, 7, none⟩ = some (.int .i64 m.prio) := ((HZ.out.below hb HZ.out.lt).cell 7).trans rfl
  refine step_val (x := .int .i64 m.prio) ?_ rfl
  simp [go_sem, e88, c7]
 ·intro a w hb hoth hdep
  refine step_on (want_q hdep 41 87 true) ?_
  have e89 := ev_q (x := .int .i64 m.prio) hdep 43 89
  refine step_call (f := 79) (args := #[.int .i64 m.prio, .int .i64 0, .int .i64 99]) ?_ ?_
  ·simp [go_sem, e89]
  ·have hcx := refIn_t m.prio 0 99 w
   rw [ht] at hcx
   (with_reducible refine hcx.mono ?_)
   rintro e w2 ⟨rfl, rfl⟩
   exact ⟨_, rfl, rfl, Below.refl _ _⟩
set_option maxRecDepth 100000 in
set_option maxHeartbeats 3200000 in
theorem r11_Ct {m : LMsg} {b1 : Nat}  {l : List Value} {df : List Deferred} {w0 : World} {Q : Exit → Act → World → Prop} {os : List Oper} (hos : opsIn 11 (Tryd.f43.body.getD .skip) = os) (hlen : l.length = 114) (h1 : l[1]? = some (.pointer (some ⟨b1, 0, none⟩))) (h7 : l[7]? = some (.int .u8 67)) (HZ : Hid (Blk w0 b1 38 (boxMsg m))) (ht : inM m.code 0 14 = true)
  (fin : ∀ w, Below w0.heap.size w0 w → FinC (fun ls => Q .normal ⟨ls.toArray, df⟩ w) w l 46 (([.o (eqV (.int .u8 67)), .b false, .b false, .u, .u, .u, .u, .b false, .b false, .o (eqV (.int .u8 67)), .b false, .b false, .u, .u, .u, .u, .b false, .b false, .b false, .o (eqV (.int .u8 67)), .b false, .b false, .u, .u, .u, .u, .b false, .b false, .b false, .o (eqV (.int .u8 67)), .b false, .b false, .u, .u, .u, .u, .b false, .b false, .b false, .o (eqV (.int .u8 67)), .b false, .b false, .u, .u, .u, .u, .b false, .b false, .b false, .o (eqV (.int .u8 67)), .b true, .b true, .o (eqV (.pointer (some ⟨b1, 8, none⟩))), .o (eqV (.int .i64 m.code)), .b true, .b false, .b false, .b false, .b false, .o (eqV (.int .u8 67)), .b false, .b false, .u, .u, .u, .u, .b false, .b false] : List TE).map TE.mv) []) : (Code.region 11 os.toArray false).wp Tryd.prog Q ⟨l.toArray, df⟩ w0 := by
 subst hos
 refine wp_region_autoL 46 _ [false, false, true, true, true, true, true, true, true, false, false, true, true, true, true, true, true, true, true, false, false, true, true, true, true, true, true, true, true, false, false, true, true, true, true, true, true, true, true, false, false, true, true, true, true, true, true, true, true, false, false, true, false, false, false, true, true, true, true, false, false, true, true, true, true, true, true, true] (by rw [hlen]; kernel_rfl) (by kernel_rfl) (by rw [hlen]; kernel_rfl) (by kernel_rfl) ⟨?_, ?_, ?_, ?_, ?_, ?_, ?_, ?_, ?_, ?_, ?_, ?_, ?_, ?_, ?_, ?_, ?_, trivial⟩ fin
 ·intro a w hb hoth hdep
  refine step_on (want_none rfl) ?_
  exact step_move (ev_other hoth 7 (by kernel_rfl) h7)
 ·intro a w hb hoth hdep
  refine step_on (want_none rfl) ?_
  have e46 := ev_q (x := .int .u8 67) hdep 0 46
  refine step_val (x := .bool false) ?_ rfl
  simp [go_sem, e46]
 ·intro a w hb hoth hdep
  refine step_on (want_q hdep 8 54 false) ?_
  exact step_move (ev_other hoth 7 (by kernel_rfl) h7)
 ·intro a w hb hoth hdep
  refine step_on (want_q hdep 8 54 false) ?_
  have e55 := ev_q (x := .int .u8 67) hdep 9 55
  refine step_val (x := .bool false) ?_ rfl
  simp [go_sem, e55]
 ·intro a w hb hoth hdep
  refine step_on (want_q hdep 18 64 false) ?_
  exact step_move (ev_other hoth 7 (by kernel_rfl) h7)
 ·intro a w hb hoth hdep
  refine step_on (want_q hdep 18 64 false) ?_
  have e65 := ev_q (x := .int .u8 67) hdep 19 65
  refine step_val (x := .bool false) ?_ rfl
  simp [go_sem, e65]
 ·intro a w hb hoth hdep
  refine step_on (want_q hdep 28 74 false) ?_
  exact step_move (ev_other hoth 7 (by kernel_rfl) h7)
 ·intro a w hb hoth hdep
  refine step_on (want_q hdep 28 74 false) ?_
  have e75 := ev_q (x := .int .u8 67) hdep 29 75
  refine step_val (x := .bool false) ?_ rfl
  simp [go_sem, e75]
 ·intro a w hb hoth hdep
  refine step_on (want_q hdep 38 84 false) ?_
  exact step_move (ev_other hoth 7 (by kernel_rfl) h7)
 ·intro a w hb hoth hdep
  refine step_on (want_q hdep 38 84 false) ?_
  have e85 := ev_q (x := .int .u8 67) hdep 39 85
  refine step_val (x := .bool false) ?_ rfl
  simp [go_sem, e85]
 ·intro a w hb hoth hdep
  refine step_on (want_q hdep 48 94 false) ?_
  exact step_move (ev_other hoth 7 (by kernel_rfl) h7)
 ·intro a w hb hoth hdep
  refine step_on (want_q hdep 48 94 false) ?_
  have e95 := ev_q (x := .int .u8 67) hdep 49 95
  refine step_val (x := .bool true) ?_ rfl
  simp [go_sem, e95]
 ·intro a w hb hoth hdep
  refine step_on (want_q hdep 51 97 true) ?_
  have e1 := ev_other hoth 1 (by kernel_rfl) h1
  refine step_val (x := .pointer (some ⟨b1, 8, none⟩)) ?_ rfl
  simp [go_sem, e1]
 ·intro a w hb hoth hdep
  refine step_on (want_q hdep 51 97 true) ?_
  have e98 := ev_q (x := .pointer (some ⟨b1, 8, none⟩)) hdep 52 98
  have c8 : w.cell? ⟨b1, 8, none⟩ = some (.int .i64 m.code) := ((HZ.out.below hb HZ.out.lt).cell 8).trans rfl
  refine step_val (x := .int .i64 m.code) ?_ rfl
  simp [go_sem, e98, c8]
 ·intro a w hb hoth hdep
  refine step_on (want_q hdep 51 97 true) ?_
  have e99 := ev_q (x := .int .i64 m.code) hdep 53 99
  refine step_call (f := 79) (args := #[.int .i64 m.code, .int .i64 0, .int .i64 14]) ?_ ?_
  ·simp [go_sem, e99]
  ·have hcx := refIn_t m.code 0 14 w
   rw [ht] at hcx
   (with_reducible refine hcx.mono ?_)
   rintro e w2 ⟨rfl, rfl⟩
   exact ⟨_, rfl, rfl, Below.refl _ _⟩
 ·intro a w hb hoth hdep
  refine step_on (want_q hdep 58 104 false) ?_
  exact step_move (ev_other hoth 7 (by kernel_rfl) h7)
 ·intro a w hb hoth hdep
  refine step_on (want_q hdep 58 104 false) ?_
  have e105 := ev_q (x := .int .u8 67) hdep 59 105
  refine step_val (x := .bool false) ?_ rfl
  simp [go_sem, e105]
set_option maxRecDepth 100000 in
set_option maxHeartbeats 3200000 in
theorem r11_Cf {m : LMsg} {b1 : Nat}  {l : List Value} {df : List Deferred} {w0 : World} {Q : Exit → Act → World → Prop} {os : List Oper} (hos : opsIn 11 (Tryd.f43.body.getD .skip) = os) (hlen : l.length = 114) (h1 : l[1]? = some (.pointer (some ⟨b1, 0, none⟩))) (h7 : l[7]? = some (.int .u8 67)) (HZ : Hid (Blk w0 b1 38 (boxMsg m))) (ht : inM m.code 0 14 = false)
  (fin : ∀ w, Below w0.heap.size w0 w → FinC (fun ls => Q .normal ⟨ls.toArray, df⟩ w) w l 46 (([.o (eqV (.int .u8 67)), .b false, .b false, .u, .u, .u, .u, .b false, .b false, .o (eqV (.int .u8 67)), .b false, .b false, .u, .u, .u, .u, .b false, .b false, .b false, .o (eqV (.int .u8 67)), .b false, .b false, .u, .u, .u, .u, .b false, .b false, .b false, .o (eqV (.int .u8 67)), .b false, .b false, .u, .u, .u, .u, .b false, .b false, .b false, .o (eqV (.int .u8 67)), .b false, .b false, .u, .u, .u, .u, .b false, .b false, .b false, .o (eqV (.int .u8 67)), .b true, .b true, .o (eqV (.pointer (some ⟨b1, 8, none⟩))), .o (eqV (.int .i64 m.code)), .b false, .b true, .b true, .b true, .b true, .u, .u, .u, .u, .u, .u, .u, .u, .b true] : List TE).map TE.mv) []) : (Code.region 11 os.toArray false).wp Tryd.prog Q ⟨l.toArray, df⟩ w0 := by
 subst hos
 refine wp_region_autoL 46 _ [false, false, true, true, true, true, true, true, true, false, false, true, true, true, true, true, true, true, true, false, false, true, true, true, true, true, true, true, true, false, false, true, true, true, true, true, true, true, true, false, false, true, true, true, true, true, true, true, true, false, false, true, false, false, false, true, true, true, true, true, true, true, true, true, true, true, true, true] (by rw [hlen]; kernel_rfl) (by kernel_rfl) (by rw [hlen]; kernel_rfl) (by kernel_rfl) ⟨?_, ?_, ?_, ?_, ?_, ?_, ?_, ?_, ?_, ?_, ?_, ?_, ?_, ?_, ?_, trivial⟩ fin
 ·intro a w hb hoth hdep
  refine step_on (want_none rfl) ?_
  exact step_move (ev_other hoth 7 (by kernel_rfl) h7)
 ·intro a w hb hoth hdep
  refine step_on (want_none rfl) ?_
  have e46 := ev_q (x := .int .u8 67) hdep 0 46
  refine step_val (x := .bool false) ?_ rfl
  simp [go_sem, e46]
 ·intro a w hb hoth hdep
  refine step_on (want_q hdep 8 54 false) ?_
  exact step_move (ev_other hoth 7 (by kernel_rfl) h7)
 ·intro a w hb hoth hdep
  refine step_on (want_q hdep 8 54 false) ?_
  have e55 := ev_q (x := .int .u8 67) hdep 9 55
  refine step_val (x := .bool false) ?_ rfl
  simp [go_sem, e55]
 ·intro a w hb hoth hdep
  refine step_on (want_q hdep 18 64 false) ?_
  exact step_move (ev_other hoth 7 (by kernel_rfl) h7)
 ·intro a w hb hoth hdep
  refine step_on (want_q hdep 18 64 false) ?_
  have e65 := ev_q (x := .int .u8 67) hdep 19 65
  refine step_val (x := .bool false) ?_ rfl
  simp [go_sem, e65]
 ·intro a w hb hoth hdep
  refine step_on (want_q hdep 28 74 false) ?_
  exact step_move (ev_other hoth 7 (by kernel_rfl) h7)
 ·intro a w hb hoth hdep
  refine step_on (want_q hdep 28 74 false) ?_
  have e75 := ev_q (x := .int .u8 67) hdep 29 75
  refine step_val (x := .bool false) ?_ rfl
  simp [go_sem, e75]
 ·intro a w hb hoth hdep
  refine step_on (want_q hdep 38 84 false) ?_
  exact step_move (ev_other hoth 7 (by kernel_rfl) h7)
 ·intro a w hb hoth hdep
  refine step_on (want_q hdep 38 84 false) ?_
  have e85 := ev_q (x := .int .u8 67) hdep 39 85
  refine step_val (x := .bool false) ?_ rfl
  simp [go_sem, e85]
 ·intro a w hb hoth hdep
  refine step_on (want_q hdep 48 94 false) ?_
  exact step_move (ev_other hoth 7 (by kernel_rfl) h7)
 ·intro a w hb hoth hdep
  refine step_on (want_q hdep 48 94 false) ?_
  have e95 := ev_q (x := .int .u8 67) hdep 49 95
  refine step_val (x := .bool true) ?_ rfl
  simp [go_sem, e95]
 ·intro a w hb hoth hdep
  refine step_on (want_q hdep 51 97 true) ?_
  have e1 := ev_other hoth 1 (by kernel_rfl) h1
  refine step_val (x := .pointer (some ⟨b1, 8, none⟩)) ?_ rfl
  simp [go_sem, e1]
 ·intro a w hb hoth hdep
  refine step_on (want_q hdep 51 97 true) ?_
  have e98 := ev_q (x := .pointer (some ⟨b1, 8, none⟩)) hdep 52 98
  have c8 : w.cell? ⟨b1, 8, none⟩ = some (.int .i64 m.code) := ((HZ.out.below hb HZ.out.lt).cell 8).trans rfl
  refine step_val (x := .int .i64 m.code) ?_ rfl
  simp [go_sem, e98, c8]
 ·intro a w hb hoth hdep
  refine step_on (want_q hdep 51 97 true) ?_
  have e99 := ev_q (x := .int .i64 m.code) hdep 53 99
  refine step_call (f := 79) (args := #[.int .i64 m.code, .int .i64 0, .int .i64 14]) ?_ ?_
  ·simp [go_sem, e99]
  ·have hcx := refIn_t m.code 0 14 w
   rw [ht] at hcx
   (with_reducible refine hcx.mono ?_)
   rintro e w2 ⟨rfl, rfl⟩
   exact ⟨_, rfl, rfl, Below.refl _ _⟩
set_option maxRecDepth 100000 in
set_option maxHeartbeats 3200000 in
theorem r11_Rt {m : LMsg} {b1 : Nat}  {l : List Value} {df : List Deferred} {w0 : World} {Q : Exit → Act → World → Prop} {os : List Oper} (hos : opsIn 11 (Tryd.f43.body.getD .skip) = os) (hlen : l.length = 114) (h1 : l[1]? = some (.pointer (some ⟨b1, 0, none⟩))) (h7 : l[7]? = some (.int .u8 82)) (HZ : Hid (Blk w0 b1 38 (boxMsg m))) (ht : rightR m.res = true)
  (fin : ∀ w, Below w0.heap.size w0 w → FinC (fun ls => Q .normal ⟨ls.toArray, df⟩ w) w l 46 (([.o (eqV (.int .u8 82)), .b false, .b false, .u, .u, .u, .u, .b false, .b false, .o (eqV (.int .u8 82)), .b false, .b false, .u, .u, .u, .u, .b false, .b false, .b false, .o (eqV (.int .u8 82)), .b false, .b false, .u, .u, .u, .u, .b false, .b false, .b false, .o (eqV (.int .u8 82)), .b false, .b false, .u, .u, .u, .u, .b false, .b false, .b false, .o (eqV (.int .u8 82)), .b false, .b false, .u, .u, .u, .u, .b false, .b false, .b false, .o (eqV (.int .u8 82)), .b false, .b false, .u, .u, .u, .u, .b false, .b false, .b false, .o (eqV (.int .u8 82)), .b true, .b true, .o (eqV (.pointer (some ⟨b1, 9, none⟩))), .o (eqV (aggRes m.res)), .b true, .b false, .b false, .b false] : List TE).map TE.mv) []) : (Code.region 11 os.toArray false).wp Tryd.prog Q ⟨l.toArray, df⟩ w0 := by
 subst hos
 refine wp_region_autoL 46 _ [false, false, true, true, true, true, true, true, true, false, false, true, true, true, true, true, true, true, true, false, false, true, true, true, true, true, true, true, true, false, false, true, true, true, true, true, true, true, true, false, false, true, true, true, true, true, true, true, true, false, false, true, true, true, true, true, true, true, true, false, false, true, false, false, false, true, true, true] (by rw [hlen]; kernel_rfl) (by kernel_rfl) (by rw [hlen]; kernel_rfl) (by kernel_rfl) ⟨?_, ?_, ?_, ?_, ?_, ?_, ?_, ?_, ?_, ?_, ?_, ?_, ?_, ?_, ?_, ?_, ?_, trivial⟩ fin
 ·intro a w hb hoth hdep
  refine step_on (want_none rfl) ?_
  exact step_move (ev_other hoth 7 (by kernel_rfl) h7)
 ·intro a w hb hoth hdep
  refine step_on (want_none rfl) ?_
  have e46 := ev_q (x := .int .u8 82) hdep 0 46
  refine step_val (x := .bool false) ?_ rfl
  simp [go_sem, e46]
 ·intro a w hb hoth hdep
  refine step_on (want_q hdep 8 54 false) ?_
  exact step_move (ev_other hoth 7 (by kernel_rfl) h7)
 ·intro a w hb hoth hdep
  refine step_on (want_q hdep 8 54 false) ?_
  have e55 := ev_q (x := .int .u8 82) hdep 9 55
  refine step_val (x := .bool false) ?_ rfl
  simp [go_sem, e55]
 ·intro a w hb hoth hdep
  refine step_on (want_q hdep 18 64 false) ?_
  exact step_move (ev_other hoth 7 (by kernel_rfl) h7)
 ·intro a w hb hoth hdep
  refine step_on (want_q hdep 18 64 false) ?_
  have e65 := ev_q (x := .int .u8 82) hdep 19 65
  refine step_val (x := .bool false) ?_ rfl
  simp [go_sem, e65]
 ·intro a w hb hoth hdep
  refine step_on (want_q hdep 28 74 false) ?_
  exact step_move (ev_other hoth 7 (by kernel_rfl) h7)
 ·intro a w hb hoth hdep
  refine step_on (want_q hdep 28 74 false) ?_
  have e75 := ev_q (x := .int .u8 82) hdep 29 75
  refine step_val (x := .bool false) ?_ rfl
  simp [go_sem, e75]
 ·intro a w hb hoth hdep
  refine step_on (want_q hdep 38 84 false) ?_
  exact step_move (ev_other hoth 7 (by kernel_rfl) h7)
 ·intro a w hb hoth hdep
  refine step_on (want_q hdep 38 84 false) ?_
  have e85 := ev_q (x := .int .u8 82) hdep 39 85
  refine step_val (x := .bool false) ?_ rfl
  simp [go_sem, e85]
 ·intro a w hb hoth hdep
  refine step_on (want_q hdep 48 94 false) ?_
  exact step_move (ev_other hoth 7 (by kernel_rfl) h7)
 ·intro a w hb hoth hdep
  refine step_on (want_q hdep 48 94 false) ?_
  have e95 := ev_q (x := .int .u8 82) hdep 49 95
  refine step_val (x := .bool false) ?_ rfl
  simp [go_sem, e95]
 ·intro a w hb hoth hdep
  refine step_on (want_q hdep 58 104 false) ?_
  exact step_move (ev_other hoth 7 (by kernel_rfl) h7)
 ·intro a w hb hoth hdep
  refine step_on (want_q hdep 58 104 false) ?_
  have e105 := ev_q (x := .int .u8 82) hdep 59 105
  refine step_val (x := .bool true) ?_ rfl
  simp [go_sem, e105]
 ·intro a w hb hoth hdep
  refine step_on (want_q hdep 61 107 true) ?_
  have e1 := ev_other hoth 1 (by kernel_rfl) h1
  refine step_val (x := .pointer (some ⟨b1, 9, none⟩)) ?_ rfl
  simp [go_sem, e1]
 ·intro a w hb hoth hdep
  refine step_on (want_q hdep 61 107 true) ?_
  have e108 := ev_q (x := .pointer (some ⟨b1, 9, none⟩)) hdep 62 108
  have c9 : w.cell? ⟨b1, 9, none⟩ = some (.int .i64 m.res.a) := ((HZ.out.below hb HZ.out.lt).cell 9).trans rfl
  have c10 : w.cell? ⟨b1, 10, none⟩ = some (.int .i64 m.res.b) := ((HZ.out.below hb HZ.out.lt).cell 10).trans rfl
  have c11 : w.cell? ⟨b1, 11, none⟩ = some (.int .i64 m.res.c) := ((HZ.out.below hb HZ.out.lt).cell 11).trans rfl
  refine step_val (x := aggRes m.res) ?_ rfl
  simp [go_sem, e108, c9, c10, c11, aggRes]
 ·intro a w hb hoth hdep
  refine step_on (want_q hdep 61 107 true) ?_
  have e109 := ev_q (x := aggRes m.res) hdep 63 109
  refine step_call (f := 68) (args := #[aggRes m.res]) ?_ ?_
  ·simp [go_sem, e109]
  ·have hcx := refRight_t m.res w
   rw [ht] at hcx
   (with_reducible refine hcx.mono ?_)
   rintro e w2 ⟨rfl, rfl⟩
   exact ⟨_, rfl, rfl, (Below.refl _ _).alloc (Nat.le_refl _) _⟩
set_option maxRecDepth 100000 in
set_option maxHeartbeats 3200000 in
theorem r11_Rf {m : LMsg} {b1 : Nat}  {l : List Value} {df : List Deferred} {w0 : World} {Q : Exit → Act → World → Prop} {os : List Oper} (hos : opsIn 11 (Tryd.f43.body.getD .skip) = os) (hlen : l.length = 114) (h1 : l[1]? = some (.pointer (some ⟨b1, 0, none⟩))) (h7 : l[7]? = some (.int .u8 82)) (HZ : Hid (Blk w0 b1 38 (boxMsg m))) (ht : rightR m.res = false)
  (fin : ∀ w, Below w0.heap.size w0 w → FinC (fun ls => Q .normal ⟨ls.toArray, df⟩ w) w l 46 (([.o (eqV (.int .u8 82)), .b false, .b false, .u, .u, .u, .u, .b false, .b false, .o (eqV (.int .u8 82)), .b false, .b false, .u, .u, .u, .u, .b false, .b false, .b false, .o (eqV (.int .u8 82)), .b false, .b false, .u, .u, .u, .u, .b false, .b false, .b false, .o (eqV (.int .u8 82)), .b false, .b false, .u, .u, .u, .u, .b false, .b false, .b false, .o (eqV (.int .u8 82)), .b false, .b false, .u, .u, .u, .u, .b false, .b false, .b false, .o (eqV (.int .u8 82)), .b false, .b false, .u, .u, .u, .u, .b false, .b false, .b false, .o (eqV (.int .u8 82)), .b true, .b true, .o (eqV (.pointer (some ⟨b1, 9, none⟩))), .o (eqV (aggRes m.res)), .b false, .b true, .b true, .b true] : List TE).map TE.mv) []) : (Code.region 11 os.toArray false).wp Tryd.prog Q ⟨l.toArray, df⟩ w0 := by
 subst hos
 refine wp_region_autoL 46 _ [false, false, true, true, true, true, true, true, true, false, false, true, true, true, true, true, true, true, true, false, false, true, true, true, true, true, true, true, true, false, false, true, true, true, true, true, true, true, true, false, false, true, true, true, true, true, true, true, true, false, false, true, true, true, true, true, true, true, true, false, false, true, false, false, false, true, true, true] (by rw [hlen]; kernel_rfl) (by kernel_rfl) (by rw [hlen]; kernel_rfl) (by kernel_rfl) ⟨?_, ?_, ?_, ?_, ?_, ?_, ?_, ?_, ?_, ?_, ?_, ?_, ?_, ?_, ?_, ?_, ?_, trivial⟩ fin
 ·intro a w hb hoth hdep
  refine step_on (want_none rfl) ?_
  exact step_move (ev_other hoth 7 (by kernel_rfl) h7)
 ·intro a w hb hoth hdep
  refine step_on (want_none rfl) ?_
  have e46 := ev_q (x := .int .u8 82) hdep 0 46
  refine step_val (x := .bool false) ?_ rfl
  simp [go_sem, e46]
 ·intro a w hb hoth hdep
  refine step_on (want_q hdep 8 54 false) ?_
  exact step_move (ev_other hoth 7 (by kernel_rfl) h7)
 ·intro a w hb hoth hdep
  refine step_on (want_q hdep 8 54 false) ?_
  have e55 := ev_q (x := .int .u8 82) hdep 9 55
  refine step_val (x := .bool false) ?_ rfl
  simp [go_sem, e55]
 ·intro a w hb hoth hdep
  refine step_on (want_q hdep 18 64 false) ?_
  exact step_move (ev_other hoth 7 (by kernel_rfl) h7)
 ·intro a w hb hoth hdep
  refine step_on (want_q hdep 18 64 false) ?_
  have e65 := ev_q (x := .int .u8 82) hdep 19 65
  refine step_val (x := .bool false) ?_ rfl
  simp [go_sem, e65]
 ·intro a w hb hoth hdep
  refine step_on (want_q hdep 28 74 false) ?_
  exact step_move (ev_other hoth 7 (by kernel_rfl) h7)
 ·intro a w hb hoth hdep
  refine step_on (want_q hdep 28 74 false) ?_
  have e75 := ev_q (x := .int .u8 82) hdep 29 75
  refine step_val (x := .bool false) ?_ rfl
  simp [go_sem, e75]
 ·intro a w hb hoth hdep
  refine step_on (want_q hdep 38 84 false) ?_
  exact step_move (ev_other hoth 7 (by kernel_rfl) h7)
 ·intro a w hb hoth hdep
  refine step_on (want_q hdep 38 84 false) ?_
  have e85 := ev_q (x := .int .u8 82) hdep 39 85
  refine step_val (x := .bool false) ?_ rfl
  simp [go_sem, e85]
 ·intro a w hb hoth hdep
  refine step_on (want_q hdep 48 94 false) ?_
  exact step_move (ev_other hoth 7 (by kernel_rfl) h7)
 ·intro a w hb hoth hdep
  refine step_on (want_q hdep 48 94 false) ?_
  have e95 := ev_q (x := .int .u8 82) hdep 49 95
  refine step_val (x := .bool false) ?_ rfl
  simp [go_sem, e95]
 ·intro a w hb hoth hdep
  refine step_on (want_q hdep 58 104 false) ?_
  exact step_move (ev_other hoth 7 (by kernel_rfl) h7)
 ·intro a w hb hoth hdep
  refine step_on (want_q hdep 58 104 false) ?_
  have e105 := ev_q (x := .int .u8 82) hdep 59 105
  refine step_val (x := .bool true) ?_ rfl
  simp [go_sem, e105]
 ·intro a w hb hoth hdep
  refine step_on (want_q hdep 61 107 true) ?_
  have e1 := ev_other hoth 1 (by kernel_rfl) h1
  refine step_val (x := .pointer (some ⟨b1, 9, none⟩)) ?_ rfl
  simp [go_sem, e1]
 ·intro a w hb hoth hdep
  refine step_on (want_q hdep 61 107 true) ?_
  have e108 := ev_q (x := .pointer (some ⟨b1, 9, none⟩)) hdep 62 108
  have c9 : w.cell? ⟨b1, 9, none⟩ = some (.int .i64 m.res.a) := ((HZ.out.below hb HZ.out.lt).cell 9).trans rfl
  have c10 : w.cell? ⟨b1, 10, none⟩ = some (.int .i64 m.res.b) := ((HZ.out.below hb HZ.out.lt).cell 10).trans rfl
  have c11 : w.cell? ⟨b1, 11, none⟩ = some (.int .i64 m.res.c) := ((HZ.out.below hb HZ.out.lt).cell 11).trans rfl
  refine step_val (x := aggRes m.res) ?_ rfl
  simp [go_sem, e108, c9, c10, c11, aggRes]
 ·intro a w hb hoth hdep
  refine step_on (want_q hdep 61 107 true) ?_
  have e109 := ev_q (x := aggRes m.res) hdep 63 109
  refine step_call (f := 68) (args := #[aggRes m.res]) ?_ ?_
  ·simp [go_sem, e109]
  ·have hcx := refRight_t m.res w
   rw [ht] at hcx
   (with_reducible refine hcx.mono ?_)
   rintro e w2 ⟨rfl, rfl⟩
   exact ⟨_, rfl, rfl, (Below.refl _ _).alloc (Nat.le_refl _) _⟩
set_option maxRecDepth 100000 in
set_option maxHeartbeats 3200000 in
theorem r5_a {m : LMsg} {b1 : Nat} {f t : Int} {l : List Value} {df : List Deferred} {w0 : World} {Q : Exit → Act → World → Prop} {os : List Oper} (hos : opsIn 5 (Tryd.f43.body.getD .skip) = os) (hlen : l.length = 114) (h1 : l[1]? = some (.pointer (some ⟨b1, 0, none⟩))) (h4 : l[4]? = some (.int .i64 f)) (h5 : l[5]? = some (.int .i64 t)) (HZ : Hid (Blk w0 b1 38 (boxMsg m))) (hnm : decide (pureM m = m) = false)
  (fin : ∀ w, Below w0.heap.size w0 w → FinC (fun ls => Q .normal ⟨ls.toArray, df⟩ w) w l 19 (([.o (eqV (aggMsg m)), .o (eqV (aggMsg (pureM m))), .o (eqV (aggMsg m)), .b true, .b true, .u, .u, .u, .u, .u, .b true, .b true, .u, .u, .u, .u, .u, .b true] : List TE).map TE.mv) []) : (Code.region 5 os.toArray true).wp Tryd.prog Q ⟨l.toArray, df⟩ w0 := by
 subst hos
 have hnm2 := hnm
 have hnm := neqMsg (pureM m) m
 rw [hnm2] at hnm
 have hgu := fun (op : BinOp) (x y : Operand) (a b : LMsg) (W : World) => guardMsg op x y a b W
 refine wp_region_autoD 19 _ [false, false, false, false, true, true, true, true, true, true, true, true, true, true, true, true, true, true] (by kernel_rfl) (by rw [hlen]; kernel_rfl) (by kernel_rfl) (by rw [hlen]; kernel_rfl) (by kernel_rfl) ⟨?_, ?_, ?_, ?_, trivial⟩ fin
 ·intro a w hb hoth hdep
  refine step_on (want_none rfl) ?_
  have e1 := ev_other hoth 1 (by kernel_rfl) h1
  obtain ⟨c0, c1, c2, c3, c4, c5, c6, c7, c8, c9, c10, c11⟩ := msgCells (HZ.out.below hb HZ.out.lt)
  refine step_val (x := aggMsg m) ?_ rfl
  simp [go_sem, e1, c0, c1, c2, c3, c4, c5, c6, c7, c8, c9, c10, c11, aggMsg]
 ·intro a w hb hoth hdep
  refine step_on (want_none rfl) ?_
  have e19 := ev_q (x := aggMsg m) hdep 0 19
  refine step_call (f := 77) (args := #[aggMsg m]) ?_ ?_
  ·simp [go_sem, e19]
  ·(with_reducible refine (rpure_t m w).mono ?_)
   rintro e w2 ⟨rfl, hB⟩
   exact ⟨_, rfl, rfl, hB⟩
 ·intro a w hb hoth hdep
  refine step_on (want_none rfl) ?_
  have e1 := ev_other hoth 1 (by kernel_rfl) h1
  obtain ⟨c0, c1, c2, c3, c4, c5, c6, c7, c8, c9, c10, c11⟩ := msgCells (HZ.out.below hb HZ.out.lt)
  refine step_val (x := aggMsg m) ?_ rfl
  simp [go_sem, e1, c0, c1, c2, c3, c4, c5, c6, c7, c8, c9, c10, c11, aggMsg]
 ·intro a w hb hoth hdep
  refine step_on (want_none rfl) ?_
  have e20 := ev_q (x := aggMsg (pureM m)) hdep 1 20
  have e21 := ev_q (x := aggMsg m) hdep 2 21
  refine step_val (x := .bool true) ?_ rfl
  simp [go_sem, e20, e21, hnm, hgu]
set_option maxRecDepth 100000 in
set_option maxHeartbeats 3200000 in
theorem r5_b {m : LMsg} {b1 : Nat} {f t : Int} {l : List Value} {df : List Deferred} {w0 : World} {Q : Exit → Act → World → Prop} {os : List Oper} (hos : opsIn 5 (Tryd.f43.body.getD .skip) = os) (hlen : l.length = 114) (h1 : l[1]? = some (.pointer (some ⟨b1, 0, none⟩))) (h4 : l[4]? = some (.int .i64 f)) (h5 : l[5]? = some (.int .i64 t)) (HZ : Hid (Blk w0 b1 38 (boxMsg m))) (hnm : decide (pureM m = m) = true) (hpf : (placeM m.frm != f) = true)
  (fin : ∀ w, Below w0.heap.size w0 w → FinC (fun ls => Q .normal ⟨ls.toArray, df⟩ w) w l 19 (([.o (eqV (aggMsg m)), .o (eqV (aggMsg (pureM m))), .o (eqV (aggMsg m)), .b false, .b false, .o (eqV (.pointer (some ⟨b1, 1, none⟩))), .o (eqV (.int .i64 m.frm)), .o (eqV (.int .i64 (placeM m.frm))), .o (eqV (.int .i64 f)), .b true, .b true, .b true, .u, .u, .u, .u, .u, .b true] : List TE).map TE.mv) []) : (Code.region 5 os.toArray true).wp Tryd.prog Q ⟨l.toArray, df⟩ w0 := by
 subst hos
 have hnm2 := hnm
 have hnm := neqMsg (pureM m) m
 rw [hnm2] at hnm
 have hgu := fun (op : BinOp) (x y : Operand) (a b : LMsg) (W : World) => guardMsg op x y a b W
 refine wp_region_autoD 19 _ [false, false, false, false, true, false, false, false, false, false, true, true, true, true, true, true, true, true] (by kernel_rfl) (by rw [hlen]; kernel_rfl) (by kernel_rfl) (by rw [hlen]; kernel_rfl) (by kernel_rfl) ⟨?_, ?_, ?_, ?_, ?_, ?_, ?_, ?_, ?_, trivial⟩ fin
 ·intro a w hb hoth hdep
  refine step_on (want_none rfl) ?_
  have e1 := ev_other hoth 1 (by kernel_rfl) h1
  obtain ⟨c0, c1, c2, c3, c4, c5, c6, c7, c8, c9, c10, c11⟩ := msgCells (HZ.out.below hb HZ.out.lt)
  refine step_val (x := aggMsg m) ?_ rfl
  simp [go_sem, e1, c0, c1, c2, c3, c4, c5, c6, c7, c8, c9, c10, c11, aggMsg]
 ·intro a w hb hoth hdep
  refine step_on (want_none rfl) ?_
  have e19 := ev_q (x := aggMsg m) hdep 0 19
  refine step_call (f := 77) (args := #[aggMsg m]) ?_ ?_
  ·simp [go_sem, e19]
  ·(with_reducible refine (rpure_t m w).mono ?_)
   rintro e w2 ⟨rfl, hB⟩
   exact ⟨_, rfl, rfl, hB⟩
 ·intro a w hb hoth hdep
  refine step_on (want_none rfl) ?_
  have e1 := ev_other hoth 1 (by kernel_rfl) h1
  obtain ⟨c0, c1, c2, c3, c4, c5, c6, c7, c8, c9, c10, c11⟩ := msgCells (HZ.out.below hb HZ.out.lt)
  refine step_val (x := aggMsg m) ?_ rfl
  simp [go_sem, e1, c0, c1, c2, c3, c4, c5, c6, c7, c8, c9, c10, c11, aggMsg]
 ·intro a w hb hoth hdep
  refine step_on (want_none rfl) ?_
  have e20 := ev_q (x := aggMsg (pureM m)) hdep 1 20
  have e21 := ev_q (x := aggMsg m) hdep 2 21
  refine step_val (x := .bool false) ?_ rfl
  simp [go_sem, e20, e21, hnm, hgu]
 ·intro a w hb hoth hdep
  refine step_on (want_q hdep 4 23 false) ?_
  have e1 := ev_other hoth 1 (by kernel_rfl) h1
  refine step_val (x := .pointer (some ⟨b1, 1, none⟩)) ?_ rfl
  simp [go_sem, e1]
 ·intro a w hb hoth hdep
  refine step_on (want_q hdep 4 23 false) ?_
  have e24 := ev_q (x := .pointer (some ⟨b1, 1, none⟩)) hdep 5 24
  have c1 : w.cell? ⟨b1, 1, none⟩ = some (.int .i64 m.frm) := ((HZ.out.below hb HZ.out.lt).cell 1).trans rfl
  refine step_val (x := .int .i64 m.frm) ?_ rfl
  simp [go_sem, e24, c1]
 ·intro a w hb hoth hdep
  refine step_on (want_q hdep 4 23 false) ?_
  have e25 := ev_q (x := .int .i64 m.frm) hdep 6 25
  refine step_call (f := 78) (args := #[.int .i64 m.frm]) ?_ ?_
  ·simp [go_sem, e25]
  ·(with_reducible refine (refPlace_t m.frm w).mono ?_)
   rintro e w2 ⟨rfl, rfl⟩
   exact ⟨_, rfl, rfl, Below.refl _ _⟩
 ·intro a w hb hoth hdep
  refine step_on (want_q hdep 4 23 false) ?_
  exact step_move (ev_other hoth 4 (by kernel_rfl) h4)
 ·intro a w hb hoth hdep
  refine step_on (want_q hdep 4 23 false) ?_
  have e26 := ev_q (x := .int .i64 (placeM m.frm)) hdep 7 26
  have e27 := ev_q (x := .int .i64 f) hdep 8 27
  refine step_val (x := .bool true) ?_ rfl
  simp [go_sem, e26, e27, hpf]
set_option maxRecDepth 100000 in
set_option maxHeartbeats 3200000 in
theorem r5_c {m : LMsg} {b1 : Nat} {f t : Int} {l : List Value} {df : List Deferred} {w0 : World} {Q : Exit → Act → World → Prop} {os : List Oper} (hos : opsIn 5 (Tryd.f43.body.getD .skip) = os) (hlen : l.length = 114) (h1 : l[1]? = some (.pointer (some ⟨b1, 0, none⟩))) (h4 : l[4]? = some (.int .i64 f)) (h5 : l[5]? = some (.int .i64 t)) (HZ : Hid (Blk w0 b1 38 (boxMsg m))) (hnm : decide (pureM m = m) = true) (hpf : (placeM m.frm != f) = false) (hpt : (placeM m.to_ != t) = true)
  (fin : ∀ w, Below w0.heap.size w0 w → FinC (fun ls => Q .normal ⟨ls.toArray, df⟩ w) w l 19 (([.o (eqV (aggMsg m)), .o (eqV (aggMsg (pureM m))), .o (eqV (aggMsg m)), .b false, .b false, .o (eqV (.pointer (some ⟨b1, 1, none⟩))), .o (eqV (.int .i64 m.frm)), .o (eqV (.int .i64 (placeM m.frm))), .o (eqV (.int .i64 f)), .b false, .b false, .b false, .o (eqV (.pointer (some ⟨b1, 2, none⟩))), .o (eqV (.int .i64 m.to_)), .o (eqV (.int .i64 (placeM m.to_))), .o (eqV (.int .i64 t)), .b true, .b true] : List TE).map TE.mv) []) : (Code.region 5 os.toArray true).wp Tryd.prog Q ⟨l.toArray, df⟩ w0 := by
 subst hos
 have hnm2 := hnm
 have hnm := neqMsg (pureM m) m
 rw [hnm2] at hnm
 have hgu := fun (op : BinOp) (x y : Operand) (a b : LMsg) (W : World) => guardMsg op x y a b W
 refine wp_region_autoD 19 _ [false, false, false, false, true, false, false, false, false, false, true, true, false, false, false, false, false, true] (by kernel_rfl) (by rw [hlen]; kernel_rfl) (by kernel_rfl) (by rw [hlen]; kernel_rfl) (by kernel_rfl) ⟨?_, ?_, ?_, ?_, ?_, ?_, ?_, ?_, ?_, ?_, ?_, ?_, ?_, ?_, trivial⟩ fin
 ·intro a w hb hoth hdep
  refine step_on (want_none rfl) ?_
  have e1 := ev_other hoth 1 (by kernel_rfl) h1
  obtain ⟨c0, c1, c2, c3, c4, c5, c6, c7, c8, c9, c10, c11⟩ := msgCells (HZ.out.below hb HZ.out.lt)
  refine step_val (x := aggMsg m) ?_ rfl
  simp [go_sem, e1, c0, c1, c2, c3, c4, c5, c6, c7, c8, c9, c10, c11, aggMsg]
 ·intro a w hb hoth hdep
  refine step_on (want_none rfl) ?_
  have e19 := ev_q (x := aggMsg m) hdep 0 19
  refine step_call (f := 77) (args := #[aggMsg m]) ?_ ?_
  ·simp [go_sem, e19]
  ·(with_reducible refine (rpure_t m w).mono ?_)
   rintro e w2 ⟨rfl, hB⟩
   exact ⟨_, rfl, rfl, hB⟩
 ·intro a w hb hoth hdep
  refine step_on (want_none rfl) ?_
  have e1 := ev_other hoth 1 (by kernel_rfl) h1
  obtain ⟨c0, c1, c2, c3, c4, c5, c6, c7, c8, c9, c10, c11⟩ := msgCells (HZ.out.below hb HZ.out.lt)
  refine step_val (x := aggMsg m) ?_ rfl
  simp [go_sem, e1, c0, c1, c2, c3, c4, c5, c6, c7, c8, c9, c10, c11, aggMsg]
 ·intro a w hb hoth hdep
  refine step_on (want_none rfl) ?_
  have e20 := ev_q (x := aggMsg (pureM m)) hdep 1 20
  have e21 := ev_q (x := aggMsg m) hdep 2 21
  refine step_val (x := .bool false) ?_ rfl
  simp [go_sem, e20, e21, hnm, hgu]
 ·intro a w hb hoth hdep
  refine step_on (want_q hdep 4 23 false) ?_
  have e1 := ev_other hoth 1 (by kernel_rfl) h1
  refine step_val (x := .pointer (some ⟨b1, 1, none⟩)) ?_ rfl
  simp [go_sem, e1]
 ·intro a w hb hoth hdep
  refine step_on (want_q hdep 4 23 false) ?_
  have e24 := ev_q (x := .pointer (some ⟨b1, 1, none⟩)) hdep 5 24
  have c1 : w.cell? ⟨b1, 1, none⟩ = some (.int .i64 m.frm) := ((HZ.out.below hb HZ.out.lt).cell 1).trans rfl
  refine step_val (x := .int .i64 m.frm) ?_ rfl
  simp [go_sem, e24, c1]
 ·intro a w hb hoth hdep
  refine step_on (want_q hdep 4 23 false) ?_
  have e25 := ev_q (x := .int .i64 m.frm) hdep 6 25
  refine step_call (f := 78) (args := #[.int .i64 m.frm]) ?_ ?_
  ·simp [go_sem, e25]
  ·(with_reducible refine (refPlace_t m.frm w).mono ?_)
   rintro e w2 ⟨rfl, rfl⟩
   exact ⟨_, rfl, rfl, Below.refl _ _⟩
 ·intro a w hb hoth hdep
  refine step_on (want_q hdep 4 23 false) ?_
  exact step_move (ev_other hoth 4 (by kernel_rfl) h4)
 ·intro a w hb hoth hdep
  refine step_on (want_q hdep 4 23 false) ?_
  have e26 := ev_q (x := .int .i64 (placeM m.frm)) hdep 7 26
  have e27 := ev_q (x := .int .i64 f) hdep 8 27
  refine step_val (x := .bool false) ?_ rfl
  simp [go_sem, e26, e27, hpf]
 ·intro a w hb hoth hdep
  refine step_on (want_q hdep 11 30 false) ?_
  have e1 := ev_other hoth 1 (by kernel_rfl) h1
  refine step_val (x := .pointer (some ⟨b1, 2, none⟩)) ?_ rfl
  simp [go_sem, e1]
 ·intro a w hb hoth hdep
  refine step_on (want_q hdep 11 30 false) ?_
  have e31 := ev_q (x := .pointer (some ⟨b1, 2, none⟩)) hdep 12 31
  have c2 : w.cell? ⟨b1, 2, none⟩ = some (.int .i64 m.to_) := ((HZ.out.below hb HZ.out.lt).cell 2).trans rfl
  refine step_val (x := .int .i64 m.to_) ?_ rfl
  simp [go_sem, e31, c2]
 ·intro a w hb hoth hdep
  refine step_on (want_q hdep 11 30 false) ?_
  have e32 := ev_q (x := .int .i64 m.to_) hdep 13 32
  refine step_call (f := 78) (args := #[.int .i64 m.to_]) ?_ ?_
  ·simp [go_sem, e32]
  ·(with_reducible refine (refPlace_t m.to_ w).mono ?_)
   rintro e w2 ⟨rfl, rfl⟩
   exact ⟨_, rfl, rfl, Below.refl _ _⟩
 ·intro a w hb hoth hdep
  refine step_on (want_q hdep 11 30 false) ?_
  exact step_move (ev_other hoth 5 (by kernel_rfl) h5)
 ·intro a w hb hoth hdep
  refine step_on (want_q hdep 11 30 false) ?_
  have e33 := ev_q (x := .int .i64 (placeM m.to_)) hdep 14 33
  have e34 := ev_q (x := .int .i64 t) hdep 15 34
  refine step_val (x := .bool true) ?_ rfl
  simp [go_sem, e33, e34, hpt]
set_option maxRecDepth 100000 in
set_option maxHeartbeats 3200000 in
theorem r5_d {m : LMsg} {b1 : Nat} {f t : Int} {l : List Value} {df : List Deferred} {w0 : World} {Q : Exit → Act → World → Prop} {os : List Oper} (hos : opsIn 5 (Tryd.f43.body.getD .skip) = os) (hlen : l.length = 114) (h1 : l[1]? = some (.pointer (some ⟨b1, 0, none⟩))) (h4 : l[4]? = some (.int .i64 f)) (h5 : l[5]? = some (.int .i64 t)) (HZ : Hid (Blk w0 b1 38 (boxMsg m))) (hnm : decide (pureM m = m) = true) (hpf : (placeM m.frm != f) = false) (hpt : (placeM m.to_ != t) = false)
  (fin : ∀ w, Below w0.heap.size w0 w → FinC (fun ls => Q .normal ⟨ls.toArray, df⟩ w) w l 19 (([.o (eqV (aggMsg m)), .o (eqV (aggMsg (pureM m))), .o (eqV (aggMsg m)), .b false, .b false, .o (eqV (.pointer (some ⟨b1, 1, none⟩))), .o (eqV (.int .i64 m.frm)), .o (eqV (.int .i64 (placeM m.frm))), .o (eqV (.int .i64 f)), .b false, .b false, .b false, .o (eqV (.pointer (some ⟨b1, 2, none⟩))), .o (eqV (.int .i64 m.to_)), .o (eqV (.int .i64 (placeM m.to_))), .o (eqV (.int .i64 t)), .b false, .b false] : List TE).map TE.mv) []) : (Code.region 5 os.toArray true).wp Tryd.prog Q ⟨l.toArray, df⟩ w0 := by
 subst hos
 have hnm2 := hnm
 have hnm := neqMsg (pureM m) m
 rw [hnm2] at hnm
 have hgu := fun (op : BinOp) (x y : Operand) (a b : LMsg) (W : World) => guardMsg op x y a b W
 refine wp_region_autoD 19 _ [false, false, false, false, true, false, false, false, false, false, true, true, false, false, false, false, false, true] (by kernel_rfl) (by rw [hlen]; kernel_rfl) (by kernel_rfl) (by rw [hlen]; kernel_rfl) (by kernel_rfl) ⟨?_, ?_, ?_, ?_, ?_, ?_, ?_, ?_, ?_, ?_, ?_, ?_, ?_, ?_, trivial⟩ fin
 ·intro a w hb hoth hdep
  refine step_on (want_none rfl) ?_
  have e1 := ev_other hoth 1 (by kernel_rfl) h1
  obtain ⟨c0, c1, c2, c3, c4, c5, c6, c7, c8, c9, c10, c11⟩ := msgCells (HZ.out.below hb HZ.out.lt)
  refine step_val (x := aggMsg m) ?_ rfl
  simp [go_sem, e1, c0, c1, c2, c3, c4, c5, c6, c7, c8, c9, c10, c11, aggMsg]
 ·intro a w hb hoth hdep
  refine step_on (want_none rfl) ?_
  have e19 := ev_q (x := aggMsg m) hdep 0 19
  refine step_call (f := 77) (args := #[aggMsg m]) ?_ ?_
  ·simp [go_sem, e19]
  ·(with_reducible refine (rpure_t m w).mono ?_)
   rintro e w2 ⟨rfl, hB⟩
   exact ⟨_, rfl, rfl, hB⟩
 ·intro a w hb hoth hdep
  refine step_on (want_none rfl) ?_
  have e1 := ev_other hoth 1 (by kernel_rfl) h1
  obtain ⟨c0, c1, c2, c3, c4, c5, c6, c7, c8, c9, c10, c11⟩ := msgCells (HZ.out.below hb HZ.out.lt)
  refine step_val (x := aggMsg m) ?_ rfl
  simp [go_sem, e1, c0, c1, c2, c3, c4, c5, c6, c7, c8, c9, c10, c11, aggMsg]
 ·intro a w hb hoth hdep
  refine step_on (want_none rfl) ?_
  have e20 := ev_q (x := aggMsg (pureM m)) hdep 1 20
  have e21 := ev_q (x := aggMsg m) hdep 2 21
  refine step_val (x := .bool false) ?_ rfl
  simp [go_sem, e20, e21, hnm, hgu]
 ·intro a w hb hoth hdep
  refine step_on (want_q hdep 4 23 false) ?_
  have e1 := ev_other hoth 1 (by kernel_rfl) h1
  refine step_val (x := .pointer (some ⟨b1, 1, none⟩)) ?_ rfl
  simp [go_sem, e1]
 ·intro a w hb hoth hdep
  refine step_on (want_q hdep 4 23 false) ?_
  have e24 := ev_q (x := .pointer (some ⟨b1, 1, none⟩)) hdep 5 24
  have c1 : w.cell? ⟨b1, 1, none⟩ = some (.int .i64 m.frm) := ((HZ.out.below hb HZ.out.lt).cell 1).trans rfl
  refine step_val (x := .int .i64 m.frm) ?_ rfl
  simp [go_sem, e24, c1]
 ·intro a w hb hoth hdep
  refine step_on (want_q hdep 4 23 false) ?_
  have e25 := ev_q (x := .int .i64 m.frm) hdep 6 25
  refine step_call (f := 78) (args := #[.int .i64 m.frm]) ?_ ?_
  ·simp [go_sem, e25]
  ·(with_reducible refine (refPlace_t m.frm w).mono ?_)
   rintro e w2 ⟨rfl, rfl⟩
   exact ⟨_, rfl, rfl, Below.refl _ _⟩
 ·intro a w hb hoth hdep
  refine step_on (want_q hdep 4 23 false) ?_
  exact step_move (ev_other hoth 4 (by kernel_rfl) h4)
 ·intro a w hb hoth hdep
  refine step_on (want_q hdep 4 23 false) ?_
  have e26 := ev_q (x := .int .i64 (placeM m.frm)) hdep 7 26
  have e27 := ev_q (x := .int .i64 f) hdep 8 27
  refine step_val (x := .bool false) ?_ rfl
  simp [go_sem, e26, e27, hpf]
 ·intro a w hb hoth hdep
  refine step_on (want_q hdep 11 30 false) ?_
  have e1 := ev_other hoth 1 (by kernel_rfl) h1
  refine step_val (x := .pointer (some ⟨b1, 2, none⟩)) ?_ rfl
  simp [go_sem, e1]
 ·intro a w hb hoth hdep
  refine step_on (want_q hdep 11 30 false) ?_
  have e31 := ev_q (x := .pointer (some ⟨b1, 2, none⟩)) hdep 12 31
  have c2 : w.cell? ⟨b1, 2, none⟩ = some (.int .i64 m.to_) := ((HZ.out.below hb HZ.out.lt).cell 2).trans rfl
  refine step_val (x := .int .i64 m.to_) ?_ rfl
  simp [go_sem, e31, c2]
 ·intro a w hb hoth hdep
  refine step_on (want_q hdep 11 30 false) ?_
  have e32 := ev_q (x := .int .i64 m.to_) hdep 13 32
  refine step_call (f := 78) (args := #[.int .i64 m.to_]) ?_ ?_
  ·simp [go_sem, e32]
  ·(with_reducible refine (refPlace_t m.to_ w).mono ?_)
   rintro e w2 ⟨rfl, rfl⟩
   exact ⟨_, rfl, rfl, Below.refl _ _⟩
 ·intro a w hb hoth hdep
  refine step_on (want_q hdep 11 30 false) ?_
  exact step_move (ev_other hoth 5 (by kernel_rfl) h5)
 ·intro a w hb hoth hdep
  refine step_on (want_q hdep 11 30 false) ?_
  have e33 := ev_q (x := .int .i64 (placeM m.to_)) hdep 14 33
  have e34 := ev_q (x := .int .i64 t) hdep 15 34
  refine step_val (x := .bool false) ?_ rfl
  simp [go_sem, e33, e34, hpt]
theorem right_k1 (m : LMsg) (hk : m.kind = 1) (hp : pureM m = m) : rightM m = (inM m.inc 1 2147483647 && inM m.tick 0 1099511627776 && rightR m.res) := by
 simp [rightM, bndM, okB, hk, namesM, intsM]
 try (simp only [Bool.and_assoc])
set_option maxRecDepth 100000 in
set_option maxHeartbeats 12800000 in
theorem rcheck_k1 (m : LMsg) (hk : m.kind = 1) (w : World) : Calls Tryd.prog 43 #[aggMsg m] w fun e w' => e = .returned (.int .i64 (checkM m)) ∧ Below w.heap.size w w' := by
 have hright := right_k1 m hk
 have HC : Hid (checkM m = if pureM m ≠ m ∨ (placeM m.frm, placeM m.to_) ≠ (2, 1) ∨ rightM m = false then 1 else 0) := Lib.hid (by unfold checkM; rw [hk, if_neg (by decide)]; rfl)
 have h1 := Blk.new w 38 (boxMsg m)
 have hB : Below w.heap.size w (w.alloc (.cells (boxMsg m) 38)) := (Below.refl _ _).alloc (Nat.le_refl _) _
 have c0 : (w.alloc (.cells (boxMsg m) 38)).cell? ⟨w.heap.size, 0, none⟩ = some (.int .i64 1) := by rw [← hk]; exact (h1.cell 0).trans rfl
 have H0 := Lib.hid (And.intro h1 hB)
 have HK0 := Lib.hid hk
 have HRR := Lib.hid hright
 clear h1 hB hk hright
 go_enter Tryd.func43, Tryd.ntmps43
 go_wp2_with fail
 generalize w.alloc (.cells (boxMsg m) 38) = w1 at H0 c0 ⊢
 obtain ⟨b1, hb1⟩ : ∃ b1, w.heap.size = b1 := ⟨_, rfl⟩
 have h1 : Blk w1 b1 38 (boxMsg m) := by rw [← hb1]; exact H0.out.1
 rw [hb1] at c0
 try simp only [hb1]
 go_wp2_with fail
 (with_reducible refine (rnames_k1 w1).mono ?_)
 rintro e w2 ⟨rfl, hB2⟩
 have H2 := Lib.hid (And.intro (h1.below hB2 h1.lt) (H0.out.2.trans (hB2.mono H0.out.2.size)))
 have d0 : w2.cell? ⟨b1, 0, none⟩ = some (.int .i64 1) := (hB2.cell (p := ⟨b1, 0, none⟩) h1.lt).trans c0
 clear h1 hb1 H0 c0 hB2
 go_wp2_with fail
 (with_reducible refine (rends_k1 w2).mono ?_)
 rintro e w3 ⟨rfl, hB3⟩
 have HZ := Lib.hid (H2.out.1.below hB3 H2.out.1.lt)
 have HZ2 := Lib.hid (H2.out.2.trans (hB3.mono H2.out.2.size))
 clear d0 hB3 H2
 go_wp2_with fail
 by_cases hpm : pureM m = m
 ·have hnm := decide_eq_true hpm
  by_cases hf : placeM m.frm = 2
  ·have hpf : (placeM m.frm != 2) = false := by simp [hf]
   by_cases ht : placeM m.to_ = 1
   ·have hpt : (placeM m.to_ != 1) = false := by simp [ht]
    have hwp : (placeM m.frm, placeM m.to_) = ((2 : Int), (1 : Int)) := by rw [hf, ht]
    refine r5_d (by kernel_rfl) rfl rfl rfl rfl HZ hnm hpf hpt ?_
    intro wz hbz
    iterate 18 (rintro _ rfl)
    refine FinC.nil ?_
    clear hf ht hnm hpf hpt
    have HE := Lib.hid (And.intro (HZ.out.below hbz HZ.out.lt) (HZ2.out.trans (hbz.mono HZ2.out.size)))
    have HRT := Lib.hid (HRR.out hpm)
    clear hbz
    go_wp2
    go_loopw [6] (fun i wr => (i = .int .i64 0 ∧ Hid (True) ∧ Below w.heap.size w wr ∧ Below wz.heap.size wz wr) ∨ (i = .int .i64 1 ∧ Hid (inM m.inc 1 2147483647 = true) ∧ Below w.heap.size w wr ∧ Below wz.heap.size wz wr) ∨ (i = .int .i64 2 ∧ Hid (inM m.inc 1 2147483647 = true ∧ inM m.tick 0 1099511627776 = true) ∧ Below w.heap.size w wr ∧ Below wz.heap.size wz wr) ∨ (i = .int .i64 3 ∧ Hid (inM m.inc 1 2147483647 = true ∧ inM m.tick 0 1099511627776 = true ∧ rightR m.res = true) ∧ Below w.heap.size w wr ∧ Below wz.heap.size wz wr)) (fun i _ => 3 - (intOf i).toNat)
    case atStart => exact .inl ⟨rfl, Lib.hid trivial, HE.out.2, Below.refl _ _⟩
    case round =>
     rcases hrel with ⟨rfl, HD, hbw, hbz2⟩ | ⟨rfl, HD, hbw, hbz2⟩ | ⟨rfl, HD, hbw, hbz2⟩ | ⟨rfl, HD, hbw, hbz2⟩
     ·have HBW := Lib.hid (And.intro hbw hbz2)
      have HRr := Lib.hid (HE.out.1.below hbz2 HE.out.1.lt)
      clear hbw hbz2
      go_upto_region 11 with fail
      rcases Bool.eq_false_or_eq_true (inM m.inc 1 2147483647) with ht | ht
      ·refine r11_It (by kernel_rfl) rfl rfl rfl HRr ht ?_
       intro wy hby
       iterate 68 (rintro _ rfl)
       refine FinC.nil ?_
       have HBY := Lib.hid (And.intro (HBW.out.1.trans (hby.mono HBW.out.1.size)) (HBW.out.2.trans (hby.mono HBW.out.2.size)))
       have HN : Hid (inM m.inc 1 2147483647 = true) := Lib.hid ht
       clear ht hby
       go_wp2_with fail
       go_roundw
       case rel => exact .inr (.inl ⟨by go_num, HN, HBY.out.1, HBY.out.2⟩)
       case measure => simp [intOf]
      ·refine r11_If (by kernel_rfl) rfl rfl rfl HRr ht ?_
       intro wy hby
       iterate 68 (rintro _ rfl)
       refine FinC.nil ?_
       have HBY := Lib.hid (HBW.out.1.trans (hby.mono HBW.out.1.size))
       have HN : Hid (checkM m = 1) := Lib.hid (by rw [HC.out, if_pos (.inr (.inr (by rw [HRT.out]; simp [ht])))])
       clear ht hby
       go_wp2_with fail
       go_ret
       exact ⟨ret_int HN.out.symm, HBY.out⟩
     ·have HBW := Lib.hid (And.intro hbw hbz2)
      have HRr := Lib.hid (HE.out.1.below hbz2 HE.out.1.lt)
      clear hbw hbz2
      go_upto_region 11 with fail
      rcases Bool.eq_false_or_eq_true (inM m.tick 0 1099511627776) with ht | ht
      ·refine r11_Tt (by kernel_rfl) rfl rfl rfl HRr ht ?_
       intro wy hby
       iterate 68 (rintro _ rfl)
       refine FinC.nil ?_
       have HBY := Lib.hid (And.intro (HBW.out.1.trans (hby.mono HBW.out.1.size)) (HBW.out.2.trans (hby.mono HBW.out.2.size)))
       have HN : Hid (inM m.inc 1 2147483647 = true ∧ inM m.tick 0 1099511627776 = true) := Lib.hid ⟨HD.out, ht⟩
       clear ht hby
       go_wp2_with fail
       go_roundw
       case rel => exact .inr (.inr (.inl ⟨by go_num, HN, HBY.out.1, HBY.out.2⟩))
       case measure => simp [intOf]
      ·refine r11_Tf (by kernel_rfl) rfl rfl rfl HRr ht ?_
       intro wy hby
       iterate 68 (rintro _ rfl)
       refine FinC.nil ?_
       have HBY := Lib.hid (HBW.out.1.trans (hby.mono HBW.out.1.size))
       have HN : Hid (checkM m = 1) := Lib.hid (by rw [HC.out, if_pos (.inr (.inr (by rw [HRT.out]; simp [ht])))])
       clear ht hby
       go_wp2_with fail
       go_ret
       exact ⟨ret_int HN.out.symm, HBY.out⟩
     ·have HBW := Lib.hid (And.intro hbw hbz2)
      have HRr := Lib.hid (HE.out.1.below hbz2 HE.out.1.lt)
      clear hbw hbz2
      go_upto_region 11 with fail
      rcases Bool.eq_false_or_eq_true (rightR m.res) with ht | ht
      ·refine r11_Rt (by kernel_rfl) rfl rfl rfl HRr ht ?_
       intro wy hby
       iterate 68 (rintro _ rfl)
       refine FinC.nil ?_
       have HBY := Lib.hid (And.intro (HBW.out.1.trans (hby.mono HBW.out.1.size)) (HBW.out.2.trans (hby.mono HBW.out.2.size)))
       have HN : Hid (inM m.inc 1 2147483647 = true ∧ inM m.tick 0 1099511627776 = true ∧ rightR m.res = true) := Lib.hid ⟨HD.out.1, HD.out.2, ht⟩
       clear ht hby
       go_wp2_with fail
       go_roundw
       case rel => exact .inr (.inr (.inr (⟨by go_num, HN, HBY.out.1, HBY.out.2⟩)))
       case measure => simp [intOf]
      ·refine r11_Rf (by kernel_rfl) rfl rfl rfl HRr ht ?_
       intro wy hby
       iterate 68 (rintro _ rfl)
       refine FinC.nil ?_
       have HBY := Lib.hid (HBW.out.1.trans (hby.mono HBW.out.1.size))
       have HN : Hid (checkM m = 1) := Lib.hid (by rw [HC.out, if_pos (.inr (.inr (by rw [HRT.out]; simp [ht])))])
       clear ht hby
       go_wp2_with fail
       go_ret
       exact ⟨ret_int HN.out.symm, HBY.out⟩
     ·have HN : Hid (checkM m = 0) := Lib.hid (by rw [HC.out, if_neg]; rintro (h | h | h); exact h hpm; exact h hwp; rw [HRT.out, HD.out.1, HD.out.2.1, HD.out.2.2] at h; cases h)
      go_wp2
      go_ret
      exact ⟨ret_int HN.out.symm, hbw⟩
   ·have hpt : (placeM m.to_ != 1) = true := by simp [ht]
    have HK : Hid (checkM m = 1) := Lib.hid (by rw [HC.out, if_pos (.inr (.inl (by simp [ht])))])
    refine r5_c (by kernel_rfl) rfl rfl rfl rfl HZ hnm hpf hpt ?_
    intro wz hbz
    iterate 18 (rintro _ rfl)
    refine FinC.nil ?_
    clear hf ht hnm hpf hpt
    have HE := Lib.hid (HZ2.out.trans (hbz.mono HZ2.out.size))
    clear hbz
    go_wp2_with fail
    go_ret
    exact ⟨ret_int HK.out.symm, HE.out⟩
  ·have hpf : (placeM m.frm != 2) = true := by simp [hf]
   have HK : Hid (checkM m = 1) := Lib.hid (by rw [HC.out, if_pos (.inr (.inl (by simp [hf])))])
   refine r5_b (by kernel_rfl) rfl rfl rfl rfl HZ hnm hpf ?_
   intro wz hbz
   iterate 18 (rintro _ rfl)
   refine FinC.nil ?_
   clear hf hnm hpf
   have HE := Lib.hid (HZ2.out.trans (hbz.mono HZ2.out.size))
   clear hbz
   go_wp2_with fail
   go_ret
   exact ⟨ret_int HK.out.symm, HE.out⟩
 ·have hnm := decide_eq_false hpm
  have HK : Hid (checkM m = 1) := Lib.hid (by rw [HC.out, if_pos (.inl hpm)])
  refine r5_a (by kernel_rfl) rfl rfl rfl rfl HZ hnm ?_
  intro wz hbz
  iterate 18 (rintro _ rfl)
  refine FinC.nil ?_
  clear hnm
  have HE := Lib.hid (HZ2.out.trans (hbz.mono HZ2.out.size))
  clear hbz
  go_wp2_with fail
  go_ret
  exact ⟨ret_int HK.out.symm, HE.out⟩
theorem right_k2 (m : LMsg) (hk : m.kind = 2) (hp : pureM m = m) : rightM m = (inM m.epoch 1 4294967295 && inM m.inc 1 2147483647 && inM m.tick 0 1099511627776) := by
 have hr : rightR m.res = true := by
  have e : (pureM m).res = m.res := by rw [hp]
  unfold pureM at e
  rw [hk, if_neg (by decide)] at e
  rw [← e]
  exact (by simp [keepM, namesM, res_zero_right] : rightR (keepM m (namesM 2)).res = true)
 simp [rightM, bndM, okB, hk, namesM, intsM, hr]
 try (simp only [Bool.and_assoc])
set_option maxRecDepth 100000 in
set_option maxHeartbeats 12800000 in
theorem rcheck_k2 (m : LMsg) (hk : m.kind = 2) (w : World) : Calls Tryd.prog 43 #[aggMsg m] w fun e w' => e = .returned (.int .i64 (checkM m)) ∧ Below w.heap.size w w' := by
 have hright := right_k2 m hk
 have HC : Hid (checkM m = if pureM m ≠ m ∨ (placeM m.frm, placeM m.to_) ≠ (1, 2) ∨ rightM m = false then 1 else 0) := Lib.hid (by unfold checkM; rw [hk, if_neg (by decide)]; rfl)
 have h1 := Blk.new w 38 (boxMsg m)
 have hB : Below w.heap.size w (w.alloc (.cells (boxMsg m) 38)) := (Below.refl _ _).alloc (Nat.le_refl _) _
 have c0 : (w.alloc (.cells (boxMsg m) 38)).cell? ⟨w.heap.size, 0, none⟩ = some (.int .i64 2) := by rw [← hk]; exact (h1.cell 0).trans rfl
 have H0 := Lib.hid (And.intro h1 hB)
 have HK0 := Lib.hid hk
 have HRR := Lib.hid hright
 clear h1 hB hk hright
 go_enter Tryd.func43, Tryd.ntmps43
 go_wp2_with fail
 generalize w.alloc (.cells (boxMsg m) 38) = w1 at H0 c0 ⊢
 obtain ⟨b1, hb1⟩ : ∃ b1, w.heap.size = b1 := ⟨_, rfl⟩
 have h1 : Blk w1 b1 38 (boxMsg m) := by rw [← hb1]; exact H0.out.1
 rw [hb1] at c0
 try simp only [hb1]
 go_wp2_with fail
 (with_reducible refine (rnames_k2 w1).mono ?_)
 rintro e w2 ⟨rfl, hB2⟩
 have H2 := Lib.hid (And.intro (h1.below hB2 h1.lt) (H0.out.2.trans (hB2.mono H0.out.2.size)))
 have d0 : w2.cell? ⟨b1, 0, none⟩ = some (.int .i64 2) := (hB2.cell (p := ⟨b1, 0, none⟩) h1.lt).trans c0
 clear h1 hb1 H0 c0 hB2
 go_wp2_with fail
 (with_reducible refine (rends_k2 w2).mono ?_)
 rintro e w3 ⟨rfl, hB3⟩
 have HZ := Lib.hid (H2.out.1.below hB3 H2.out.1.lt)
 have HZ2 := Lib.hid (H2.out.2.trans (hB3.mono H2.out.2.size))
 clear d0 hB3 H2
 go_wp2_with fail
 by_cases hpm : pureM m = m
 ·have hnm := decide_eq_true hpm
  by_cases hf : placeM m.frm = 1
  ·have hpf : (placeM m.frm != 1) = false := by simp [hf]
   by_cases ht : placeM m.to_ = 2
   ·have hpt : (placeM m.to_ != 2) = false := by simp [ht]
    have hwp : (placeM m.frm, placeM m.to_) = ((1 : Int), (2 : Int)) := by rw [hf, ht]
    refine r5_d (by kernel_rfl) rfl rfl rfl rfl HZ hnm hpf hpt ?_
    intro wz hbz
    iterate 18 (rintro _ rfl)
    refine FinC.nil ?_
    clear hf ht hnm hpf hpt
    have HE := Lib.hid (And.intro (HZ.out.below hbz HZ.out.lt) (HZ2.out.trans (hbz.mono HZ2.out.size)))
    have HRT := Lib.hid (HRR.out hpm)
    clear hbz
    go_wp2
    go_loopw [6] (fun i wr => (i = .int .i64 0 ∧ Hid (True) ∧ Below w.heap.size w wr ∧ Below wz.heap.size wz wr) ∨ (i = .int .i64 1 ∧ Hid (inM m.epoch 1 4294967295 = true) ∧ Below w.heap.size w wr ∧ Below wz.heap.size wz wr) ∨ (i = .int .i64 2 ∧ Hid (inM m.epoch 1 4294967295 = true ∧ inM m.inc 1 2147483647 = true) ∧ Below w.heap.size w wr ∧ Below wz.heap.size wz wr) ∨ (i = .int .i64 3 ∧ Hid (inM m.epoch 1 4294967295 = true ∧ inM m.inc 1 2147483647 = true ∧ inM m.tick 0 1099511627776 = true) ∧ Below w.heap.size w wr ∧ Below wz.heap.size wz wr)) (fun i _ => 3 - (intOf i).toNat)
    case atStart => exact .inl ⟨rfl, Lib.hid trivial, HE.out.2, Below.refl _ _⟩
    case round =>
     rcases hrel with ⟨rfl, HD, hbw, hbz2⟩ | ⟨rfl, HD, hbw, hbz2⟩ | ⟨rfl, HD, hbw, hbz2⟩ | ⟨rfl, HD, hbw, hbz2⟩
     ·have HBW := Lib.hid (And.intro hbw hbz2)
      have HRr := Lib.hid (HE.out.1.below hbz2 HE.out.1.lt)
      clear hbw hbz2
      go_upto_region 11 with fail
      rcases Bool.eq_false_or_eq_true (inM m.epoch 1 4294967295) with ht | ht
      ·refine r11_Et (by kernel_rfl) rfl rfl rfl HRr ht ?_
       intro wy hby
       iterate 68 (rintro _ rfl)
       refine FinC.nil ?_
       have HBY := Lib.hid (And.intro (HBW.out.1.trans (hby.mono HBW.out.1.size)) (HBW.out.2.trans (hby.mono HBW.out.2.size)))
       have HN : Hid (inM m.epoch 1 4294967295 = true) := Lib.hid ht
       clear ht hby
       go_wp2_with fail
       go_roundw
       case rel => exact .inr (.inl ⟨by go_num, HN, HBY.out.1, HBY.out.2⟩)
       case measure => simp [intOf]
      ·refine r11_Ef (by kernel_rfl) rfl rfl rfl HRr ht ?_
       intro wy hby
       iterate 68 (rintro _ rfl)
       refine FinC.nil ?_
       have HBY := Lib.hid (HBW.out.1.trans (hby.mono HBW.out.1.size))
       have HN : Hid (checkM m = 1) := Lib.hid (by rw [HC.out, if_pos (.inr (.inr (by rw [HRT.out]; simp [ht])))])
       clear ht hby
       go_wp2_with fail
       go_ret
       exact ⟨ret_int HN.out.symm, HBY.out⟩
     ·have HBW := Lib.hid (And.intro hbw hbz2)
      have HRr := Lib.hid (HE.out.1.below hbz2 HE.out.1.lt)
      clear hbw hbz2
      go_upto_region 11 with fail
      rcases Bool.eq_false_or_eq_true (inM m.inc 1 2147483647) with ht | ht
      ·refine r11_It (by kernel_rfl) rfl rfl rfl HRr ht ?_
       intro wy hby
       iterate 68 (rintro _ rfl)
       refine FinC.nil ?_
       have HBY := Lib.hid (And.intro (HBW.out.1.trans (hby.mono HBW.out.1.size)) (HBW.out.2.trans (hby.mono HBW.out.2.size)))
       have HN : Hid (inM m.epoch 1 4294967295 = true ∧ inM m.inc 1 2147483647 = true) := Lib.hid ⟨HD.out, ht⟩
       clear ht hby
       go_wp2_with fail
       go_roundw
       case rel => exact .inr (.inr (.inl ⟨by go_num, HN, HBY.out.1, HBY.out.2⟩))
       case measure => simp [intOf]
      ·refine r11_If (by kernel_rfl) rfl rfl rfl HRr ht ?_
       intro wy hby
       iterate 68 (rintro _ rfl)
       refine FinC.nil ?_
       have HBY := Lib.hid (HBW.out.1.trans (hby.mono HBW.out.1.size))
       have HN : Hid (checkM m = 1) := Lib.hid (by rw [HC.out, if_pos (.inr (.inr (by rw [HRT.out]; simp [ht])))])
       clear ht hby
       go_wp2_with fail
       go_ret
       exact ⟨ret_int HN.out.symm, HBY.out⟩
     ·have HBW := Lib.hid (And.intro hbw hbz2)
      have HRr := Lib.hid (HE.out.1.below hbz2 HE.out.1.lt)
      clear hbw hbz2
      go_upto_region 11 with fail
      rcases Bool.eq_false_or_eq_true (inM m.tick 0 1099511627776) with ht | ht
      ·refine r11_Tt (by kernel_rfl) rfl rfl rfl HRr ht ?_
       intro wy hby
       iterate 68 (rintro _ rfl)
       refine FinC.nil ?_
       have HBY := Lib.hid (And.intro (HBW.out.1.trans (hby.mono HBW.out.1.size)) (HBW.out.2.trans (hby.mono HBW.out.2.size)))
       have HN : Hid (inM m.epoch 1 4294967295 = true ∧ inM m.inc 1 2147483647 = true ∧ inM m.tick 0 1099511627776 = true) := Lib.hid ⟨HD.out.1, HD.out.2, ht⟩
       clear ht hby
       go_wp2_with fail
       go_roundw
       case rel => exact .inr (.inr (.inr (⟨by go_num, HN, HBY.out.1, HBY.out.2⟩)))
       case measure => simp [intOf]
      ·refine r11_Tf (by kernel_rfl) rfl rfl rfl HRr ht ?_
       intro wy hby
       iterate 68 (rintro _ rfl)
       refine FinC.nil ?_
       have HBY := Lib.hid (HBW.out.1.trans (hby.mono HBW.out.1.size))
       have HN : Hid (checkM m = 1) := Lib.hid (by rw [HC.out, if_pos (.inr (.inr (by rw [HRT.out]; simp [ht])))])
       clear ht hby
       go_wp2_with fail
       go_ret
       exact ⟨ret_int HN.out.symm, HBY.out⟩
     ·have HN : Hid (checkM m = 0) := Lib.hid (by rw [HC.out, if_neg]; rintro (h | h | h); exact h hpm; exact h hwp; rw [HRT.out, HD.out.1, HD.out.2.1, HD.out.2.2] at h; cases h)
      go_wp2
      go_ret
      exact ⟨ret_int HN.out.symm, hbw⟩
   ·have hpt : (placeM m.to_ != 2) = true := by simp [ht]
    have HK : Hid (checkM m = 1) := Lib.hid (by rw [HC.out, if_pos (.inr (.inl (by simp [ht])))])
    refine r5_c (by kernel_rfl) rfl rfl rfl rfl HZ hnm hpf hpt ?_
    intro wz hbz
    iterate 18 (rintro _ rfl)
    refine FinC.nil ?_
    clear hf ht hnm hpf hpt
    have HE := Lib.hid (HZ2.out.trans (hbz.mono HZ2.out.size))
    clear hbz
    go_wp2_with fail
    go_ret
    exact ⟨ret_int HK.out.symm, HE.out⟩
  ·have hpf : (placeM m.frm != 1) = true := by simp [hf]
   have HK : Hid (checkM m = 1) := Lib.hid (by rw [HC.out, if_pos (.inr (.inl (by simp [hf])))])
   refine r5_b (by kernel_rfl) rfl rfl rfl rfl HZ hnm hpf ?_
   intro wz hbz
   iterate 18 (rintro _ rfl)
   refine FinC.nil ?_
   clear hf hnm hpf
   have HE := Lib.hid (HZ2.out.trans (hbz.mono HZ2.out.size))
   clear hbz
   go_wp2_with fail
   go_ret
   exact ⟨ret_int HK.out.symm, HE.out⟩
 ·have hnm := decide_eq_false hpm
  have HK : Hid (checkM m = 1) := Lib.hid (by rw [HC.out, if_pos (.inl hpm)])
  refine r5_a (by kernel_rfl) rfl rfl rfl rfl HZ hnm ?_
  intro wz hbz
  iterate 18 (rintro _ rfl)
  refine FinC.nil ?_
  clear hnm
  have HE := Lib.hid (HZ2.out.trans (hbz.mono HZ2.out.size))
  clear hbz
  go_wp2_with fail
  go_ret
  exact ⟨ret_int HK.out.symm, HE.out⟩
theorem right_k3 (m : LMsg) (hk : m.kind = 3) (hp : pureM m = m) : rightM m = (inM m.epoch 1 4294967295 && inM m.inc 1 2147483647 && inM m.job 1 2147483647) := by
 have hr : rightR m.res = true := by
  have e : (pureM m).res = m.res := by rw [hp]
  unfold pureM at e
  rw [hk, if_neg (by decide)] at e
  rw [← e]
  exact (by simp [keepM, namesM, res_zero_right] : rightR (keepM m (namesM 3)).res = true)
 simp [rightM, bndM, okB, hk, namesM, intsM, hr]
 try (simp only [Bool.and_assoc])
set_option maxRecDepth 100000 in
set_option maxHeartbeats 12800000 in
theorem rcheck_k3 (m : LMsg) (hk : m.kind = 3) (w : World) : Calls Tryd.prog 43 #[aggMsg m] w fun e w' => e = .returned (.int .i64 (checkM m)) ∧ Below w.heap.size w w' := by
 have hright := right_k3 m hk
 have HC : Hid (checkM m = if pureM m ≠ m ∨ (placeM m.frm, placeM m.to_) ≠ (1, 2) ∨ rightM m = false then 1 else 0) := Lib.hid (by unfold checkM; rw [hk, if_neg (by decide)]; rfl)
 have h1 := Blk.new w 38 (boxMsg m)
 have hB : Below w.heap.size w (w.alloc (.cells (boxMsg m) 38)) := (Below.refl _ _).alloc (Nat.le_refl _) _
 have c0 : (w.alloc (.cells (boxMsg m) 38)).cell? ⟨w.heap.size, 0, none⟩ = some (.int .i64 3) := by rw [← hk]; exact (h1.cell 0).trans rfl
 have H0 := Lib.hid (And.intro h1 hB)
 have HK0 := Lib.hid hk
 have HRR := Lib.hid hright
 clear h1 hB hk hright
 go_enter Tryd.func43, Tryd.ntmps43
 go_wp2_with fail
 generalize w.alloc (.cells (boxMsg m) 38) = w1 at H0 c0 ⊢
 obtain ⟨b1, hb1⟩ : ∃ b1, w.heap.size = b1 := ⟨_, rfl⟩
 have h1 : Blk w1 b1 38 (boxMsg m) := by rw [← hb1]; exact H0.out.1
 rw [hb1] at c0
 try simp only [hb1]
 go_wp2_with fail
 (with_reducible refine (rnames_k3 w1).mono ?_)
 rintro e w2 ⟨rfl, hB2⟩
 have H2 := Lib.hid (And.intro (h1.below hB2 h1.lt) (H0.out.2.trans (hB2.mono H0.out.2.size)))
 have d0 : w2.cell? ⟨b1, 0, none⟩ = some (.int .i64 3) := (hB2.cell (p := ⟨b1, 0, none⟩) h1.lt).trans c0
 clear h1 hb1 H0 c0 hB2
 go_wp2_with fail
 (with_reducible refine (rends_k3 w2).mono ?_)
 rintro e w3 ⟨rfl, hB3⟩
 have HZ := Lib.hid (H2.out.1.below hB3 H2.out.1.lt)
 have HZ2 := Lib.hid (H2.out.2.trans (hB3.mono H2.out.2.size))
 clear d0 hB3 H2
 go_wp2_with fail
 by_cases hpm : pureM m = m
 ·have hnm := decide_eq_true hpm
  by_cases hf : placeM m.frm = 1
  ·have hpf : (placeM m.frm != 1) = false := by simp [hf]
   by_cases ht : placeM m.to_ = 2
   ·have hpt : (placeM m.to_ != 2) = false := by simp [ht]
    have hwp : (placeM m.frm, placeM m.to_) = ((1 : Int), (2 : Int)) := by rw [hf, ht]
    refine r5_d (by kernel_rfl) rfl rfl rfl rfl HZ hnm hpf hpt ?_
    intro wz hbz
    iterate 18 (rintro _ rfl)
    refine FinC.nil ?_
    clear hf ht hnm hpf hpt
    have HE := Lib.hid (And.intro (HZ.out.below hbz HZ.out.lt) (HZ2.out.trans (hbz.mono HZ2.out.size)))
    have HRT := Lib.hid (HRR.out hpm)
    clear hbz
    go_wp2
    go_loopw [6] (fun i wr => (i = .int .i64 0 ∧ Hid (True) ∧ Below w.heap.size w wr ∧ Below wz.heap.size wz wr) ∨ (i = .int .i64 1 ∧ Hid (inM m.epoch 1 4294967295 = true) ∧ Below w.heap.size w wr ∧ Below wz.heap.size wz wr) ∨ (i = .int .i64 2 ∧ Hid (inM m.epoch 1 4294967295 = true ∧ inM m.inc 1 2147483647 = true) ∧ Below w.heap.size w wr ∧ Below wz.heap.size wz wr) ∨ (i = .int .i64 3 ∧ Hid (inM m.epoch 1 4294967295 = true ∧ inM m.inc 1 2147483647 = true ∧ inM m.job 1 2147483647 = true) ∧ Below w.heap.size w wr ∧ Below wz.heap.size wz wr)) (fun i _ => 3 - (intOf i).toNat)
    case atStart => exact .inl ⟨rfl, Lib.hid trivial, HE.out.2, Below.refl _ _⟩
    case round =>
     rcases hrel with ⟨rfl, HD, hbw, hbz2⟩ | ⟨rfl, HD, hbw, hbz2⟩ | ⟨rfl, HD, hbw, hbz2⟩ | ⟨rfl, HD, hbw, hbz2⟩
     ·have HBW := Lib.hid (And.intro hbw hbz2)
      have HRr := Lib.hid (HE.out.1.below hbz2 HE.out.1.lt)
      clear hbw hbz2
      go_upto_region 11 with fail
      rcases Bool.eq_false_or_eq_true (inM m.epoch 1 4294967295) with ht | ht
      ·refine r11_Et (by kernel_rfl) rfl rfl rfl HRr ht ?_
       intro wy hby
       iterate 68 (rintro _ rfl)
       refine FinC.nil ?_
       have HBY := Lib.hid (And.intro (HBW.out.1.trans (hby.mono HBW.out.1.size)) (HBW.out.2.trans (hby.mono HBW.out.2.size)))
       have HN : Hid (inM m.epoch 1 4294967295 = true) := Lib.hid ht
       clear ht hby
       go_wp2_with fail
       go_roundw
       case rel => exact .inr (.inl ⟨by go_num, HN, HBY.out.1, HBY.out.2⟩)
       case measure => simp [intOf]
      ·refine r11_Ef (by kernel_rfl) rfl rfl rfl HRr ht ?_
       intro wy hby
       iterate 68 (rintro _ rfl)
       refine FinC.nil ?_
       have HBY := Lib.hid (HBW.out.1.trans (hby.mono HBW.out.1.size))
       have HN : Hid (checkM m = 1) := Lib.hid (by rw [HC.out, if_pos (.inr (.inr (by rw [HRT.out]; simp [ht])))])
       clear ht hby
       go_wp2_with fail
       go_ret
       exact ⟨ret_int HN.out.symm, HBY.out⟩
     ·have HBW := Lib.hid (And.intro hbw hbz2)
      have HRr := Lib.hid (HE.out.1.below hbz2 HE.out.1.lt)
      clear hbw hbz2
      go_upto_region 11 with fail
      rcases Bool.eq_false_or_eq_true (inM m.inc 1 2147483647) with ht | ht
      ·refine r11_It (by kernel_rfl) rfl rfl rfl HRr ht ?_
       intro wy hby
       iterate 68 (rintro _ rfl)
       refine FinC.nil ?_
       have HBY := Lib.hid (And.intro (HBW.out.1.trans (hby.mono HBW.out.1.size)) (HBW.out.2.trans (hby.mono HBW.out.2.size)))
       have HN : Hid (inM m.epoch 1 4294967295 = true ∧ inM m.inc 1 2147483647 = true) := Lib.hid ⟨HD.out, ht⟩
       clear ht hby
       go_wp2_with fail
       go_roundw
       case rel => exact .inr (.inr (.inl ⟨by go_num, HN, HBY.out.1, HBY.out.2⟩))
       case measure => simp [intOf]
      ·refine r11_If (by kernel_rfl) rfl rfl rfl HRr ht ?_
       intro wy hby
       iterate 68 (rintro _ rfl)
       refine FinC.nil ?_
       have HBY := Lib.hid (HBW.out.1.trans (hby.mono HBW.out.1.size))
       have HN : Hid (checkM m = 1) := Lib.hid (by rw [HC.out, if_pos (.inr (.inr (by rw [HRT.out]; simp [ht])))])
       clear ht hby
       go_wp2_with fail
       go_ret
       exact ⟨ret_int HN.out.symm, HBY.out⟩
     ·have HBW := Lib.hid (And.intro hbw hbz2)
      have HRr := Lib.hid (HE.out.1.below hbz2 HE.out.1.lt)
      clear hbw hbz2
      go_upto_region 11 with fail
      rcases Bool.eq_false_or_eq_true (inM m.job 1 2147483647) with ht | ht
      ·refine r11_Jt (by kernel_rfl) rfl rfl rfl HRr ht ?_
       intro wy hby
       iterate 68 (rintro _ rfl)
       refine FinC.nil ?_
       have HBY := Lib.hid (And.intro (HBW.out.1.trans (hby.mono HBW.out.1.size)) (HBW.out.2.trans (hby.mono HBW.out.2.size)))
       have HN : Hid (inM m.epoch 1 4294967295 = true ∧ inM m.inc 1 2147483647 = true ∧ inM m.job 1 2147483647 = true) := Lib.hid ⟨HD.out.1, HD.out.2, ht⟩
       clear ht hby
       go_wp2_with fail
       go_roundw
       case rel => exact .inr (.inr (.inr (⟨by go_num, HN, HBY.out.1, HBY.out.2⟩)))
       case measure => simp [intOf]
      ·refine r11_Jf (by kernel_rfl) rfl rfl rfl HRr ht ?_
       intro wy hby
       iterate 68 (rintro _ rfl)
       refine FinC.nil ?_
       have HBY := Lib.hid (HBW.out.1.trans (hby.mono HBW.out.1.size))
       have HN : Hid (checkM m = 1) := Lib.hid (by rw [HC.out, if_pos (.inr (.inr (by rw [HRT.out]; simp [ht])))])
       clear ht hby
       go_wp2_with fail
       go_ret
       exact ⟨ret_int HN.out.symm, HBY.out⟩
     ·have HN : Hid (checkM m = 0) := Lib.hid (by rw [HC.out, if_neg]; rintro (h | h | h); exact h hpm; exact h hwp; rw [HRT.out, HD.out.1, HD.out.2.1, HD.out.2.2] at h; cases h)
      go_wp2
      go_ret
      exact ⟨ret_int HN.out.symm, hbw⟩
   ·have hpt : (placeM m.to_ != 2) = true := by simp [ht]
    have HK : Hid (checkM m = 1) := Lib.hid (by rw [HC.out, if_pos (.inr (.inl (by simp [ht])))])
    refine r5_c (by kernel_rfl) rfl rfl rfl rfl HZ hnm hpf hpt ?_
    intro wz hbz
    iterate 18 (rintro _ rfl)
    refine FinC.nil ?_
    clear hf ht hnm hpf hpt
    have HE := Lib.hid (HZ2.out.trans (hbz.mono HZ2.out.size))
    clear hbz
    go_wp2_with fail
    go_ret
    exact ⟨ret_int HK.out.symm, HE.out⟩
  ·have hpf : (placeM m.frm != 1) = true := by simp [hf]
   have HK : Hid (checkM m = 1) := Lib.hid (by rw [HC.out, if_pos (.inr (.inl (by simp [hf])))])
   refine r5_b (by kernel_rfl) rfl rfl rfl rfl HZ hnm hpf ?_
   intro wz hbz
   iterate 18 (rintro _ rfl)
   refine FinC.nil ?_
   clear hf hnm hpf
   have HE := Lib.hid (HZ2.out.trans (hbz.mono HZ2.out.size))
   clear hbz
   go_wp2_with fail
   go_ret
   exact ⟨ret_int HK.out.symm, HE.out⟩
 ·have hnm := decide_eq_false hpm
  have HK : Hid (checkM m = 1) := Lib.hid (by rw [HC.out, if_pos (.inl hpm)])
  refine r5_a (by kernel_rfl) rfl rfl rfl rfl HZ hnm ?_
  intro wz hbz
  iterate 18 (rintro _ rfl)
  refine FinC.nil ?_
  clear hnm
  have HE := Lib.hid (HZ2.out.trans (hbz.mono HZ2.out.size))
  clear hbz
  go_wp2_with fail
  go_ret
  exact ⟨ret_int HK.out.symm, HE.out⟩
theorem right_k4 (m : LMsg) (hk : m.kind = 4) (hp : pureM m = m) : rightM m = (inM m.epoch 1 4294967295 && inM m.inc 1 2147483647 && inM m.job 1 2147483647) := by
 have hr : rightR m.res = true := by
  have e : (pureM m).res = m.res := by rw [hp]
  unfold pureM at e
  rw [hk, if_neg (by decide)] at e
  rw [← e]
  exact (by simp [keepM, namesM, res_zero_right] : rightR (keepM m (namesM 4)).res = true)
 simp [rightM, bndM, okB, hk, namesM, intsM, hr]
 try (simp only [Bool.and_assoc])
set_option maxRecDepth 100000 in
set_option maxHeartbeats 12800000 in
theorem rcheck_k4 (m : LMsg) (hk : m.kind = 4) (w : World) : Calls Tryd.prog 43 #[aggMsg m] w fun e w' => e = .returned (.int .i64 (checkM m)) ∧ Below w.heap.size w w' := by
 have hright := right_k4 m hk
 have HC : Hid (checkM m = if pureM m ≠ m ∨ (placeM m.frm, placeM m.to_) ≠ (1, 2) ∨ rightM m = false then 1 else 0) := Lib.hid (by unfold checkM; rw [hk, if_neg (by decide)]; rfl)
 have h1 := Blk.new w 38 (boxMsg m)
 have hB : Below w.heap.size w (w.alloc (.cells (boxMsg m) 38)) := (Below.refl _ _).alloc (Nat.le_refl _) _
 have c0 : (w.alloc (.cells (boxMsg m) 38)).cell? ⟨w.heap.size, 0, none⟩ = some (.int .i64 4) := by rw [← hk]; exact (h1.cell 0).trans rfl
 have H0 := Lib.hid (And.intro h1 hB)
 have HK0 := Lib.hid hk
 have HRR := Lib.hid hright
 clear h1 hB hk hright
 go_enter Tryd.func43, Tryd.ntmps43
 go_wp2_with fail
 generalize w.alloc (.cells (boxMsg m) 38) = w1 at H0 c0 ⊢
 obtain ⟨b1, hb1⟩ : ∃ b1, w.heap.size = b1 := ⟨_, rfl⟩
 have h1 : Blk w1 b1 38 (boxMsg m) := by rw [← hb1]; exact H0.out.1
 rw [hb1] at c0
 try simp only [hb1]
 go_wp2_with fail
 (with_reducible refine (rnames_k4 w1).mono ?_)
 rintro e w2 ⟨rfl, hB2⟩
 have H2 := Lib.hid (And.intro (h1.below hB2 h1.lt) (H0.out.2.trans (hB2.mono H0.out.2.size)))
 have d0 : w2.cell? ⟨b1, 0, none⟩ = some (.int .i64 4) := (hB2.cell (p := ⟨b1, 0, none⟩) h1.lt).trans c0
 clear h1 hb1 H0 c0 hB2
 go_wp2_with fail
 (with_reducible refine (rends_k4 w2).mono ?_)
 rintro e w3 ⟨rfl, hB3⟩
 have HZ := Lib.hid (H2.out.1.below hB3 H2.out.1.lt)
 have HZ2 := Lib.hid (H2.out.2.trans (hB3.mono H2.out.2.size))
 clear d0 hB3 H2
 go_wp2_with fail
 by_cases hpm : pureM m = m
 ·have hnm := decide_eq_true hpm
  by_cases hf : placeM m.frm = 1
  ·have hpf : (placeM m.frm != 1) = false := by simp [hf]
   by_cases ht : placeM m.to_ = 2
   ·have hpt : (placeM m.to_ != 2) = false := by simp [ht]
    have hwp : (placeM m.frm, placeM m.to_) = ((1 : Int), (2 : Int)) := by rw [hf, ht]
    refine r5_d (by kernel_rfl) rfl rfl rfl rfl HZ hnm hpf hpt ?_
    intro wz hbz
    iterate 18 (rintro _ rfl)
    refine FinC.nil ?_
    clear hf ht hnm hpf hpt
    have HE := Lib.hid (And.intro (HZ.out.below hbz HZ.out.lt) (HZ2.out.trans (hbz.mono HZ2.out.size)))
    have HRT := Lib.hid (HRR.out hpm)
    clear hbz
    go_wp2
    go_loopw [6] (fun i wr => (i = .int .i64 0 ∧ Hid (True) ∧ Below w.heap.size w wr ∧ Below wz.heap.size wz wr) ∨ (i = .int .i64 1 ∧ Hid (inM m.epoch 1 4294967295 = true) ∧ Below w.heap.size w wr ∧ Below wz.heap.size wz wr) ∨ (i = .int .i64 2 ∧ Hid (inM m.epoch 1 4294967295 = true ∧ inM m.inc 1 2147483647 = true) ∧ Below w.heap.size w wr ∧ Below wz.heap.size wz wr) ∨ (i = .int .i64 3 ∧ Hid (inM m.epoch 1 4294967295 = true ∧ inM m.inc 1 2147483647 = true ∧ inM m.job 1 2147483647 = true) ∧ Below w.heap.size w wr ∧ Below wz.heap.size wz wr)) (fun i _ => 3 - (intOf i).toNat)
    case atStart => exact .inl ⟨rfl, Lib.hid trivial, HE.out.2, Below.refl _ _⟩
    case round =>
     rcases hrel with ⟨rfl, HD, hbw, hbz2⟩ | ⟨rfl, HD, hbw, hbz2⟩ | ⟨rfl, HD, hbw, hbz2⟩ | ⟨rfl, HD, hbw, hbz2⟩
     ·have HBW := Lib.hid (And.intro hbw hbz2)
      have HRr := Lib.hid (HE.out.1.below hbz2 HE.out.1.lt)
      clear hbw hbz2
      go_upto_region 11 with fail
      rcases Bool.eq_false_or_eq_true (inM m.epoch 1 4294967295) with ht | ht
      ·refine r11_Et (by kernel_rfl) rfl rfl rfl HRr ht ?_
       intro wy hby
       iterate 68 (rintro _ rfl)
       refine FinC.nil ?_
       have HBY := Lib.hid (And.intro (HBW.out.1.trans (hby.mono HBW.out.1.size)) (HBW.out.2.trans (hby.mono HBW.out.2.size)))
       have HN : Hid (inM m.epoch 1 4294967295 = true) := Lib.hid ht
       clear ht hby
       go_wp2_with fail
       go_roundw
       case rel => exact .inr (.inl ⟨by go_num, HN, HBY.out.1, HBY.out.2⟩)
       case measure => simp [intOf]
      ·refine r11_Ef (by kernel_rfl) rfl rfl rfl HRr ht ?_
       intro wy hby
       iterate 68 (rintro _ rfl)
       refine FinC.nil ?_
       have HBY := Lib.hid (HBW.out.1.trans (hby.mono HBW.out.1.size))
       have HN : Hid (checkM m = 1) := Lib.hid (by rw [HC.out, if_pos (.inr (.inr (by rw [HRT.out]; simp [ht])))])
       clear ht hby
       go_wp2_with fail
       go_ret
       exact ⟨ret_int HN.out.symm, HBY.out⟩
     ·have HBW := Lib.hid (And.intro hbw hbz2)
      have HRr := Lib.hid (HE.out.1.below hbz2 HE.out.1.lt)
      clear hbw hbz2
      go_upto_region 11 with fail
      rcases Bool.eq_false_or_eq_true (inM m.inc 1 2147483647) with ht | ht
      ·refine r11_It (by kernel_rfl) rfl rfl rfl HRr ht ?_
       intro wy hby
       iterate 68 (rintro _ rfl)
       refine FinC.nil ?_
       have HBY := Lib.hid (And.intro (HBW.out.1.trans (hby.mono HBW.out.1.size)) (HBW.out.2.trans (hby.mono HBW.out.2.size)))
       have HN : Hid (inM m.epoch 1 4294967295 = true ∧ inM m.inc 1 2147483647 = true) := Lib.hid ⟨HD.out, ht⟩
       clear ht hby
       go_wp2_with fail
       go_roundw
       case rel => exact .inr (.inr (.inl ⟨by go_num, HN, HBY.out.1, HBY.out.2⟩))
       case measure => simp [intOf]
      ·refine r11_If (by kernel_rfl) rfl rfl rfl HRr ht ?_
       intro wy hby
       iterate 68 (rintro _ rfl)
       refine FinC.nil ?_
       have HBY := Lib.hid (HBW.out.1.trans (hby.mono HBW.out.1.size))
       have HN : Hid (checkM m = 1) := Lib.hid (by rw [HC.out, if_pos (.inr (.inr (by rw [HRT.out]; simp [ht])))])
       clear ht hby
       go_wp2_with fail
       go_ret
       exact ⟨ret_int HN.out.symm, HBY.out⟩
     ·have HBW := Lib.hid (And.intro hbw hbz2)
      have HRr := Lib.hid (HE.out.1.below hbz2 HE.out.1.lt)
      clear hbw hbz2
      go_upto_region 11 with fail
      rcases Bool.eq_false_or_eq_true (inM m.job 1 2147483647) with ht | ht
      ·refine r11_Jt (by kernel_rfl) rfl rfl rfl HRr ht ?_
       intro wy hby
       iterate 68 (rintro _ rfl)
       refine FinC.nil ?_
       have HBY := Lib.hid (And.intro (HBW.out.1.trans (hby.mono HBW.out.1.size)) (HBW.out.2.trans (hby.mono HBW.out.2.size)))
       have HN : Hid (inM m.epoch 1 4294967295 = true ∧ inM m.inc 1 2147483647 = true ∧ inM m.job 1 2147483647 = true) := Lib.hid ⟨HD.out.1, HD.out.2, ht⟩
       clear ht hby
       go_wp2_with fail
       go_roundw
       case rel => exact .inr (.inr (.inr (⟨by go_num, HN, HBY.out.1, HBY.out.2⟩)))
       case measure => simp [intOf]
      ·refine r11_Jf (by kernel_rfl) rfl rfl rfl HRr ht ?_
       intro wy hby
       iterate 68 (rintro _ rfl)
       refine FinC.nil ?_
       have HBY := Lib.hid (HBW.out.1.trans (hby.mono HBW.out.1.size))
       have HN : Hid (checkM m = 1) := Lib.hid (by rw [HC.out, if_pos (.inr (.inr (by rw [HRT.out]; simp [ht])))])
       clear ht hby
       go_wp2_with fail
       go_ret
       exact ⟨ret_int HN.out.symm, HBY.out⟩
     ·have HN : Hid (checkM m = 0) := Lib.hid (by rw [HC.out, if_neg]; rintro (h | h | h); exact h hpm; exact h hwp; rw [HRT.out, HD.out.1, HD.out.2.1, HD.out.2.2] at h; cases h)
      go_wp2
      go_ret
      exact ⟨ret_int HN.out.symm, hbw⟩
   ·have hpt : (placeM m.to_ != 2) = true := by simp [ht]
    have HK : Hid (checkM m = 1) := Lib.hid (by rw [HC.out, if_pos (.inr (.inl (by simp [ht])))])
    refine r5_c (by kernel_rfl) rfl rfl rfl rfl HZ hnm hpf hpt ?_
    intro wz hbz
    iterate 18 (rintro _ rfl)
    refine FinC.nil ?_
    clear hf ht hnm hpf hpt
    have HE := Lib.hid (HZ2.out.trans (hbz.mono HZ2.out.size))
    clear hbz
    go_wp2_with fail
    go_ret
    exact ⟨ret_int HK.out.symm, HE.out⟩
  ·have hpf : (placeM m.frm != 1) = true := by simp [hf]
   have HK : Hid (checkM m = 1) := Lib.hid (by rw [HC.out, if_pos (.inr (.inl (by simp [hf])))])
   refine r5_b (by kernel_rfl) rfl rfl rfl rfl HZ hnm hpf ?_
   intro wz hbz
   iterate 18 (rintro _ rfl)
   refine FinC.nil ?_
   clear hf hnm hpf
   have HE := Lib.hid (HZ2.out.trans (hbz.mono HZ2.out.size))
   clear hbz
   go_wp2_with fail
   go_ret
   exact ⟨ret_int HK.out.symm, HE.out⟩
 ·have hnm := decide_eq_false hpm
  have HK : Hid (checkM m = 1) := Lib.hid (by rw [HC.out, if_pos (.inl hpm)])
  refine r5_a (by kernel_rfl) rfl rfl rfl rfl HZ hnm ?_
  intro wz hbz
  iterate 18 (rintro _ rfl)
  refine FinC.nil ?_
  clear hnm
  have HE := Lib.hid (HZ2.out.trans (hbz.mono HZ2.out.size))
  clear hbz
  go_wp2_with fail
  go_ret
  exact ⟨ret_int HK.out.symm, HE.out⟩
theorem right_k5 (m : LMsg) (hk : m.kind = 5) (hp : pureM m = m) : rightM m = (inM m.inc 1 2147483647 && inM m.job 1 2147483647) := by
 have hr : rightR m.res = true := by
  have e : (pureM m).res = m.res := by rw [hp]
  unfold pureM at e
  rw [hk, if_neg (by decide)] at e
  rw [← e]
  exact (by simp [keepM, namesM, res_zero_right] : rightR (keepM m (namesM 5)).res = true)
 simp [rightM, bndM, okB, hk, namesM, intsM, hr]
 try (simp only [Bool.and_assoc])
set_option maxRecDepth 100000 in
set_option maxHeartbeats 12800000 in
theorem rcheck_k5 (m : LMsg) (hk : m.kind = 5) (w : World) : Calls Tryd.prog 43 #[aggMsg m] w fun e w' => e = .returned (.int .i64 (checkM m)) ∧ Below w.heap.size w w' := by
 have hright := right_k5 m hk
 have HC : Hid (checkM m = if pureM m ≠ m ∨ (placeM m.frm, placeM m.to_) ≠ (2, 1) ∨ rightM m = false then 1 else 0) := Lib.hid (by unfold checkM; rw [hk, if_neg (by decide)]; rfl)
 have h1 := Blk.new w 38 (boxMsg m)
 have hB : Below w.heap.size w (w.alloc (.cells (boxMsg m) 38)) := (Below.refl _ _).alloc (Nat.le_refl _) _
 have c0 : (w.alloc (.cells (boxMsg m) 38)).cell? ⟨w.heap.size, 0, none⟩ = some (.int .i64 5) := by rw [← hk]; exact (h1.cell 0).trans rfl
 have H0 := Lib.hid (And.intro h1 hB)
 have HK0 := Lib.hid hk
 have HRR := Lib.hid hright
 clear h1 hB hk hright
 go_enter Tryd.func43, Tryd.ntmps43
 go_wp2_with fail
 generalize w.alloc (.cells (boxMsg m) 38) = w1 at H0 c0 ⊢
 obtain ⟨b1, hb1⟩ : ∃ b1, w.heap.size = b1 := ⟨_, rfl⟩
 have h1 : Blk w1 b1 38 (boxMsg m) := by rw [← hb1]; exact H0.out.1
 rw [hb1] at c0
 try simp only [hb1]
 go_wp2_with fail
 (with_reducible refine (rnames_k5 w1).mono ?_)
 rintro e w2 ⟨rfl, hB2⟩
 have H2 := Lib.hid (And.intro (h1.below hB2 h1.lt) (H0.out.2.trans (hB2.mono H0.out.2.size)))
 have d0 : w2.cell? ⟨b1, 0, none⟩ = some (.int .i64 5) := (hB2.cell (p := ⟨b1, 0, none⟩) h1.lt).trans c0
 clear h1 hb1 H0 c0 hB2
 go_wp2_with fail
 (with_reducible refine (rends_k5 w2).mono ?_)
 rintro e w3 ⟨rfl, hB3⟩
 have HZ := Lib.hid (H2.out.1.below hB3 H2.out.1.lt)
 have HZ2 := Lib.hid (H2.out.2.trans (hB3.mono H2.out.2.size))
 clear d0 hB3 H2
 go_wp2_with fail
 by_cases hpm : pureM m = m
 ·have hnm := decide_eq_true hpm
  by_cases hf : placeM m.frm = 2
  ·have hpf : (placeM m.frm != 2) = false := by simp [hf]
   by_cases ht : placeM m.to_ = 1
   ·have hpt : (placeM m.to_ != 1) = false := by simp [ht]
    have hwp : (placeM m.frm, placeM m.to_) = ((2 : Int), (1 : Int)) := by rw [hf, ht]
    refine r5_d (by kernel_rfl) rfl rfl rfl rfl HZ hnm hpf hpt ?_
    intro wz hbz
    iterate 18 (rintro _ rfl)
    refine FinC.nil ?_
    clear hf ht hnm hpf hpt
    have HE := Lib.hid (And.intro (HZ.out.below hbz HZ.out.lt) (HZ2.out.trans (hbz.mono HZ2.out.size)))
    have HRT := Lib.hid (HRR.out hpm)
    clear hbz
    go_wp2
    go_loopw [6] (fun i wr => (i = .int .i64 0 ∧ Hid (True) ∧ Below w.heap.size w wr ∧ Below wz.heap.size wz wr) ∨ (i = .int .i64 1 ∧ Hid (inM m.inc 1 2147483647 = true) ∧ Below w.heap.size w wr ∧ Below wz.heap.size wz wr) ∨ (i = .int .i64 2 ∧ Hid (inM m.inc 1 2147483647 = true ∧ inM m.job 1 2147483647 = true) ∧ Below w.heap.size w wr ∧ Below wz.heap.size wz wr)) (fun i _ => 2 - (intOf i).toNat)
    case atStart => exact .inl ⟨rfl, Lib.hid trivial, HE.out.2, Below.refl _ _⟩
    case round =>
     rcases hrel with ⟨rfl, HD, hbw, hbz2⟩ | ⟨rfl, HD, hbw, hbz2⟩ | ⟨rfl, HD, hbw, hbz2⟩
     ·have HBW := Lib.hid (And.intro hbw hbz2)
      have HRr := Lib.hid (HE.out.1.below hbz2 HE.out.1.lt)
      clear hbw hbz2
      go_upto_region 11 with fail
      rcases Bool.eq_false_or_eq_true (inM m.inc 1 2147483647) with ht | ht
      ·refine r11_It (by kernel_rfl) rfl rfl rfl HRr ht ?_
       intro wy hby
       iterate 68 (rintro _ rfl)
       refine FinC.nil ?_
       have HBY := Lib.hid (And.intro (HBW.out.1.trans (hby.mono HBW.out.1.size)) (HBW.out.2.trans (hby.mono HBW.out.2.size)))
       have HN : Hid (inM m.inc 1 2147483647 = true) := Lib.hid ht
       clear ht hby
       go_wp2_with fail
       go_roundw
       case rel => exact .inr (.inl ⟨by go_num, HN, HBY.out.1, HBY.out.2⟩)
       case measure => simp [intOf]
      ·refine r11_If (by kernel_rfl) rfl rfl rfl HRr ht ?_
       intro wy hby
       iterate 68 (rintro _ rfl)
       refine FinC.nil ?_
       have HBY := Lib.hid (HBW.out.1.trans (hby.mono HBW.out.1.size))
       have HN : Hid (checkM m = 1) := Lib.hid (by rw [HC.out, if_pos (.inr (.inr (by rw [HRT.out]; simp [ht])))])
       clear ht hby
       go_wp2_with fail
       go_ret
       exact ⟨ret_int HN.out.symm, HBY.out⟩
     ·have HBW := Lib.hid (And.intro hbw hbz2)
      have HRr := Lib.hid (HE.out.1.below hbz2 HE.out.1.lt)
      clear hbw hbz2
      go_upto_region 11 with fail
      rcases Bool.eq_false_or_eq_true (inM m.job 1 2147483647) with ht | ht
      ·refine r11_Jt (by kernel_rfl) rfl rfl rfl HRr ht ?_
       intro wy hby
       iterate 68 (rintro _ rfl)
       refine FinC.nil ?_
       have HBY := Lib.hid (And.intro (HBW.out.1.trans (hby.mono HBW.out.1.size)) (HBW.out.2.trans (hby.mono HBW.out.2.size)))
       have HN : Hid (inM m.inc 1 2147483647 = true ∧ inM m.job 1 2147483647 = true) := Lib.hid ⟨HD.out, ht⟩
       clear ht hby
       go_wp2_with fail
       go_roundw
       case rel => exact .inr (.inr (⟨by go_num, HN, HBY.out.1, HBY.out.2⟩))
       case measure => simp [intOf]
      ·refine r11_Jf (by kernel_rfl) rfl rfl rfl HRr ht ?_
       intro wy hby
       iterate 68 (rintro _ rfl)
       refine FinC.nil ?_
       have HBY := Lib.hid (HBW.out.1.trans (hby.mono HBW.out.1.size))
       have HN : Hid (checkM m = 1) := Lib.hid (by rw [HC.out, if_pos (.inr (.inr (by rw [HRT.out]; simp [ht])))])
       clear ht hby
       go_wp2_with fail
       go_ret
       exact ⟨ret_int HN.out.symm, HBY.out⟩
     ·have HN : Hid (checkM m = 0) := Lib.hid (by rw [HC.out, if_neg]; rintro (h | h | h); exact h hpm; exact h hwp; rw [HRT.out, HD.out.1, HD.out.2] at h; cases h)
      go_wp2
      go_ret
      exact ⟨ret_int HN.out.symm, hbw⟩
   ·have hpt : (placeM m.to_ != 1) = true := by simp [ht]
    have HK : Hid (checkM m = 1) := Lib.hid (by rw [HC.out, if_pos (.inr (.inl (by simp [ht])))])
    refine r5_c (by kernel_rfl) rfl rfl rfl rfl HZ hnm hpf hpt ?_
    intro wz hbz
    iterate 18 (rintro _ rfl)
    refine FinC.nil ?_
    clear hf ht hnm hpf hpt
    have HE := Lib.hid (HZ2.out.trans (hbz.mono HZ2.out.size))
    clear hbz
    go_wp2_with fail
    go_ret
    exact ⟨ret_int HK.out.symm, HE.out⟩
  ·have hpf : (placeM m.frm != 2) = true := by simp [hf]
   have HK : Hid (checkM m = 1) := Lib.hid (by rw [HC.out, if_pos (.inr (.inl (by simp [hf])))])
   refine r5_b (by kernel_rfl) rfl rfl rfl rfl HZ hnm hpf ?_
   intro wz hbz
   iterate 18 (rintro _ rfl)
   refine FinC.nil ?_
   clear hf hnm hpf
   have HE := Lib.hid (HZ2.out.trans (hbz.mono HZ2.out.size))
   clear hbz
   go_wp2_with fail
   go_ret
   exact ⟨ret_int HK.out.symm, HE.out⟩
 ·have hnm := decide_eq_false hpm
  have HK : Hid (checkM m = 1) := Lib.hid (by rw [HC.out, if_pos (.inl hpm)])
  refine r5_a (by kernel_rfl) rfl rfl rfl rfl HZ hnm ?_
  intro wz hbz
  iterate 18 (rintro _ rfl)
  refine FinC.nil ?_
  clear hnm
  have HE := Lib.hid (HZ2.out.trans (hbz.mono HZ2.out.size))
  clear hbz
  go_wp2_with fail
  go_ret
  exact ⟨ret_int HK.out.symm, HE.out⟩
theorem right_k6 (m : LMsg) (hk : m.kind = 6) (hp : pureM m = m) : rightM m = (inM m.job 1 2147483647 && inM m.prio 0 99 && rightR m.res) := by
 simp [rightM, bndM, okB, hk, namesM, intsM]
 try (simp only [Bool.and_assoc])
set_option maxRecDepth 100000 in
set_option maxHeartbeats 12800000 in
theorem rcheck_k6 (m : LMsg) (hk : m.kind = 6) (w : World) : Calls Tryd.prog 43 #[aggMsg m] w fun e w' => e = .returned (.int .i64 (checkM m)) ∧ Below w.heap.size w w' := by
 have hright := right_k6 m hk
 have HC : Hid (checkM m = if pureM m ≠ m ∨ (placeM m.frm, placeM m.to_) ≠ (3, 1) ∨ rightM m = false then 1 else 0) := Lib.hid (by unfold checkM; rw [hk, if_neg (by decide)]; rfl)
 have h1 := Blk.new w 38 (boxMsg m)
 have hB : Below w.heap.size w (w.alloc (.cells (boxMsg m) 38)) := (Below.refl _ _).alloc (Nat.le_refl _) _
 have c0 : (w.alloc (.cells (boxMsg m) 38)).cell? ⟨w.heap.size, 0, none⟩ = some (.int .i64 6) := by rw [← hk]; exact (h1.cell 0).trans rfl
 have H0 := Lib.hid (And.intro h1 hB)
 have HK0 := Lib.hid hk
 have HRR := Lib.hid hright
 clear h1 hB hk hright
 go_enter Tryd.func43, Tryd.ntmps43
 go_wp2_with fail
 generalize w.alloc (.cells (boxMsg m) 38) = w1 at H0 c0 ⊢
 obtain ⟨b1, hb1⟩ : ∃ b1, w.heap.size = b1 := ⟨_, rfl⟩
 have h1 : Blk w1 b1 38 (boxMsg m) := by rw [← hb1]; exact H0.out.1
 rw [hb1] at c0
 try simp only [hb1]
 go_wp2_with fail
 (with_reducible refine (rnames_k6 w1).mono ?_)
 rintro e w2 ⟨rfl, hB2⟩
 have H2 := Lib.hid (And.intro (h1.below hB2 h1.lt) (H0.out.2.trans (hB2.mono H0.out.2.size)))
 have d0 : w2.cell? ⟨b1, 0, none⟩ = some (.int .i64 6) := (hB2.cell (p := ⟨b1, 0, none⟩) h1.lt).trans c0
 clear h1 hb1 H0 c0 hB2
 go_wp2_with fail
 (with_reducible refine (rends_k6 w2).mono ?_)
 rintro e w3 ⟨rfl, hB3⟩
 have HZ := Lib.hid (H2.out.1.below hB3 H2.out.1.lt)
 have HZ2 := Lib.hid (H2.out.2.trans (hB3.mono H2.out.2.size))
 clear d0 hB3 H2
 go_wp2_with fail
 by_cases hpm : pureM m = m
 ·have hnm := decide_eq_true hpm
  by_cases hf : placeM m.frm = 3
  ·have hpf : (placeM m.frm != 3) = false := by simp [hf]
   by_cases ht : placeM m.to_ = 1
   ·have hpt : (placeM m.to_ != 1) = false := by simp [ht]
    have hwp : (placeM m.frm, placeM m.to_) = ((3 : Int), (1 : Int)) := by rw [hf, ht]
    refine r5_d (by kernel_rfl) rfl rfl rfl rfl HZ hnm hpf hpt ?_
    intro wz hbz
    iterate 18 (rintro _ rfl)
    refine FinC.nil ?_
    clear hf ht hnm hpf hpt
    have HE := Lib.hid (And.intro (HZ.out.below hbz HZ.out.lt) (HZ2.out.trans (hbz.mono HZ2.out.size)))
    have HRT := Lib.hid (HRR.out hpm)
    clear hbz
    go_wp2
    go_loopw [6] (fun i wr => (i = .int .i64 0 ∧ Hid (True) ∧ Below w.heap.size w wr ∧ Below wz.heap.size wz wr) ∨ (i = .int .i64 1 ∧ Hid (inM m.job 1 2147483647 = true) ∧ Below w.heap.size w wr ∧ Below wz.heap.size wz wr) ∨ (i = .int .i64 2 ∧ Hid (inM m.job 1 2147483647 = true ∧ inM m.prio 0 99 = true) ∧ Below w.heap.size w wr ∧ Below wz.heap.size wz wr) ∨ (i = .int .i64 3 ∧ Hid (inM m.job 1 2147483647 = true ∧ inM m.prio 0 99 = true ∧ rightR m.res = true) ∧ Below w.heap.size w wr ∧ Below wz.heap.size wz wr)) (fun i _ => 3 - (intOf i).toNat)
    case atStart => exact .inl ⟨rfl, Lib.hid trivial, HE.out.2, Below.refl _ _⟩
    case round =>
     rcases hrel with ⟨rfl, HD, hbw, hbz2⟩ | ⟨rfl, HD, hbw, hbz2⟩ | ⟨rfl, HD, hbw, hbz2⟩ | ⟨rfl, HD, hbw, hbz2⟩
     ·have HBW := Lib.hid (And.intro hbw hbz2)
      have HRr := Lib.hid (HE.out.1.below hbz2 HE.out.1.lt)
      clear hbw hbz2
      go_upto_region 11 with fail
      rcases Bool.eq_false_or_eq_true (inM m.job 1 2147483647) with ht | ht
      ·refine r11_Jt (by kernel_rfl) rfl rfl rfl HRr ht ?_
       intro wy hby
       iterate 68 (rintro _ rfl)
       refine FinC.nil ?_
       have HBY := Lib.hid (And.intro (HBW.out.1.trans (hby.mono HBW.out.1.size)) (HBW.out.2.trans (hby.mono HBW.out.2.size)))
       have HN : Hid (inM m.job 1 2147483647 = true) := Lib.hid ht
       clear ht hby
       go_wp2_with fail
       go_roundw
       case rel => exact .inr (.inl ⟨by go_num, HN, HBY.out.1, HBY.out.2⟩)
       case measure => simp [intOf]
      ·refine r11_Jf (by kernel_rfl) rfl rfl rfl HRr ht ?_
       intro wy hby
       iterate 68 (rintro _ rfl)
       refine FinC.nil ?_
       have HBY := Lib.hid (HBW.out.1.trans (hby.mono HBW.out.1.size))
       have HN : Hid (checkM m = 1) := Lib.hid (by rw [HC.out, if_pos (.inr (.inr (by rw [HRT.out]; simp [ht])))])
       clear ht hby
       go_wp2_with fail
       go_ret
       exact ⟨ret_int HN.out.symm, HBY.out⟩
     ·have HBW := Lib.hid (And.intro hbw hbz2)
      have HRr := Lib.hid (HE.out.1.below hbz2 HE.out.1.lt)
      clear hbw hbz2
      go_upto_region 11 with fail
      rcases Bool.eq_false_or_eq_true (inM m.prio 0 99) with ht | ht
      ·refine r11_Pt (by kernel_rfl) rfl rfl rfl HRr ht ?_
       intro wy hby
       iterate 68 (rintro _ rfl)
       refine FinC.nil ?_
       have HBY := Lib.hid (And.intro (HBW.out.1.trans (hby.mono HBW.out.1.size)) (HBW.out.2.trans (hby.mono HBW.out.2.size)))
       have HN : Hid (inM m.job 1 2147483647 = true ∧ inM m.prio 0 99 = true) := Lib.hid ⟨HD.out, ht⟩
       clear ht hby
       go_wp2_with fail
       go_roundw
       case rel => exact .inr (.inr (.inl ⟨by go_num, HN, HBY.out.1, HBY.out.2⟩))
       case measure => simp [intOf]
      ·refine r11_Pf (by kernel_rfl) rfl rfl rfl HRr ht ?_
       intro wy hby
       iterate 68 (rintro _ rfl)
       refine FinC.nil ?_
       have HBY := Lib.hid (HBW.out.1.trans (hby.mono HBW.out.1.size))
       have HN : Hid (checkM m = 1) := Lib.hid (by rw [HC.out, if_pos (.inr (.inr (by rw [HRT.out]; simp [ht])))])
       clear ht hby
       go_wp2_with fail
       go_ret
       exact ⟨ret_int HN.out.symm, HBY.out⟩
     ·have HBW := Lib.hid (And.intro hbw hbz2)
      have HRr := Lib.hid (HE.out.1.below hbz2 HE.out.1.lt)
      clear hbw hbz2
      go_upto_region 11 with fail
      rcases Bool.eq_false_or_eq_true (rightR m.res) with ht | ht
      ·refine r11_Rt (by kernel_rfl) rfl rfl rfl HRr ht ?_
       intro wy hby
       iterate 68 (rintro _ rfl)
       refine FinC.nil ?_
       have HBY := Lib.hid (And.intro (HBW.out.1.trans (hby.mono HBW.out.1.size)) (HBW.out.2.trans (hby.mono HBW.out.2.size)))
       have HN : Hid (inM m.job 1 2147483647 = true ∧ inM m.prio 0 99 = true ∧ rightR m.res = true) := Lib.hid ⟨HD.out.1, HD.out.2, ht⟩
       clear ht hby
       go_wp2_with fail
       go_roundw
       case rel => exact .inr (.inr (.inr (⟨by go_num, HN, HBY.out.1, HBY.out.2⟩)))
       case measure => simp [intOf]
      ·refine r11_Rf (by kernel_rfl) rfl rfl rfl HRr ht ?_
       intro wy hby
       iterate 68 (rintro _ rfl)
       refine FinC.nil ?_
       have HBY := Lib.hid (HBW.out.1.trans (hby.mono HBW.out.1.size))
       have HN : Hid (checkM m = 1) := Lib.hid (by rw [HC.out, if_pos (.inr (.inr (by rw [HRT.out]; simp [ht])))])
       clear ht hby
       go_wp2_with fail
       go_ret
       exact ⟨ret_int HN.out.symm, HBY.out⟩
     ·have HN : Hid (checkM m = 0) := Lib.hid (by rw [HC.out, if_neg]; rintro (h | h | h); exact h hpm; exact h hwp; rw [HRT.out, HD.out.1, HD.out.2.1, HD.out.2.2] at h; cases h)
      go_wp2
      go_ret
      exact ⟨ret_int HN.out.symm, hbw⟩
   ·have hpt : (placeM m.to_ != 1) = true := by simp [ht]
    have HK : Hid (checkM m = 1) := Lib.hid (by rw [HC.out, if_pos (.inr (.inl (by simp [ht])))])
    refine r5_c (by kernel_rfl) rfl rfl rfl rfl HZ hnm hpf hpt ?_
    intro wz hbz
    iterate 18 (rintro _ rfl)
    refine FinC.nil ?_
    clear hf ht hnm hpf hpt
    have HE := Lib.hid (HZ2.out.trans (hbz.mono HZ2.out.size))
    clear hbz
    go_wp2_with fail
    go_ret
    exact ⟨ret_int HK.out.symm, HE.out⟩
  ·have hpf : (placeM m.frm != 3) = true := by simp [hf]
   have HK : Hid (checkM m = 1) := Lib.hid (by rw [HC.out, if_pos (.inr (.inl (by simp [hf])))])
   refine r5_b (by kernel_rfl) rfl rfl rfl rfl HZ hnm hpf ?_
   intro wz hbz
   iterate 18 (rintro _ rfl)
   refine FinC.nil ?_
   clear hf hnm hpf
   have HE := Lib.hid (HZ2.out.trans (hbz.mono HZ2.out.size))
   clear hbz
   go_wp2_with fail
   go_ret
   exact ⟨ret_int HK.out.symm, HE.out⟩
 ·have hnm := decide_eq_false hpm
  have HK : Hid (checkM m = 1) := Lib.hid (by rw [HC.out, if_pos (.inl hpm)])
  refine r5_a (by kernel_rfl) rfl rfl rfl rfl HZ hnm ?_
  intro wz hbz
  iterate 18 (rintro _ rfl)
  refine FinC.nil ?_
  clear hnm
  have HE := Lib.hid (HZ2.out.trans (hbz.mono HZ2.out.size))
  clear hbz
  go_wp2_with fail
  go_ret
  exact ⟨ret_int HK.out.symm, HE.out⟩
theorem right_k7 (m : LMsg) (hk : m.kind = 7) (hp : pureM m = m) : rightM m = (inM m.job 1 2147483647) := by
 have hr : rightR m.res = true := by
  have e : (pureM m).res = m.res := by rw [hp]
  unfold pureM at e
  rw [hk, if_neg (by decide)] at e
  rw [← e]
  exact (by simp [keepM, namesM, res_zero_right] : rightR (keepM m (namesM 7)).res = true)
 simp [rightM, bndM, okB, hk, namesM, intsM, hr]
 try (simp only [Bool.and_assoc])
set_option maxRecDepth 100000 in
set_option maxHeartbeats 12800000 in
theorem rcheck_k7 (m : LMsg) (hk : m.kind = 7) (w : World) : Calls Tryd.prog 43 #[aggMsg m] w fun e w' => e = .returned (.int .i64 (checkM m)) ∧ Below w.heap.size w w' := by
 have hright := right_k7 m hk
 have HC : Hid (checkM m = if pureM m ≠ m ∨ (placeM m.frm, placeM m.to_) ≠ (3, 1) ∨ rightM m = false then 1 else 0) := Lib.hid (by unfold checkM; rw [hk, if_neg (by decide)]; rfl)
 have h1 := Blk.new w 38 (boxMsg m)
 have hB : Below w.heap.size w (w.alloc (.cells (boxMsg m) 38)) := (Below.refl _ _).alloc (Nat.le_refl _) _
 have c0 : (w.alloc (.cells (boxMsg m) 38)).cell? ⟨w.heap.size, 0, none⟩ = some (.int .i64 7) := by rw [← hk]; exact (h1.cell 0).trans rfl
 have H0 := Lib.hid (And.intro h1 hB)
 have HK0 := Lib.hid hk
 have HRR := Lib.hid hright
 clear h1 hB hk hright
 go_enter Tryd.func43, Tryd.ntmps43
 go_wp2_with fail
 generalize w.alloc (.cells (boxMsg m) 38) = w1 at H0 c0 ⊢
 obtain ⟨b1, hb1⟩ : ∃ b1, w.heap.size = b1 := ⟨_, rfl⟩
 have h1 : Blk w1 b1 38 (boxMsg m) := by rw [← hb1]; exact H0.out.1
 rw [hb1] at c0
 try simp only [hb1]
 go_wp2_with fail
 (with_reducible refine (rnames_k7 w1).mono ?_)
 rintro e w2 ⟨rfl, hB2⟩
 have H2 := Lib.hid (And.intro (h1.below hB2 h1.lt) (H0.out.2.trans (hB2.mono H0.out.2.size)))
 have d0 : w2.cell? ⟨b1, 0, none⟩ = some (.int .i64 7) := (hB2.cell (p := ⟨b1, 0, none⟩) h1.lt).trans c0
 clear h1 hb1 H0 c0 hB2
 go_wp2_with fail
 (with_reducible refine (rends_k7 w2).mono ?_)
 rintro e w3 ⟨rfl, hB3⟩
 have HZ := Lib.hid (H2.out.1.below hB3 H2.out.1.lt)
 have HZ2 := Lib.hid (H2.out.2.trans (hB3.mono H2.out.2.size))
 clear d0 hB3 H2
 go_wp2_with fail
 by_cases hpm : pureM m = m
 ·have hnm := decide_eq_true hpm
  by_cases hf : placeM m.frm = 3
  ·have hpf : (placeM m.frm != 3) = false := by simp [hf]
   by_cases ht : placeM m.to_ = 1
   ·have hpt : (placeM m.to_ != 1) = false := by simp [ht]
    have hwp : (placeM m.frm, placeM m.to_) = ((3 : Int), (1 : Int)) := by rw [hf, ht]
    refine r5_d (by kernel_rfl) rfl rfl rfl rfl HZ hnm hpf hpt ?_
    intro wz hbz
    iterate 18 (rintro _ rfl)
    refine FinC.nil ?_
    clear hf ht hnm hpf hpt
    have HE := Lib.hid (And.intro (HZ.out.below hbz HZ.out.lt) (HZ2.out.trans (hbz.mono HZ2.out.size)))
    have HRT := Lib.hid (HRR.out hpm)
    clear hbz
    go_wp2
    go_loopw [6] (fun i wr => (i = .int .i64 0 ∧ Hid (True) ∧ Below w.heap.size w wr ∧ Below wz.heap.size wz wr) ∨ (i = .int .i64 1 ∧ Hid (inM m.job 1 2147483647 = true) ∧ Below w.heap.size w wr ∧ Below wz.heap.size wz wr)) (fun i _ => 1 - (intOf i).toNat)
    case atStart => exact .inl ⟨rfl, Lib.hid trivial, HE.out.2, Below.refl _ _⟩
    case round =>
     rcases hrel with ⟨rfl, HD, hbw, hbz2⟩ | ⟨rfl, HD, hbw, hbz2⟩
     ·have HBW := Lib.hid (And.intro hbw hbz2)
      have HRr := Lib.hid (HE.out.1.below hbz2 HE.out.1.lt)
      clear hbw hbz2
      go_upto_region 11 with fail
      rcases Bool.eq_false_or_eq_true (inM m.job 1 2147483647) with ht | ht
      ·refine r11_Jt (by kernel_rfl) rfl rfl rfl HRr ht ?_
       intro wy hby
       iterate 68 (rintro _ rfl)
       refine FinC.nil ?_
       have HBY := Lib.hid (And.intro (HBW.out.1.trans (hby.mono HBW.out.1.size)) (HBW.out.2.trans (hby.mono HBW.out.2.size)))
       have HN : Hid (inM m.job 1 2147483647 = true) := Lib.hid ht
       clear ht hby
       go_wp2_with fail
       go_roundw
       case rel => exact .inr (⟨by go_num, HN, HBY.out.1, HBY.out.2⟩)
       case measure => simp [intOf]
      ·refine r11_Jf (by kernel_rfl) rfl rfl rfl HRr ht ?_
       intro wy hby
       iterate 68 (rintro _ rfl)
       refine FinC.nil ?_
       have HBY := Lib.hid (HBW.out.1.trans (hby.mono HBW.out.1.size))
       have HN : Hid (checkM m = 1) := Lib.hid (by rw [HC.out, if_pos (.inr (.inr (by rw [HRT.out]; simp [ht])))])
       clear ht hby
       go_wp2_with fail
       go_ret
       exact ⟨ret_int HN.out.symm, HBY.out⟩
     ·have HN : Hid (checkM m = 0) := Lib.hid (by rw [HC.out, if_neg]; rintro (h | h | h); exact h hpm; exact h hwp; rw [HRT.out, HD.out] at h; cases h)
      go_wp2
      go_ret
      exact ⟨ret_int HN.out.symm, hbw⟩
   ·have hpt : (placeM m.to_ != 1) = true := by simp [ht]
    have HK : Hid (checkM m = 1) := Lib.hid (by rw [HC.out, if_pos (.inr (.inl (by simp [ht])))])
    refine r5_c (by kernel_rfl) rfl rfl rfl rfl HZ hnm hpf hpt ?_
    intro wz hbz
    iterate 18 (rintro _ rfl)
    refine FinC.nil ?_
    clear hf ht hnm hpf hpt
    have HE := Lib.hid (HZ2.out.trans (hbz.mono HZ2.out.size))
    clear hbz
    go_wp2_with fail
    go_ret
    exact ⟨ret_int HK.out.symm, HE.out⟩
  ·have hpf : (placeM m.frm != 3) = true := by simp [hf]
   have HK : Hid (checkM m = 1) := Lib.hid (by rw [HC.out, if_pos (.inr (.inl (by simp [hf])))])
   refine r5_b (by kernel_rfl) rfl rfl rfl rfl HZ hnm hpf ?_
   intro wz hbz
   iterate 18 (rintro _ rfl)
   refine FinC.nil ?_
   clear hf hnm hpf
   have HE := Lib.hid (HZ2.out.trans (hbz.mono HZ2.out.size))
   clear hbz
   go_wp2_with fail
   go_ret
   exact ⟨ret_int HK.out.symm, HE.out⟩
 ·have hnm := decide_eq_false hpm
  have HK : Hid (checkM m = 1) := Lib.hid (by rw [HC.out, if_pos (.inl hpm)])
  refine r5_a (by kernel_rfl) rfl rfl rfl rfl HZ hnm ?_
  intro wz hbz
  iterate 18 (rintro _ rfl)
  refine FinC.nil ?_
  clear hnm
  have HE := Lib.hid (HZ2.out.trans (hbz.mono HZ2.out.size))
  clear hbz
  go_wp2_with fail
  go_ret
  exact ⟨ret_int HK.out.symm, HE.out⟩
theorem right_k8 (m : LMsg) (hk : m.kind = 8) (hp : pureM m = m) : rightM m = (inM m.job 1 2147483647 && inM m.code 0 14) := by
 have hr : rightR m.res = true := by
  have e : (pureM m).res = m.res := by rw [hp]
  unfold pureM at e
  rw [hk, if_neg (by decide)] at e
  rw [← e]
  exact (by simp [keepM, namesM, res_zero_right] : rightR (keepM m (namesM 8)).res = true)
 simp [rightM, bndM, okB, hk, namesM, intsM, hr]
 try (simp only [Bool.and_assoc])
set_option maxRecDepth 100000 in
set_option maxHeartbeats 12800000 in
theorem rcheck_k8 (m : LMsg) (hk : m.kind = 8) (w : World) : Calls Tryd.prog 43 #[aggMsg m] w fun e w' => e = .returned (.int .i64 (checkM m)) ∧ Below w.heap.size w w' := by
 have hright := right_k8 m hk
 have HC : Hid (checkM m = if pureM m ≠ m ∨ (placeM m.frm, placeM m.to_) ≠ (1, 3) ∨ rightM m = false then 1 else 0) := Lib.hid (by unfold checkM; rw [hk, if_neg (by decide)]; rfl)
 have h1 := Blk.new w 38 (boxMsg m)
 have hB : Below w.heap.size w (w.alloc (.cells (boxMsg m) 38)) := (Below.refl _ _).alloc (Nat.le_refl _) _
 have c0 : (w.alloc (.cells (boxMsg m) 38)).cell? ⟨w.heap.size, 0, none⟩ = some (.int .i64 8) := by rw [← hk]; exact (h1.cell 0).trans rfl
 have H0 := Lib.hid (And.intro h1 hB)
 have HK0 := Lib.hid hk
 have HRR := Lib.hid hright
 clear h1 hB hk hright
 go_enter Tryd.func43, Tryd.ntmps43
 go_wp2_with fail
 generalize w.alloc (.cells (boxMsg m) 38) = w1 at H0 c0 ⊢
 obtain ⟨b1, hb1⟩ : ∃ b1, w.heap.size = b1 := ⟨_, rfl⟩
 have h1 : Blk w1 b1 38 (boxMsg m) := by rw [← hb1]; exact H0.out.1
 rw [hb1] at c0
 try simp only [hb1]
 go_wp2_with fail
 (with_reducible refine (rnames_k8 w1).mono ?_)
 rintro e w2 ⟨rfl, hB2⟩
 have H2 := Lib.hid (And.intro (h1.below hB2 h1.lt) (H0.out.2.trans (hB2.mono H0.out.2.size)))
 have d0 : w2.cell? ⟨b1, 0, none⟩ = some (.int .i64 8) := (hB2.cell (p := ⟨b1, 0, none⟩) h1.lt).trans c0
 clear h1 hb1 H0 c0 hB2
 go_wp2_with fail
 (with_reducible refine (rends_k8 w2).mono ?_)
 rintro e w3 ⟨rfl, hB3⟩
 have HZ := Lib.hid (H2.out.1.below hB3 H2.out.1.lt)
 have HZ2 := Lib.hid (H2.out.2.trans (hB3.mono H2.out.2.size))
 clear d0 hB3 H2
 go_wp2_with fail
 by_cases hpm : pureM m = m
 ·have hnm := decide_eq_true hpm
  by_cases hf : placeM m.frm = 1
  ·have hpf : (placeM m.frm != 1) = false := by simp [hf]
   by_cases ht : placeM m.to_ = 3
   ·have hpt : (placeM m.to_ != 3) = false := by simp [ht]
    have hwp : (placeM m.frm, placeM m.to_) = ((1 : Int), (3 : Int)) := by rw [hf, ht]
    refine r5_d (by kernel_rfl) rfl rfl rfl rfl HZ hnm hpf hpt ?_
    intro wz hbz
    iterate 18 (rintro _ rfl)
    refine FinC.nil ?_
    clear hf ht hnm hpf hpt
    have HE := Lib.hid (And.intro (HZ.out.below hbz HZ.out.lt) (HZ2.out.trans (hbz.mono HZ2.out.size)))
    have HRT := Lib.hid (HRR.out hpm)
    clear hbz
    go_wp2
    go_loopw [6] (fun i wr => (i = .int .i64 0 ∧ Hid (True) ∧ Below w.heap.size w wr ∧ Below wz.heap.size wz wr) ∨ (i = .int .i64 1 ∧ Hid (inM m.job 1 2147483647 = true) ∧ Below w.heap.size w wr ∧ Below wz.heap.size wz wr) ∨ (i = .int .i64 2 ∧ Hid (inM m.job 1 2147483647 = true ∧ inM m.code 0 14 = true) ∧ Below w.heap.size w wr ∧ Below wz.heap.size wz wr)) (fun i _ => 2 - (intOf i).toNat)
    case atStart => exact .inl ⟨rfl, Lib.hid trivial, HE.out.2, Below.refl _ _⟩
    case round =>
     rcases hrel with ⟨rfl, HD, hbw, hbz2⟩ | ⟨rfl, HD, hbw, hbz2⟩ | ⟨rfl, HD, hbw, hbz2⟩
     ·have HBW := Lib.hid (And.intro hbw hbz2)
      have HRr := Lib.hid (HE.out.1.below hbz2 HE.out.1.lt)
      clear hbw hbz2
      go_upto_region 11 with fail
      rcases Bool.eq_false_or_eq_true (inM m.job 1 2147483647) with ht | ht
      ·refine r11_Jt (by kernel_rfl) rfl rfl rfl HRr ht ?_
       intro wy hby
       iterate 68 (rintro _ rfl)
       refine FinC.nil ?_
       have HBY := Lib.hid (And.intro (HBW.out.1.trans (hby.mono HBW.out.1.size)) (HBW.out.2.trans (hby.mono HBW.out.2.size)))
       have HN : Hid (inM m.job 1 2147483647 = true) := Lib.hid ht
       clear ht hby
       go_wp2_with fail
       go_roundw
       case rel => exact .inr (.inl ⟨by go_num, HN, HBY.out.1, HBY.out.2⟩)
       case measure => simp [intOf]
      ·refine r11_Jf (by kernel_rfl) rfl rfl rfl HRr ht ?_
       intro wy hby
       iterate 68 (rintro _ rfl)
       refine FinC.nil ?_
       have HBY := Lib.hid (HBW.out.1.trans (hby.mono HBW.out.1.size))
       have HN : Hid (checkM m = 1) := Lib.hid (by rw [HC.out, if_pos (.inr (.inr (by rw [HRT.out]; simp [ht])))])
       clear ht hby
       go_wp2_with fail
       go_ret
       exact ⟨ret_int HN.out.symm, HBY.out⟩
     ·have HBW := Lib.hid (And.intro hbw hbz2)
      have HRr := Lib.hid (HE.out.1.below hbz2 HE.out.1.lt)
      clear hbw hbz2
      go_upto_region 11 with fail
      rcases Bool.eq_false_or_eq_true (inM m.code 0 14) with ht | ht
      ·refine r11_Ct (by kernel_rfl) rfl rfl rfl HRr ht ?_
       intro wy hby
       iterate 68 (rintro _ rfl)
       refine FinC.nil ?_
       have HBY := Lib.hid (And.intro (HBW.out.1.trans (hby.mono HBW.out.1.size)) (HBW.out.2.trans (hby.mono HBW.out.2.size)))
       have HN : Hid (inM m.job 1 2147483647 = true ∧ inM m.code 0 14 = true) := Lib.hid ⟨HD.out, ht⟩
       clear ht hby
       go_wp2_with fail
       go_roundw
       case rel => exact .inr (.inr (⟨by go_num, HN, HBY.out.1, HBY.out.2⟩))
       case measure => simp [intOf]
      ·refine r11_Cf (by kernel_rfl) rfl rfl rfl HRr ht ?_
       intro wy hby
       iterate 68 (rintro _ rfl)
       refine FinC.nil ?_
       have HBY := Lib.hid (HBW.out.1.trans (hby.mono HBW.out.1.size))
       have HN : Hid (checkM m = 1) := Lib.hid (by rw [HC.out, if_pos (.inr (.inr (by rw [HRT.out]; simp [ht])))])
       clear ht hby
       go_wp2_with fail
       go_ret
       exact ⟨ret_int HN.out.symm, HBY.out⟩
     ·have HN : Hid (checkM m = 0) := Lib.hid (by rw [HC.out, if_neg]; rintro (h | h | h); exact h hpm; exact h hwp; rw [HRT.out, HD.out.1, HD.out.2] at h; cases h)
      go_wp2
      go_ret
      exact ⟨ret_int HN.out.symm, hbw⟩
   ·have hpt : (placeM m.to_ != 3) = true := by simp [ht]
    have HK : Hid (checkM m = 1) := Lib.hid (by rw [HC.out, if_pos (.inr (.inl (by simp [ht])))])
    refine r5_c (by kernel_rfl) rfl rfl rfl rfl HZ hnm hpf hpt ?_
    intro wz hbz
    iterate 18 (rintro _ rfl)
    refine FinC.nil ?_
    clear hf ht hnm hpf hpt
    have HE := Lib.hid (HZ2.out.trans (hbz.mono HZ2.out.size))
    clear hbz
    go_wp2_with fail
    go_ret
    exact ⟨ret_int HK.out.symm, HE.out⟩
  ·have hpf : (placeM m.frm != 1) = true := by simp [hf]
   have HK : Hid (checkM m = 1) := Lib.hid (by rw [HC.out, if_pos (.inr (.inl (by simp [hf])))])
   refine r5_b (by kernel_rfl) rfl rfl rfl rfl HZ hnm hpf ?_
   intro wz hbz
   iterate 18 (rintro _ rfl)
   refine FinC.nil ?_
   clear hf hnm hpf
   have HE := Lib.hid (HZ2.out.trans (hbz.mono HZ2.out.size))
   clear hbz
   go_wp2_with fail
   go_ret
   exact ⟨ret_int HK.out.symm, HE.out⟩
 ·have hnm := decide_eq_false hpm
  have HK : Hid (checkM m = 1) := Lib.hid (by rw [HC.out, if_pos (.inl hpm)])
  refine r5_a (by kernel_rfl) rfl rfl rfl rfl HZ hnm ?_
  intro wz hbz
  iterate 18 (rintro _ rfl)
  refine FinC.nil ?_
  clear hnm
  have HE := Lib.hid (HZ2.out.trans (hbz.mono HZ2.out.size))
  clear hbz
  go_wp2_with fail
  go_ret
  exact ⟨ret_int HK.out.symm, HE.out⟩
set_option maxRecDepth 100000 in
set_option maxHeartbeats 3200000 in
theorem rcheck_kx (m : LMsg) (hk : namesM m.kind = []) (w : World) : Calls Tryd.prog 43 #[aggMsg m] w fun e w' => e = .returned (.int .i64 (checkM m)) ∧ Below w.heap.size w w' := by
 have HC : Hid (checkM m = 5) := Lib.hid (by unfold checkM; rw [if_pos hk])
 have h1 := Blk.new w 38 (boxMsg m)
 have hB : Below w.heap.size w (w.alloc (.cells (boxMsg m) 38)) := (Below.refl _ _).alloc (Nat.le_refl _) _
 have c0 : (w.alloc (.cells (boxMsg m) 38)).cell? ⟨w.heap.size, 0, none⟩ = some (.int .i64 m.kind) := (h1.cell 0).trans rfl
 have H0 := Lib.hid (And.intro h1 hB)
 have HK0 := Lib.hid hk
 clear h1 hB hk
 go_enter Tryd.func43, Tryd.ntmps43
 go_wp2_with fail
 (with_reducible refine (rnames_kx m.kind HK0.out _).mono ?_)
 rintro e w2 ⟨rfl, hB2⟩
 have HE := Lib.hid (H0.out.2.trans (hB2.mono H0.out.2.size))
 clear c0 hB2 H0
 go_wp2
 go_ret
 exact ⟨ret_int HC.out.symm, HE.out⟩
theorem refCheck_t (m : LMsg) (w : World) : Calls Tryd.prog 43 #[aggMsg m] w fun e w' => e = .returned (.int .i64 (checkM m)) ∧ Below w.heap.size w w' := by
 by_cases h : namesM m.kind = []
 ·exact rcheck_kx m h w
 ·obtain ⟨q, hq, hk⟩ := names_kind h
  have hc : q = 0 ∨ q = 1 ∨ q = 2 ∨ q = 3 ∨ q = 4 ∨ q = 5 ∨ q = 6 ∨ q = 7 := by omega
  rcases hc with e | e | e | e | e | e | e | e <;> subst e
  ·exact rcheck_k1 m hk w
  ·exact rcheck_k2 m hk w
  ·exact rcheck_k3 m hk w
  ·exact rcheck_k4 m hk w
  ·exact rcheck_k5 m hk w
  ·exact rcheck_k6 m hk w
  ·exact rcheck_k7 m hk w
  ·exact rcheck_k8 m hk w
end Go.Proofs.YthhnocnkicoimaaDoor
