/-
 LAYERS 1, 8: num.Span, res.Right, reeveref08.Right.
-/
import Derived.Test.YtcafmodenbifhaaTRes
import Derived.Test.YtcafmodenbifhaaObj
import Derived.StillTailTactics
set_option linter.unusedVariables false
set_option linter.unusedSimpArgs false
namespace Go.Proofs.Ytcafmodenbifhaa
open Go.RowKit

def spanI (n least most : Int) : Int := max (min n most) least
theorem span_t (n a b : Int) (w : World) : Calls Try.prog 128 #[.int .i64 n, .int .i64 a, .int .i64 b] w fun e w' => e = .returned (.int .i64 (spanI n a b)) ∧ w = w' := by
 go_enter Try.func128, Try.ntmps128
 go_wp2
 all_goals
  go_ret
  exact ⟨ret_int (by unfold spanI; omega), rfl⟩
theorem right1_t (n m : Int) (w : World) : Calls Try.prog 127 #[.int .i64 n, .int .i64 m] w fun e w' => e = .returned (.int .i64 (spanI n 0 1048576)) ∧ w' = w := by
 go_enter Try.func127, Try.ntmps127
 go_wp2_with (go_at_call 128; with_reducible refine (span_t _ _ _ _).mono ?_; rintro e w' ⟨rfl, rfl⟩)
 go_ret
 exact ⟨rfl, rfl⟩

/-- What 'each' makes of two. -/
def eachR (op : Int → Int → Int) (a b : LRes) : LRes := ⟨op a.a b.a, op a.b b.b, op a.c b.c⟩
def eachA (op : Int → Int → Int) (a b : LRes) (k : Nat) : Array Value := #[.int .i64 (if 0 < k then op a.a b.a else 0), .int .i64 (if 1 < k then op a.b b.b else 0), .int .i64 (if 2 < k then op a.c b.c else 0)]
set_option maxRecDepth 100000 in
set_option maxHeartbeats 1600000 in
theorem each_t (g : Nat) (heg : ∀ args w, (callFunc g args).run Try.prog w = .ok (.enter g args) w) (op : Int → Int → Int) (hg : ∀ x y W, Calls Try.prog g #[.int .i64 x, .int .i64 y] W fun e W' => e = .returned (.int .i64 (op x y)) ∧ W' = W) (a b : LRes) (w : World) :
  Calls Try.prog 101 #[aggRes a, aggRes b, .func (.func g) #[] #[]] w fun e w' => e = .returned (aggRes (eachR op a b)) ∧ Below w.heap.size w w' := by
 have HG := Lib.hid hg
 clear hg
 go_enter Try.func101, Try.ntmps101
 go_wp2
 have h0 : Blk ((((w.alloc (.cells (boxRes a) 53)).alloc (.cells (boxRes b) 53)).alloc (.cells #[.int .i64 0, .int .i64 0, .int .i64 0] 53)).alloc (.cells #[.int .i64 0, .int .i64 0, .int .i64 0] 53)) w.heap.size 53 (boxRes a) := (((Blk.new w 53 (boxRes a)).alloc _).alloc _).alloc _
 have h1 : Blk ((((w.alloc (.cells (boxRes a) 53)).alloc (.cells (boxRes b) 53)).alloc (.cells #[.int .i64 0, .int .i64 0, .int .i64 0] 53)).alloc (.cells #[.int .i64 0, .int .i64 0, .int .i64 0] 53)) (w.heap.size + 1) 53 (boxRes b) := by
  have := ((Blk.new (w.alloc (.cells (boxRes a) 53)) 53 (boxRes b)).alloc (.cells #[.int .i64 0, .int .i64 0, .int .i64 0] 53)).alloc (.cells #[.int .i64 0, .int .i64 0, .int .i64 0] 53)
  simpa using this
 have h2 : Blk ((((w.alloc (.cells (boxRes a) 53)).alloc (.cells (boxRes b) 53)).alloc (.cells #[.int .i64 0, .int .i64 0, .int .i64 0] 53)).alloc (.cells #[.int .i64 0, .int .i64 0, .int .i64 0] 53)) (w.heap.size + 1 + 1) 53 #[.int .i64 0, .int .i64 0, .int .i64 0] := by
  have := (Blk.new ((w.alloc (.cells (boxRes a) 53)).alloc (.cells (boxRes b) 53)) 53 #[.int .i64 0, .int .i64 0, .int .i64 0]).alloc (.cells #[.int .i64 0, .int .i64 0, .int .i64 0] 53)
  simpa using this
 have h3 : Blk ((((w.alloc (.cells (boxRes a) 53)).alloc (.cells (boxRes b) 53)).alloc (.cells #[.int .i64 0, .int .i64 0, .int .i64 0] 53)).alloc (.cells #[.int .i64 0, .int .i64 0, .int .i64 0] 53)) (w.heap.size + 1 + 1 + 1) 53 #[.int .i64 0, .int .i64 0, .int .i64 0] := by
  have := Blk.new (((w.alloc (.cells (boxRes a) 53)).alloc (.cells (boxRes b) 53)).alloc (.cells #[.int .i64 0, .int .i64 0, .int .i64 0] 53)) 53 #[.int .i64 0, .int .i64 0, .int .i64 0]
  simpa using this
 have hB0 : Below w.heap.size w ((((w.alloc (.cells (boxRes a) 53)).alloc (.cells (boxRes b) 53)).alloc (.cells #[.int .i64 0, .int .i64 0, .int .i64 0] 53)).alloc (.cells #[.int .i64 0, .int .i64 0, .int .i64 0] 53)) := ((((Below.refl _ _).alloc (Nat.le_refl _) _).alloc (by simp) _).alloc (by simp; omega) _).alloc (by simp; omega) _
 generalize ((((w.alloc (.cells (boxRes a) 53)).alloc (.cells (boxRes b) 53)).alloc (.cells #[.int .i64 0, .int .i64 0, .int .i64 0] 53)).alloc (.cells #[.int .i64 0, .int .i64 0, .int .i64 0] 53)) = w0 at h0 h1 h2 h3 hB0 ⊢
 go_loopw [8, 9] (fun _ i wr => ∃ k : Nat, k ≤ 3 ∧ i = .int .i64 k ∧ Blk wr w.heap.size 53 (boxRes a) ∧ Blk wr (w.heap.size + 1) 53 (boxRes b) ∧ Blk wr (w.heap.size + 1 + 1) 53 #[.int .i64 0, .int .i64 0, .int .i64 0] ∧ Blk wr (w.heap.size + 1 + 1 + 1) 53 (eachA op a b k) ∧ Below w.heap.size w wr) (fun _ i _ => 3 - (intOf i).toNat)
 case atStart => exact ⟨0, by omega, rfl, h0, h1, h2, h3, hB0⟩
 case round =>
  clear h0 h1 h2 h3 hB0
  obtain ⟨k, hk, rfl, h0, h1, h2, h3, hB⟩ := hrel
  have a0 := h0.cell 0
  have a1 := h0.cell 1
  have a2 := h0.cell 2
  have b0 := h1.cell 0
  have b1 := h1.cell 1
  have b2 := h1.cell 2
  have c0 := h3.cell 0
  have c1 := h3.cell 1
  have c2 := h3.cell 2
  have d0 := h2.cell 0
  have d1 := h2.cell 1
  have d2 := h2.cell 2
  have f2 := h2.frozen
  have f3 := h3.frozen
  have HS := Lib.hid (fun j u => h3.set_ j u)
  have HA := Lib.hid (fun u j => h0.far (p := ⟨w.heap.size + 1 + 1 + 1, j, none⟩) (show w.heap.size ≠ w.heap.size + 1 + 1 + 1 by omega) u)
  have HB1 := Lib.hid (fun u j => h1.far (p := ⟨w.heap.size + 1 + 1 + 1, j, none⟩) (show w.heap.size + 1 ≠ w.heap.size + 1 + 1 + 1 by omega) u)
  have HC := Lib.hid (fun u j => h2.far (p := ⟨w.heap.size + 1 + 1 + 1, j, none⟩) (show w.heap.size + 1 + 1 ≠ w.heap.size + 1 + 1 + 1 by omega) u)
  have HD := Lib.hid (fun u j => hB.setCell (p := ⟨w.heap.size + 1 + 1 + 1, j, none⟩) (show w.heap.size ≤ w.heap.size + 1 + 1 + 1 by omega) u)
  have HE := Lib.hid (And.intro hB h2)
  clear h0 h1 h2 h3 hB
  rcases (show k = 0 ∨ k = 1 ∨ k = 2 ∨ k = 3 by omega) with rfl | rfl | rfl | rfl
  ·simp [eachA] at c0 c1 c2
   have e : eachA op a b 1 = (eachA op a b 0).setIfInBounds 0 (.int .i64 (op a.a b.a)) := by simp [eachA]
   have HX := Lib.hid e
   clear e
   go_wp2
   go_still_tail 10, (by kernel_rfl)
   still_call (HG.out _ _ _)
   repeat still_step
   refine wpStill_nil ?_
   go_wp2
   go_roundw
   case rel => exact ⟨1, by omega, by go_num, HA.out _ 0, HB1.out _ 0, HC.out _ 0, by rw [HX.out]; exact HS.out 0 _, (HD.out _ 0).drew⟩
   case measure => simp [intOf]
  ·simp [eachA] at c0 c1 c2
   have e : eachA op a b 2 = (eachA op a b 1).setIfInBounds 1 (.int .i64 (op a.b b.b)) := by simp [eachA]
   have HX := Lib.hid e
   clear e
   go_wp2
   go_still_tail 10, (by kernel_rfl)
   still_call (HG.out _ _ _)
   repeat still_step
   refine wpStill_nil ?_
   go_wp2
   go_roundw
   case rel => exact ⟨2, by omega, by go_num, HA.out _ 1, HB1.out _ 1, HC.out _ 1, by rw [HX.out]; exact HS.out 1 _, (HD.out _ 1).drew⟩
   case measure => simp [intOf]
  ·simp [eachA] at c0 c1 c2
   have e : eachA op a b 3 = (eachA op a b 2).setIfInBounds 2 (.int .i64 (op a.c b.c)) := by simp [eachA]
   have HX := Lib.hid e
   clear e
   go_wp2
   go_still_tail 10, (by kernel_rfl)
   still_call (HG.out _ _ _)
   repeat still_step
   refine wpStill_nil ?_
   go_wp2
   go_roundw
   case rel => exact ⟨3, by omega, by go_num, HA.out _ 2, HB1.out _ 2, HC.out _ 2, by rw [HX.out]; exact HS.out 2 _, (HD.out _ 2).drew⟩
   case measure => simp [intOf]
  ·simp [eachA] at c0 c1 c2
   go_wp2
   have hZ : Blk (((wr.setCell ⟨w.heap.size + 1 + 1, 0, none⟩ (.int .i64 (op a.a b.a))).setCell ⟨w.heap.size + 1 + 1, 1, none⟩ (.int .i64 (op a.b b.b))).setCell ⟨w.heap.size + 1 + 1, 2, none⟩ (.int .i64 (op a.c b.c))) (w.heap.size + 1 + 1) 53 #[.int .i64 (op a.a b.a), .int .i64 (op a.b b.b), .int .i64 (op a.c b.c)] := ((HE.out.2.set_ 0 _).set_ 1 _).set_ 2 _
   have hY : Below w.heap.size w (((wr.setCell ⟨w.heap.size + 1 + 1, 0, none⟩ (.int .i64 (op a.a b.a))).setCell ⟨w.heap.size + 1 + 1, 1, none⟩ (.int .i64 (op a.b b.b))).setCell ⟨w.heap.size + 1 + 1, 2, none⟩ (.int .i64 (op a.c b.c))) := ((HE.out.1.setCell (p := ⟨w.heap.size + 1 + 1, 0, none⟩) (show w.heap.size ≤ w.heap.size + 1 + 1 by omega) _).setCell (p := ⟨w.heap.size + 1 + 1, 1, none⟩) (show w.heap.size ≤ w.heap.size + 1 + 1 by omega) _).setCell (p := ⟨w.heap.size + 1 + 1, 2, none⟩) (show w.heap.size ≤ w.heap.size + 1 + 1 by omega) _
   generalize (((wr.setCell ⟨w.heap.size + 1 + 1, 0, none⟩ (.int .i64 (op a.a b.a))).setCell ⟨w.heap.size + 1 + 1, 1, none⟩ (.int .i64 (op a.b b.b))).setCell ⟨w.heap.size + 1 + 1, 2, none⟩ (.int .i64 (op a.c b.c))) = W3 at hZ hY ⊢
   have z0 := hZ.cell 0
   have z1 := hZ.cell 1
   have z2 := hZ.cell 2
   simp only [List.getElem?_toArray] at z0 z1 z2
   refine bodyPost_ret (v := aggRes (eachR op a b)) (by simp [results, Try.results101, go_sem, z0, z1, z2, eachR]) rfl ⟨rfl, hY⟩

end Go.Proofs.Ytcafmodenbifhaa
