/-
  LAYER 8: res.Right, reeveref08.Right.
-/
import Derived.Test.YtcafmodenbifhaaRes
import Derived.Test.YtcafmodenbifhaaEqRes
import Derived.Deep.RegionHeld3
set_option linter.unusedVariables false
set_option linter.unusedSimpArgs false
namespace Go.Proofs.Ytcafmodenbifhaa
open Go.RowKit

theorem eg_right (args : Array Value) (w : World) : (callFunc 127 args).run Try.prog w = .ok (.enter 127 args) w := by kernel_rfl
def rightR (r : LRes) : Bool := decide (0 ≤ r.a ∧ r.a ≤ 1048576 ∧ 0 ≤ r.b ∧ r.b ≤ 1048576 ∧ 0 ≤ r.c ∧ r.c ≤ 1048576)
theorem right_span (r : LRes) : decide (r = eachR (fun x y => spanI x 0 1048576) r r) = rightR r := by
  unfold rightR
  rw [Bool.eq_iff_iff, decide_eq_true_iff, decide_eq_true_iff, LRes.ext_iff']
  simp only [eachR, spanI]
  omega
set_option maxRecDepth 100000 in
set_option maxHeartbeats 1600000 in
theorem resRight_t (r : LRes) (w : World) : Calls Try.prog 104 #[aggRes r] w fun e w' => e = .returned (.bool (rightR r)) ∧ Below w.heap.size w w' := by
  go_enter Try.func104, Try.ntmps104
  go_wp2
  have hb := Blk.new w 53 (boxRes r)
  have hB : Below w.heap.size w (w.alloc (.cells (boxRes r) 53)) := (Below.refl _ _).alloc (Nat.le_refl _) _
  generalize w.alloc (.cells (boxRes r) 53) = w1 at hb hB ⊢
  have c0 := hb.cell 0
  have c1 := hb.cell 1
  have c2 := hb.cell 2
  simp only [List.getElem?_toArray, List.getElem?_cons_zero, List.getElem?_cons_succ] at c0 c1 c2
  have hlt : w.heap.size < w1.heap.size := hb.lt
  have HB := Lib.hid hB
  clear hb hB
  have hek := fun (W : World) => eqlRes r (eachR (fun x y => spanI x 0 1048576) r r) W
  go_region_held3 (fun w' => w'.cell? ⟨w.heap.size, 0, none⟩ = some (.int .i64 r.a) ∧ w'.cell? ⟨w.heap.size, 1, none⟩ = some (.int .i64 r.b) ∧ w'.cell? ⟨w.heap.size, 2, none⟩ = some (.int .i64 r.c))
    (first | exact ⟨c0, c1, c2⟩ | exact ⟨k0, k1, k2⟩)
    (first
      | (go_at_call 101; have hcx := each_t 127 eg_right _ right1_t r r w1.drew; (with_reducible refine hcx.mono ?_); clear hcx; rintro e w2 ⟨rfl, hB2⟩; have k0 := (hB2.cell (p := ⟨w.heap.size, 0, none⟩) hlt).trans c0; have k1 := (hB2.cell (p := ⟨w.heap.size, 1, none⟩) hlt).trans c1; have k2 := (hB2.cell (p := ⟨w.heap.size, 2, none⟩) hlt).trans c2))
  have HB2 := Lib.hid (HB.out.drew.trans (hB2.mono HB.out.size))
  clear hB2 k0 k1 k2
  go_wp2
  go_ret
  exact ⟨ret_bool (right_span r), HB2.out⟩

set_option maxHeartbeats 1600000 in
theorem refRight_t (r : LRes) (w : World) : Calls Try.prog 66 #[aggRes r] w fun e w' => e = .returned (.bool (rightR r)) ∧ w' = w.alloc (.cells (boxRes r) 53) := by
  have hr : rightR r = (decide (0 ≤ r.a) && decide (r.a ≤ 1048576) && decide (0 ≤ r.b) && decide (r.b ≤ 1048576) && decide (0 ≤ r.c) && decide (r.c ≤ 1048576)) := by
    unfold rightR
    rw [Bool.eq_iff_iff]
    simp [and_assoc]
  have HR := Lib.hid hr
  clear hr
  go_enter Try.func66, Try.ntmps66
  go_wp2
  go_loop [3] (fun i => ∃ k : Nat, k ≤ 3 ∧ i = .int .i64 k ∧ Hid ((0 < k → 0 ≤ r.a ∧ r.a ≤ 1048576) ∧ (1 < k → 0 ≤ r.b ∧ r.b ≤ 1048576) ∧ (2 < k → 0 ≤ r.c ∧ r.c ≤ 1048576))) (fun i => 3 - (intOf i).toNat)
  case atStart => exact ⟨0, by omega, rfl, Lib.hid ⟨fun h => by omega, fun h => by omega, fun h => by omega⟩⟩
  case round =>
    obtain ⟨k, hk, rfl, HC⟩ := hrel
    rcases (show k = 0 ∨ k = 1 ∨ k = 2 ∨ k = 3 by omega) with rfl | rfl | rfl | rfl
    · go_wp2
      all_goals first
        | (go_round
           case rel => exact ⟨1, by omega, by go_num, Lib.hid ⟨fun h => by omega, fun h => by omega, fun h => by omega⟩⟩
           case measure => simp [intOf])
        | (go_ret; exact ⟨ret_bool (by rw [HR.out]; simp; omega), rfl⟩)
    · have h1 := HC.out.1 (by omega)
      have H1 := Lib.hid h1
      clear h1
      go_wp2
      all_goals first
        | (go_round
           case rel => exact ⟨2, by omega, by go_num, Lib.hid ⟨fun h => H1.out, fun h => by omega, fun h => by omega⟩⟩
           case measure => simp [intOf])
        | (go_ret; exact ⟨ret_bool (by rw [HR.out]; simp; omega), rfl⟩)
    · have H1 := Lib.hid (HC.out.1 (by omega))
      have H2 := Lib.hid (HC.out.2.1 (by omega))
      go_wp2
      all_goals first
        | (go_round
           case rel => exact ⟨3, by omega, by go_num, Lib.hid ⟨fun h => H1.out, fun h => H2.out, fun h => by omega⟩⟩
           case measure => simp [intOf])
        | (go_ret; exact ⟨ret_bool (by rw [HR.out]; simp; omega), rfl⟩)
    · have H1 := Lib.hid (HC.out.1 (by omega))
      have H2 := Lib.hid (HC.out.2.1 (by omega))
      have H3 := Lib.hid (HC.out.2.2 (by omega))
      go_wp2
      go_ret
      exact ⟨ret_bool (by rw [rightR, eq_comm]; exact decide_eq_true ⟨H1.out.1, H1.out.2, H2.out.1, H2.out.2, H3.out.1, H3.out.2⟩), rfl⟩

end Go.Proofs.Ytcafmodenbifhaa
