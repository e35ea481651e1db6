/-
  LAYER 17 (fence), over three cells: the atomic numbers' methods; raise, Pass, Epoch; num.Later.
-/
import Derived.Test.YthhnocnkicoimaaDoorMsg4
import Derived.Test.YthhnocnkicoimaaDoorRes
import Derived.Laws.LoneSync
set_option linter.unusedVariables false
set_option linter.unusedSimpArgs false
namespace Go.Proofs.YthhnocnkicoimaaDoor
open Go.RowKit

theorem load64 (b o : Nat) (x : Int) (w : World) (hc : w.cell? ⟨b, o, none⟩ = some (.int .i64 x)) : Calls Tryd.prog 90 #[.pointer (some ⟨b, o, none⟩)] w fun e w' => e = .returned (.int .i64 x) ∧ w' = w := by
  have h := run_call_load (P := Tryd.prog) Tryd.func103 (by kernel_rfl) (by kernel_rfl) (by kernel_rfl) .i64 (by kernel_rfl) hc
  go_enter Tryd.func90, Tryd.ntmps90
  go_wp2
  go_ret
  exact ⟨rfl, rfl⟩
theorem cas64 (b o : Nat) (x y : Int) (w : World) (hc : w.cell? ⟨b, o, none⟩ = some (.int .i64 x)) (hf : w.frozen? ⟨b, o, none⟩ = false) : Calls Tryd.prog 107 #[.pointer (some ⟨b, o, none⟩), .int .i64 x, .int .i64 y] w fun e w' => e = .returned (.bool true) ∧ w' = w.setCell ⟨b, o, none⟩ (.int .i64 y) := by
  have h := run_call_cas_hit (P := Tryd.prog) Tryd.func122 (by kernel_rfl) (by kernel_rfl) (by kernel_rfl) .i64 (by kernel_rfl) (y := y) hc hf
  go_enter Tryd.func107, Tryd.ntmps107
  go_wp2
  go_ret
  exact ⟨rfl, rfl⟩
theorem add64 (b o : Nat) (x y : Int) (w : World) (hc : w.cell? ⟨b, o, none⟩ = some (.int .i64 x)) (hf : w.frozen? ⟨b, o, none⟩ = false) : Calls Tryd.prog 95 #[.pointer (some ⟨b, o, none⟩), .int .i64 y] w fun e w' => e = .returned (.int .i64 (wrap64 (x + y))) ∧ w' = w.setCell ⟨b, o, none⟩ (.int .i64 (wrap64 (x + y))) := by
  have h := run_call_add (P := Tryd.prog) Tryd.func108 (by kernel_rfl) (by kernel_rfl) (by kernel_rfl) .i64 (by kernel_rfl) (x := x) (y := y) (s := wrap64 (x + y)) hc hf (by simp [go_sem, wrap64, IntKind.wrap_i64])
  go_enter Tryd.func95, Tryd.ntmps95
  go_wp2
  go_ret
  exact ⟨rfl, rfl⟩
theorem raise_t (b : Nat) (v e : Int) (w : World) (hc : w.cell? ⟨b, 0, none⟩ = some (.int .i64 v)) (hf : w.frozen? ⟨b, 0, none⟩ = false) : Calls Tryd.prog 94 #[.pointer (some ⟨b, 0, none⟩), .int .i64 e] w fun r w' => r = .returned (.bool (decide (v ≤ e))) ∧ w' = if v ≤ e then w.setCell ⟨b, 0, none⟩ (.int .i64 e) else w := by
  go_enter Tryd.func94, Tryd.ntmps94
  go_wp2
  go_loopw [] (fun wr => wr = w) (fun _ => 0)
  case atStart => rfl
  case round =>
    have hrel := hrel
    subst hrel
    have hL := load64 b 0 v _ hc
    by_cases h : v ≤ e
    · have hlt : (decide (e < v)) = false := decide_eq_false (by omega)
      have hC := cas64 b 0 v e _ hc hf
      go_wp2_with (first | (go_at_call 90; (with_reducible refine hL.mono ?_); rintro r w' ⟨rfl, hw⟩; subst hw) | (go_at_call 107; (with_reducible refine hC.mono ?_); rintro r w' ⟨rfl, hw⟩; subst hw))
      go_ret
      exact ⟨rfl, rfl⟩
    · have hlt : (decide (e < v)) = true := decide_eq_true (by omega)
      go_wp2_with (go_at_call 90; (with_reducible refine hL.mono ?_); rintro r w' ⟨rfl, hw⟩; subst hw)
      go_ret
      exact ⟨rfl, rfl⟩
/-- Does a fence let an epoch pass? -/
def passB (v e : Int) : Bool := inM e 1 4294967295 && decide (v ≤ e)
theorem pass_t (b : Nat) (v y n e : Int) (w : World) (h0 : w.cell? ⟨b, 0, none⟩ = some (.int .i64 v)) (h1 : w.cell? ⟨b, 1, none⟩ = some (.int .i64 y)) (h2 : w.cell? ⟨b, 2, none⟩ = some (.int .i64 n)) (hf : ∀ j, w.frozen? ⟨b, j, none⟩ = false) (hlt : b < w.heap.size) :
    Calls Tryd.prog 67 #[.pointer (some ⟨b, 0, none⟩), .int .i64 e] w fun r w' => r = .returned (.bool (passB v e)) ∧ w' = if passB v e then (w.setCell ⟨b, 0, none⟩ (.int .i64 e)).setCell ⟨b, 1, none⟩ (.int .i64 (wrap64 (y + 1))) else w.setCell ⟨b, 2, none⟩ (.int .i64 (wrap64 (n + 1))) := by
  have hR := numRightM_t e 1 4294967295 w
  have hr := raise_t b v e w h0 (hf 0)
  have hN := add64 b 2 n 1 w h2 (hf 2)
  have hY := add64 b 1 y 1 (w.setCell ⟨b, 0, none⟩ (.int .i64 e)) ((World.cell?_setCell_other w ⟨b, 0, none⟩ ⟨b, 1, none⟩ _ (by intro h; cases h)).trans h1) (by rw [World.frozen?_setCell]; exact hf 1)
  unfold passB
  rcases Bool.eq_false_or_eq_true (inM e 1 4294967295) with hi | hi
  · rw [hi] at hR
    by_cases h : v ≤ e
    · rw [decide_eq_true h, if_pos h] at hr
      rw [hi, decide_eq_true h, if_pos (by rfl)]
      clear h h0 h1 h2 hi hN
      go_enter Tryd.func67, Tryd.ntmps67
      go_wp2_with (first | (go_at_call 55; (with_reducible refine hR.mono ?_); rintro r w' ⟨rfl, hw⟩; subst hw) | (go_at_call 94; (with_reducible refine hr.mono ?_); rintro r w' ⟨rfl, hw⟩; subst hw) | (go_at_call 95; (with_reducible refine hY.mono ?_); rintro r w' ⟨rfl, hw⟩; subst hw))
      go_ret
      exact ⟨rfl, rfl⟩
    · rw [decide_eq_false h, if_neg h] at hr
      rw [hi, decide_eq_false h, if_neg (by decide)]
      clear h h0 h1 h2 hi hY
      go_enter Tryd.func67, Tryd.ntmps67
      go_wp2_with (first | (go_at_call 55; (with_reducible refine hR.mono ?_); rintro r w' ⟨rfl, hw⟩; subst hw) | (go_at_call 94; (with_reducible refine hr.mono ?_); rintro r w' ⟨rfl, hw⟩; subst hw) | (go_at_call 95; (with_reducible refine hN.mono ?_); rintro r w' ⟨rfl, hw⟩; subst hw))
      go_ret
      exact ⟨rfl, rfl⟩
  · rw [hi] at hR
    rw [hi, if_neg (by simp)]
    clear h0 h1 h2 hY hr
    go_enter Tryd.func67, Tryd.ntmps67
    go_wp2_with (first | (go_at_call 55; (with_reducible refine hR.mono ?_); rintro r w' ⟨rfl, hw⟩; subst hw) | (go_at_call 95; (with_reducible refine hN.mono ?_); rintro r w' ⟨rfl, hw⟩; subst hw))
    go_ret
    exact ⟨by simp [hi], rfl⟩
theorem epoch_t (b : Nat) (v : Int) (w : World) (h0 : w.cell? ⟨b, 0, none⟩ = some (.int .i64 v)) : Calls Tryd.prog 59 #[.pointer (some ⟨b, 0, none⟩)] w fun r w' => r = .returned (.int .i64 v) ∧ w' = w := by
  have hL := load64 b 0 v w h0
  go_enter Tryd.func59, Tryd.ntmps59
  go_wp2_with (go_at_call 90; (with_reducible refine hL.mono ?_); rintro r w' ⟨rfl, hw⟩; subst hw)
  go_ret
  exact ⟨rfl, rfl⟩
def laterI (n m : Int) : Int := spanI (spanI n 0 1099511627776 + spanI m 0 1099511627776) 0 1099511627776
theorem later1_t (n : Int) (w : World) : Calls Tryd.prog 106 #[.int .i64 n] w fun e w' => e = .returned (.int .i64 (spanI n 0 1099511627776)) ∧ w' = w := by
  go_enter Tryd.func106, Tryd.ntmps106
  go_wp2_with (go_at_call 62; with_reducible refine (span_t _ _ _ _).mono ?_; rintro e w' ⟨rfl, rfl⟩)
  go_ret
  exact ⟨rfl, rfl⟩
theorem later_t (n m : Int) (w : World) : Calls Tryd.prog 93 #[.int .i64 n, .int .i64 m] w fun e w' => e = .returned (.int .i64 (laterI n m)) ∧ w' = w := by
  have hw : IntKind.i64.wrap (spanI n 0 1099511627776 + spanI m 0 1099511627776) = spanI n 0 1099511627776 + spanI m 0 1099511627776 := IntWalk.i64_in _ (by unfold spanI; omega)
  go_enter Tryd.func93, Tryd.ntmps93
  go_wp2_with (go_at_call 106; with_reducible refine (later1_t _ _).mono ?_; rintro e w' ⟨rfl, hw'⟩; subst hw')
  go_ret
  exact ⟨rfl, rfl⟩
end Go.Proofs.YthhnocnkicoimaaDoor
