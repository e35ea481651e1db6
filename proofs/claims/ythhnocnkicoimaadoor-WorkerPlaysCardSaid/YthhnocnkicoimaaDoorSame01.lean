/-
 reeveref01.Same, by its contract.
-/
import Derived.Test.YthhnocnkicoimaaDoorPlain
set_option linter.unusedVariables false
set_option linter.unusedSimpArgs false
namespace Go.Proofs.YthhnocnkicoimaaDoor
open Go.RowKit

set_option maxHeartbeats 800000 in
/-- reeveref01.Same -/
theorem same01 (A B : Option Addr) (n c m d : Nat) (l r : List Int) (w : World) (h : RdI w A n l) (h' : RdI w B m r) (hn : n ≤ 140737488351232) (hm : m ≤ 140737488351232) :
  Calls Tryd.prog 17 #[.slice A n c, .slice B m d] w fun e w' => e = .returned (.bool (decide (l = r))) ∧ ∃ q, w' = w.drewN q := by
 by_cases hnm : n = m
 ·have hbq : ((n : Int) != (m : Int)) = false := by rw [bne_eq_false_iff_eq]; omega
  have hle : m ≤ n := by omega
  have hge : n ≤ m := by omega
  have HNM := Lib.hid hnm
  clear hnm
  go_enter Tryd.func17, Tryd.ntmps17
  go_wp2
  go_loopw [5] (fun i wr => ∃ k q : Nat, k ≤ n ∧ i = .int .i64 k ∧ Hid (l.take k = r.take k) ∧ wr = w.drewN q) (fun i _ => n - (intOf i).toNat)
  case atStart => exact ⟨0, 0, Nat.zero_le _, rfl, Lib.hid rfl, rfl⟩
  case round =>
   obtain ⟨k, q, hk, rfl, HC, rfl⟩ := hrel
   by_cases hlt : k < n
   ·obtain ⟨ab, ao, y, rfl, hy, hcell⟩ := h.at_ hlt
    obtain ⟨bb, bo, z, rfl, hz, hcell'⟩ := h'.at_ (show k < m by omega)
    have hltm : k < m := by omega
    have HY := Lib.hid hy
    have HZ := Lib.hid hz
    clear hy hz
    cases hxy : (y != z)
    ·go_wp2
     go_quiet (fail)
     go_wp2
     go_roundw
     case rel =>
      refine ⟨k + 1, q + nq, by omega, by go_num, Lib.hid ?_, by first | rfl | exact World.drewN_drewN ..⟩
      rw [take_succ_of l k y HY.out, take_succ_of r k z HZ.out, HC.out, bne_eq_false_iff_eq.1 hxy]
     case measure => simp [intOf]; omega
    ·go_wp2
     go_quiet (fail)
     go_wp2
     go_ret
     refine ⟨ret_bool (decide_eq_false ?_).symm, q + nq, by first | rfl | exact World.drewN_drewN ..⟩
     intro e
     have h1 := HY.out
     have h2 := HZ.out
     rw [e, h2] at h1
     injection h1 with h1
     subst h1
     simp at hxy
   ·go_wp2
    go_ret
    exact ⟨ret_bool (decide_eq_true (eq_of_take l r k n h.len (by rw [h'.len]; exact HNM.out.symm) hlt HC.out)).symm, _, rfl⟩
 ·have hbq : ((n : Int) != (m : Int)) = true := by rw [bne_iff_ne]; omega
  go_enter Tryd.func17, Tryd.ntmps17
  go_wp2
  go_ret
  exact ⟨ret_bool (decide_eq_false (fun e => hnm (by rw [← h.len, ← h'.len, e]))).symm, 0, rfl⟩

theorem same01_t (A B : Option Addr) (n c m d : Nat) (l : List Int) (w : World) (h : RdI w A n l) (h' : RdI w B m l) (hn : n ≤ 140737488351232) (hm : m ≤ 140737488351232) :
  Calls Tryd.prog 17 #[.slice A n c, .slice B m d] w fun e w' => e = .returned (.bool true) ∧ ∃ q, w' = w.drewN q :=
 (same01 A B n c m d l l w h h' hn hm).mono fun e w' hh => ⟨hh.1.trans (ret_bool (decide_eq_true rfl)), hh.2⟩

end Go.Proofs.YthhnocnkicoimaaDoor
