/-
  reeveref12.Has, by its contract.
-/
import Derived.Test.YthhnocnkicoimaaDoorPlain
set_option linter.unusedVariables false
set_option linter.unusedSimpArgs false
namespace Go.Proofs.YthhnocnkicoimaaDoor
open Go.RowKit

set_option maxHeartbeats 400000 in
/-- reeveref12.Has -/
theorem has12 (A : Option Addr) (n c : Nat) (l : List Int) (x : Int) (w : World) (h : RdI w A n l) (hn : n ≤ 140737488351232) :
    Calls Tryd.prog 21 #[.slice A n c, .int .i64 x] w fun e w' => e = .returned (.bool (decide (x ∈ l))) ∧ w = w' := by
  go_enter Tryd.func21, Tryd.ntmps21
  go_wp2
  go_loop [5] (fun i => ∃ k : Nat, k ≤ n ∧ i = .int .i64 k ∧ Hid (x ∉ l.take k)) (fun i => n - (intOf i).toNat)
  case atStart => exact ⟨0, Nat.zero_le _, rfl, Lib.hid (by simp)⟩
  case round =>
    obtain ⟨k, hk, rfl, HC⟩ := hrel
    by_cases hlt : k < n
    · obtain ⟨ab, ao, y, rfl, hy, hcell⟩ := h.at_ hlt
      have HY := Lib.hid hy
      clear hy
      cases hxy : (y == x)
      · go_wp2
        go_round
        case rel =>
          refine ⟨k + 1, by omega, by go_num, Lib.hid ?_⟩
          rw [take_succ_of l k y HY.out, List.mem_append]
          rintro (hm | hm)
          · exact HC.out hm
          · rw [List.mem_singleton.1 hm] at hxy
            simp at hxy
        case measure => simp [intOf]; omega
      · go_wp2
        go_ret
        refine ⟨ret_bool ?_, rfl⟩
        rw [beq_iff_eq] at hxy
        subst hxy
        exact (decide_eq_true (List.mem_of_getElem? HY.out)).symm
    · go_wp2
      go_ret
      refine ⟨ret_bool ?_, rfl⟩
      have := HC.out
      rw [take_all l k n h.len hlt] at this
      exact (decide_eq_false this).symm

end Go.Proofs.YthhnocnkicoimaaDoor
