/-
  EQUALITY of two api.Assign; slices.Equal of two lists of them; place.Same; reeveref28.Same.
-/
import Derived.Test.YtcfninipcghbmaaEqNode
import Derived.Test.YtcfninipcghbmaaTAssign
set_option linter.unusedVariables false
set_option linter.unusedSimpArgs false
namespace Go.Proofs.Ytcfninipcghbmaa
open Go.RowKit

theorem LAssign.ext_iff' (a b : LAssign) : a = b ↔ a.job = b.job ∧ a.node = b.node := by
  cases a; cases b; simp
theorem equalAssign (d : Nat) (a b : LAssign) (w : World) : (Op.equalIn (d + 4) 112 (aggAssign a) (aggAssign b)).run Try.prog w = .ok (decide (a = b)) w := by
  rw [run_equalIn_struct w (d + 3) _ _ _ (by kernel_rfl) (by kernel_rfl)]
  rw [run_eqFields_all _ [(true, 3, 0), (true, 3, 1)] [a.job == b.job, a.node == b.node] (by kernel_rfl)
    ⟨rfl, ⟨.int .i64 a.job, .int .i64 b.job, by kernel_rfl, by kernel_rfl, run_equalIn_int w (d + 2) 3 .i64 .i64 _ _ Try.underlying3⟩,
     rfl, ⟨.int .i64 a.node, .int .i64 b.node, by kernel_rfl, by kernel_rfl, run_equalIn_int w (d + 2) 3 .i64 .i64 _ _ Try.underlying3⟩, trivial⟩]
  congr 1
  rw [Bool.eq_iff_iff]
  simp [LAssign.ext_iff']
theorem eqlAssign (a b : LAssign) (w : World) : (binOp .eql 112 (aggAssign a) (aggAssign b)).run Try.prog w = .ok (.bool (decide (a = b))) w := by
  rw [run_eql_struct, equalAssign]; rfl
theorem neqAssign (a b : LAssign) (w : World) : (binOp .neq 112 (aggAssign a) (aggAssign b)).run Try.prog w = .ok (.bool (!decide (a = b))) w := by
  rw [run_neq_struct, equalAssign]; rfl
theorem eq_of_takes {α : Type} (l r : List α) (k n : Nat) (h : l.length = n) (h' : r.length = n) (hk : ¬ k < n) (e : l.take k = r.take k) : l = r := by
  rw [List.take_of_length_le (by omega), List.take_of_length_le (by omega)] at e
  exact e

set_option maxHeartbeats 800000 in
theorem equal_t (A B : Option Addr) (n c m d : Nat) (l r : List LAssign) (w : World) (h : Rd encAssign 2 w A n l) (h' : Rd encAssign 2 w B m r) (hn : n ≤ 140737488351232) (hm : m ≤ 140737488351232) :
    Calls Try.prog 53 #[.slice A n c, .slice B m d] w fun e w' => e = .returned (.bool (decide (l = r))) ∧ ∃ q, w' = w.drewN q := by
  by_cases hnm : n = m
  · have hbq : ((n : Int) != (m : Int)) = false := by rw [bne_eq_false_iff_eq]; omega
    have hle : m ≤ n := by omega
    have hge : n ≤ m := by omega
    have HNM := Lib.hid hnm
    clear hnm
    go_enter Try.func53, Try.ntmps53
    go_wp2
    go_loopw [13] (fun i wr => ∃ k q : Nat, k ≤ n ∧ i = .int .i64 k ∧ Hid (l.take k = r.take k) ∧ wr = w.drewN q) (fun i _ => n - (intOf i).toNat)
    case atStart => exact ⟨0, 0, Nat.zero_le _, rfl, Lib.hid rfl, rfl⟩
    case round =>
      obtain ⟨k, q, hk, rfl, HC, rfl⟩ := hrel
      by_cases hlt : k < n
      · obtain ⟨ab, ao, y, rfl, hy, hyl, hyc⟩ := h.at_ hlt
        obtain ⟨bb, bo, z, rfl, hz, hzl, hzc⟩ := h'.at_ (show k < m by omega)
        have y0 := hyc 0 _ rfl
        have y1 := hyc 1 _ rfl
        have z0 := hzc 0 _ rfl
        have z1 := hzc 1 _ rfl
        simp only [Nat.add_zero] at y0 z0
        have hltm : k < m := by omega
        have HY := Lib.hid hy
        have HZ := Lib.hid hz
        have hne := fun (W : World) => neqAssign y z W
        have HH := Lib.hid h
        have HH' := Lib.hid h'
        clear hy hz hyc hzc h h'
        by_cases hyz : y = z
        · simp only [aggAssign, decide_eq_true hyz, Bool.not_true] at hne
          have HYZ := Lib.hid hyz
          clear hyz
          go_wp2
          go_quiet (fail)
          go_wp2
          go_roundw
          case rel =>
            refine ⟨k + 1, q + nq, by omega, by go_num, Lib.hid ?_, by first | rfl | exact World.drewN_drewN ..⟩
            rw [take_succ_of l k y HY.out, take_succ_of r k z HZ.out, HC.out, HYZ.out]
          case measure => simp [intOf]; omega
        · simp only [aggAssign, decide_eq_false hyz, Bool.not_false] at hne
          have HYZ := Lib.hid hyz
          clear hyz
          go_wp2
          go_quiet (fail)
          go_wp2
          go_ret
          refine ⟨ret_bool (decide_eq_false ?_).symm, q + nq, by first | rfl | exact World.drewN_drewN ..⟩
          intro e
          have h1 := HY.out
          have h2 := HZ.out
          rw [e, h2] at h1
          injection h1 with h1
          exact HYZ.out h1.symm
      · go_wp2
        go_ret
        exact ⟨ret_bool (decide_eq_true (eq_of_takes l r k n h.len (by rw [h'.len]; exact HNM.out.symm) hlt HC.out)).symm, _, rfl⟩
  · have hbq : ((n : Int) != (m : Int)) = true := by rw [bne_iff_ne]; omega
    go_enter Try.func53, Try.ntmps53
    go_wp2
    go_ret
    exact ⟨ret_bool (decide_eq_false (fun e => hnm (by rw [← h.len, ← h'.len, e]))).symm, 0, rfl⟩

set_option maxHeartbeats 800000 in
theorem same28 (A B : Option Addr) (n c m d : Nat) (l r : List LAssign) (w : World) (h : Rd encAssign 2 w A n l) (h' : Rd encAssign 2 w B m r) (hn : n ≤ 140737488351232) (hm : m ≤ 140737488351232) :
    Calls Try.prog 13 #[.slice A n c, .slice B m d] w fun e w' => e = .returned (.bool (decide (l = r))) ∧ ∃ q, w' = w.drewN q := by
  by_cases hnm : n = m
  · have hbq : ((n : Int) != (m : Int)) = false := by rw [bne_eq_false_iff_eq]; omega
    have hle : m ≤ n := by omega
    have hge : n ≤ m := by omega
    have HNM := Lib.hid hnm
    clear hnm
    go_enter Try.func13, Try.ntmps13
    go_wp2
    go_loopw [5] (fun i wr => ∃ k q : Nat, k ≤ n ∧ i = .int .i64 k ∧ Hid (l.take k = r.take k) ∧ wr = w.drewN q) (fun i _ => n - (intOf i).toNat)
    case atStart => exact ⟨0, 0, Nat.zero_le _, rfl, Lib.hid rfl, rfl⟩
    case round =>
      obtain ⟨k, q, hk, rfl, HC, rfl⟩ := hrel
      by_cases hlt : k < n
      · obtain ⟨ab, ao, y, rfl, hy, hyl, hyc⟩ := h.at_ hlt
        obtain ⟨bb, bo, z, rfl, hz, hzl, hzc⟩ := h'.at_ (show k < m by omega)
        have y0 := hyc 0 _ rfl
        have y1 := hyc 1 _ rfl
        have z0 := hzc 0 _ rfl
        have z1 := hzc 1 _ rfl
        simp only [Nat.add_zero] at y0 z0
        have hltm : k < m := by omega
        have HY := Lib.hid hy
        have HZ := Lib.hid hz
        have hne := fun (W : World) => neqAssign y z W
        have HH := Lib.hid h
        have HH' := Lib.hid h'
        clear hy hz hyc hzc h h'
        by_cases hyz : y = z
        · simp only [aggAssign, decide_eq_true hyz, Bool.not_true] at hne
          have HYZ := Lib.hid hyz
          clear hyz
          go_wp2
          go_quiet (fail)
          go_wp2
          go_roundw
          case rel =>
            refine ⟨k + 1, q + nq, by omega, by go_num, Lib.hid ?_, by first | rfl | exact World.drewN_drewN ..⟩
            rw [take_succ_of l k y HY.out, take_succ_of r k z HZ.out, HC.out, HYZ.out]
          case measure => simp [intOf]; omega
        · simp only [aggAssign, decide_eq_false hyz, Bool.not_false] at hne
          have HYZ := Lib.hid hyz
          clear hyz
          go_wp2
          go_quiet (fail)
          go_wp2
          go_ret
          refine ⟨ret_bool (decide_eq_false ?_).symm, q + nq, by first | rfl | exact World.drewN_drewN ..⟩
          intro e
          have h1 := HY.out
          have h2 := HZ.out
          rw [e, h2] at h1
          injection h1 with h1
          exact HYZ.out h1.symm
      · go_wp2
        go_ret
        exact ⟨ret_bool (decide_eq_true (eq_of_takes l r k n h.len (by rw [h'.len]; exact HNM.out.symm) hlt HC.out)).symm, _, rfl⟩
  · have hbq : ((n : Int) != (m : Int)) = true := by rw [bne_iff_ne]; omega
    go_enter Try.func13, Try.ntmps13
    go_wp2
    go_ret
    exact ⟨ret_bool (decide_eq_false (fun e => hnm (by rw [← h.len, ← h'.len, e]))).symm, 0, rfl⟩

theorem same_t (A B : Option Addr) (n c m d : Nat) (l r : List LAssign) (w : World) (h : Rd encAssign 2 w A n l) (h' : Rd encAssign 2 w B m r) (hn : n ≤ 140737488351232) (hm : m ≤ 140737488351232) :
    Calls Try.prog 16 #[.slice A n c, .slice B m d] w fun e w' => e = .returned (.bool (decide (l = r))) ∧ ∃ q, w' = w.drewN q := by
  have hcx := equal_t A B n c m d l r w h h' hn hm
  go_enter Try.func16, Try.ntmps16
  go_wp2_with fail
  (with_reducible refine hcx.mono ?_)
  clear hcx
  rintro e w2 ⟨rfl, q, rfl⟩
  go_wp2
  go_ret
  exact ⟨rfl, q, rfl⟩
end Go.Proofs.Ytcfninipcghbmaa
