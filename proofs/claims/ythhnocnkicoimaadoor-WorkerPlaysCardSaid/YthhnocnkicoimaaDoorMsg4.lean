/-
 LAYER 35 (msg): Place, the document's Place, in, names; slices.Contains of pointers.
-/
import Derived.Test.YthhnocnkicoimaaDoorMsgP
import Derived.LaidEqlPtr
set_option linter.unusedVariables false
set_option linter.unusedSimpArgs false
namespace Go.Proofs.YthhnocnkicoimaaDoor
open Go.RowKit

theorem numRightM_t (n a b : Int) (w : World) : Calls Tryd.prog 55 #[.int .i64 n, .int .i64 a, .int .i64 b] w fun e w' => e = .returned (.bool (inM n a b)) ∧ w' = w := by
 go_enter Tryd.func55, Tryd.ntmps55
 go_wp2
 all_goals
  go_ret
  exact ⟨ret_bool (by unfold inM; simp [*]; try omega), rfl⟩
theorem refIn_t (n a b : Int) (w : World) : Calls Tryd.prog 79 #[.int .i64 n, .int .i64 a, .int .i64 b] w fun e w' => e = .returned (.bool (inM n a b)) ∧ w' = w := by
 go_enter Tryd.func79, Tryd.ntmps79
 go_wp2
 all_goals
  go_ret
  exact ⟨ret_bool (by unfold inM; simp [*]; try omega), rfl⟩
theorem msgPlace_t (n : Int) (w : World) : Calls Tryd.prog 83 #[.int .i64 n] w fun e w' => e = .returned (.int .i64 (placeM n)) ∧ w' = w := by
 have i1 : inM n 0 4 = decide (0 ≤ n ∧ n ≤ 4) := by unfold inM; rw [Bool.decide_and]
 have i2 : inM n 100 115 = decide (100 ≤ n ∧ n ≤ 115) := by unfold inM; rw [Bool.decide_and]
 have H1 := numRightM_t n 0 4 w
 have H2 := numRightM_t n 100 115 w
 by_cases h1 : 0 ≤ n ∧ n ≤ 4
 ·rw [i1, decide_eq_true h1] at H1
  have HH1 := Lib.hid H1
  have HP : Hid (placeM n = 1) := Lib.hid (by unfold placeM; rw [if_pos h1])
  clear i1 i2 H1 H2 h1
  go_enter Tryd.func83, Tryd.ntmps83
  go_wp2_with (go_at_call 55; with_reducible refine HH1.out.mono ?_; rintro e w' ⟨rfl, rfl⟩)
  go_ret
  exact ⟨ret_int HP.out.symm, rfl⟩
 ·rw [i1, decide_eq_false h1] at H1
  by_cases h2 : 100 ≤ n ∧ n ≤ 115
  ·rw [i2, decide_eq_true h2] at H2
   have HH1 := Lib.hid H1
   have HH2 := Lib.hid H2
   have HP : Hid (placeM n = 2) := Lib.hid (by unfold placeM; rw [if_neg h1, if_pos h2])
   clear i1 i2 H1 H2 h1 h2
   go_enter Tryd.func83, Tryd.ntmps83
   go_wp2_with (first | (go_at_call 55; with_reducible refine HH1.out.mono ?_; rintro e w' ⟨rfl, rfl⟩) | (go_at_call 55; with_reducible refine HH2.out.mono ?_; rintro e w' ⟨rfl, rfl⟩))
   go_ret
   exact ⟨ret_int HP.out.symm, rfl⟩
  ·rw [i2, decide_eq_false h2] at H2
   have HH1 := Lib.hid H1
   have HH2 := Lib.hid H2
   by_cases h3 : n = 200
   ·have HP : Hid (placeM n = 3) := Lib.hid (by unfold placeM; rw [if_neg h1, if_neg h2, if_pos h3])
    have hd : (n == 200) = true := by simp [h3]
    clear i1 i2 H1 H2 h1 h2 h3
    go_enter Tryd.func83, Tryd.ntmps83
    go_wp2_with (first | (go_at_call 55; with_reducible refine HH1.out.mono ?_; rintro e w' ⟨rfl, rfl⟩) | (go_at_call 55; with_reducible refine HH2.out.mono ?_; rintro e w' ⟨rfl, rfl⟩))
    go_ret
    exact ⟨ret_int HP.out.symm, rfl⟩
   ·have HP : Hid (placeM n = 0) := Lib.hid (by unfold placeM; rw [if_neg h1, if_neg h2, if_neg h3])
    have hd : (n == 200) = false := by simp [h3]
    clear i1 i2 H1 H2 h1 h2 h3
    go_enter Tryd.func83, Tryd.ntmps83
    go_wp2_with (first | (go_at_call 55; with_reducible refine HH1.out.mono ?_; rintro e w' ⟨rfl, rfl⟩) | (go_at_call 55; with_reducible refine HH2.out.mono ?_; rintro e w' ⟨rfl, rfl⟩))
    go_ret
    exact ⟨ret_int HP.out.symm, rfl⟩
theorem refPlace_t (n : Int) (w : World) : Calls Tryd.prog 78 #[.int .i64 n] w fun e w' => e = .returned (.int .i64 (placeM n)) ∧ w' = w := by
 obtain ⟨p, hp⟩ : ∃ p, placeM n = p := ⟨_, rfl⟩
 have HP := Lib.hid hp
 clear hp
 go_enter Tryd.func78, Tryd.ntmps78
 go_wp2
 all_goals
  go_ret
  refine ⟨ret_int ?_, rfl⟩
  clear HP
  try simp only [beq_iff_eq, beq_eq_false_iff_ne, ne_eq] at *
  unfold placeM
  (repeat' split) <;> omega
set_option maxRecDepth 100000 in
set_option maxHeartbeats 800000 in
theorem indexP_t (b : Nat) (A : Option Addr) (n c : Nat) (L : List Nat) (o : Nat) (w : World) {t : TypeId} {cs : Array Value} (hb : Blk w b t cs) (h : Rd (encO b) 1 w A n L) (hn : n ≤ 1000) :
  Calls Tryd.prog 120 #[.slice A n c, .pointer (some ⟨b, o, none⟩)] w fun e w' => (∃ q : Int, e = .returned (.int .i64 q) ∧ decide (0 ≤ q) = decide (o ∈ L)) ∧ w' = w := by
 have HH := Lib.hid h
 have HBK := Lib.hid hb
 clear h hb
 obtain ⟨j, hj, hjz⟩ := Option.map_eq_some_iff.1 Tryd.infoInt
 simp only [Prod.mk.injEq] at hjz
 have HJ := Lib.hid (And.intro hj (show j.size ≠ 0 by rw [hjz.2.1]; decide))
 clear hj hjz
 go_enter Tryd.func120, Tryd.ntmps120
 go_wp2
 go_loop [8] (fun i => ∃ k : Nat, k ≤ n ∧ i = .int .i64 k ∧ Hid (o ∉ L.take k)) (fun i => n - (intOf i).toNat)
 case atStart => exact ⟨0, Nat.zero_le _, rfl, Lib.hid (by simp)⟩
 case round =>
  obtain ⟨k, hk, rfl, HC⟩ := hrel
  by_cases hlt : k < n
  ·obtain ⟨ab, ao, o2, rfl, ho2, hal, hcells⟩ := HH.out.at_ hlt
   have g0 := hcells 0 _ rfl
   simp only [Nat.mul_one, Nat.add_zero] at g0
   by_cases e : o = o2
   ·subst e
    have HM := Lib.hid (List.mem_of_getElem? ho2)
    have hrun := run_eql_ptr_same w (⟨b, o, none⟩ : Addr) Tryd.underlying145 HJ.out.1
    clear hcells hal ho2
    go_wp2
    go_ret
    exact ⟨⟨_, rfl, by have := HM.out; simp [this]⟩, rfl⟩
   ·have HX := Lib.hid (take_succ_of L k o2 ho2)
    have hrun := run_eql_ptr_other w (a := (⟨b, o, none⟩ : Addr)) (b := (⟨b, o2, none⟩ : Addr)) Tryd.underlying145 HJ.out.1 HJ.out.2 (by simp [e]) HBK.out HBK.out
    clear hcells hal ho2
    go_wp2
    go_round
    case rel => exact ⟨k + 1, by omega, by go_num, Lib.hid (by rw [HX.out]; simp [HC.out, e])⟩
    case measure => simp [intOf]; omega
  ·have HM : Hid (o ∉ L) := Lib.hid (by
    have := HC.out
    rwa [List.take_of_length_le (by have := HH.out.len; omega)] at this)
   go_wp2
   go_ret
   exact ⟨⟨_, rfl, by have := HM.out; simp [this]⟩, rfl⟩
theorem containsP_t (b : Nat) (A : Option Addr) (n c : Nat) (L : List Nat) (o : Nat) (w : World) {t : TypeId} {cs : Array Value} (hb : Blk w b t cs) (h : Rd (encO b) 1 w A n L) (hn : n ≤ 1000) :
  Calls Tryd.prog 102 #[.slice A n c, .pointer (some ⟨b, o, none⟩)] w fun e w' => e = .returned (.bool (decide (o ∈ L))) ∧ w' = w := by
 have hcx := indexP_t b A n c L o w hb h hn
 clear h hb
 go_enter Tryd.func102, Tryd.ntmps102
 go_wp2_with fail
 (with_reducible refine hcx.mono ?_)
 clear hcx
 rintro e w2 ⟨⟨q, rfl, hq⟩, rfl⟩
 have HQ := Lib.hid hq
 clear hq
 go_wp2
 go_ret
 exact ⟨ret_bool HQ.out, rfl⟩
end Go.Proofs.YthhnocnkicoimaaDoor
