/-
 reeveref12.Has, by its contract.
 reeveref12.Put, by its contract.
 reeveref12.Drop, by its contract.
 reeveref12.Put and Drop, by their contracts, with where the row that they hand back lies.
-/
import Derived.Test.YthhnocnkicoimaaDoorPlain
set_option linter.unusedVariables false
set_option linter.unusedSimpArgs false
namespace Go.Proofs.YthhnocnkicoimaaDoor
open Go.RowKit

set_option maxHeartbeats 400000 in
/-- reeveref12.Has -/
theorem has12 (A : Option Addr) (n c : Nat) (l : List Int) (x : Int) (w : World) (h : RdI w A n l) (hn : n ≤ 140737488351232) :
  Calls Tryd.prog 21 #[.slice A n c, .int .i64 x] w fun e w' => e = .returned (.bool (decide (x ∈ l))) ∧ w = w' := by
 go_enter Tryd.func21, Tryd.ntmps21
 go_wp2
 go_loop [5] (fun i => ∃ k : Nat, k ≤ n ∧ i = .int .i64 k ∧ Hid (x ∉ l.take k)) (fun i => n - (intOf i).toNat)
 case atStart => exact ⟨0, Nat.zero_le _, rfl, Lib.hid (by simp)⟩
 case round =>
  obtain ⟨k, hk, rfl, HC⟩ := hrel
  by_cases hlt : k < n
  ·obtain ⟨ab, ao, y, rfl, hy, hcell⟩ := h.at_ hlt
   have HY := Lib.hid hy
   clear hy
   cases hxy : (y == x)
   ·go_wp2
    go_round
    case rel =>
     refine ⟨k + 1, by omega, by go_num, Lib.hid ?_⟩
     rw [take_succ_of l k y HY.out, List.mem_append]
     rintro (hm | hm)
     ·exact HC.out hm
     ·rw [List.mem_singleton.1 hm] at hxy
      simp at hxy
    case measure => simp [intOf]; omega
   ·go_wp2
    go_ret
    refine ⟨ret_bool ?_, rfl⟩
    rw [beq_iff_eq] at hxy
    subst hxy
    exact (decide_eq_true (List.mem_of_getElem? HY.out)).symm
  ·go_wp2
   go_ret
   refine ⟨ret_bool ?_, rfl⟩
   have := HC.out
   rw [take_all l k n h.len hlt] at this
   exact (decide_eq_false this).symm

end Go.Proofs.YthhnocnkicoimaaDoor
namespace Go.Proofs.YthhnocnkicoimaaDoor
open Go.RowKit

set_option maxHeartbeats 800000 in
/-- reeveref12.Put: the row handed back is the old one or lies in new memory. -/
theorem put12 (A : Option Addr) (n c : Nat) (l : List Int) (x : Int) (w : World) (h : RdI w A n l) (hn : n ≤ 1000000) (hc : n ≤ c) :
  Calls Tryd.prog 44 #[.slice A n c, .int .i64 x] w fun e w' => ∃ A' n' c', e = .returned (.slice A' n' c') ∧ RdI w' A' n' (putR l x) ∧ n' ≤ c' ∧ Below w.heap.size w w' := by
 obtain ⟨i0, hi, hz0, hz1, hz2⟩ := info_parts Tryd.infoInt
 by_cases hx : x ∈ l
 ·have hb : decide (x ∈ l) = true := decide_eq_true hx
  go_enter Tryd.func44, Tryd.ntmps44
  go_wp2_with (go_at_call 21; refine (has12 A n c l x _ h (by omega)).mono ?_; rintro e w' ⟨rfl, rfl⟩)
  go_ret
  exact ⟨A, n, c, rfl, by rw [putR, if_pos hx]; exact h, hc, Below.refl _ _⟩
 ·have hb : decide (x ∈ l) = false := decide_eq_false hx
  go_enter Tryd.func44, Tryd.ntmps44
  go_wp2_with (go_at_call 21; refine (has12 A n c l x _ h (by omega)).mono ?_; rintro e w' ⟨rfl, rfl⟩)
  go_loop [5] (fun i => ∃ k : Nat, k ≤ n ∧ i = .int .i64 k ∧ Hid (∀ y ∈ l.take k, y < x)) (fun i => n - (intOf i).toNat)
  case atStart => exact ⟨0, Nat.zero_le _, rfl, Lib.hid (by simp)⟩
  case round =>
   obtain ⟨k, hk, rfl, HC⟩ := hrel
   by_cases hgo : ∃ y, l[k]? = some y ∧ y < x
   ·obtain ⟨y, hy, hyx⟩ := hgo
    have hlt : k < n := by rw [← h.len]; exact (List.getElem?_eq_some_iff.1 hy).1
    obtain ⟨ab, ao, y', rfl, hy', hcell⟩ := h.at_ hlt
    obtain rfl : y' = y := by rw [hy] at hy'; exact (Option.some.inj hy').symm
    have HY := Lib.hid hy
    clear hy hy'
    go_wp2
    go_round
    case rel =>
     refine ⟨k + 1, by omega, by go_num, Lib.hid ?_⟩
     rw [take_succ_of l k y' HY.out]
     intro z hz
     rcases List.mem_append.1 hz with hz | hz
     ·exact HC.out z hz
     ·rw [List.mem_singleton.1 hz]; exact hyx
    case measure => simp [intOf]; omega
   ·obtain ⟨i0, hi, hz0, hz1, hz2⟩ := info_parts Tryd.infoInt
    have hcell : k < n → ∃ ab ao y, A = some ⟨ab, ao, none⟩ ∧ l[k]? = some y ∧ w.cell? ⟨ab, ao + k, none⟩ = some (.int .i64 y) := fun hlt => h.at_ hlt
    have hcut := cut_to (P := Tryd.prog) 29 3 .i64 Tryd.underlying29 hi A n c k hk hc
    obtain ⟨A2, hcut2, hrd2⟩ := cut_from (P := Tryd.prog) 29 3 .i64 Tryd.underlying29 hi hz1 A n c k hk hc
    have hr1 := Rd.take h hk
    have hr2 := hrd2 _ _ _ _ h
    have hfin : putR l x = l.take k ++ [x] ++ l.drop k := by
     obtain ⟨e1, e2⟩ := takeWhile_of_split (fun y => decide (y < x)) l k (fun y hy => decide_eq_true (HC.out y hy)) (fun y hy => decide_eq_false (fun hyx => hgo ⟨y, hy, hyx⟩))
     rw [putR, if_neg hx, e1, e2, List.append_assoc]; rfl
    have HF := Lib.hid hfin
    clear hfin
    have hcases : (¬ k < n) ∨ ∃ ab ao y, k < n ∧ A = some ⟨ab, ao, none⟩ ∧ l[k]? = some y ∧ w.cell? ⟨ab, ao + k, none⟩ = some (.int .i64 y) ∧ ¬ y < x := by
     by_cases hlt : k < n
     ·obtain ⟨ab, ao, y, e, hy, hcl⟩ := hcell hlt
      exact .inr ⟨ab, ao, y, hlt, e, hy, hcl, fun hyx => hgo ⟨y, hy, hyx⟩⟩
     ·exact .inl hlt
    clear hcell hgo
    rcases hcases with hge | ⟨ab, ao, y, hlt, rfl, hy, hcl, hyx⟩
    all_goals
     try (have HY := Lib.hid hy; clear hy)
     go_wp2_with (first
      | (at_builtin; refine wp_app (enc := encI) (fun _ => rfl) (by simp [encI, Value.oneCell']) rfl (.tmp 25) (.tmp 28) 29 rfl 3 (.int .i64 0) 8 Tryd.underlying29 Tryd.infoInt rfl (by decide) w.heap.size none 0 0 [] rfl (OwnL.nil _ _) _ k _ _ rfl hr1 k (by omega) _ (by rw [List.nil_append]) (by omega) (by omega) (Nat.le_refl _) ?_; intro A3 c3 w3 ho3 hg3 _; have hb3 := (Below.refl w.heap.size w).grown hg3 (Nat.le_refl _) (by simp [Value.ownBlock]))
      | (at_builtin; refine wp_app (enc := encI) (fun _ => rfl) (by simp [encI, Value.oneCell']) rfl (.tmp 30) (.tmp 32) 29 rfl 3 (.int .i64 0) 8 Tryd.underlying29 Tryd.infoInt rfl (by decide) w.heap.size _ k _ _ rfl (ho3.alloc _) _ 1 _ [x] rfl (Rd.new1 _ x _ _ _ rfl) (k + 1) rfl _ rfl (by omega) (by omega) (by have := hb3.size; simp; omega) ?_; intro A4 c4 w4 ho4 hg4 _; have hb4 := (hb3.alloc hb3.size _).grown hg4 (by have := hb3.size; simp; omega) (own_block_ge ho3))
      | (at_builtin; refine wp_app (enc := encI) (fun _ => rfl) (by simp [encI, Value.oneCell']) rfl (.tmp 34) (.tmp 37) 29 rfl 3 (.int .i64 0) 8 Tryd.underlying29 Tryd.infoInt rfl (by decide) w.heap.size _ (k + 1) _ _ rfl ho4 _ (n - k) _ _ rfl (hr2.below hb4) (n + 1) (by omega) _ rfl (by omega) (by omega) (by have := hb4.size; omega) ?_; intro A5 c5 w5 ho5 hg5 _; have hb5 := hb4.grown hg5 (by have := hb4.size; omega) (own_block_ge ho4)))
     go_ret
     exact ⟨_, _, _, rfl, by rw [HF.out]; exact ho5.rd (fun _ => rfl), ho5.cap, hb5⟩

end Go.Proofs.YthhnocnkicoimaaDoor
namespace Go.Proofs.YthhnocnkicoimaaDoor
open Go.RowKit

set_option maxHeartbeats 800000 in
/-- reeveref12.Drop -/
theorem drop12 (A : Option Addr) (n c : Nat) (l : List Int) (x : Int) (w : World) (h : RdI w A n l) (hn : n ≤ 1000000) :
  Calls Tryd.prog 46 #[.slice A n c, .int .i64 x] w fun e w' => ∃ A' n' c', e = .returned (.slice A' n' c') ∧ RdI w' A' n' (l.filter (· != x)) ∧ n' ≤ c' ∧ Below w.heap.size w w' := by
 go_enter Tryd.func46, Tryd.ntmps46
 go_wp2
 go_loopw [5, 6] (fun v i wr => ∃ (k m cr : Nat) (Ar : Option Addr), k ≤ n ∧ i = .int .i64 k ∧ v = .slice Ar m cr ∧ OwnL encI 3 1 wr w.heap.size Ar m cr ((l.take k).filter (· != x)) ∧ Below w.heap.size w wr) (fun _ i _ => n - (intOf i).toNat)
 case atStart => exact ⟨0, 0, 0, none, Nat.zero_le _, rfl, rfl, OwnL.nil _ _, Below.refl _ _⟩
 case round =>
  obtain ⟨k, m, cr, Ar, hk, rfl, rfl, ho, hb⟩ := hrel
  have hmk : m ≤ k := by have := ho.len; have := List.length_filter_le (· != x) (l.take k); have := List.length_take_le k l; omega
  by_cases hlt : k < n
  ·obtain ⟨ab, ao, y, rfl, hy, hcell⟩ := RdI.at_ (h.below hb) hlt
   have hfs := filter_take_succ (· != x) l k y hy
   have HY := Lib.hid hfs
   clear hfs hy
   cases hxy : (y != x)
   ·go_wp2
    go_roundw
    case rel => exact ⟨k + 1, m, cr, Ar, by omega, by go_num, rfl, by rw [HY.out, hxy]; simpa using ho, hb⟩
    case measure => simp [intOf]; omega
   ·go_wp2_with (at_builtin; refine wp_app (enc := encI) (fun _ => rfl) (by simp [encI, Value.oneCell']) rfl (.tmp 19) (.tmp 24) 29 rfl 3 (.int .i64 0) 8 Tryd.underlying29 Tryd.infoInt rfl (by decide) w.heap.size _ m _ _ rfl (ho.alloc _) _ 1 _ [y] rfl (Rd.new1 _ y _ _ _ rfl) (m + 1) rfl _ rfl (by omega) (by omega) (by have := hb.size; simp; omega) ?_; intro A4 c4 w4 ho4 hg4 _; have hb4 := (hb.alloc hb.size _).grown hg4 (by have := hb.size; simp; omega) (own_block_ge ho))
    go_roundw
    case rel => exact ⟨k + 1, m + 1, c4, A4, by omega, by go_num, rfl, by rw [HY.out, hxy]; exact ho4, hb4⟩
    case measure => simp [intOf]; omega
  ·go_wp2
   go_ret
   have hl := ho.rd (sz := 1) (enc := encI) (fun _ => rfl)
   rw [take_all l k n h.len hlt] at hl
   exact ⟨Ar, m, cr, rfl, hl, ho.cap, hb⟩

end Go.Proofs.YthhnocnkicoimaaDoor
namespace Go.Proofs.YthhnocnkicoimaaDoor
open Go.RowKit

theorem Rd.lt_ {α : Type} {enc : α → List Value} {sz : Nat} {w : World} {A : Option Addr} {n : Nat} {l : List α} (h : Rd enc sz w A n l) (hn : 0 < n) : ∀ ad, A = some ad → ad.block < w.heap.size := by
 intro ad ha
 obtain ⟨b, o, e, hlt, _⟩ := h.cells hn
 rw [ha] at e
 cases e
 exact hlt
set_option maxHeartbeats 800000 in
/-- reeveref12.Put: the row handed back is the old one or lies in new memory. -/
theorem put12s (A : Option Addr) (n c : Nat) (l : List Int) (x : Int) (w : World) (h : RdI w A n l) (hn : n ≤ 1000000) (hc : n ≤ c) :
  Calls Tryd.prog 44 #[.slice A n c, .int .i64 x] w fun e w' => ∃ A' n' c', e = .returned (.slice A' n' c') ∧ RdI w' A' n' (putR l x) ∧ n' ≤ c' ∧ Below w.heap.size w w' ∧ ((A' = A ∧ n' = n) ∨ ∀ ad, A' = some ad → w.heap.size ≤ ad.block ∧ ad.block < w'.heap.size) := by
 obtain ⟨i0, hi, hz0, hz1, hz2⟩ := info_parts Tryd.infoInt
 by_cases hx : x ∈ l
 ·have hb : decide (x ∈ l) = true := decide_eq_true hx
  go_enter Tryd.func44, Tryd.ntmps44
  go_wp2_with (go_at_call 21; refine (has12 A n c l x _ h (by omega)).mono ?_; rintro e w' ⟨rfl, rfl⟩)
  go_ret
  exact ⟨A, n, c, rfl, by rw [putR, if_pos hx]; exact h, hc, Below.refl _ _, .inl ⟨rfl, rfl⟩⟩
 ·have hb : decide (x ∈ l) = false := decide_eq_false hx
  go_enter Tryd.func44, Tryd.ntmps44
  go_wp2_with (go_at_call 21; refine (has12 A n c l x _ h (by omega)).mono ?_; rintro e w' ⟨rfl, rfl⟩)
  go_loop [5] (fun i => ∃ k : Nat, k ≤ n ∧ i = .int .i64 k ∧ Hid (∀ y ∈ l.take k, y < x)) (fun i => n - (intOf i).toNat)
  case atStart => exact ⟨0, Nat.zero_le _, rfl, Lib.hid (by simp)⟩
  case round =>
   obtain ⟨k, hk, rfl, HC⟩ := hrel
   by_cases hgo : ∃ y, l[k]? = some y ∧ y < x
   ·obtain ⟨y, hy, hyx⟩ := hgo
    have hlt : k < n := by rw [← h.len]; exact (List.getElem?_eq_some_iff.1 hy).1
    obtain ⟨ab, ao, y', rfl, hy', hcell⟩ := h.at_ hlt
    obtain rfl : y' = y := by rw [hy] at hy'; exact (Option.some.inj hy').symm
    have HY := Lib.hid hy
    clear hy hy'
    go_wp2
    go_round
    case rel =>
     refine ⟨k + 1, by omega, by go_num, Lib.hid ?_⟩
     rw [take_succ_of l k y' HY.out]
     intro z hz
     rcases List.mem_append.1 hz with hz | hz
     ·exact HC.out z hz
     ·rw [List.mem_singleton.1 hz]; exact hyx
    case measure => simp [intOf]; omega
   ·obtain ⟨i0, hi, hz0, hz1, hz2⟩ := info_parts Tryd.infoInt
    have hcell : k < n → ∃ ab ao y, A = some ⟨ab, ao, none⟩ ∧ l[k]? = some y ∧ w.cell? ⟨ab, ao + k, none⟩ = some (.int .i64 y) := fun hlt => h.at_ hlt
    have hcut := cut_to (P := Tryd.prog) 29 3 .i64 Tryd.underlying29 hi A n c k hk hc
    obtain ⟨A2, hcut2, hrd2⟩ := cut_from (P := Tryd.prog) 29 3 .i64 Tryd.underlying29 hi hz1 A n c k hk hc
    have hr1 := Rd.take h hk
    have hr2 := hrd2 _ _ _ _ h
    have hfin : putR l x = l.take k ++ [x] ++ l.drop k := by
     obtain ⟨e1, e2⟩ := takeWhile_of_split (fun y => decide (y < x)) l k (fun y hy => decide_eq_true (HC.out y hy)) (fun y hy => decide_eq_false (fun hyx => hgo ⟨y, hy, hyx⟩))
     rw [putR, if_neg hx, e1, e2, List.append_assoc]; rfl
    have HF := Lib.hid hfin
    clear hfin
    have hcases : (¬ k < n) ∨ ∃ ab ao y, k < n ∧ A = some ⟨ab, ao, none⟩ ∧ l[k]? = some y ∧ w.cell? ⟨ab, ao + k, none⟩ = some (.int .i64 y) ∧ ¬ y < x := by
     by_cases hlt : k < n
     ·obtain ⟨ab, ao, y, e, hy, hcl⟩ := hcell hlt
      exact .inr ⟨ab, ao, y, hlt, e, hy, hcl, fun hyx => hgo ⟨y, hy, hyx⟩⟩
     ·exact .inl hlt
    clear hcell hgo
    rcases hcases with hge | ⟨ab, ao, y, hlt, rfl, hy, hcl, hyx⟩
    all_goals
     try (have HY := Lib.hid hy; clear hy)
     go_wp2_with (first
      | (at_builtin; refine wp_app (enc := encI) (fun _ => rfl) (by simp [encI, Value.oneCell']) rfl (.tmp 25) (.tmp 28) 29 rfl 3 (.int .i64 0) 8 Tryd.underlying29 Tryd.infoInt rfl (by decide) w.heap.size none 0 0 [] rfl (OwnL.nil _ _) _ k _ _ rfl hr1 k (by omega) _ (by rw [List.nil_append]) (by omega) (by omega) (Nat.le_refl _) ?_; intro A3 c3 w3 ho3 hg3 _; have hb3 := (Below.refl w.heap.size w).grown hg3 (Nat.le_refl _) (by simp [Value.ownBlock]))
      | (at_builtin; refine wp_app (enc := encI) (fun _ => rfl) (by simp [encI, Value.oneCell']) rfl (.tmp 30) (.tmp 32) 29 rfl 3 (.int .i64 0) 8 Tryd.underlying29 Tryd.infoInt rfl (by decide) w.heap.size _ k _ _ rfl (ho3.alloc _) _ 1 _ [x] rfl (Rd.new1 _ x _ _ _ rfl) (k + 1) rfl _ rfl (by omega) (by omega) (by have := hb3.size; simp; omega) ?_; intro A4 c4 w4 ho4 hg4 _; have hb4 := (hb3.alloc hb3.size _).grown hg4 (by have := hb3.size; simp; omega) (own_block_ge ho3))
      | (at_builtin; refine wp_app (enc := encI) (fun _ => rfl) (by simp [encI, Value.oneCell']) rfl (.tmp 34) (.tmp 37) 29 rfl 3 (.int .i64 0) 8 Tryd.underlying29 Tryd.infoInt rfl (by decide) w.heap.size _ (k + 1) _ _ rfl ho4 _ (n - k) _ _ rfl (hr2.below hb4) (n + 1) (by omega) _ rfl (by omega) (by omega) (by have := hb4.size; omega) ?_; intro A5 c5 w5 ho5 hg5 _; have hb5 := hb4.grown hg5 (by have := hb4.size; omega) (own_block_ge ho4)))
     go_ret
     exact ⟨_, _, _, rfl, by rw [HF.out]; exact ho5.rd (fun _ => rfl), ho5.cap, hb5, .inr fun ad ha => ho5.at_base ad ha⟩

set_option maxHeartbeats 800000 in
/-- reeveref12.Drop -/
theorem drop12s (A : Option Addr) (n c : Nat) (l : List Int) (x : Int) (w : World) (h : RdI w A n l) (hn : n ≤ 1000000) :
  Calls Tryd.prog 46 #[.slice A n c, .int .i64 x] w fun e w' => ∃ A' n' c', e = .returned (.slice A' n' c') ∧ RdI w' A' n' (l.filter (· != x)) ∧ n' ≤ c' ∧ Below w.heap.size w w' ∧ (∀ ad, A' = some ad → (w.heap.size ≤ ad.block ∧ ad.block < w'.heap.size)) := by
 go_enter Tryd.func46, Tryd.ntmps46
 go_wp2
 go_loopw [5, 6] (fun v i wr => ∃ (k m cr : Nat) (Ar : Option Addr), k ≤ n ∧ i = .int .i64 k ∧ v = .slice Ar m cr ∧ OwnL encI 3 1 wr w.heap.size Ar m cr ((l.take k).filter (· != x)) ∧ Below w.heap.size w wr) (fun _ i _ => n - (intOf i).toNat)
 case atStart => exact ⟨0, 0, 0, none, Nat.zero_le _, rfl, rfl, OwnL.nil _ _, Below.refl _ _⟩
 case round =>
  obtain ⟨k, m, cr, Ar, hk, rfl, rfl, ho, hb⟩ := hrel
  have hmk : m ≤ k := by have := ho.len; have := List.length_filter_le (· != x) (l.take k); have := List.length_take_le k l; omega
  by_cases hlt : k < n
  ·obtain ⟨ab, ao, y, rfl, hy, hcell⟩ := RdI.at_ (h.below hb) hlt
   have hfs := filter_take_succ (· != x) l k y hy
   have HY := Lib.hid hfs
   clear hfs hy
   cases hxy : (y != x)
   ·go_wp2
    go_roundw
    case rel => exact ⟨k + 1, m, cr, Ar, by omega, by go_num, rfl, by rw [HY.out, hxy]; simpa using ho, hb⟩
    case measure => simp [intOf]; omega
   ·go_wp2_with (at_builtin; refine wp_app (enc := encI) (fun _ => rfl) (by simp [encI, Value.oneCell']) rfl (.tmp 19) (.tmp 24) 29 rfl 3 (.int .i64 0) 8 Tryd.underlying29 Tryd.infoInt rfl (by decide) w.heap.size _ m _ _ rfl (ho.alloc _) _ 1 _ [y] rfl (Rd.new1 _ y _ _ _ rfl) (m + 1) rfl _ rfl (by omega) (by omega) (by have := hb.size; simp; omega) ?_; intro A4 c4 w4 ho4 hg4 _; have hb4 := (hb.alloc hb.size _).grown hg4 (by have := hb.size; simp; omega) (own_block_ge ho))
    go_roundw
    case rel => exact ⟨k + 1, m + 1, c4, A4, by omega, by go_num, rfl, by rw [HY.out, hxy]; exact ho4, hb4⟩
    case measure => simp [intOf]; omega
  ·go_wp2
   go_ret
   have hl := ho.rd (sz := 1) (enc := encI) (fun _ => rfl)
   rw [take_all l k n h.len hlt] at hl
   exact ⟨Ar, m, cr, rfl, hl, ho.cap, hb, fun ad ha => ho.at_base ad ha⟩

end Go.Proofs.YthhnocnkicoimaaDoor
