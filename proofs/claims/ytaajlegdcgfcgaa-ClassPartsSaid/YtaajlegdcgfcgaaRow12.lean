/-
  THE REFERENCE ROWS OF LAYER 12 AND 1: Has, Put, Drop, Same, each by its contract.
-/
import Derived.Test.YtaajlegdcgfcgaaLib
set_option linter.unusedVariables false
set_option linter.unusedSimpArgs false
namespace Go.Proofs.Ytaajlegdcgfcgaa
open Go.RowKit

theorem take_succ_of {α : Type} (l : List α) (k : Nat) (y : α) (h : l[k]? = some y) : l.take (k + 1) = l.take k ++ [y] := by
  rw [List.take_add_one, h]; rfl
theorem take_all {α : Type} (l : List α) (k n : Nat) (h : l.length = n) (hk : ¬ k < n) : l.take k = l := List.take_of_length_le (by omega)

set_option maxHeartbeats 400000 in
/-- reeveref12.Has -/
theorem has12 (A : Option Addr) (n c : Nat) (l : List Int) (x : Int) (w : World) (h : RdI w A n l) (hn : n ≤ 140737488351232) :
    Calls Try.prog 21 #[.slice A n c, .int .i64 x] w fun e w' => e = .returned (.bool (decide (x ∈ l))) ∧ w = w' := by
  go_enter Try.func21, Try.ntmps21
  go_wp2
  go_loop [5] (fun i => ∃ k : Nat, k ≤ n ∧ i = .int .i64 k ∧ Hid (x ∉ l.take k)) (fun i => n - (intOf i).toNat)
  case atStart => exact ⟨0, Nat.zero_le _, rfl, Lib.hid (by simp)⟩
  case round =>
    obtain ⟨k, hk, rfl, HC⟩ := hrel
    by_cases hlt : k < n
    · obtain ⟨ab, ao, y, rfl, hy, hcell⟩ := h.at_ hlt
      have HY := Lib.hid hy
      clear hy
      cases hxy : (y == x)
      · go_wp2
        go_round
        case rel =>
          refine ⟨k + 1, by omega, by go_num, Lib.hid ?_⟩
          rw [take_succ_of l k y HY.out, List.mem_append]
          rintro (hm | hm)
          · exact HC.out hm
          · rw [List.mem_singleton.1 hm] at hxy
            simp at hxy
        case measure => simp [intOf]; omega
      · go_wp2
        go_ret
        refine ⟨ret_bool ?_, rfl⟩
        rw [beq_iff_eq] at hxy
        subst hxy
        exact (decide_eq_true (List.mem_of_getElem? HY.out)).symm
    · go_wp2
      go_ret
      refine ⟨ret_bool ?_, rfl⟩
      have := HC.out
      rw [take_all l k n h.len hlt] at this
      exact (decide_eq_false this).symm

/-- Put, as a list. -/
def putR (l : List Int) (x : Int) : List Int := if x ∈ l then l else l.takeWhile (· < x) ++ x :: l.dropWhile (· < x)
theorem takeWhile_of_split {α : Type} (p : α → Bool) (l : List α) (k : Nat) (h1 : ∀ y ∈ l.take k, p y = true) (h2 : ∀ y, l[k]? = some y → p y = false) : l.takeWhile p = l.take k ∧ l.dropWhile p = l.drop k := by
  induction l generalizing k with
  | nil => simp
  | cons a r ih =>
    cases k with
    | zero => have := h2 a rfl; simp [List.takeWhile, List.dropWhile, this]
    | succ k =>
      have ha := h1 a (by simp)
      obtain ⟨e1, e2⟩ := ih k (fun y hy => h1 y (by simp [hy])) (fun y hy => h2 y (by simpa using hy))
      simp [List.takeWhile, List.dropWhile, ha, e1, e2]

set_option maxHeartbeats 800000 in
/-- reeveref12.Put: the row handed back is the old one or lies in new memory. -/
theorem put12 (A : Option Addr) (n c : Nat) (l : List Int) (x : Int) (w : World) (h : RdI w A n l) (hn : n ≤ 1000000) (hc : n ≤ c) :
    Calls Try.prog 22 #[.slice A n c, .int .i64 x] w fun e w' => ∃ A' n' c', e = .returned (.slice A' n' c') ∧ RdI w' A' n' (putR l x) ∧ n' ≤ c' ∧ Below w.heap.size w w' := by
  obtain ⟨i0, hi, hz0, hz1, hz2⟩ := info_parts Try.infoInt
  by_cases hx : x ∈ l
  · have hb : decide (x ∈ l) = true := decide_eq_true hx
    go_enter Try.func22, Try.ntmps22
    go_wp2_with (go_at_call 21; refine (has12 A n c l x _ h (by omega)).mono ?_; rintro e w' ⟨rfl, rfl⟩)
    go_ret
    exact ⟨A, n, c, rfl, by rw [putR, if_pos hx]; exact h, hc, Below.refl _ _⟩
  · have hb : decide (x ∈ l) = false := decide_eq_false hx
    go_enter Try.func22, Try.ntmps22
    go_wp2_with (go_at_call 21; refine (has12 A n c l x _ h (by omega)).mono ?_; rintro e w' ⟨rfl, rfl⟩)
    go_loop [5] (fun i => ∃ k : Nat, k ≤ n ∧ i = .int .i64 k ∧ Hid (∀ y ∈ l.take k, y < x)) (fun i => n - (intOf i).toNat)
    case atStart => exact ⟨0, Nat.zero_le _, rfl, Lib.hid (by simp)⟩
    case round =>
      obtain ⟨k, hk, rfl, HC⟩ := hrel
      by_cases hgo : ∃ y, l[k]? = some y ∧ y < x
      · obtain ⟨y, hy, hyx⟩ := hgo
        have hlt : k < n := by rw [← h.len]; exact (List.getElem?_eq_some_iff.1 hy).1
        obtain ⟨ab, ao, y', rfl, hy', hcell⟩ := h.at_ hlt
        obtain rfl : y' = y := by rw [hy] at hy'; exact (Option.some.inj hy').symm
        have HY := Lib.hid hy
        clear hy hy'
        go_wp2
        go_round
        case rel =>
          refine ⟨k + 1, by omega, by go_num, Lib.hid ?_⟩
          rw [take_succ_of l k y' HY.out]
          intro z hz
          rcases List.mem_append.1 hz with hz | hz
          · exact HC.out z hz
          · rw [List.mem_singleton.1 hz]; exact hyx
        case measure => simp [intOf]; omega
      · obtain ⟨i0, hi, hz0, hz1, hz2⟩ := info_parts Try.infoInt
        have hcell : k < n → ∃ ab ao y, A = some ⟨ab, ao, none⟩ ∧ l[k]? = some y ∧ w.cell? ⟨ab, ao + k, none⟩ = some (.int .i64 y) := fun hlt => h.at_ hlt
        have hcut := cut_to (P := Try.prog) 27 3 .i64 Try.underlying27 hi A n c k hk hc
        obtain ⟨A2, hcut2, hrd2⟩ := cut_from (P := Try.prog) 27 3 .i64 Try.underlying27 hi hz1 A n c k hk hc
        have hr1 := Rd.take h hk
        have hr2 := hrd2 _ _ _ _ h
        have hfin : putR l x = l.take k ++ [x] ++ l.drop k := by
          obtain ⟨e1, e2⟩ := takeWhile_of_split (fun y => decide (y < x)) l k (fun y hy => decide_eq_true (HC.out y hy)) (fun y hy => decide_eq_false (fun hyx => hgo ⟨y, hy, hyx⟩))
          rw [putR, if_neg hx, e1, e2, List.append_assoc]; rfl
        have HF := Lib.hid hfin
        clear hfin
        have hcases : (¬ k < n) ∨ ∃ ab ao y, k < n ∧ A = some ⟨ab, ao, none⟩ ∧ l[k]? = some y ∧ w.cell? ⟨ab, ao + k, none⟩ = some (.int .i64 y) ∧ ¬ y < x := by
          by_cases hlt : k < n
          · obtain ⟨ab, ao, y, e, hy, hcl⟩ := hcell hlt
            exact .inr ⟨ab, ao, y, hlt, e, hy, hcl, fun hyx => hgo ⟨y, hy, hyx⟩⟩
          · exact .inl hlt
        clear hcell hgo
        rcases hcases with hge | ⟨ab, ao, y, hlt, rfl, hy, hcl, hyx⟩
        all_goals
          try (have HY := Lib.hid hy; clear hy)
          go_wp2_with (first
            | (at_builtin; refine wp_app (enc := encI) (fun _ => rfl) (by simp [encI, Value.oneCell']) rfl (.tmp 25) (.tmp 28) 27 rfl 3 (.int .i64 0) 8 Try.underlying27 Try.infoInt rfl (by decide) w.heap.size none 0 0 [] rfl (OwnL.nil _ _) _ k _ _ rfl hr1 k (by omega) _ (by rw [List.nil_append]) (by omega) (by omega) (Nat.le_refl _) ?_; intro A3 c3 w3 ho3 hg3 _; have hb3 := (Below.refl w.heap.size w).grown hg3 (Nat.le_refl _) (by simp [Value.ownBlock]))
            | (at_builtin; refine wp_app (enc := encI) (fun _ => rfl) (by simp [encI, Value.oneCell']) rfl (.tmp 30) (.tmp 32) 27 rfl 3 (.int .i64 0) 8 Try.underlying27 Try.infoInt rfl (by decide) w.heap.size _ k _ _ rfl (ho3.alloc _) _ 1 _ [x] rfl (Rd.new1 _ x _ _ _ rfl) (k + 1) rfl _ rfl (by omega) (by omega) (by have := hb3.size; simp; omega) ?_; intro A4 c4 w4 ho4 hg4 _; have hb4 := (hb3.alloc hb3.size _).grown hg4 (by have := hb3.size; simp; omega) (own_block_ge ho3))
            | (at_builtin; refine wp_app (enc := encI) (fun _ => rfl) (by simp [encI, Value.oneCell']) rfl (.tmp 34) (.tmp 37) 27 rfl 3 (.int .i64 0) 8 Try.underlying27 Try.infoInt rfl (by decide) w.heap.size _ (k + 1) _ _ rfl ho4 _ (n - k) _ _ rfl (hr2.below hb4) (n + 1) (by omega) _ rfl (by omega) (by omega) (by have := hb4.size; omega) ?_; intro A5 c5 w5 ho5 hg5 _; have hb5 := hb4.grown hg5 (by have := hb4.size; omega) (own_block_ge ho4)))
          go_ret
          exact ⟨_, _, _, rfl, by rw [HF.out]; exact ho5.rd (fun _ => rfl), ho5.cap, hb5⟩

theorem filter_take_succ {α : Type} (p : α → Bool) (l : List α) (k : Nat) (y : α) (h : l[k]? = some y) : (l.take (k + 1)).filter p = (l.take k).filter p ++ (if p y then [y] else []) := by
  rw [take_succ_of l k y h, List.filter_append]
  cases hp : p y <;> simp [hp]

set_option maxHeartbeats 800000 in
/-- reeveref12.Drop -/
theorem drop12 (A : Option Addr) (n c : Nat) (l : List Int) (x : Int) (w : World) (h : RdI w A n l) (hn : n ≤ 1000000) :
    Calls Try.prog 24 #[.slice A n c, .int .i64 x] w fun e w' => ∃ A' n' c', e = .returned (.slice A' n' c') ∧ RdI w' A' n' (l.filter (· != x)) ∧ n' ≤ c' ∧ Below w.heap.size w w' := by
  go_enter Try.func24, Try.ntmps24
  go_wp2
  go_loopw [5, 6] (fun v i wr => ∃ (k m cr : Nat) (Ar : Option Addr), k ≤ n ∧ i = .int .i64 k ∧ v = .slice Ar m cr ∧ OwnL encI 3 1 wr w.heap.size Ar m cr ((l.take k).filter (· != x)) ∧ Below w.heap.size w wr) (fun _ i _ => n - (intOf i).toNat)
  case atStart => exact ⟨0, 0, 0, none, Nat.zero_le _, rfl, rfl, OwnL.nil _ _, Below.refl _ _⟩
  case round =>
    obtain ⟨k, m, cr, Ar, hk, rfl, rfl, ho, hb⟩ := hrel
    have hmk : m ≤ k := by have := ho.len; have := List.length_filter_le (· != x) (l.take k); have := List.length_take_le k l; omega
    by_cases hlt : k < n
    · obtain ⟨ab, ao, y, rfl, hy, hcell⟩ := RdI.at_ (h.below hb) hlt
      have hfs := filter_take_succ (· != x) l k y hy
      have HY := Lib.hid hfs
      clear hfs hy
      cases hxy : (y != x)
      · go_wp2
        go_roundw
        case rel => exact ⟨k + 1, m, cr, Ar, by omega, by go_num, rfl, by rw [HY.out, hxy]; simpa using ho, hb⟩
        case measure => simp [intOf]; omega
      · go_wp2_with (at_builtin; refine wp_app (enc := encI) (fun _ => rfl) (by simp [encI, Value.oneCell']) rfl (.tmp 19) (.tmp 24) 27 rfl 3 (.int .i64 0) 8 Try.underlying27 Try.infoInt rfl (by decide) w.heap.size _ m _ _ rfl (ho.alloc _) _ 1 _ [y] rfl (Rd.new1 _ y _ _ _ rfl) (m + 1) rfl _ rfl (by omega) (by omega) (by have := hb.size; simp; omega) ?_; intro A4 c4 w4 ho4 hg4 _; have hb4 := (hb.alloc hb.size _).grown hg4 (by have := hb.size; simp; omega) (own_block_ge ho))
        go_roundw
        case rel => exact ⟨k + 1, m + 1, c4, A4, by omega, by go_num, rfl, by rw [HY.out, hxy]; exact ho4, hb4⟩
        case measure => simp [intOf]; omega
    · go_wp2
      go_ret
      have hl := ho.rd (sz := 1) (enc := encI) (fun _ => rfl)
      rw [take_all l k n h.len hlt] at hl
      exact ⟨Ar, m, cr, rfl, hl, ho.cap, hb⟩

theorem eq_of_take {α : Type} (l m : List α) (k n : Nat) (hl : l.length = n) (hm : m.length = n) (hk : ¬ k < n) (h : l.take k = m.take k) : l = m := by
  rw [take_all l k n hl hk, take_all m k n hm hk] at h
  exact h

set_option maxHeartbeats 800000 in
/-- reeveref01.Same -/
theorem same01 (A B : Option Addr) (n c m d : Nat) (l r : List Int) (w : World) (h : RdI w A n l) (h' : RdI w B m r) (hn : n ≤ 140737488351232) (hm : m ≤ 140737488351232) :
    Calls Try.prog 16 #[.slice A n c, .slice B m d] w fun e w' => e = .returned (.bool (decide (l = r))) ∧ ∃ q, w' = w.drewN q := by
  by_cases hnm : n = m
  · have hbq : ((n : Int) != (m : Int)) = false := by rw [bne_eq_false_iff_eq]; omega
    have hle : m ≤ n := by omega
    have hge : n ≤ m := by omega
    have HNM := Lib.hid hnm
    clear hnm
    go_enter Try.func16, Try.ntmps16
    go_wp2
    go_loopw [5] (fun i wr => ∃ k q : Nat, k ≤ n ∧ i = .int .i64 k ∧ Hid (l.take k = r.take k) ∧ wr = w.drewN q) (fun i _ => n - (intOf i).toNat)
    case atStart => exact ⟨0, 0, Nat.zero_le _, rfl, Lib.hid rfl, rfl⟩
    case round =>
      obtain ⟨k, q, hk, rfl, HC, rfl⟩ := hrel
      by_cases hlt : k < n
      · obtain ⟨ab, ao, y, rfl, hy, hcell⟩ := h.at_ hlt
        obtain ⟨bb, bo, z, rfl, hz, hcell'⟩ := h'.at_ (show k < m by omega)
        have hltm : k < m := by omega
        have HY := Lib.hid hy
        have HZ := Lib.hid hz
        clear hy hz
        cases hxy : (y != z)
        · go_wp2
          go_quiet (fail)
          go_wp2
          go_roundw
          case rel =>
            refine ⟨k + 1, q + nq, by omega, by go_num, Lib.hid ?_, by first | rfl | exact World.drewN_drewN ..⟩
            rw [take_succ_of l k y HY.out, take_succ_of r k z HZ.out, HC.out, bne_eq_false_iff_eq.1 hxy]
          case measure => simp [intOf]; omega
        · go_wp2
          go_quiet (fail)
          go_wp2
          go_ret
          refine ⟨ret_bool (decide_eq_false ?_).symm, q + nq, by first | rfl | exact World.drewN_drewN ..⟩
          intro e
          have h1 := HY.out
          have h2 := HZ.out
          rw [e, h2] at h1
          injection h1 with h1
          subst h1
          simp at hxy
      · go_wp2
        go_ret
        exact ⟨ret_bool (decide_eq_true (eq_of_take l r k n h.len (by rw [h'.len]; exact HNM.out.symm) hlt HC.out)).symm, _, rfl⟩
  · have hbq : ((n : Int) != (m : Int)) = true := by rw [bne_iff_ne]; omega
    go_enter Try.func16, Try.ntmps16
    go_wp2
    go_ret
    exact ⟨ret_bool (decide_eq_false (fun e => hnm (by rw [← h.len, ← h'.len, e]))).symm, 0, rfl⟩

theorem same01_t (A B : Option Addr) (n c m d : Nat) (l : List Int) (w : World) (h : RdI w A n l) (h' : RdI w B m l) (hn : n ≤ 140737488351232) (hm : m ≤ 140737488351232) :
    Calls Try.prog 16 #[.slice A n c, .slice B m d] w fun e w' => e = .returned (.bool true) ∧ ∃ q, w' = w.drewN q :=
  (same01 A B n c m d l l w h h' hn hm).mono fun e w' hh => ⟨hh.1.trans (ret_bool (decide_eq_true rfl)), hh.2⟩

end Go.Proofs.Ytaajlegdcgfcgaa
