/-
  Events of nobody; awake; PlaceTells by its contract.
-/
import Derived.Test.YtcfninipcghbmaaPlaceM
import Derived.Test.YtcfninipcghbmaaPlaceF
import Derived.Test.YtcfninipcghbmaaSame01
import Derived.Test.YtcfninipcghbmaaTEvent
set_option linter.unusedVariables false
set_option linter.unusedSimpArgs false
namespace Go.Proofs.Ytcfninipcghbmaa
open Go.Shelf Go.RowKit Go.Sort

set_option maxRecDepth 100000 in
theorem nodeNil_t (x : Int) (w : World) : Calls Try.prog 70 #[.pointer none, .int .i64 x] w fun e w' => e = .returned (.tuple #[aggNode zeroN, .bool false]) ∧ Below w.heap.size w w' := by
  have hb := Blk.new w 38 (boxNode zeroN)
  have hB : Below w.heap.size w (w.alloc (.cells (boxNode zeroN) 38)) := (Below.refl _ _).alloc (Nat.le_refl _) _
  simp only [boxNode, zeroN] at hb hB
  go_enter Try.func70, Try.ntmps70
  go_wp2
  exact bodyPost_ret (v := .tuple #[aggNode zeroN, .bool false]) (by simp [results, Try.results70, go_sem, zeroN]) rfl ⟨rfl, hB⟩
def evOf (a : LAssign) : LEvent := ⟨6, a.node, a.job, 0, 0, ⟨0, 0, 0⟩⟩
set_option maxRecDepth 100000 in
set_option maxHeartbeats 1600000 in
theorem eventsNil_t (A : Option Addr) (n c : Nat) (l : List LAssign) (w : World) (h : Rd encAssign 2 w A n l) (hn : n ≤ 1000) :
    Calls Try.prog 46 #[.pointer none, .slice A n c] w fun e w' => ∃ A' c', e = .returned (.slice A' n c') ∧ OwnL encEvent 115 8 w' w.heap.size A' n c' (l.map evOf) ∧ Below w.heap.size w w' := by
  have HH := Lib.hid h
  clear h
  go_enter Try.func46, Try.ntmps46
  go_wp2
  go_loopw [5, 12] (fun v i wr => ∃ (k : Nat) (A' : Option Addr) (c' : Nat), k ≤ n ∧ i = .int .i64 k ∧ v = .slice A' k c' ∧ OwnL encEvent 115 8 wr w.heap.size A' k c' ((l.take k).map evOf) ∧ Below w.heap.size w wr) (fun _ i _ => n - (intOf i).toNat)
  case atStart => exact ⟨0, none, 0, Nat.zero_le _, rfl, rfl, OwnL.nil _ _, Below.refl _ _⟩
  case round =>
    obtain ⟨k, A', c', hk, rfl, rfl, hO, hBq⟩ := hrel
    by_cases hlt : k < n
    · obtain ⟨ab, ao, x, rfl, hxx, hal, hcells⟩ := (HH.out.below hBq).at_ hlt
      have x0 := hcells 0 _ rfl
      have x1 := hcells 1 _ rfl
      simp only [Nat.add_zero] at x0
      have HXX := Lib.hid hxx
      have hbx := Blk.new wr 112 #[.int .i64 x.job, .int .i64 x.node]
      have y0 := hbx.cells_in (v := .int .i64 x.job) 0 rfl
      have y1 := hbx.cells_in (v := .int .i64 x.node) 1 rfl
      have hrr := Below.refl (wr.alloc (.cells #[.int .i64 x.job, .int .i64 x.node] 112)).heap.size (wr.alloc (.cells #[.int .i64 x.job, .int .i64 x.node] 112))
      have HX := Lib.hid (And.intro (hO.alloc (.cells #[.int .i64 x.job, .int .i64 x.node] 112)) (hBq.alloc hBq.size (.cells #[.int .i64 x.job, .int .i64 x.node] 112)))
      clear hcells hxx hO hBq hbx
      go_upto_region 5 with fail
      clear x0 x1
      generalize wr.alloc (.cells _ 112) = w3 at HX hrr y0 y1 ⊢
      go_wp2_with fail
      (with_reducible refine (nodeNil_t x.node w3).mono ?_)
      rintro e w4 ⟨rfl, hB4⟩
      obtain ⟨z, hz⟩ : ∃ z, zeroN = z := ⟨_, rfl⟩
      rw [hz]
      have HZ := Lib.hid (congrArg LNode.inc hz)
      clear hz
      have hb5 := (hrr.trans hB4).alloc (hrr.trans hB4).size (.cells (boxNode z) 38)
      have hzb := Blk.new w4 38 (boxNode z)
      have z1 : _ = some (Value.int .i64 z.inc) := hzb.cell 1
      clear hB4 hzb
      go_upto_region 6 with fail
      simp only [boxNode] at hb5 z1
      generalize w4.alloc (.cells _ 38) = w5 at hb5 z1 ⊢
      have HY := Lib.hid (And.intro (HX.out.1.below hb5) (HX.out.2.trans (hb5.mono HX.out.2.size)))
      go_wp2_with (at_builtin; refine wp_app (enc := encEvent) Event_len Event_one rfl (.tmp 23) (.tmp 31) 107 rfl 115 _ 64 Try.underlying107 Try.infoEvent rfl (by decide) w.heap.size _ k _ _ rfl (HY.out.1.alloc _) _ 1 _ [⟨6, x.node, x.job, z.inc, 0, ⟨0, 0, 0⟩⟩] (by rfl) (Rd.new1 _ (⟨6, x.node, x.job, z.inc, 0, ⟨0, 0, 0⟩⟩ : LEvent) _ _ _ rfl) (k + 1) rfl _ rfl (by omega) (by omega) (by have := HY.out.2.size; simp; omega) ?_; intro A6 c6 w6 ho6 hg6 _; have hb6 := (HY.out.2.alloc HY.out.2.size _).grown hg6 (by have := HY.out.2.size; simp; omega) (own_block_ge HY.out.1))
      go_roundw
      case rel => exact ⟨k + 1, A6, c6, by omega, by go_num, rfl, by rw [take_succ_of _ _ _ HXX.out, List.map_append, List.map_cons, List.map_nil, show evOf x = ⟨6, x.node, x.job, z.inc, 0, ⟨0, 0, 0⟩⟩ by rw [← HZ.out]; rfl]; exact ho6, hb6⟩
      case measure => simp [intOf]; omega
    · obtain rfl : k = n := by omega
      have hfull : l.take k = l := List.take_of_length_le (by have := HH.out.len; omega)
      rw [hfull] at hO
      have HO := Lib.hid (And.intro hO hBq)
      clear hO hBq hfull
      go_wp2
      go_ret
      exact ⟨A', c', rfl, HO.out.1, HO.out.2⟩
def awN : List LNode := [⟨1, 1, 0, ⟨4, 4, 4⟩, ⟨0, 0, 0⟩, true⟩, ⟨2, 1, 0, ⟨4, 4, 4⟩, ⟨0, 0, 0⟩, true⟩]
def awJ : List LJob := [⟨1, 0, 1, 1, -1, ⟨3, 0, 0⟩⟩, ⟨2, 0, 2, 1, -1, ⟨3, 0, 0⟩⟩, ⟨3, 0, 3, 1, -1, ⟨3, 0, 0⟩⟩]
theorem aw_out : (placeP awN awJ).out = [⟨1, 1⟩, ⟨2, 2⟩] := by decide +kernel
theorem aw_left : (placeP awN awJ).left = [3] := by decide +kernel
theorem equal_b (A B : Option Addr) (n c m d : Nat) (l r : List LAssign) (w : World) (h : Rd encAssign 2 w A n l) (h' : Rd encAssign 2 w B m r) (hn : n ≤ 1000) (hm : m ≤ 1000) :
    Calls Try.prog 16 #[.slice A n c, .slice B m d] w fun e w' => e = .returned (.bool (decide (l = r))) ∧ Below w.heap.size w w' :=
  (same_t A B n c m d l r w h h' (by omega) (by omega)).mono fun e w' h => ⟨h.1, by obtain ⟨q, hq⟩ := h.2; rw [hq]; exact below_dN q⟩
theorem same28_b (A B : Option Addr) (n c m d : Nat) (l r : List LAssign) (w : World) (h : Rd encAssign 2 w A n l) (h' : Rd encAssign 2 w B m r) (hn : n ≤ 1000) (hm : m ≤ 1000) :
    Calls Try.prog 13 #[.slice A n c, .slice B m d] w fun e w' => e = .returned (.bool (decide (l = r))) ∧ Below w.heap.size w w' :=
  (same28 A B n c m d l r w h h' (by omega) (by omega)).mono fun e w' h => ⟨h.1, by obtain ⟨q, hq⟩ := h.2; rw [hq]; exact below_dN q⟩
theorem same01_b (A B : Option Addr) (n c m d : Nat) (l r : List Int) (w : World) (h : RdI w A n l) (h' : RdI w B m r) (hn : n ≤ 1000) (hm : m ≤ 1000) :
    Calls Try.prog 14 #[.slice A n c, .slice B m d] w fun e w' => e = .returned (.bool (decide (l = r))) ∧ Below w.heap.size w w' :=
  (same01 A B n c m d l r w h h' (by omega) (by omega)).mono fun e w' h => ⟨h.1, by obtain ⟨q, hq⟩ := h.2; rw [hq]; exact below_dN q⟩
set_option maxRecDepth 100000 in
set_option maxHeartbeats 3200000 in
theorem awake28_t (w : World) : Calls Try.prog 10 #[] w fun e w' => e = .returned (.bool true) ∧ Below w.heap.size w w' := by
  have hO0 := OwnL.built (enc := encNode) (e := 38) (sz := 10) w w.heap.size (Nat.le_refl _) awN 2 #[.int .i64 1, .int .i64 1, .int .i64 0, .int .i64 4, .int .i64 4, .int .i64 4, .int .i64 0, .int .i64 0, .int .i64 0, .bool true, .int .i64 2, .int .i64 1, .int .i64 0, .int .i64 4, .int .i64 4, .int .i64 4, .int .i64 0, .int .i64 0, .int .i64 0, .bool true] rfl (by omega) rfl rfl
  have hB0 : Below w.heap.size w (w.alloc (.cells #[.int .i64 1, .int .i64 1, .int .i64 0, .int .i64 4, .int .i64 4, .int .i64 4, .int .i64 0, .int .i64 0, .int .i64 0, .bool true, .int .i64 2, .int .i64 1, .int .i64 0, .int .i64 4, .int .i64 4, .int .i64 4, .int .i64 0, .int .i64 0, .int .i64 0, .bool true] 38)) := (Below.refl _ _).alloc (Nat.le_refl _) _
  have HN := Lib.hid (And.intro (hO0.rd Node_len) hB0)
  clear hO0 hB0
  go_enter Try.func10, Try.ntmps10
  go_wp2
  generalize w.alloc (.cells _ 38) = w1 at HN ⊢
  go_loopw [2, 3] (fun v i wr => ∃ (k : Nat) (A' : Option Addr) (c' : Nat), k ≤ 3 ∧ i = .int .i64 ((k + 1 : Nat) : Int) ∧ v = .slice A' k c' ∧ Hid (OwnL encJob 40 8 wr w1.heap.size A' k c' (awJ.take k) ∧ Below w1.heap.size w1 wr)) (fun _ i _ => 4 - (intOf i).toNat)
  case atStart => exact ⟨0, none, 0, by omega, rfl, rfl, Lib.hid ⟨OwnL.nil _ _, Below.refl _ _⟩⟩
  case round =>
    obtain ⟨k, A', c', hk, hi, rfl, HO⟩ := hrel
    rcases (show k = 0 ∨ k = 1 ∨ k = 2 ∨ k = 3 by omega) with rfl | rfl | rfl | rfl
    · have hi2 := hi.trans (show (Value.int .i64 ((0 + 1 : Nat) : Int)) = .int .i64 1 from rfl)
      clear hi
      subst hi2
      go_wp2_with (at_builtin; refine wp_app (enc := encJob) Job_len Job_one rfl (.tmp 14) (.tmp 19) 23 rfl 40 _ 64 Try.underlying23 Try.infoJob rfl (by decide) w1.heap.size _ 0 _ _ rfl (HO.out.1.alloc _) _ 1 _ [⟨1, 0, 1, 1, -1, ⟨3, 0, 0⟩⟩] (by rfl) (Rd.new1 _ (⟨1, 0, 1, 1, -1, ⟨3, 0, 0⟩⟩ : LJob) _ _ _ rfl) (0 + 1) rfl _ rfl (by omega) (by omega) (by have := HO.out.2.size; simp; omega) ?_; intro A6 c6 w6 ho6 hg6 _; have hb6 := (HO.out.2.alloc HO.out.2.size _).grown hg6 (by have := HO.out.2.size; simp; omega) (own_block_ge HO.out.1); have HO6 := Lib.hid (And.intro ho6 hb6); clear ho6 hb6 hg6)
      go_roundw
      case rel => exact ⟨1, A6, c6, by omega, by first | rfl | go_num, rfl, HO6⟩
      case measure => simp [intOf]
    · have hi2 := hi.trans (show (Value.int .i64 ((1 + 1 : Nat) : Int)) = .int .i64 2 from rfl)
      clear hi
      subst hi2
      go_wp2_with (at_builtin; refine wp_app (enc := encJob) Job_len Job_one rfl (.tmp 14) (.tmp 19) 23 rfl 40 _ 64 Try.underlying23 Try.infoJob rfl (by decide) w1.heap.size _ 1 _ _ rfl (HO.out.1.alloc _) _ 1 _ [⟨2, 0, 2, 1, -1, ⟨3, 0, 0⟩⟩] (by rfl) (Rd.new1 _ (⟨2, 0, 2, 1, -1, ⟨3, 0, 0⟩⟩ : LJob) _ _ _ rfl) (1 + 1) rfl _ rfl (by omega) (by omega) (by have := HO.out.2.size; simp; omega) ?_; intro A6 c6 w6 ho6 hg6 _; have hb6 := (HO.out.2.alloc HO.out.2.size _).grown hg6 (by have := HO.out.2.size; simp; omega) (own_block_ge HO.out.1); have HO6 := Lib.hid (And.intro ho6 hb6); clear ho6 hb6 hg6)
      go_roundw
      case rel => exact ⟨2, A6, c6, by omega, by first | rfl | go_num, rfl, HO6⟩
      case measure => simp [intOf]
    · have hi2 := hi.trans (show (Value.int .i64 ((2 + 1 : Nat) : Int)) = .int .i64 3 from rfl)
      clear hi
      subst hi2
      go_wp2_with (at_builtin; refine wp_app (enc := encJob) Job_len Job_one rfl (.tmp 14) (.tmp 19) 23 rfl 40 _ 64 Try.underlying23 Try.infoJob rfl (by decide) w1.heap.size _ 2 _ _ rfl (HO.out.1.alloc _) _ 1 _ [⟨3, 0, 3, 1, -1, ⟨3, 0, 0⟩⟩] (by rfl) (Rd.new1 _ (⟨3, 0, 3, 1, -1, ⟨3, 0, 0⟩⟩ : LJob) _ _ _ rfl) (2 + 1) rfl _ rfl (by omega) (by omega) (by have := HO.out.2.size; simp; omega) ?_; intro A6 c6 w6 ho6 hg6 _; have hb6 := (HO.out.2.alloc HO.out.2.size _).grown hg6 (by have := HO.out.2.size; simp; omega) (own_block_ge HO.out.1); have HO6 := Lib.hid (And.intro ho6 hb6); clear ho6 hb6 hg6)
      go_roundw
      case rel => exact ⟨3, A6, c6, by omega, by first | rfl | go_num, rfl, HO6⟩
      case measure => simp [intOf]
    · have hi2 := hi.trans (show (Value.int .i64 ((3 + 1 : Nat) : Int)) = .int .i64 4 from rfl)
      clear hi
      subst hi2
      have HJ : Hid (OwnL encJob 40 8 wr w1.heap.size A' 3 c' awJ ∧ Below w1.heap.size w1 wr) := HO
      clear HO
      obtain ⟨wo, rfl⟩ : ∃ wo : World, wo = wr := ⟨_, rfl⟩
      go_wp2_with fail
      have hcx := place_t (c := 2) (d := c') (HN.out.1.below HJ.out.2) (HJ.out.1.rd Job_len) (by omega) (by omega)
      rw [aw_out] at hcx
      (with_reducible refine hcx.mono ?_)
      clear hcx
      rintro e w2 ⟨O, on, oc, rfl, hon, hO2, hB2⟩
      obtain rfl : on = 2 := hO2.len.symm
      have H2 := Lib.hid (And.intro (hO2.rd Assign_len) (And.intro ((HN.out.1.below HJ.out.2).below hB2) ((HJ.out.1.rd Job_len).below hB2)))
      have HB2 := Lib.hid ((HN.out.2.trans (HJ.out.2.mono HN.out.2.size)).trans (hB2.mono (Nat.le_trans HN.out.2.size HJ.out.2.size)))
      clear hO2 hB2 hon
      have hO3 := (OwnL.built (enc := encAssign) (e := 112) (sz := 2) w2 w2.heap.size (Nat.le_refl _) [⟨1, 1⟩, ⟨2, 2⟩] 2 #[.int .i64 1, .int .i64 1, .int .i64 2, .int .i64 2] rfl (by omega) rfl rfl).rd Assign_len
      have hB3 : Below w2.heap.size w2 (w2.alloc (.cells #[.int .i64 1, .int .i64 1, .int .i64 2, .int .i64 2] 112)) := (Below.refl _ _).alloc (Nat.le_refl _) _
      go_wp2_with fail
      have hcx := same28_b O _ 2 oc 2 2 _ _ _ (H2.out.1.below hB3) hO3 (by omega) (by omega)
      rw [decide_eq_true rfl] at hcx
      generalize w2.alloc (.cells _ 112) = w3 at hB3 hO3 hcx ⊢
      (with_reducible refine hcx.mono ?_)
      clear hcx hO3
      rintro e w4 ⟨rfl, hB4⟩
      have hb4 := hB3.trans (hB4.mono hB3.size)
      clear hB3 hB4
      go_wp2_with fail
      have hcx := left_t (c := 2) (d := c') (H2.out.2.1.below hb4) (H2.out.2.2.below hb4) (by omega) (by omega)
      rw [aw_left] at hcx
      (with_reducible refine hcx.mono ?_)
      clear hcx
      rintro e w5 ⟨L, ln, lc, rfl, hln, hL5, hB5⟩
      obtain rfl : ln = 1 := hL5.len.symm
      have hb5 := hb4.trans (hB5.mono hb4.size)
      have hL5r := OwnL.rd (enc := encI) (sz := 1) (fun _ => rfl) hL5
      clear hB5 hL5 hb4 hln
      have hO6 : RdI (w5.alloc (.cells #[.int .i64 3] 3)) (some ⟨w5.heap.size, 0, none⟩) 1 [3] := Rd.new1 _ (3 : Int) _ _ _ rfl
      have hB6 : Below w5.heap.size w5 (w5.alloc (.cells #[.int .i64 3] 3)) := (Below.refl _ _).alloc (Nat.le_refl _) _
      go_wp2_with fail
      have hcx := same01_b L _ 1 lc 1 1 _ _ _ (hL5r.below hB6) hO6 (by omega) (by omega)
      rw [decide_eq_true rfl] at hcx
      generalize w5.alloc (.cells _ 3) = w6 at hB6 hO6 hcx ⊢
      (with_reducible refine hcx.mono ?_)
      clear hcx hO6 hL5r
      rintro e w7 ⟨rfl, hB7⟩
      have hb7 := hb5.trans ((hB6.trans (hB7.mono hB6.size)).mono hb5.size)
      clear hB6 hB7 hb5
      go_wp2_with fail
      have hcx := equal_b O O 2 oc 2 oc _ _ w7 (H2.out.1.below hb7) (H2.out.1.below hb7) (by omega) (by omega)
      rw [decide_eq_true rfl] at hcx
      (with_reducible refine hcx.mono ?_)
      clear hcx
      rintro e w8 ⟨rfl, hB8⟩
      have hb8 := hb7.trans (hB8.mono hb7.size)
      clear hB8 hb7
      go_wp2_with fail
      have hcx := equal_b O none 2 oc 0 0 _ [] w8 (H2.out.1.below hb8) ((OwnL.nil (enc := encAssign) (e := 112) (sz := 2) w8 0).rd Assign_len) (by omega) (by omega)
      rw [decide_eq_false (by simp)] at hcx
      (with_reducible refine hcx.mono ?_)
      clear hcx
      rintro e w9 ⟨rfl, hB9⟩
      have hb9 := hb8.trans (hB9.mono hb8.size)
      clear hB9 hb8
      go_wp2_with fail
      (with_reducible refine (eventsNil_t O 2 oc _ w9 (H2.out.1.below hb9) (by omega)).mono ?_)
      rintro e wa ⟨Ae, ce, rfl, hOe, hBa⟩
      have hba := hb9.trans (hBa.mono hb9.size)
      clear hBa hb9 hOe
      go_wp2
      go_ret
      exact ⟨rfl, HB2.out.trans (hba.mono HB2.out.size)⟩
set_option maxRecDepth 100000 in
set_option maxHeartbeats 3200000 in
theorem tells28_t (A : Option Addr) (n c : Nat) (l : List LNode) (J : Option Addr) (m d : Nat) (js : List LJob) (B : Option Addr) (p f : Nat) (ps : List LAssign) (w : World) (hl : Rd encNode 10 w A n l) (hj : Rd encJob 8 w J m js) (ha : Rd encAssign 2 w B p ps) :
    Calls Try.prog 3 #[.slice A n c, .slice J m d, .slice B p f] w fun e w' => e = .returned (.bool true) ∧ Below w.heap.size w w' := by
  have HH := Lib.hid (And.intro hl (And.intro hj ha))
  clear hl hj ha
  go_enter Try.func3, Try.ntmps3
  by_cases hn : (n : Int) > 20
  · go_wp2_with fail
    (with_reducible refine (awake28_t w).mono ?_)
    rintro e w2 ⟨rfl, hB2⟩
    go_wp2
    go_ret
    exact ⟨rfl, hB2⟩
  · by_cases hm : (m : Int) > 30
    · go_wp2_with fail
      (with_reducible refine (awake28_t w).mono ?_)
      rintro e w2 ⟨rfl, hB2⟩
      go_wp2
      go_ret
      exact ⟨rfl, hB2⟩
    · by_cases hp : (p : Int) > 40
      · go_wp2_with fail
        (with_reducible refine (awake28_t w).mono ?_)
        rintro e w2 ⟨rfl, hB2⟩
        go_wp2
        go_ret
        exact ⟨rfl, hB2⟩
      · have hn2 : n ≤ 20 := by omega
        have hm2 : m ≤ 30 := by omega
        have hp2 : p ≤ 40 := by omega
        go_wp2_with fail
        (with_reducible refine (place_t (c := c) (d := d) HH.out.1 HH.out.2.1 (by omega) (by omega)).mono ?_)
        rintro e w2 ⟨O, on, oc, rfl, hon, hO2, hB2⟩
        have hO2r := hO2.rd Assign_len
        clear hO2
        go_wp2_with fail
        (with_reducible refine (refPlace_t A n c l J m d js w2 (HH.out.1.below hB2) (HH.out.2.1.below hB2) (by omega) (by omega)).mono ?_)
        rintro e w3 ⟨O', on', oc', L, ln, lc, rfl, hon', hln, hO3, hL3, hB3⟩
        have hb3 := hB2.trans (hB3.mono hB2.size)
        have H3 := Lib.hid (And.intro (hO2r.below hB3) (And.intro (hO3.rd Assign_len) (OwnL.rd (enc := encI) (sz := 1) (fun _ => rfl) hL3)))
        clear hO2r hB2 hB3 hO3 hL3
        go_wp2_with fail
        have hcx := same28_b O O' on oc on' oc' _ _ w3 H3.out.1 H3.out.2.1 (by omega) (by omega)
        rw [decide_eq_true rfl] at hcx
        (with_reducible refine hcx.mono ?_)
        clear hcx
        rintro e w4 ⟨rfl, hB4⟩
        have hb4 := hb3.trans (hB4.mono hb3.size)
        go_wp2_with fail
        (with_reducible refine (left_t (c := c) (d := d) (HH.out.1.below hb4) (HH.out.2.1.below hb4) (by omega) (by omega)).mono ?_)
        rintro e w5 ⟨L5, l5, c5, rfl, hl5, hL5, hB5⟩
        have hB45 := hB4.trans (hB5.mono hB4.size)
        clear hB4
        go_wp2_with fail
        have hcx := same01_b L5 L l5 c5 ln lc _ _ w5 (OwnL.rd (enc := encI) (sz := 1) (fun _ => rfl) hL5) (H3.out.2.2.below hB45) (by omega) (by omega)
        rw [decide_eq_true rfl] at hcx
        (with_reducible refine hcx.mono ?_)
        clear hcx hL5 hB5
        rintro e w6 ⟨rfl, hB6⟩
        have hb6 := hB45.trans (hB6.mono hB45.size)
        have hbw := hb3.trans (hb6.mono hb3.size)
        clear hB45 hB6 hb4 hb3
        obtain ⟨bq, hbq⟩ : ∃ b, decide ((placeP l js).out = ps) = b := ⟨_, rfl⟩
        go_wp2_with fail
        have hcx := equal_b O B on oc p f _ ps w6 (H3.out.1.below hb6) (HH.out.2.2.below hbw) (by omega) (by omega)
        rw [hbq] at hcx
        (with_reducible refine hcx.mono ?_)
        clear hcx
        rintro e w7 ⟨rfl, hB7⟩
        have hb7 := hb6.trans (hB7.mono hb6.size)
        have hbw7 := hbw.trans (hB7.mono hbw.size)
        clear hb6 hB7 hbw
        go_wp2_with fail
        have hcx := same28_b O' B on' oc' p f _ ps w7 (H3.out.2.1.below hb7) (HH.out.2.2.below hbw7) (by omega) (by omega)
        rw [hbq] at hcx
        (with_reducible refine hcx.mono ?_)
        clear hcx hbq
        rintro e w8 ⟨rfl, hB8⟩
        have hbw8 := hbw7.trans (hB8.mono hbw7.size)
        clear hb7 hB8 hbw7
        have hbb : (bq == bq) = true := by simp
        go_wp2_with fail
        have hcx := equal_b B B p f p f ps ps w8 (HH.out.2.2.below hbw8) (HH.out.2.2.below hbw8) (by omega) (by omega)
        rw [decide_eq_true rfl] at hcx
        (with_reducible refine hcx.mono ?_)
        clear hcx
        rintro e w9 ⟨rfl, hB9⟩
        have hbw9 := hbw8.trans (hB9.mono hbw8.size)
        clear hB9 hbw8
        go_wp2_with fail
        (with_reducible refine (awake28_t w9).mono ?_)
        rintro e wa ⟨rfl, hBa⟩
        have hbwa := hbw9.trans (hBa.mono hbw9.size)
        clear hBa hbw9
        go_wp2
        go_ret
        exact ⟨rfl, hbwa⟩
theorem stNodesNil_t (w : World) : Calls Try.prog 71 #[.pointer none] w fun e w' => e = .returned (.slice none 0 0) ∧ w' = w := by
  go_enter Try.func71, Try.ntmps71
  go_wp2
  go_ret
  exact ⟨rfl, rfl⟩
theorem stJobsNil_t (w : World) : Calls Try.prog 72 #[.pointer none] w fun e w' => e = .returned (.slice none 0 0) ∧ w' = w := by
  go_enter Try.func72, Try.ntmps72
  go_wp2
  go_ret
  exact ⟨rfl, rfl⟩
theorem ofNil_t (w : World) : Calls Try.prog 48 #[.pointer none] w fun e w' => ∃ A c, e = .returned (.slice A 0 c) ∧ Below w.heap.size w w' := by
  go_enter Try.func48, Try.ntmps48
  go_wp2_with fail
  (with_reducible refine (stNodesNil_t w).mono ?_)
  rintro e w1 ⟨rfl, hw1⟩
  subst hw1
  go_wp2_with fail
  (with_reducible refine (stJobsNil_t w1).mono ?_)
  rintro e w2 ⟨rfl, hw2⟩
  subst hw2
  go_wp2_with fail
  have hcx := place_t (w := w2) (A := none) (J := none) (n := 0) (c := 0) (m := 0) (d := 0) (l := []) (js := []) ((OwnL.nil (enc := encNode) (e := 38) (sz := 10) w2 0).rd Node_len) ((OwnL.nil (enc := encJob) (e := 40) (sz := 8) w2 0).rd Job_len) (by omega) (by omega)
  (with_reducible refine hcx.mono ?_)
  clear hcx
  rintro e w3 ⟨O, on, oc, rfl, hon, hO, hB⟩
  obtain rfl : on = 0 := by omega
  clear hO hon
  go_wp2
  go_ret
  exact ⟨O, oc, rfl, hB⟩
theorem nobody_t (w : World) : Calls Try.prog 47 #[] w fun e w' => e = .returned (.pointer none) ∧ w' = w := by
  go_enter Try.func47, Try.ntmps47
  go_wp2
  go_ret
  exact ⟨rfl, rfl⟩
theorem LEvent.ext_iff' (a b : LEvent) : a = b ↔ a.kind = b.kind ∧ a.node = b.node ∧ a.job = b.job ∧ a.inc = b.inc ∧ a.prio = b.prio ∧ a.res = b.res := by
  cases a; cases b; simp
theorem equalEvent (d : Nat) (a b : LEvent) (w : World) : (Op.equalIn (d + 4) 115 (aggEvent a) (aggEvent b)).run Try.prog w = .ok (decide (a = b)) w := by
  rw [run_equalIn_struct w (d + 3) _ _ _ (by kernel_rfl) (by kernel_rfl)]
  rw [run_eqFields_all _ [(true, 3, 0), (true, 3, 1), (true, 3, 2), (true, 3, 3), (true, 3, 4), (true, 36, 5)] [a.kind == b.kind, a.node == b.node, a.job == b.job, a.inc == b.inc, a.prio == b.prio, decide (a.res = b.res)] (by kernel_rfl)
    ⟨rfl, ⟨.int .i64 a.kind, .int .i64 b.kind, by kernel_rfl, by kernel_rfl, run_equalIn_int w (d + 2) 3 .i64 .i64 _ _ Try.underlying3⟩,
     rfl, ⟨.int .i64 a.node, .int .i64 b.node, by kernel_rfl, by kernel_rfl, run_equalIn_int w (d + 2) 3 .i64 .i64 _ _ Try.underlying3⟩,
     rfl, ⟨.int .i64 a.job, .int .i64 b.job, by kernel_rfl, by kernel_rfl, run_equalIn_int w (d + 2) 3 .i64 .i64 _ _ Try.underlying3⟩,
     rfl, ⟨.int .i64 a.inc, .int .i64 b.inc, by kernel_rfl, by kernel_rfl, run_equalIn_int w (d + 2) 3 .i64 .i64 _ _ Try.underlying3⟩,
     rfl, ⟨.int .i64 a.prio, .int .i64 b.prio, by kernel_rfl, by kernel_rfl, run_equalIn_int w (d + 2) 3 .i64 .i64 _ _ Try.underlying3⟩,
     rfl, ⟨aggRes a.res, aggRes b.res, by kernel_rfl, by kernel_rfl, equalRes (d + 1) a.res b.res w⟩, trivial⟩]
  congr 1
  rw [Bool.eq_iff_iff]
  simp [LEvent.ext_iff', and_assoc]
theorem eqlEvent (a b : LEvent) (w : World) : (binOp .eql 115 (aggEvent a) (aggEvent b)).run Try.prog w = .ok (.bool (decide (a = b))) w := by
  rw [run_eql_struct, equalEvent]; rfl
set_option maxRecDepth 100000 in
set_option maxHeartbeats 1600000 in
theorem nobody28_t (x y : Int) (w : World) : Calls Try.prog 9 #[.int .i64 x, .int .i64 y] w fun e w' => e = .returned (.bool true) ∧ Below w.heap.size w w' := by
  have hO0 := Rd.new1 (enc := encAssign) (sz := 2) w (⟨x, y⟩ : LAssign) #[.int .i64 x, .int .i64 y] 112 (0, 0) rfl
  have hB0 : Below w.heap.size w (w.alloc (.cells #[.int .i64 x, .int .i64 y] 112)) := (Below.refl _ _).alloc (Nat.le_refl _) _
  have heq : ∀ W : World, (binOp .eql 115 (.agg #[.int .i64 6, .int .i64 y, .int .i64 x, .int .i64 0, .int .i64 0, .int .i64 0, .int .i64 0, .int .i64 0]) (.agg #[.int .i64 6, .int .i64 y, .int .i64 x, .int .i64 0, .int .i64 0, .int .i64 0, .int .i64 0, .int .i64 0])).run Try.prog W = .ok (.bool true) W := fun W => (eqlEvent ⟨6, y, x, 0, 0, ⟨0, 0, 0⟩⟩ ⟨6, y, x, 0, 0, ⟨0, 0, 0⟩⟩ W).trans (by rw [decide_eq_true rfl])
  have HEQ := Lib.hid heq
  clear heq
  go_enter Try.func9, Try.ntmps9
  go_wp2_with fail
  (with_reducible refine (nobody_t w).mono ?_)
  rintro e w1 ⟨rfl, hw1⟩
  subst hw1
  go_wp2_with fail
  have hcx := eventsNil_t _ 1 1 [⟨x, y⟩] _ hO0 (by omega)
  generalize w1.alloc (.cells _ 112) = w2 at hO0 hB0 hcx ⊢
  (with_reducible refine hcx.mono ?_)
  clear hcx hO0
  rintro e w3 ⟨A3, c3, rfl, hO3, hB3⟩
  have hb3 := hB0.trans (hB3.mono hB0.size)
  have H3 := Lib.hid (hO3.rd Event_len)
  clear hB0 hB3 hO3
  go_wp2_with fail
  (with_reducible refine (nobody_t w3).mono ?_)
  rintro e w4 ⟨rfl, hw4⟩
  subst hw4
  go_wp2_with fail
  (with_reducible refine (ofNil_t w4).mono ?_)
  rintro e w5 ⟨A5, c5, rfl, hB5⟩
  have hb5 := hb3.trans (hB5.mono hb3.size)
  obtain ⟨ab, ao, ev, rfl, hev, hal, hcells⟩ := (H3.out.below hB5).at_ (show 0 < 1 by omega)
  have hee : ev = ⟨6, y, x, 0, 0, ⟨0, 0, 0⟩⟩ := by simpa [evOf] using hev.symm
  subst hee
  have e0 := hcells 0 _ rfl
  have e1 := hcells 1 _ rfl
  have e2 := hcells 2 _ rfl
  have e3 := hcells 3 _ rfl
  have e4 := hcells 4 _ rfl
  have e5 := hcells 5 _ rfl
  have e6 := hcells 6 _ rfl
  have e7 := hcells 7 _ rfl
  simp only [Nat.add_zero, Nat.zero_mul] at e0 e1 e2 e3 e4 e5 e6 e7
  have heq := HEQ.out
  clear hcells hev hB5 hb3 hal
  go_wp2_with fail
  (with_reducible refine (awake28_t w5).mono ?_)
  rintro e w6 ⟨rfl, hB6⟩
  have hb6 := hb5.trans (hB6.mono hb5.size)
  clear hB6 hb5 heq e0 e1 e2 e3 e4 e5 e6 e7
  go_wp2
  go_ret
  exact ⟨rfl, hb6⟩
end Go.Proofs.Ytcfninipcghbmaa
