/-
  REFERENCES: reeveref27.Best, With.
  REFERENCES: reeveref28.Place.
-/
import Derived.Test.YtcfninipcghbmaaPlaceK
import Derived.Test.YtcfninipcghbmaaPlaceC
import Derived.Test.YtcfninipcghbmaaPlaceE
import Derived.Deep.RegionHeld3
import Derived.Deep.AppendLies
set_option linter.unusedVariables false
set_option linter.unusedSimpArgs false
namespace Go.Proofs.Ytcfninipcghbmaa
open Go.Shelf Go.RowKit Go.Sort

theorem best_none {need : LRes} {l : List LNode} (h : bestN need l = none) : (ssort nodeLt (takersN need l)).length = 0 := by
  unfold bestN at h
  rw [least_head, List.head?_eq_none_iff] at h
  rw [h]; rfl
theorem best_some {need : LRes} {l : List LNode} {b : LNode} (h : bestN need l = some b) : (ssort nodeLt (takersN need l))[0]? = some b := by
  unfold bestN at h
  rw [least_head, List.head?_eq_getElem?] at h
  exact h
set_option maxRecDepth 100000 in
set_option maxHeartbeats 1600000 in
theorem refBest_t (A : Option Addr) (n c : Nat) (l : List LNode) (need : LRes) (w : World) (h : Rd encNode 10 w A n l) (hn : n ≤ 1000000) :
    Calls Try.prog 51 #[aggRes need, .slice A n c] w fun e w' => e = .returned (.tuple #[aggNode ((bestN need l).getD zeroN), .bool (bestN need l).isSome]) ∧ Below w.heap.size w w' := by
  have hs1 : (w.alloc (.cells (boxRes need) 36)).heap.size = w.heap.size + 1 := by simp
  have h0 := (Blk.new w 36 (boxRes need)).alloc (.cells (boxNode zeroN) 38)
  have h1 := Blk.new (w.alloc (.cells (boxRes need) 36)) 38 (boxNode zeroN)
  rw [hs1] at h1
  have hB : Below w.heap.size w ((w.alloc (.cells (boxRes need) 36)).alloc (.cells (boxNode zeroN) 38)) := ((Below.refl _ _).alloc (Nat.le_refl _) _).alloc (by simp) _
  have HB := Lib.hid (And.intro h0 (And.intro h1 (And.intro hB (h.below hB))))
  clear h0 h1 hB hs1 h
  go_enter Try.func51, Try.ntmps51
  go_wp2_with fail
  simp only [boxNode, zeroN] at HB
  generalize (w.alloc (.cells _ 36)).alloc (.cells _ 38) = w1 at HB ⊢
  have hcx := refAll_t A n c l need w1 HB.out.2.2.2 hn
  (with_reducible refine hcx.mono ?_)
  clear hcx
  rintro e w2 ⟨A2, n2, c2, rfl, hn2, hO, hB2⟩
  have h2 := HB.out.2.1.below hB2 HB.out.2.1.lt
  have hb2 := HB.out.2.2.1.trans (hB2.mono HB.out.2.2.1.size)
  have hf := h2.frozen
  have hl := h2.lt
  have z0 : ∀ W, Below w2.heap.size w2 W → W.cell? ⟨w.heap.size + 1, 0, none⟩ = some (.int .i64 0) := h2.cells_in 0 rfl
  have z1 : ∀ W, Below w2.heap.size w2 W → W.cell? ⟨w.heap.size + 1, 1, none⟩ = some (.int .i64 0) := h2.cells_in 1 rfl
  have z2 : ∀ W, Below w2.heap.size w2 W → W.cell? ⟨w.heap.size + 1, 2, none⟩ = some (.int .i64 0) := h2.cells_in 2 rfl
  have z3 : ∀ W, Below w2.heap.size w2 W → W.cell? ⟨w.heap.size + 1, 3, none⟩ = some (.int .i64 0) := h2.cells_in 3 rfl
  have z4 : ∀ W, Below w2.heap.size w2 W → W.cell? ⟨w.heap.size + 1, 4, none⟩ = some (.int .i64 0) := h2.cells_in 4 rfl
  have z5 : ∀ W, Below w2.heap.size w2 W → W.cell? ⟨w.heap.size + 1, 5, none⟩ = some (.int .i64 0) := h2.cells_in 5 rfl
  have z6 : ∀ W, Below w2.heap.size w2 W → W.cell? ⟨w.heap.size + 1, 6, none⟩ = some (.int .i64 0) := h2.cells_in 6 rfl
  have z7 : ∀ W, Below w2.heap.size w2 W → W.cell? ⟨w.heap.size + 1, 7, none⟩ = some (.int .i64 0) := h2.cells_in 7 rfl
  have z8 : ∀ W, Below w2.heap.size w2 W → W.cell? ⟨w.heap.size + 1, 8, none⟩ = some (.int .i64 0) := h2.cells_in 8 rfl
  have z9 : ∀ W, Below w2.heap.size w2 W → W.cell? ⟨w.heap.size + 1, 9, none⟩ = some (.bool false) := h2.cells_in 9 rfl
  have hrr := Below.refl w2.heap.size w2
  cases hbb : bestN need l with
  | none =>
    have HBB := Lib.hid hbb
    have hlen := hO.len
    rw [best_none hbb] at hlen
    subst hlen
    have hl' := node_lay zeroN zeroN h2 (show w.heap.size ≤ w.heap.size + 1 by omega) hb2
    simp only [zeroN, boxNode] at hl'
    have HL := Lib.hid hl'
    clear hl' h2 hb2 hO hB2
    go_wp2
    obtain ⟨hZ, hY⟩ := HL.out
    generalize ((((((((((w2.setCell ⟨w.heap.size + 1, 0, none⟩ (.int .i64 0)).setCell ⟨w.heap.size + 1, 1, none⟩ (.int .i64 0)).setCell ⟨w.heap.size + 1, 2, none⟩ (.int .i64 0)).setCell ⟨w.heap.size + 1, 3, none⟩ (.int .i64 0)).setCell ⟨w.heap.size + 1, 4, none⟩ (.int .i64 0)).setCell ⟨w.heap.size + 1, 5, none⟩ (.int .i64 0)).setCell ⟨w.heap.size + 1, 6, none⟩ (.int .i64 0)).setCell ⟨w.heap.size + 1, 7, none⟩ (.int .i64 0)).setCell ⟨w.heap.size + 1, 8, none⟩ (.int .i64 0)).setCell ⟨w.heap.size + 1, 9, none⟩ (.bool false)) = W3 at hZ hY ⊢
    have v0 : W3.cell? ⟨w.heap.size + 1, 0, none⟩ = some (.int .i64 0) := hZ.cell 0
    have v1 : W3.cell? ⟨w.heap.size + 1, 1, none⟩ = some (.int .i64 0) := hZ.cell 1
    have v2 : W3.cell? ⟨w.heap.size + 1, 2, none⟩ = some (.int .i64 0) := hZ.cell 2
    have v3 : W3.cell? ⟨w.heap.size + 1, 3, none⟩ = some (.int .i64 0) := hZ.cell 3
    have v4 : W3.cell? ⟨w.heap.size + 1, 4, none⟩ = some (.int .i64 0) := hZ.cell 4
    have v5 : W3.cell? ⟨w.heap.size + 1, 5, none⟩ = some (.int .i64 0) := hZ.cell 5
    have v6 : W3.cell? ⟨w.heap.size + 1, 6, none⟩ = some (.int .i64 0) := hZ.cell 6
    have v7 : W3.cell? ⟨w.heap.size + 1, 7, none⟩ = some (.int .i64 0) := hZ.cell 7
    have v8 : W3.cell? ⟨w.heap.size + 1, 8, none⟩ = some (.int .i64 0) := hZ.cell 8
    have v9 : W3.cell? ⟨w.heap.size + 1, 9, none⟩ = some (.bool false) := hZ.cell 9
    exact bodyPost_ret (v := .tuple #[aggNode zeroN, .bool false]) (by simp [results, Try.results51, go_sem, v0, v1, v2, v3, v4, v5, v6, v7, v8, v9, zeroN]) rfl ⟨by rw [HBB.out]; rfl, hY⟩
  | some b =>
    have HBB := Lib.hid hbb
    have hb0 := best_some hbb
    have hn0 : 0 < n2 := by have h9 := hO.len; have := (List.getElem?_eq_some_iff.1 hb0).1; omega
    obtain ⟨ab, ao, y, rfl, hyy, hyl, hyc⟩ := (hO.rd Node_len).at_ hn0
    rw [hb0] at hyy
    cases hyy
    have y0 := hyc 0 _ rfl
    have y1 := hyc 1 _ rfl
    have y2 := hyc 2 _ rfl
    have y3 := hyc 3 _ rfl
    have y4 := hyc 4 _ rfl
    have y5 := hyc 5 _ rfl
    have y6 := hyc 6 _ rfl
    have y7 := hyc 7 _ rfl
    have y8 := hyc 8 _ rfl
    have y9 := hyc 9 _ rfl
    simp only [Nat.add_zero, Nat.zero_mul] at y0 y1 y2 y3 y4 y5 y6 y7 y8 y9
    have hn1 : (n2 == 0) = false := by rw [beq_eq_false_iff_ne]; omega
    have hn2 : ((n2 : Int) == 0) = false := by rw [beq_eq_false_iff_ne]; omega
    have HL := Lib.hid (node_lay b zeroN h2 (show w.heap.size ≤ w.heap.size + 1 by omega) hb2)
    clear h2 hb2 hO hB2 hyc hb0 hbb
    go_wp2
    obtain ⟨hZ, hY⟩ := HL.out
    generalize ((((((((((w2.setCell ⟨w.heap.size + 1, 0, none⟩ (.int .i64 b.id)).setCell ⟨w.heap.size + 1, 1, none⟩ (.int .i64 b.inc)).setCell ⟨w.heap.size + 1, 2, none⟩ (.int .i64 b.load)).setCell ⟨w.heap.size + 1, 3, none⟩ (.int .i64 b.cap.a)).setCell ⟨w.heap.size + 1, 4, none⟩ (.int .i64 b.cap.b)).setCell ⟨w.heap.size + 1, 5, none⟩ (.int .i64 b.cap.c)).setCell ⟨w.heap.size + 1, 6, none⟩ (.int .i64 b.used.a)).setCell ⟨w.heap.size + 1, 7, none⟩ (.int .i64 b.used.b)).setCell ⟨w.heap.size + 1, 8, none⟩ (.int .i64 b.used.c)).setCell ⟨w.heap.size + 1, 9, none⟩ (.bool b.up)) = W3 at hZ hY ⊢
    have v0 : W3.cell? ⟨w.heap.size + 1, 0, none⟩ = some (.int .i64 b.id) := hZ.cell 0
    have v1 : W3.cell? ⟨w.heap.size + 1, 1, none⟩ = some (.int .i64 b.inc) := hZ.cell 1
    have v2 : W3.cell? ⟨w.heap.size + 1, 2, none⟩ = some (.int .i64 b.load) := hZ.cell 2
    have v3 : W3.cell? ⟨w.heap.size + 1, 3, none⟩ = some (.int .i64 b.cap.a) := hZ.cell 3
    have v4 : W3.cell? ⟨w.heap.size + 1, 4, none⟩ = some (.int .i64 b.cap.b) := hZ.cell 4
    have v5 : W3.cell? ⟨w.heap.size + 1, 5, none⟩ = some (.int .i64 b.cap.c) := hZ.cell 5
    have v6 : W3.cell? ⟨w.heap.size + 1, 6, none⟩ = some (.int .i64 b.used.a) := hZ.cell 6
    have v7 : W3.cell? ⟨w.heap.size + 1, 7, none⟩ = some (.int .i64 b.used.b) := hZ.cell 7
    have v8 : W3.cell? ⟨w.heap.size + 1, 8, none⟩ = some (.int .i64 b.used.c) := hZ.cell 8
    have v9 : W3.cell? ⟨w.heap.size + 1, 9, none⟩ = some (.bool b.up) := hZ.cell 9
    exact bodyPost_ret (v := .tuple #[aggNode b, .bool true]) (by simp [results, Try.results51, go_sem, v0, v1, v2, v3, v4, v5, v6, v7, v8, v9]) rfl ⟨by rw [HBB.out]; rfl, hY⟩
set_option maxRecDepth 100000 in
set_option maxHeartbeats 3200000 in
theorem refWith_t (A : Option Addr) (n c : Nat) (l : List LNode) (id : Int) (need : LRes) (w : World) (h : Rd encNode 10 w A n l) (hn : n ≤ 1000000) :
    Calls Try.prog 52 #[.slice A n c, .int .i64 id, aggRes need] w fun e w' => ∃ A' c', e = .returned (.slice A' n c') ∧ OwnL encNode 38 10 w' w.heap.size A' n c' (withN l id need) ∧ Below w.heap.size w w' := by
  have hbx := Blk.new w 36 (boxRes need)
  have hB : Below w.heap.size w (w.alloc (.cells (boxRes need) 36)) := (Below.refl _ _).alloc (Nat.le_refl _) _
  have HB := Lib.hid (And.intro hbx (And.intro hB (h.below hB)))
  clear hbx hB h
  go_enter Try.func52, Try.ntmps52
  go_wp2
  simp only [boxRes] at HB
  generalize w.alloc (.cells _ 36) = w1 at HB ⊢
  go_loopw [7, 8] (fun v i wr => ∃ (k : Nat) (A' : Option Addr) (c' : Nat), k ≤ n ∧ i = .int .i64 k ∧ v = .slice A' k c' ∧ OwnL encNode 38 10 wr w1.heap.size A' k c' ((l.take k).map (with1 id need)) ∧ Below w1.heap.size w1 wr) (fun _ i _ => n - (intOf i).toNat)
  case atStart => exact ⟨0, none, 0, Nat.zero_le _, rfl, rfl, OwnL.nil _ _, Below.refl _ _⟩
  case round =>
    obtain ⟨k, A', c', hk, rfl, rfl, hO, hBq⟩ := hrel
    by_cases hlt : k < n
    · obtain ⟨ab, ao, x, rfl, hxx, hal, hcells⟩ := (HB.out.2.2.below hBq).at_ hlt
      have x0 := hcells 0 _ rfl
      have x1 := hcells 1 _ rfl
      have x2 := hcells 2 _ rfl
      have x3 := hcells 3 _ rfl
      have x4 := hcells 4 _ rfl
      have x5 := hcells 5 _ rfl
      have x6 := hcells 6 _ rfl
      have x7 := hcells 7 _ rfl
      have x8 := hcells 8 _ rfl
      have x9 := hcells 9 _ rfl
      simp only [Nat.add_zero] at x0
      have hst : (l.take (k + 1)).map (with1 id need) = (l.take k).map (with1 id need) ++ [with1 id need x] := by rw [take_succ_of _ _ _ hxx, List.map_append]; rfl
      have hbx := Blk.new wr 38 (boxNode x)
      have hBx : Below wr.heap.size wr (wr.alloc (.cells (boxNode x) 38)) := (Below.refl _ _).alloc (Nat.le_refl _) _
      have hres := (HB.out.1.below hBq HB.out.1.lt).alloc (.cells (boxNode x) 38)
      have r0 : _ = some (Value.int .i64 need.a) := hres.cell 0
      have r1 : _ = some (Value.int .i64 need.b) := hres.cell 1
      have r2 : _ = some (Value.int .i64 need.c) := hres.cell 2
      have y0 := hbx.cells_in (v := .int .i64 x.id) 0 rfl
      have y1 := hbx.cells_in (v := .int .i64 x.inc) 1 rfl
      have y2 := hbx.cells_in (v := .int .i64 x.load) 2 rfl
      have y3 := hbx.cells_in (v := .int .i64 x.cap.a) 3 rfl
      have y4 := hbx.cells_in (v := .int .i64 x.cap.b) 4 rfl
      have y5 := hbx.cells_in (v := .int .i64 x.cap.c) 5 rfl
      have y6 := hbx.cells_in (v := .int .i64 x.used.a) 6 rfl
      have y7 := hbx.cells_in (v := .int .i64 x.used.b) 7 rfl
      have y8 := hbx.cells_in (v := .int .i64 x.used.c) 8 rfl
      have y9 := hbx.cells_in (v := .bool x.up) 9 rfl
      have yf : ∀ j, ∀ W, Below (wr.alloc (.cells (boxNode x) 38)).heap.size (wr.alloc (.cells (boxNode x) 38)) W → W.frozen? ⟨wr.heap.size, j, none⟩ = false := fun j W h => (hbx.below h hbx.lt).frozen j
      have hrr := Below.refl (wr.alloc (.cells (boxNode x) 38)).heap.size (wr.alloc (.cells (boxNode x) 38))
      have HX := Lib.hid (And.intro hst (And.intro hO (And.intro hBq (And.intro hBx hbx))))
      have hlx := hbx.lt
      clear hst hO hBq hBx hbx hres hcells hxx
      go_upto_region 6 with fail
      clear x0 x1 x2 x3 x4 x5 x6 x7 x8 x9
      simp only [boxNode] at HX hrr yf hlx r0 r1 r2 y0 y1 y2 y3 y4 y5 y6 y7 y8 y9
      generalize wr.alloc (.cells _ 38) = w3 at HX hrr yf hlx r0 r1 r2 y0 y1 y2 y3 y4 y5 y6 y7 y8 y9 ⊢
      by_cases hid : x.id = id
      · have hieq : (x.id == id) = true := by rw [beq_iff_eq]; exact hid
        have HI := Lib.hid hid
        clear hid
        go_wp2_with fail
        have hcx := refDo4_t x need w3
        by_cases he : takeE x x.inc need = 0
        · have HW := Lib.hid (show with1 id need x = tookN x need by rw [with1, if_pos HI.out, if_pos he])
          rw [he, if_pos rfl] at hcx
          obtain ⟨t, ht⟩ : ∃ t, tookN x need = t := ⟨_, rfl⟩
          rw [ht] at hcx HW
          clear ht he
          (with_reducible refine hcx.mono ?_)
          clear hcx
          rintro e w4 ⟨rfl, hBd⟩
          have hb5 := (hrr.trans hBd).alloc (hrr.trans hBd).size (.cells (boxNode t) 38)
          have ht5 := Blk.new w4 38 (boxNode t)
          have t0 : _ = some (Value.int .i64 t.id) := ht5.cell 0
          have t1 : _ = some (Value.int .i64 t.inc) := ht5.cell 1
          have t2 : _ = some (Value.int .i64 t.load) := ht5.cell 2
          have t3 : _ = some (Value.int .i64 t.cap.a) := ht5.cell 3
          have t4 : _ = some (Value.int .i64 t.cap.b) := ht5.cell 4
          have t5 : _ = some (Value.int .i64 t.cap.c) := ht5.cell 5
          have t6 : _ = some (Value.int .i64 t.used.a) := ht5.cell 6
          have t7 : _ = some (Value.int .i64 t.used.b) := ht5.cell 7
          have t8 : _ = some (Value.int .i64 t.used.c) := ht5.cell 8
          have t9 : _ = some (Value.bool t.up) := ht5.cell 9
          have h5 := HX.out.2.2.2.2.below hb5 HX.out.2.2.2.2.lt
          have HL := Lib.hid (node_lay t x h5 (Nat.le_refl wr.heap.size) (HX.out.2.2.2.1.trans (hb5.mono HX.out.2.2.2.1.size)))
          clear hBd ht5 h5 r0 r1 r2
          go_upto_region 9 with fail
          simp only [boxNode] at hb5 HL t0 t1 t2 t3 t4 t5 t6 t7 t8 t9
          generalize w4.alloc (.cells _ 38) = w5 at hb5 HL t0 t1 t2 t3 t4 t5 t6 t7 t8 t9 ⊢
          go_upto_region 10 with fail
          obtain ⟨hZ, hY⟩ := HL.out
          clear t0 t1 t2 t3 t4 t5 t6 t7 t8 t9 y0 y1 y2 y3 y4 y5 y6 y7 y8 y9 yf hb5 hrr HL hlx
          generalize ((((((((((w5.setCell ⟨wr.heap.size, 0, none⟩ (.int .i64 t.id)).setCell ⟨wr.heap.size, 1, none⟩ (.int .i64 t.inc)).setCell ⟨wr.heap.size, 2, none⟩ (.int .i64 t.load)).setCell ⟨wr.heap.size, 3, none⟩ (.int .i64 t.cap.a)).setCell ⟨wr.heap.size, 4, none⟩ (.int .i64 t.cap.b)).setCell ⟨wr.heap.size, 5, none⟩ (.int .i64 t.cap.c)).setCell ⟨wr.heap.size, 6, none⟩ (.int .i64 t.used.a)).setCell ⟨wr.heap.size, 7, none⟩ (.int .i64 t.used.b)).setCell ⟨wr.heap.size, 8, none⟩ (.int .i64 t.used.c)).setCell ⟨wr.heap.size, 9, none⟩ (.bool t.up)) = W3 at hZ hY ⊢
          have v0 : W3.cell? ⟨wr.heap.size, 0, none⟩ = some (.int .i64 t.id) := hZ.cell 0
          have v1 : W3.cell? ⟨wr.heap.size, 1, none⟩ = some (.int .i64 t.inc) := hZ.cell 1
          have v2 : W3.cell? ⟨wr.heap.size, 2, none⟩ = some (.int .i64 t.load) := hZ.cell 2
          have v3 : W3.cell? ⟨wr.heap.size, 3, none⟩ = some (.int .i64 t.cap.a) := hZ.cell 3
          have v4 : W3.cell? ⟨wr.heap.size, 4, none⟩ = some (.int .i64 t.cap.b) := hZ.cell 4
          have v5 : W3.cell? ⟨wr.heap.size, 5, none⟩ = some (.int .i64 t.cap.c) := hZ.cell 5
          have v6 : W3.cell? ⟨wr.heap.size, 6, none⟩ = some (.int .i64 t.used.a) := hZ.cell 6
          have v7 : W3.cell? ⟨wr.heap.size, 7, none⟩ = some (.int .i64 t.used.b) := hZ.cell 7
          have v8 : W3.cell? ⟨wr.heap.size, 8, none⟩ = some (.int .i64 t.used.c) := hZ.cell 8
          have v9 : W3.cell? ⟨wr.heap.size, 9, none⟩ = some (.bool t.up) := hZ.cell 9
          clear hZ
          have hO4 := HX.out.2.1.below hY
          have hB4 := HX.out.2.2.1.trans (hY.mono HX.out.2.2.1.size)
          go_wp2_with (at_builtin; refine wp_app (enc := encNode) Node_len Node_one rfl (.tmp 38) (.tmp 40) 22 rfl 38 _ 80 Try.underlying22 Try.infoNode rfl (by decide) w1.heap.size _ k _ _ rfl (hO4.alloc _) _ 1 _ [t] (by rfl) (Rd.new1 _ (t : LNode) _ _ _ rfl) (k + 1) rfl _ rfl (by omega) (by omega) (by have := hB4.size; simp; omega) ?_; intro A6 c6 w6 ho6 hg6 _; have hb6 := (hB4.alloc hB4.size _).grown hg6 (by have := hB4.size; simp; omega) (own_block_ge hO4))
          go_roundw
          case rel => exact ⟨k + 1, A6, c6, by omega, by go_num, rfl, by rw [HX.out.1, HW.out]; exact ho6, hb6⟩
          case measure => simp [intOf]; omega
        · have HW := Lib.hid (show with1 id need x = x by rw [with1, if_pos HI.out, if_neg he])
          rw [if_neg he] at hcx
          obtain ⟨z, hz⟩ : ∃ z, zeroN = z := ⟨_, rfl⟩
          rw [hz] at hcx
          clear hz
          obtain ⟨er, her⟩ : ∃ er, takeE x x.inc need = er := ⟨_, rfl⟩
          rw [her] at hcx he
          clear her
          have hee : (er == 0) = false := by rw [beq_eq_false_iff_ne]; exact he
          clear he
          (with_reducible refine hcx.mono ?_)
          clear hcx
          rintro e w4 ⟨rfl, hBd⟩
          have hb5 := (hrr.trans hBd).alloc (hrr.trans hBd).size (.cells (boxNode z) 38)
          have hY := HX.out.2.2.2.1.trans (hb5.mono HX.out.2.2.2.1.size)
          clear hBd r0 r1 r2
          go_upto_region 8 with fail
          simp only [boxNode] at hb5 hY
          generalize w4.alloc (.cells _ 38) = w5 at hb5 hY ⊢
          have hO4 := HX.out.2.1.below hY
          have hB4 := HX.out.2.2.1.trans (hY.mono HX.out.2.2.1.size)
          go_wp2_with (at_builtin; refine wp_app (enc := encNode) Node_len Node_one rfl (.tmp 38) (.tmp 40) 22 rfl 38 _ 80 Try.underlying22 Try.infoNode rfl (by decide) w1.heap.size _ k _ _ rfl (hO4.alloc _) _ 1 _ [x] (by rfl) (Rd.new1 _ (x : LNode) _ _ _ rfl) (k + 1) rfl _ rfl (by omega) (by omega) (by have := hB4.size; simp; omega) ?_; intro A6 c6 w6 ho6 hg6 _; have hb6 := (hB4.alloc hB4.size _).grown hg6 (by have := hB4.size; simp; omega) (own_block_ge hO4))
          go_roundw
          case rel => exact ⟨k + 1, A6, c6, by omega, by go_num, rfl, by rw [HX.out.1, HW.out]; exact ho6, hb6⟩
          case measure => simp [intOf]; omega
      · have hieq : (x.id == id) = false := by rw [beq_eq_false_iff_ne]; exact hid
        have HW := Lib.hid (show with1 id need x = x by rw [with1, if_neg hid])
        clear hid
        have hY := HX.out.2.2.2.1
        clear r0 r1 r2
        have hO4 := HX.out.2.1.below hY
        have hB4 := HX.out.2.2.1.trans (hY.mono HX.out.2.2.1.size)
        go_wp2_with (at_builtin; refine wp_app (enc := encNode) Node_len Node_one rfl (.tmp 38) (.tmp 40) 22 rfl 38 _ 80 Try.underlying22 Try.infoNode rfl (by decide) w1.heap.size _ k _ _ rfl (hO4.alloc _) _ 1 _ [x] (by rfl) (Rd.new1 _ (x : LNode) _ _ _ rfl) (k + 1) rfl _ rfl (by omega) (by omega) (by have := hB4.size; simp; omega) ?_; intro A6 c6 w6 ho6 hg6 _; have hb6 := (hB4.alloc hB4.size _).grown hg6 (by have := hB4.size; simp; omega) (own_block_ge hO4))
        go_roundw
        case rel => exact ⟨k + 1, A6, c6, by omega, by go_num, rfl, by rw [HX.out.1, HW.out]; exact ho6, hb6⟩
        case measure => simp [intOf]; omega
    · have hfull : l.take k = l := List.take_of_length_le (by have := HB.out.2.2.len; omega)
      obtain rfl : k = n := by omega
      rw [hfull] at hO
      have HO := Lib.hid (And.intro (hO.lower HB.out.2.1.size) (HB.out.2.1.trans (hBq.mono HB.out.2.1.size)))
      clear hO hBq hfull
      go_wp2
      go_ret
      exact ⟨A', c', rfl, HO.out.1, HO.out.2⟩
end Go.Proofs.Ytcfninipcghbmaa
namespace Go.Proofs.Ytcfninipcghbmaa
open Go.Shelf Go.RowKit Go.Sort

theorem below_drew1 (w : World) : Below w.heap.size w w.drew := (Below.refl _ _).drew
section
variable {P : Program} {α : Type} {enc : α → List Value} {ops : Array Oper} {o : Oper} {a : Act} {K : Act → World → Prop} {Q : Exit → Act → World → Prop} {E : Prop} {w : World}
/-- append(s, x), at a step of a region that draws its order. -/
theorem step_app1 {sz : Nat} (henc : ∀ x, (enc x).length = sz) (hone : ∀ x, ∀ u ∈ enc x, u.oneCell' = true) (hgd : o.guard = none) (s x : Operand) (t : TypeId)
    (ho : o.op = .call { callee := .builtin .append, args := #[s, x], argTypes := #[t, t] })
    (e : TypeId) (z : Value) (bytes : Nat) (ht : P.underlying t = some (.slice e)) (hinfo : (P.info? e).map (fun i => (i.zero, i.size, i.bytes)) = some (some z, sz, bytes)) (hzs : z.cells.size = sz) (hsz : 0 < sz)
    (base : Nat) (A : Option Addr) (n c : Nat) (l : List α) (hs : a.eval s = .slice A n c) (hown : OwnL enc e sz w base A n c l)
    (b d : Nat) (y : α) (hx : a.eval x = .slice (some ⟨b, 0, none⟩) 1 d) (hr : Rd enc sz w (some ⟨b, 0, none⟩) 1 [y])
    (h63 : n + 1 ≤ 9223372036854775807) (hbytes : (n + 1) * bytes ≤ 140737488355328) (hbase : base ≤ w.heap.size)
    (h : ∀ A' c' w', OwnL enc e sz w' base A' (n + 1) c' (l ++ [y]) → w.grownBy w' (Value.slice A n c).ownBlock → K (a.put o.dst (.slice A' (n + 1) c')) w') :
    if Region.wanted o (yielded ops a.tmps) = true then Oper.wp P o a w K Q else E := by
  obtain ⟨i, hi, hzz⟩ := Option.map_eq_some_iff.1 hinfo
  simp only [Prod.mk.injEq] at hzz
  obtain ⟨hz0, hz1, hz2⟩ := hzz
  refine step_append_lies w hgd s x t ho base e i z sz bytes ht hi hz0 hz1 hz2 hzs hsz (.slice A n c) n (l.flatMap enc) hs hown.own ⟨b, 0, none⟩ 1 d (enc y) hx (by rw [henc]; omega) (fun j u hu => ?_) (hone y) (by omega) (by simp only [maxLen]; omega) hbytes hbase w.heap.size rfl ?_
  · rw [add_at]
    have := hr.cells_at (k := 0) rfl j u hu
    rw [show 0 + 0 * sz + j = 0 + j by omega] at this
    exact this
  · intro g cap w' h2 h3 _ _
    refine h _ _ w' ⟨?_, by rw [List.length_append, hown.len]; rfl⟩ h3
    rw [List.flatMap_append, List.flatMap_cons, List.flatMap_nil, List.append_nil]
    exact h2
end
theorem own_ne {α : Type} {enc : α → List Value} {e sz : Nat} {w : World} {base : Nat} {A : Option Addr} {n c : Nat} {l : List α} (h : OwnL enc e sz w base A n c l) : some w.heap.size ≠ (Value.slice A n c).ownBlock := by
  cases A with
  | none => simp [Value.ownBlock]
  | some ad =>
    intro he
    have := (h.at_base ad rfl).2
    simp [Value.ownBlock] at he
    omega
/-- What lies in memory while the reference places jobs. -/
structure PV (w1 : World) (n : Nat) (s : PSt) (wr : World) (An : Option Addr) (cn : Nat) (O : Option Addr) (on oc : Nat) (L : Option Addr) (ln lc : Nat) (J : Option Addr) (m d : Nat) (js : List LJob) : Prop where
  nodes : Rd encNode 10 w1 An n s.nodes ∨ OwnL encNode 38 10 wr w1.heap.size An n cn s.nodes
  out : OwnL encAssign 112 2 wr w1.heap.size O on oc s.out
  left : OwnL encI 3 1 wr w1.heap.size L ln lc s.left
  jobs : OwnL encJob 40 8 wr w1.heap.size J m d js
  below : Below w1.heap.size w1 wr
section
variable {w1 wr w' : World} {n : Nat} {s : PSt} {An : Option Addr} {cn : Nat} {O : Option Addr} {on oc : Nat} {L : Option Addr} {ln lc : Nat} {J : Option Addr} {m d : Nat} {js : List LJob}
theorem PV.rd (h : PV w1 n s wr An cn O on oc L ln lc J m d js) : Rd encNode 10 wr An n s.nodes := by
  rcases h.nodes with h1 | h1
  · exact h1.below h.below
  · exact h1.rd Node_len
theorem PV.next (h : PV w1 n s wr An cn O on oc L ln lc J m d js) (hb : Below wr.heap.size wr w') : PV w1 n s w' An cn O on oc L ln lc J m d js :=
  ⟨h.nodes.imp id (fun h1 => h1.below hb), h.out.below hb, h.left.below hb, h.jobs.below hb, h.below.trans (hb.mono h.below.size)⟩
theorem below_own {α : Type} {enc : α → List Value} {e sz : Nat} {w : World} {A : Option Addr} {n c : Nat} {l : List α} (h : OwnL enc e sz w w1.heap.size A n c l) (hk : Below w1.heap.size w1 w) (hg : w.grownBy w' (Value.slice A n c).ownBlock) : Below w1.heap.size w1 w' :=
  hk.grown hg hk.size (own_block_ge h)
theorem PV.left_app (h : PV w1 n s wr An cn O on oc L ln lc J m d js) {L' : Option Addr} {ln' lc' : Nat} {x : Int} (hO : OwnL encI 3 1 w' w1.heap.size L' ln' lc' (s.left ++ [x])) (hg : wr.grownBy w' (Value.slice L ln lc).ownBlock) : PV w1 n ⟨s.nodes, s.out, s.left ++ [x]⟩ w' An cn O on oc L' ln' lc' J m d js :=
  ⟨h.nodes.imp id (fun h1 => h1.grown_apart hg (own_apart h1 h.left (by decide))), h.out.grown_apart hg (own_apart h.out h.left (by decide)), hO, h.jobs.grown_apart hg (own_apart h.jobs h.left (by decide)), below_own h.left h.below hg⟩
theorem PV.out_app (h : PV w1 n s wr An cn O on oc L ln lc J m d js) {O' : Option Addr} {on' oc' : Nat} {x : LAssign} (hO : OwnL encAssign 112 2 w' w1.heap.size O' on' oc' (s.out ++ [x])) (hg : wr.grownBy w' (Value.slice O on oc).ownBlock) : PV w1 n ⟨s.nodes, s.out ++ [x], s.left⟩ w' An cn O' on' oc' L ln lc J m d js :=
  ⟨h.nodes.imp id (fun h1 => h1.grown_apart hg (own_apart h1 h.out (by decide))), hO, h.left.grown_apart hg (own_apart h.left h.out (by decide)), h.jobs.grown_apart hg (own_apart h.jobs h.out (by decide)), below_own h.out h.below hg⟩
theorem PV.took (h : PV w1 n s wr An cn O on oc L ln lc J m d js) {An' : Option Addr} {cn' : Nat} {ns : List LNode} (hO : OwnL encNode 38 10 w' wr.heap.size An' n cn' ns) (hb : Below wr.heap.size wr w') : PV w1 n ⟨ns, s.out, s.left⟩ w' An' cn' O on oc L ln lc J m d js :=
  ⟨.inr (hO.lower h.below.size), h.out.below hb, h.left.below hb, h.jobs.below hb, h.below.trans (hb.mono h.below.size)⟩
end
theorem placeStep_some {s : PSt} {j : LJob} {b : LNode} (h : bestN j.need s.nodes = some b) : placeStep s j = ⟨withN s.nodes b.id j.need, s.out ++ [⟨j.id, b.id⟩], s.left⟩ := by rw [placeStep, h]
theorem placeStep_none {s : PSt} {j : LJob} (h : bestN j.need s.nodes = none) : placeStep s j = ⟨s.nodes, s.out, s.left ++ [j.id]⟩ := by rw [placeStep, h]
set_option maxRecDepth 100000 in
set_option maxHeartbeats 6400000 in
theorem refPlace_t (A : Option Addr) (n c : Nat) (l : List LNode) (J : Option Addr) (m d : Nat) (js : List LJob) (w : World) (hl : Rd encNode 10 w A n l) (hj : Rd encJob 8 w J m js) (hn : n ≤ 1000) (hm : m ≤ 1000) :
    Calls Try.prog 12 #[.slice A n c, .slice J m d] w fun e w' => ∃ O on oc L ln lc, e = .returned (.tuple #[.slice O on oc, .slice L ln lc]) ∧ on ≤ m ∧ ln ≤ m ∧ OwnL encAssign 112 2 w' w.heap.size O on oc (placeP l js).out ∧ OwnL encI 3 1 w' w.heap.size L ln lc (placeP l js).left ∧ Below w.heap.size w w' := by
  have HH := Lib.hid (And.intro hl hj)
  clear hl hj
  go_enter Try.func12, Try.ntmps12
  go_wp2
  go_loopw [6, 7] (fun v i wr => ∃ (k q : Nat) (A' : Option Addr) (c' : Nat), k ≤ m ∧ i = .int .i64 k ∧ v = .slice A' q c' ∧ q ≤ k ∧ OwnL encJob 40 8 wr w.heap.size A' q c' ((js.take k).filter (fun j => j.phase == 1)) ∧ Below w.heap.size w wr) (fun _ i _ => m - (intOf i).toNat)
  case atStart => exact ⟨0, 0, none, 0, Nat.zero_le _, rfl, rfl, Nat.le_refl _, OwnL.nil _ _, Below.refl _ _⟩
  case round =>
    obtain ⟨k, q, A', c', hk, rfl, rfl, hqk, hO, hBq⟩ := hrel
    have hsq := hBq.size
    by_cases hlt : k < m
    · obtain ⟨ab, ao, x, rfl, hxx, hal, hcells⟩ := (HH.out.2.below hBq).at_ hlt
      have x0 := hcells 0 _ rfl
      have x1 := hcells 1 _ rfl
      have x2 := hcells 2 _ rfl
      have x3 := hcells 3 _ rfl
      have x4 := hcells 4 _ rfl
      have x5 := hcells 5 _ rfl
      have x6 := hcells 6 _ rfl
      have x7 := hcells 7 _ rfl
      simp only [Nat.add_zero] at x0
      have hst := filter_snoc_n (fun j : LJob => j.phase == 1) hxx
      have HX := Lib.hid (And.intro hst (And.intro hO hBq))
      clear hcells hxx hst hO hBq
      cases hp : (x.phase == 1)
      · have HS := Lib.hid (show (js.take (k + 1)).filter (fun j => j.phase == 1) = (js.take k).filter (fun j => j.phase == 1) by rw [HX.out.1, hp]; simp)
        go_wp2
        go_roundw
        case rel => exact ⟨k + 1, q, A', c', by omega, by go_num, rfl, by omega, by rw [HS.out]; exact HX.out.2.1, HX.out.2.2⟩
        case measure => simp [intOf]; omega
      · have HS := Lib.hid (show (js.take (k + 1)).filter (fun j => j.phase == 1) = (js.take k).filter (fun j => j.phase == 1) ++ [x] by rw [HX.out.1, hp]; rfl)
        go_wp2_with (at_builtin; refine wp_app (enc := encJob) Job_len Job_one rfl (.tmp 25) (.tmp 30) 23 rfl 40 _ 64 Try.underlying23 Try.infoJob rfl (by decide) w.heap.size _ q _ _ rfl (HX.out.2.1.alloc _) _ 1 _ [x] (by rfl) (Rd.new1 _ x _ _ _ rfl) (q + 1) rfl _ rfl (by omega) (by omega) (by have := HX.out.2.2.size; simp; omega) ?_; intro A4 c4 w4 ho4 hg4 _; have hb4 := (HX.out.2.2.alloc HX.out.2.2.size _).grown hg4 (by have := HX.out.2.2.size; simp; omega) (own_block_ge HX.out.2.1))
        go_roundw
        case rel => exact ⟨k + 1, q + 1, A4, c4, by omega, by go_num, rfl, by omega, by rw [HS.out]; exact ho4, hb4⟩
        case measure => simp [intOf]; omega
    · have hfull : js.take k = js := List.take_of_length_le (by have := HH.out.2.len; omega)
      rw [hfull] at hO
      have HO := Lib.hid (And.intro hO hBq)
      have hcx := refJobs_t A' q c' _ wr (hO.rd Job_len) (by omega)
      clear hO hBq hfull
      go_wp2_with fail
      (with_reducible refine hcx.mono ?_)
      clear hcx
      rintro e w2 ⟨J2, m2, d2, rfl, hm2, hO2, hB2⟩
      obtain ⟨wj, hwj⟩ : ∃ wj, waitJ js = wj := ⟨_, rfl⟩
      rw [show ssort jobLt (js.filter (fun j => j.phase == 1)) = wj from hwj] at hO2
      have HPV : Hid (PV w n (placeAll l (wj.take 0)) w2 A c none 0 0 none 0 0 J2 m2 d2 wj) := Lib.hid ⟨.inl HH.out.1, OwnL.nil _ _, OwnL.nil _ _, hO2.lower HO.out.2.size, HO.out.2.trans (hB2.mono HO.out.2.size)⟩
      have HWJ := Lib.hid hwj
      have hm2m : m2 ≤ m := by omega
      clear hwj hO2 hB2 hm2
      go_wp2
      go_loopw [0, 8, 9, 10] (fun v0 v8 v9 i wr => ∃ (k on oc ln lc cn : Nat) (O L An : Option Addr), k ≤ m2 ∧ i = .int .i64 k ∧ v0 = .slice An n cn ∧ v8 = .slice O on oc ∧ v9 = .slice L ln lc ∧ on ≤ k ∧ ln ≤ k ∧ Hid (PV w n (placeAll l (wj.take k)) wr An cn O on oc L ln lc J2 m2 d2 wj)) (fun _ _ _ i _ => m2 - (intOf i).toNat)
      case atStart => exact ⟨0, 0, 0, 0, 0, c, none, none, A, Nat.zero_le _, rfl, rfl, rfl, rfl, Nat.le_refl _, Nat.le_refl _, HPV⟩
      case round =>
        clear HPV
        obtain ⟨k, on, oc, ln, lc, cn, O, L, An, hk, rfl, rfl, rfl, rfl, hon, hln, HP⟩ := hrel
        by_cases hlt : k < m2
        · obtain ⟨ab, ao, x, rfl, hxx, hal, hcells⟩ := (HP.out.jobs.rd Job_len).at_ hlt
          have x0 := hcells 0 _ rfl
          have x5 := hcells 5 _ rfl
          have x6 := hcells 6 _ rfl
          have x7 := hcells 7 _ rfl
          simp only [Nat.add_zero] at x0
          have hst : placeAll l (wj.take (k + 1)) = placeStep (placeAll l (wj.take k)) x := by rw [take_succ_of _ _ _ hxx, placeAll_snoc]
          obtain ⟨s, hs⟩ : ∃ s, placeAll l (wj.take k) = s := ⟨_, rfl⟩
          rw [hs] at HP hst
          have hcx := refBest_t An n cn s.nodes x.need wr HP.out.rd (by omega)
          cases hb : bestN x.need s.nodes with
          | none =>
            have HS := Lib.hid (hst.trans (placeStep_none hb))
            have HX := Lib.hid hxx
            rw [hb] at hcx
            obtain ⟨z, hz⟩ : ∃ z, (none : Option LNode).getD zeroN = z := ⟨_, rfl⟩
            rw [hz] at hcx
            clear hcells hxx hst hs hb hz
            go_wp2_with fail
            (with_reducible refine hcx.mono ?_)
            clear hcx x0 x5 x6 x7
            rintro e w4 ⟨rfl, hB4⟩
            have HZ := Lib.hid ((HP.out.next hB4).next ((Below.refl _ w4).alloc (Nat.le_refl _) (.cells (boxNode z) 38)))
            clear hB4
            go_upto_region 14 with fail
            simp only [boxNode] at HZ
            generalize w4.alloc (.cells _ 38) = w5 at HZ ⊢
            have x0 := (HZ.out.jobs.rd Job_len).cells_at HX.out 0 _ rfl
            simp only [Nat.add_zero] at x0
            go_wp2_with (at_builtin; refine wp_app (enc := encI) (fun _ => rfl) (by simp [encI, Value.oneCell']) rfl (.tmp 52) (.tmp 58) 27 rfl 3 (.int .i64 0) 8 Try.underlying27 Try.infoInt rfl (by decide) w.heap.size _ ln _ _ rfl (HZ.out.left.alloc _) _ 1 _ [x.id] (by rfl) (Rd.new1 _ x.id _ _ _ rfl) (ln + 1) rfl _ rfl (by omega) (by omega) (by have := HZ.out.below.size; simp; omega) ?_; intro L6 lc6 w6 ho6 hg6 _; have HPN := Lib.hid ((HZ.out.next ((Below.refl _ _).alloc (Nat.le_refl _) _)).left_app ho6 hg6); clear ho6 hg6)
            go_roundw
            case rel => exact ⟨k + 1, on, oc, ln + 1, lc6, cn, O, L6, An, by omega, by go_num, rfl, rfl, rfl, by omega, by omega, by rw [HS.out]; exact HPN⟩
            case measure => simp [intOf]; omega
          | some b =>
            have HS := Lib.hid (hst.trans (placeStep_some hb))
            have HX := Lib.hid hxx
            rw [hb] at hcx
            simp only [Option.getD_some, Option.isSome_some] at hcx
            clear hcells hxx hst hs hb
            go_wp2_with fail
            (with_reducible refine hcx.mono ?_)
            clear hcx x0 x5 x6 x7
            rintro e w4 ⟨rfl, hB4⟩
            have hP4 := HP.out.next hB4
            have hbx := Blk.new w4 38 (boxNode b)
            have HZ := Lib.hid (And.intro (hP4.next ((Below.refl _ w4).alloc (Nat.le_refl _) (.cells (boxNode b) 38))) (And.intro hbx (own_ne hP4.out)))
            clear hB4 hP4 hbx
            go_upto_region 16 with fail
            simp only [boxNode] at HZ
            generalize w4.alloc (.cells _ 38) = w5 at HZ ⊢
            obtain ⟨bx, hbx⟩ : ∃ bx, w4.heap.size = bx := ⟨_, rfl⟩
            rw [hbx] at HZ ⊢
            clear hbx
            have x0 := (HZ.out.1.jobs.rd Job_len).cells_at HX.out 0 _ rfl
            simp only [Nat.add_zero] at x0
            have b0 : w5.cell? ⟨bx, 0, none⟩ = some (.int .i64 b.id) := HZ.out.2.1.cell 0
            have hkz : k < m2 := hlt
            go_region_held3 (fun w' => w'.cell? ⟨ab, ao + k * 8, none⟩ = some (.int .i64 x.id) ∧ w'.cell? ⟨bx, 0, none⟩ = some (.int .i64 b.id))
              (first | exact ⟨x0, b0⟩ | exact ⟨e0, e1⟩ | go_keep)
              ((refine step_app1 (enc := encAssign) Assign_len Assign_one (by rfl) _ _ _ (by rfl) 112 _ 16 Try.underlying24 Try.infoAssign (by rfl) (by decide) w.heap.size O on oc s.out (by rfl) (by first | exact (HZ.out.1.out.below (below_drew1 _)).alloc _ | exact (HZ.out.1.out.alloc _).below (below_drew1 _) | exact HZ.out.1.out.alloc _) _ _ (⟨x.id, b.id⟩ : LAssign) (by rfl) ((Rd.new1 w5 (⟨x.id, b.id⟩ : LAssign) _ _ _ rfl).below (below_drew1 _)) (by omega) (by omega) (by have := HZ.out.1.below.size; simp; omega) ?_; intro O6 oc6 w6 ho6 hg6; have HPN := Lib.hid (PV.out_app (PV.next (PV.next HZ.out.1 ((Below.refl _ _).alloc (Nat.le_refl _) _)) (below_drew1 _)) ho6 hg6); have e0 := (HPN.out.jobs.rd Job_len).cells_at HX.out 0 _ rfl; simp only [Nat.add_zero] at e0; have hB5 := HZ.out.2.1.alloc (.cells #[.int .i64 x.id, .int .i64 b.id] 112); have hB6 := (hB5.below (below_drew1 _) hB5.lt).grown hg6 HZ.out.2.2; clear hB5; have e1 : w6.cell? ⟨bx, 0, none⟩ = some (.int .i64 b.id) := hB6.cell 0; have HB6 := Lib.hid hB6; clear ho6 hg6 hB6))
            have y5 := (HPN.out.jobs.rd Job_len).cells_at HX.out 5 _ rfl
            have y6 := (HPN.out.jobs.rd Job_len).cells_at HX.out 6 _ rfl
            have y7 := (HPN.out.jobs.rd Job_len).cells_at HX.out 7 _ rfl
            clear x0 b0 HZ
            go_wp2
            go_region_held3 (fun w' => w'.cell? ⟨bx, 0, none⟩ = some (.int .i64 b.id) ∧ w'.cell? ⟨ab, ao + k * 8 + 5, none⟩ = some (.int .i64 x.need.a) ∧ w'.cell? ⟨ab, ao + k * 8 + 6, none⟩ = some (.int .i64 x.need.b) ∧ w'.cell? ⟨ab, ao + k * 8 + 7, none⟩ = some (.int .i64 x.need.c))
              (first | exact ⟨e1, y5, y6, y7⟩ | exact ⟨k0, k1, k2, k3⟩ | go_keep)
              (first
                | (go_at_call 52; have hcx := refWith_t An n cn s.nodes b.id x.need w6.drew (HPN.out.next (below_drew1 w6)).rd (by omega); (with_reducible refine hcx.mono ?_); clear hcx; rintro e w7 ⟨N7, c7, rfl, hO7, hB7⟩; have k0 := (HB6.out.below (below_drew1 w6) HB6.out.lt |>.below hB7 (HB6.out.below (below_drew1 w6) HB6.out.lt).lt).cell 0; have HPT := Lib.hid ((HPN.out.next (below_drew1 w6)).took hO7 hB7); have k1 := (HPT.out.jobs.rd Job_len).cells_at HX.out 5 _ rfl; have k2 := (HPT.out.jobs.rd Job_len).cells_at HX.out 6 _ rfl; have k3 := (HPT.out.jobs.rd Job_len).cells_at HX.out 7 _ rfl; clear hO7 hB7))
            clear k0 k1 k2 k3 e0 e1 y5 y6 y7
            go_wp2
            go_roundw
            case rel => exact ⟨k + 1, on + 1, oc6, ln, lc, c7, O6, L, N7, by omega, by go_num, rfl, rfl, rfl, by omega, by omega, by rw [HS.out]; exact HPT⟩
            case measure => simp [intOf]; omega
        · have hfull : wj.take k = wj := List.take_of_length_le (by have := HP.out.jobs.len; omega)
          rw [hfull] at HP
          have HF := Lib.hid (show placeAll l wj = placeP l js by rw [placeP, HWJ.out])
          clear hfull
          go_wp2
          go_ret2
          rw [← HF.out]
          exact ⟨O, on, oc, L, ln, lc, rfl, by omega, by omega, HP.out.out, HP.out.left, HP.out.below⟩
end Go.Proofs.Ytcfninipcghbmaa
