/-
  REFERENCES: reeveref23.Do, where a job is taken on.
-/
import Derived.Test.YtcfninipcghbmaaPlaceH
import Derived.Test.YtcfninipcghbmaaPlace9
set_option linter.unusedVariables false
set_option linter.unusedSimpArgs false
namespace Go.Proofs.Ytcfninipcghbmaa
open Go.RowKit Go.Sort

set_option maxRecDepth 100000 in
set_option maxHeartbeats 1600000 in
theorem refDo4_t (n : LNode) (need : LRes) (w : World) :
    Calls Try.prog 77 #[aggNode n, .agg #[.int .i64 4, .int .i64 n.inc, .int .i64 need.a, .int .i64 need.b, .int .i64 need.c]] w fun e w' => e = .returned (.tuple #[aggNode (if takeE n n.inc need = 0 then tookN n need else zeroN), .int .i64 (takeE n n.inc need)]) ∧ Below w.heap.size w w' := by
  obtain ⟨er, her⟩ : ∃ er, takeE n n.inc need = er := ⟨_, rfl⟩
  rw [her]
  have HER := Lib.hid her
  clear her
  have hs1 : (w.alloc (.cells (boxNode n) 38)).heap.size = w.heap.size + 1 := by simp
  have hs2 : ((w.alloc (.cells (boxNode n) 38)).alloc (.cells #[.int .i64 4, .int .i64 n.inc, .int .i64 need.a, .int .i64 need.b, .int .i64 need.c] 148)).heap.size = w.heap.size + 1 + 1 := by simp
  have hs3 : (((w.alloc (.cells (boxNode n) 38)).alloc (.cells #[.int .i64 4, .int .i64 n.inc, .int .i64 need.a, .int .i64 need.b, .int .i64 need.c] 148)).alloc (.cells (boxNode zeroN) 38)).heap.size = w.heap.size + 1 + 1 + 1 := by simp
  have h0 := (((Blk.new w 38 (boxNode n)).alloc (.cells #[.int .i64 4, .int .i64 n.inc, .int .i64 need.a, .int .i64 need.b, .int .i64 need.c] 148)).alloc (.cells (boxNode zeroN) 38)).alloc (.cells (boxNode zeroN) 38)
  have h1 := ((Blk.new (w.alloc (.cells (boxNode n) 38)) 148 #[.int .i64 4, .int .i64 n.inc, .int .i64 need.a, .int .i64 need.b, .int .i64 need.c]).alloc (.cells (boxNode zeroN) 38)).alloc (.cells (boxNode zeroN) 38)
  have h2 := (Blk.new ((w.alloc (.cells (boxNode n) 38)).alloc (.cells #[.int .i64 4, .int .i64 n.inc, .int .i64 need.a, .int .i64 need.b, .int .i64 need.c] 148)) 38 (boxNode zeroN)).alloc (.cells (boxNode zeroN) 38)
  have h3 := Blk.new (((w.alloc (.cells (boxNode n) 38)).alloc (.cells #[.int .i64 4, .int .i64 n.inc, .int .i64 need.a, .int .i64 need.b, .int .i64 need.c] 148)).alloc (.cells (boxNode zeroN) 38)) 38 (boxNode zeroN)
  rw [hs1] at h1
  rw [hs2] at h2
  rw [hs3] at h3
  have hB : Below w.heap.size w ((((w.alloc (.cells (boxNode n) 38)).alloc (.cells #[.int .i64 4, .int .i64 n.inc, .int .i64 need.a, .int .i64 need.b, .int .i64 need.c] 148)).alloc (.cells (boxNode zeroN) 38)).alloc (.cells (boxNode zeroN) 38)) := ((((Below.refl _ _).alloc (Nat.le_refl _) _).alloc (by simp) _).alloc (by simp; omega) _).alloc (by simp; omega) _
  have hrr := Below.refl ((((w.alloc (.cells (boxNode n) 38)).alloc (.cells #[.int .i64 4, .int .i64 n.inc, .int .i64 need.a, .int .i64 need.b, .int .i64 need.c] 148)).alloc (.cells (boxNode zeroN) 38)).alloc (.cells (boxNode zeroN) 38)).heap.size ((((w.alloc (.cells (boxNode n) 38)).alloc (.cells #[.int .i64 4, .int .i64 n.inc, .int .i64 need.a, .int .i64 need.b, .int .i64 need.c] 148)).alloc (.cells (boxNode zeroN) 38)).alloc (.cells (boxNode zeroN) 38))
  have n0 := h0.cells_in (v := .int .i64 n.id) 0 rfl
  have n1 := h0.cells_in (v := .int .i64 n.inc) 1 rfl
  have n2 := h0.cells_in (v := .int .i64 n.load) 2 rfl
  have n3 := h0.cells_in (v := .int .i64 n.cap.a) 3 rfl
  have n4 := h0.cells_in (v := .int .i64 n.cap.b) 4 rfl
  have n5 := h0.cells_in (v := .int .i64 n.cap.c) 5 rfl
  have n6 := h0.cells_in (v := .int .i64 n.used.a) 6 rfl
  have n7 := h0.cells_in (v := .int .i64 n.used.b) 7 rfl
  have n8 := h0.cells_in (v := .int .i64 n.used.c) 8 rfl
  have n9 := h0.cells_in (v := .bool n.up) 9 rfl
  have k0 := h1.cells_in (v := .int .i64 4) 0 rfl
  have k1 := h1.cells_in (v := .int .i64 n.inc) 1 rfl
  have k2 := h1.cells_in (v := .int .i64 need.a) 2 rfl
  have k3 := h1.cells_in (v := .int .i64 need.b) 3 rfl
  have k4 := h1.cells_in (v := .int .i64 need.c) 4 rfl
  have z0 := h3.cells_in (v := .int .i64 0) 0 rfl
  have z1 := h3.cells_in (v := .int .i64 0) 1 rfl
  have z2 := h3.cells_in (v := .int .i64 0) 2 rfl
  have z3 := h3.cells_in (v := .int .i64 0) 3 rfl
  have z4 := h3.cells_in (v := .int .i64 0) 4 rfl
  have z5 := h3.cells_in (v := .int .i64 0) 5 rfl
  have z6 := h3.cells_in (v := .int .i64 0) 6 rfl
  have z7 := h3.cells_in (v := .int .i64 0) 7 rfl
  have z8 := h3.cells_in (v := .int .i64 0) 8 rfl
  have z9 := h3.cells_in (v := .bool false) 9 rfl
  have r2 : ∀ j, ∀ W, Below ((((w.alloc (.cells (boxNode n) 38)).alloc (.cells #[.int .i64 4, .int .i64 n.inc, .int .i64 need.a, .int .i64 need.b, .int .i64 need.c] 148)).alloc (.cells (boxNode zeroN) 38)).alloc (.cells (boxNode zeroN) 38)).heap.size ((((w.alloc (.cells (boxNode n) 38)).alloc (.cells #[.int .i64 4, .int .i64 n.inc, .int .i64 need.a, .int .i64 need.b, .int .i64 need.c] 148)).alloc (.cells (boxNode zeroN) 38)).alloc (.cells (boxNode zeroN) 38)) W → W.frozen? ⟨w.heap.size + 1 + 1, j, none⟩ = false := fun j W h => (h2.below h h2.lt).frozen j
  have c0 := h2.cells_in (v := .int .i64 0) 0 rfl
  have c1 := h2.cells_in (v := .int .i64 0) 1 rfl
  have c2 := h2.cells_in (v := .int .i64 0) 2 rfl
  have c3 := h2.cells_in (v := .int .i64 0) 3 rfl
  have c4 := h2.cells_in (v := .int .i64 0) 4 rfl
  have c5 := h2.cells_in (v := .int .i64 0) 5 rfl
  have c6 := h2.cells_in (v := .int .i64 0) 6 rfl
  have c7 := h2.cells_in (v := .int .i64 0) 7 rfl
  have c8 := h2.cells_in (v := .int .i64 0) 8 rfl
  have c9 := h2.cells_in (v := .bool false) 9 rfl
  have HB := Lib.hid (And.intro h0 (And.intro h1 (And.intro h2 (And.intro h3 hB))))
  clear h0 h1 h2 h3 hB hs1 hs2 hs3
  go_enter Try.func77, Try.ntmps77
  go_upto_region 2 with fail
  simp only [boxNode, zeroN] at n0 n1 n2 n3 n4 n5 n6 n7 n8 n9 k0 k1 k2 k3 k4 z0 z1 z2 z3 z4 z5 z6 z7 z8 z9 c0 c1 c2 c3 c4 c5 c6 c7 c8 c9 r2 HB hrr
  generalize (((w.alloc (.cells _ 38)).alloc (.cells _ 148)).alloc (.cells _ 38)).alloc (.cells _ 38) = w1 at n0 n1 n2 n3 n4 n5 n6 n7 n8 n9 k0 k1 k2 k3 k4 z0 z1 z2 z3 z4 z5 z6 z7 z8 z9 c0 c1 c2 c3 c4 c5 c6 c7 c8 c9 r2 HB hrr ⊢
  go_wp2_with fail
  have hcx := refRight23_t n w1
  cases q1 : rightN n
  · rw [q1] at hcx
    obtain rfl : er = 1 := by rw [← HER.out]; simp [takeE, q1]
    (with_reducible refine hcx.mono ?_)
    clear hcx
    rintro e v2 ⟨rfl, hB2⟩
    have hb2 := hrr.trans (hB2.mono hrr.size)
    clear hB2
    have hl := node_lay zeroN zeroN (HB.out.2.2.1.below hb2 HB.out.2.2.1.lt) (show w.heap.size ≤ w.heap.size + 1 + 1 by omega) (HB.out.2.2.2.2.trans (hb2.mono HB.out.2.2.2.2.size))
    simp only [zeroN, boxNode] at hl
    have HL := Lib.hid hl
    clear hl
    go_wp2
    obtain ⟨hZ, hY⟩ := HL.out
    generalize ((((((((((v2.setCell ⟨w.heap.size + 1 + 1, 0, none⟩ (.int .i64 0)).setCell ⟨w.heap.size + 1 + 1, 1, none⟩ (.int .i64 0)).setCell ⟨w.heap.size + 1 + 1, 2, none⟩ (.int .i64 0)).setCell ⟨w.heap.size + 1 + 1, 3, none⟩ (.int .i64 0)).setCell ⟨w.heap.size + 1 + 1, 4, none⟩ (.int .i64 0)).setCell ⟨w.heap.size + 1 + 1, 5, none⟩ (.int .i64 0)).setCell ⟨w.heap.size + 1 + 1, 6, none⟩ (.int .i64 0)).setCell ⟨w.heap.size + 1 + 1, 7, none⟩ (.int .i64 0)).setCell ⟨w.heap.size + 1 + 1, 8, none⟩ (.int .i64 0)).setCell ⟨w.heap.size + 1 + 1, 9, none⟩ (.bool false)) = W3 at hZ hY ⊢
    have v0 : W3.cell? ⟨w.heap.size + 1 + 1, 0, none⟩ = some (.int .i64 0) := hZ.cell 0
    have v1 : W3.cell? ⟨w.heap.size + 1 + 1, 1, none⟩ = some (.int .i64 0) := hZ.cell 1
    have v2 : W3.cell? ⟨w.heap.size + 1 + 1, 2, none⟩ = some (.int .i64 0) := hZ.cell 2
    have v3 : W3.cell? ⟨w.heap.size + 1 + 1, 3, none⟩ = some (.int .i64 0) := hZ.cell 3
    have v4 : W3.cell? ⟨w.heap.size + 1 + 1, 4, none⟩ = some (.int .i64 0) := hZ.cell 4
    have v5 : W3.cell? ⟨w.heap.size + 1 + 1, 5, none⟩ = some (.int .i64 0) := hZ.cell 5
    have v6 : W3.cell? ⟨w.heap.size + 1 + 1, 6, none⟩ = some (.int .i64 0) := hZ.cell 6
    have v7 : W3.cell? ⟨w.heap.size + 1 + 1, 7, none⟩ = some (.int .i64 0) := hZ.cell 7
    have v8 : W3.cell? ⟨w.heap.size + 1 + 1, 8, none⟩ = some (.int .i64 0) := hZ.cell 8
    have v9 : W3.cell? ⟨w.heap.size + 1 + 1, 9, none⟩ = some (.bool false) := hZ.cell 9
    exact bodyPost_ret (v := .tuple #[aggNode zeroN, .int .i64 1]) (by simp [results, Try.results77, go_sem, v0, v1, v2, v3, v4, v5, v6, v7, v8, v9, zeroN]) rfl ⟨by first | rfl | (rw [if_neg (by decide)]; rfl), hY⟩
  · rw [q1] at hcx
    (with_reducible refine hcx.mono ?_)
    clear hcx
    rintro e v2 ⟨rfl, hB2⟩
    have hb2 := hrr.trans (hB2.mono hrr.size)
    clear hB2
    have hi := (rightN_iff n).1 q1
    have hi1 : ¬ n.inc < 1 := by omega
    have hi2 : ¬ n.inc > 2147483647 := by omega
    have hnum : numR n.inc 1 2147483647 = true := by simp [numR]; omega
    have hl64 : n.load ≤ 64 := hi.2.2.2.2.2.2.2.2.1
    have HI := Lib.hid hnum
    clear hi hnum
    go_wp2_with fail
    have hcx := refRightB_t need v2
    cases q2 : rightR need
    · rw [q2] at hcx
      obtain rfl : er = 1 := by rw [← HER.out]; simp [takeE, q2]
      (with_reducible refine hcx.mono ?_)
      clear hcx
      rintro e v3 ⟨rfl, hB3⟩
      have hb3 := hb2.trans (hB3.mono hb2.size)
      clear hB3
      have hl := node_lay zeroN zeroN (HB.out.2.2.1.below hb3 HB.out.2.2.1.lt) (show w.heap.size ≤ w.heap.size + 1 + 1 by omega) (HB.out.2.2.2.2.trans (hb3.mono HB.out.2.2.2.2.size))
      simp only [zeroN, boxNode] at hl
      have HL := Lib.hid hl
      clear hl
      go_wp2
      obtain ⟨hZ, hY⟩ := HL.out
      generalize ((((((((((v3.setCell ⟨w.heap.size + 1 + 1, 0, none⟩ (.int .i64 0)).setCell ⟨w.heap.size + 1 + 1, 1, none⟩ (.int .i64 0)).setCell ⟨w.heap.size + 1 + 1, 2, none⟩ (.int .i64 0)).setCell ⟨w.heap.size + 1 + 1, 3, none⟩ (.int .i64 0)).setCell ⟨w.heap.size + 1 + 1, 4, none⟩ (.int .i64 0)).setCell ⟨w.heap.size + 1 + 1, 5, none⟩ (.int .i64 0)).setCell ⟨w.heap.size + 1 + 1, 6, none⟩ (.int .i64 0)).setCell ⟨w.heap.size + 1 + 1, 7, none⟩ (.int .i64 0)).setCell ⟨w.heap.size + 1 + 1, 8, none⟩ (.int .i64 0)).setCell ⟨w.heap.size + 1 + 1, 9, none⟩ (.bool false)) = W3 at hZ hY ⊢
      have v0 : W3.cell? ⟨w.heap.size + 1 + 1, 0, none⟩ = some (.int .i64 0) := hZ.cell 0
      have v1 : W3.cell? ⟨w.heap.size + 1 + 1, 1, none⟩ = some (.int .i64 0) := hZ.cell 1
      have v2 : W3.cell? ⟨w.heap.size + 1 + 1, 2, none⟩ = some (.int .i64 0) := hZ.cell 2
      have v3 : W3.cell? ⟨w.heap.size + 1 + 1, 3, none⟩ = some (.int .i64 0) := hZ.cell 3
      have v4 : W3.cell? ⟨w.heap.size + 1 + 1, 4, none⟩ = some (.int .i64 0) := hZ.cell 4
      have v5 : W3.cell? ⟨w.heap.size + 1 + 1, 5, none⟩ = some (.int .i64 0) := hZ.cell 5
      have v6 : W3.cell? ⟨w.heap.size + 1 + 1, 6, none⟩ = some (.int .i64 0) := hZ.cell 6
      have v7 : W3.cell? ⟨w.heap.size + 1 + 1, 7, none⟩ = some (.int .i64 0) := hZ.cell 7
      have v8 : W3.cell? ⟨w.heap.size + 1 + 1, 8, none⟩ = some (.int .i64 0) := hZ.cell 8
      have v9 : W3.cell? ⟨w.heap.size + 1 + 1, 9, none⟩ = some (.bool false) := hZ.cell 9
      exact bodyPost_ret (v := .tuple #[aggNode zeroN, .int .i64 1]) (by simp [results, Try.results77, go_sem, v0, v1, v2, v3, v4, v5, v6, v7, v8, v9, zeroN]) rfl ⟨by first | rfl | (rw [if_neg (by decide)]; rfl), hY⟩
    · rw [q2] at hcx
      (with_reducible refine hcx.mono ?_)
      clear hcx
      rintro e v3 ⟨rfl, hB3⟩
      have hb3 := hb2.trans (hB3.mono hb2.size)
      clear hB3
      have hnu := HI.out
      cases hu : n.up
      · simp only [hu] at n9
        obtain rfl : er = 7 := by rw [← HER.out]; simp [takeE, q1, q2, hnu, hu]
        clear hnu
        have hl := node_lay zeroN zeroN (HB.out.2.2.1.below hb3 HB.out.2.2.1.lt) (show w.heap.size ≤ w.heap.size + 1 + 1 by omega) (HB.out.2.2.2.2.trans (hb3.mono HB.out.2.2.2.2.size))
        simp only [zeroN, boxNode] at hl
        have HL := Lib.hid hl
        clear hl
        go_wp2
        obtain ⟨hZ, hY⟩ := HL.out
        generalize ((((((((((v3.setCell ⟨w.heap.size + 1 + 1, 0, none⟩ (.int .i64 0)).setCell ⟨w.heap.size + 1 + 1, 1, none⟩ (.int .i64 0)).setCell ⟨w.heap.size + 1 + 1, 2, none⟩ (.int .i64 0)).setCell ⟨w.heap.size + 1 + 1, 3, none⟩ (.int .i64 0)).setCell ⟨w.heap.size + 1 + 1, 4, none⟩ (.int .i64 0)).setCell ⟨w.heap.size + 1 + 1, 5, none⟩ (.int .i64 0)).setCell ⟨w.heap.size + 1 + 1, 6, none⟩ (.int .i64 0)).setCell ⟨w.heap.size + 1 + 1, 7, none⟩ (.int .i64 0)).setCell ⟨w.heap.size + 1 + 1, 8, none⟩ (.int .i64 0)).setCell ⟨w.heap.size + 1 + 1, 9, none⟩ (.bool false)) = W3 at hZ hY ⊢
        have v0 : W3.cell? ⟨w.heap.size + 1 + 1, 0, none⟩ = some (.int .i64 0) := hZ.cell 0
        have v1 : W3.cell? ⟨w.heap.size + 1 + 1, 1, none⟩ = some (.int .i64 0) := hZ.cell 1
        have v2 : W3.cell? ⟨w.heap.size + 1 + 1, 2, none⟩ = some (.int .i64 0) := hZ.cell 2
        have v3 : W3.cell? ⟨w.heap.size + 1 + 1, 3, none⟩ = some (.int .i64 0) := hZ.cell 3
        have v4 : W3.cell? ⟨w.heap.size + 1 + 1, 4, none⟩ = some (.int .i64 0) := hZ.cell 4
        have v5 : W3.cell? ⟨w.heap.size + 1 + 1, 5, none⟩ = some (.int .i64 0) := hZ.cell 5
        have v6 : W3.cell? ⟨w.heap.size + 1 + 1, 6, none⟩ = some (.int .i64 0) := hZ.cell 6
        have v7 : W3.cell? ⟨w.heap.size + 1 + 1, 7, none⟩ = some (.int .i64 0) := hZ.cell 7
        have v8 : W3.cell? ⟨w.heap.size + 1 + 1, 8, none⟩ = some (.int .i64 0) := hZ.cell 8
        have v9 : W3.cell? ⟨w.heap.size + 1 + 1, 9, none⟩ = some (.bool false) := hZ.cell 9
        exact bodyPost_ret (v := .tuple #[aggNode zeroN, .int .i64 7]) (by simp [results, Try.results77, go_sem, v0, v1, v2, v3, v4, v5, v6, v7, v8, v9, zeroN]) rfl ⟨by first | rfl | (rw [if_neg (by decide)]; rfl), hY⟩
      · simp only [hu] at n9
        rcases Bool.eq_false_or_eq_true (n.load == 64) with q3 | q3
        · skip
          have q3n : ¬ n.load < 64 := by have := beq_iff_eq.1 q3; omega
          obtain rfl : er = 6 := by rw [← HER.out]; simp [takeE, q1, q2, hnu, hu, q3n]
          clear hnu q3n
          have hl := node_lay zeroN zeroN (HB.out.2.2.1.below hb3 HB.out.2.2.1.lt) (show w.heap.size ≤ w.heap.size + 1 + 1 by omega) (HB.out.2.2.2.2.trans (hb3.mono HB.out.2.2.2.2.size))
          simp only [zeroN, boxNode] at hl
          have HL := Lib.hid hl
          clear hl
          go_wp2
          obtain ⟨hZ, hY⟩ := HL.out
          generalize ((((((((((v3.setCell ⟨w.heap.size + 1 + 1, 0, none⟩ (.int .i64 0)).setCell ⟨w.heap.size + 1 + 1, 1, none⟩ (.int .i64 0)).setCell ⟨w.heap.size + 1 + 1, 2, none⟩ (.int .i64 0)).setCell ⟨w.heap.size + 1 + 1, 3, none⟩ (.int .i64 0)).setCell ⟨w.heap.size + 1 + 1, 4, none⟩ (.int .i64 0)).setCell ⟨w.heap.size + 1 + 1, 5, none⟩ (.int .i64 0)).setCell ⟨w.heap.size + 1 + 1, 6, none⟩ (.int .i64 0)).setCell ⟨w.heap.size + 1 + 1, 7, none⟩ (.int .i64 0)).setCell ⟨w.heap.size + 1 + 1, 8, none⟩ (.int .i64 0)).setCell ⟨w.heap.size + 1 + 1, 9, none⟩ (.bool false)) = W3 at hZ hY ⊢
          have v0 : W3.cell? ⟨w.heap.size + 1 + 1, 0, none⟩ = some (.int .i64 0) := hZ.cell 0
          have v1 : W3.cell? ⟨w.heap.size + 1 + 1, 1, none⟩ = some (.int .i64 0) := hZ.cell 1
          have v2 : W3.cell? ⟨w.heap.size + 1 + 1, 2, none⟩ = some (.int .i64 0) := hZ.cell 2
          have v3 : W3.cell? ⟨w.heap.size + 1 + 1, 3, none⟩ = some (.int .i64 0) := hZ.cell 3
          have v4 : W3.cell? ⟨w.heap.size + 1 + 1, 4, none⟩ = some (.int .i64 0) := hZ.cell 4
          have v5 : W3.cell? ⟨w.heap.size + 1 + 1, 5, none⟩ = some (.int .i64 0) := hZ.cell 5
          have v6 : W3.cell? ⟨w.heap.size + 1 + 1, 6, none⟩ = some (.int .i64 0) := hZ.cell 6
          have v7 : W3.cell? ⟨w.heap.size + 1 + 1, 7, none⟩ = some (.int .i64 0) := hZ.cell 7
          have v8 : W3.cell? ⟨w.heap.size + 1 + 1, 8, none⟩ = some (.int .i64 0) := hZ.cell 8
          have v9 : W3.cell? ⟨w.heap.size + 1 + 1, 9, none⟩ = some (.bool false) := hZ.cell 9
          exact bodyPost_ret (v := .tuple #[aggNode zeroN, .int .i64 6]) (by simp [results, Try.results77, go_sem, v0, v1, v2, v3, v4, v5, v6, v7, v8, v9, zeroN]) rfl ⟨by first | rfl | (rw [if_neg (by decide)]; rfl), hY⟩
        · have q3n : n.load < 64 := by have := beq_eq_false_iff_ne.1 q3; omega
          have hb0 := HB.out.1.below hb3 HB.out.1.lt
          have hb1 := HB.out.2.1.below hb3 HB.out.2.1.lt
          have m0 := cell_regrown (hb0.cell 0)
          have m1 := cell_regrown (hb0.cell 1)
          have m2 := cell_regrown (hb0.cell 2)
          have m3 := cell_regrown (hb0.cell 3)
          have m4 := cell_regrown (hb0.cell 4)
          have m5 := cell_regrown (hb0.cell 5)
          have m6 := cell_regrown (hb0.cell 6)
          have m7 := cell_regrown (hb0.cell 7)
          have m8 := cell_regrown (hb0.cell 8)
          have m9 := cell_regrown (hb0.cell 9)
          have a2 := cell_regrown (hb1.cell 2)
          have a3 := cell_regrown (hb1.cell 3)
          have a4 := cell_regrown (hb1.cell 4)
          simp only [List.getElem?_toArray, List.getElem?_cons_zero, List.getElem?_cons_succ, hu] at m0 m1 m2 m3 m4 m5 m6 m7 m8 m9 a2 a3 a4
          have hc1 := fun d os => Calls.regrown_of (refFree_t n (grow (redrawn v3 d) os))
          have hc2 := fun d os => Calls.regrown_of (refFits_t need (freeN n) (grow (redrawn v3 d) os))
          simp only [aggNode, hu] at hc1
          have HC := Lib.hid (And.intro hb3 hrr)
          have HN := Lib.hid (And.intro hnu (And.intro hu (And.intro q1 (And.intro q2 q3n))))
          go_upto_region 25 with fail
          clear hb3 hrr hb0 hb1 hnu
          refine wp_region_quiet_below (by kernel_rfl) (by kernel_rfl) ?_
          repeat (quiet_step (first | exact hc1 _ _ | exact hc2 _ _))
          refine wpQuiet_nil ?_
          intro _ hw'
          obtain ⟨⟨dq, osq⟩, hwq⟩ := hw'
          subst hwq
          have hb4 := HC.out.1.trans ((below_regrown v3 dq osq).mono HC.out.1.size)
          clear m0 m1 m2 m3 m4 m5 m6 m7 m8 m9 a2 a3 a4 hc1 hc2
          clear hu
          generalize grow (redrawn v3 dq) osq = v4 at hb4 ⊢
          cases q4 : fitsR need (freeN n)
          · obtain ⟨hnu, hu, q1, q2, q3n⟩ := HN.out
            obtain rfl : er = 13 := by rw [← HER.out]; simp [takeE, takesN, q1, q2, hnu, hu, q3n, q4]
            clear hnu hu q1 q2 q3n
            have hl := node_lay zeroN zeroN (HB.out.2.2.1.below hb4 HB.out.2.2.1.lt) (show w.heap.size ≤ w.heap.size + 1 + 1 by omega) (HB.out.2.2.2.2.trans (hb4.mono HB.out.2.2.2.2.size))
            simp only [zeroN, boxNode] at hl
            have HL := Lib.hid hl
            clear hl
            go_wp2
            obtain ⟨hZ, hY⟩ := HL.out
            generalize ((((((((((v4.setCell ⟨w.heap.size + 1 + 1, 0, none⟩ (.int .i64 0)).setCell ⟨w.heap.size + 1 + 1, 1, none⟩ (.int .i64 0)).setCell ⟨w.heap.size + 1 + 1, 2, none⟩ (.int .i64 0)).setCell ⟨w.heap.size + 1 + 1, 3, none⟩ (.int .i64 0)).setCell ⟨w.heap.size + 1 + 1, 4, none⟩ (.int .i64 0)).setCell ⟨w.heap.size + 1 + 1, 5, none⟩ (.int .i64 0)).setCell ⟨w.heap.size + 1 + 1, 6, none⟩ (.int .i64 0)).setCell ⟨w.heap.size + 1 + 1, 7, none⟩ (.int .i64 0)).setCell ⟨w.heap.size + 1 + 1, 8, none⟩ (.int .i64 0)).setCell ⟨w.heap.size + 1 + 1, 9, none⟩ (.bool false)) = W3 at hZ hY ⊢
            have v0 : W3.cell? ⟨w.heap.size + 1 + 1, 0, none⟩ = some (.int .i64 0) := hZ.cell 0
            have v1 : W3.cell? ⟨w.heap.size + 1 + 1, 1, none⟩ = some (.int .i64 0) := hZ.cell 1
            have v2 : W3.cell? ⟨w.heap.size + 1 + 1, 2, none⟩ = some (.int .i64 0) := hZ.cell 2
            have v3 : W3.cell? ⟨w.heap.size + 1 + 1, 3, none⟩ = some (.int .i64 0) := hZ.cell 3
            have v4 : W3.cell? ⟨w.heap.size + 1 + 1, 4, none⟩ = some (.int .i64 0) := hZ.cell 4
            have v5 : W3.cell? ⟨w.heap.size + 1 + 1, 5, none⟩ = some (.int .i64 0) := hZ.cell 5
            have v6 : W3.cell? ⟨w.heap.size + 1 + 1, 6, none⟩ = some (.int .i64 0) := hZ.cell 6
            have v7 : W3.cell? ⟨w.heap.size + 1 + 1, 7, none⟩ = some (.int .i64 0) := hZ.cell 7
            have v8 : W3.cell? ⟨w.heap.size + 1 + 1, 8, none⟩ = some (.int .i64 0) := hZ.cell 8
            have v9 : W3.cell? ⟨w.heap.size + 1 + 1, 9, none⟩ = some (.bool false) := hZ.cell 9
            exact bodyPost_ret (v := .tuple #[aggNode zeroN, .int .i64 13]) (by simp [results, Try.results77, go_sem, v0, v1, v2, v3, v4, v5, v6, v7, v8, v9, zeroN]) rfl ⟨by first | rfl | (rw [if_neg (by decide)]; rfl), hY⟩
          · obtain rfl : er = 0 := by obtain ⟨hnu, hu, q1, q2, q3n⟩ := HN.out; rw [← HER.out]; simp [takeE, takesN, q1, q2, hnu, hu, q3n, q4]
            obtain ⟨u, hu⟩ : ∃ u, (addR n.used need).getD res0 = u := ⟨_, rfl⟩
            obtain ⟨t, ht⟩ : ∃ t, (addR n.used need).isSome = t := ⟨_, rfl⟩
            go_wp2_with fail
            have hcx := refAdd_t n.used need v4
            rw [hu, ht] at hcx
            have HU := Lib.hid hu
            clear hu ht
            (with_reducible refine hcx.mono ?_)
            clear hcx
            rintro e v5 ⟨rfl, hB5⟩
            have hb5 := hb4.trans (hB5.mono hb4.size)
            clear hB5
            have e0 := HB.out.1.below hb5 HB.out.1.lt
            have e2 := HB.out.2.2.1.below hb5 HB.out.2.2.1.lt
            have ef := e0.frozen
            have el := e0.lt
            have hz := (((e0.set_ 6 (.int .i64 u.a)).set_ 7 (.int .i64 u.b)).set_ 8 (.int .i64 u.c)).set_ 2 (.int .i64 (wrap64 (n.load + 1)))
            have hz2 := (((e2.far (p := ⟨w.heap.size, 6, none⟩) (show w.heap.size + 1 + 1 ≠ w.heap.size by omega) (.int .i64 u.a)).far (p := ⟨w.heap.size, 7, none⟩) (show w.heap.size + 1 + 1 ≠ w.heap.size by omega) (.int .i64 u.b)).far (p := ⟨w.heap.size, 8, none⟩) (show w.heap.size + 1 + 1 ≠ w.heap.size by omega) (.int .i64 u.c)).far (p := ⟨w.heap.size, 2, none⟩) (show w.heap.size + 1 + 1 ≠ w.heap.size by omega) (.int .i64 (wrap64 (n.load + 1)))
            have hy := ((((HB.out.2.2.2.2.trans (hb5.mono HB.out.2.2.2.2.size)).setCell (p := ⟨w.heap.size, 6, none⟩) (Nat.le_refl _) (.int .i64 u.a)).setCell (p := ⟨w.heap.size, 7, none⟩) (Nat.le_refl _) (.int .i64 u.b)).setCell (p := ⟨w.heap.size, 8, none⟩) (Nat.le_refl _) (.int .i64 u.c)).setCell (p := ⟨w.heap.size, 2, none⟩) (Nat.le_refl _) (.int .i64 (wrap64 (n.load + 1)))
            have HZ := Lib.hid (And.intro hz (And.intro hz2 hy))
            clear hz hz2 hy e0 e2
            go_upto_region 29 with fail
            obtain ⟨hz, hz2, hy⟩ := HZ.out
            clear HZ ef el n0 n1 n2 n3 n4 n5 n6 n7 n8 n9 k0 k1 k2 k3 k4 z0 z1 z2 z3 z4 z5 z6 z7 z8 z9 c0 c1 c2 c3 c4 c5 c6 c7 c8 c9 r2 hb4 hb5
            generalize (((v5.setCell ⟨w.heap.size, 6, none⟩ (.int .i64 u.a)).setCell ⟨w.heap.size, 7, none⟩ (.int .i64 u.b)).setCell ⟨w.heap.size, 8, none⟩ (.int .i64 u.c)).setCell ⟨w.heap.size, 2, none⟩ (.int .i64 (wrap64 (n.load + 1))) = v6 at hz hz2 hy ⊢
            have ht : tookN n need = ⟨n.id, n.inc, wrap64 (n.load + 1), n.cap, u, n.up⟩ := by rw [tookN, HU.out]
            have g0 : v6.cell? ⟨w.heap.size, 0, none⟩ = some (.int .i64 (n.id)) := hz.cell 0
            have g1 : v6.cell? ⟨w.heap.size, 1, none⟩ = some (.int .i64 (n.inc)) := hz.cell 1
            have g2 : v6.cell? ⟨w.heap.size, 2, none⟩ = some (.int .i64 (wrap64 (n.load + 1))) := hz.cell 2
            have g3 : v6.cell? ⟨w.heap.size, 3, none⟩ = some (.int .i64 (n.cap.a)) := hz.cell 3
            have g4 : v6.cell? ⟨w.heap.size, 4, none⟩ = some (.int .i64 (n.cap.b)) := hz.cell 4
            have g5 : v6.cell? ⟨w.heap.size, 5, none⟩ = some (.int .i64 (n.cap.c)) := hz.cell 5
            have g6 : v6.cell? ⟨w.heap.size, 6, none⟩ = some (.int .i64 (u.a)) := hz.cell 6
            have g7 : v6.cell? ⟨w.heap.size, 7, none⟩ = some (.int .i64 (u.b)) := hz.cell 7
            have g8 : v6.cell? ⟨w.heap.size, 8, none⟩ = some (.int .i64 (u.c)) := hz.cell 8
            have g9 : v6.cell? ⟨w.heap.size, 9, none⟩ = some (.bool n.up) := hz.cell 9
            have d0 : v6.cell? ⟨w.heap.size + 1 + 1, 0, none⟩ = some (.int .i64 0) := hz2.cell 0
            have d1 : v6.cell? ⟨w.heap.size + 1 + 1, 1, none⟩ = some (.int .i64 0) := hz2.cell 1
            have d2 : v6.cell? ⟨w.heap.size + 1 + 1, 2, none⟩ = some (.int .i64 0) := hz2.cell 2
            have d3 : v6.cell? ⟨w.heap.size + 1 + 1, 3, none⟩ = some (.int .i64 0) := hz2.cell 3
            have d4 : v6.cell? ⟨w.heap.size + 1 + 1, 4, none⟩ = some (.int .i64 0) := hz2.cell 4
            have d5 : v6.cell? ⟨w.heap.size + 1 + 1, 5, none⟩ = some (.int .i64 0) := hz2.cell 5
            have d6 : v6.cell? ⟨w.heap.size + 1 + 1, 6, none⟩ = some (.int .i64 0) := hz2.cell 6
            have d7 : v6.cell? ⟨w.heap.size + 1 + 1, 7, none⟩ = some (.int .i64 0) := hz2.cell 7
            have d8 : v6.cell? ⟨w.heap.size + 1 + 1, 8, none⟩ = some (.int .i64 0) := hz2.cell 8
            have d9 : v6.cell? ⟨w.heap.size + 1 + 1, 9, none⟩ = some (.bool false) := hz2.cell 9
            have df := hz2.frozen
            have dl := hz2.lt
            have hl := node_lay ⟨n.id, n.inc, wrap64 (n.load + 1), n.cap, u, n.up⟩ zeroN hz2 (show w.heap.size ≤ w.heap.size + 1 + 1 by omega) hy
            simp only at hl
            have HL := Lib.hid (And.intro hl ht)
            clear hl hz hz2 hy ht
            go_wp2
            obtain ⟨⟨hZ, hY⟩, hT⟩ := HL.out
            generalize ((((((((((v6.setCell ⟨w.heap.size + 1 + 1, 0, none⟩ (.int .i64 (n.id))).setCell ⟨w.heap.size + 1 + 1, 1, none⟩ (.int .i64 (n.inc))).setCell ⟨w.heap.size + 1 + 1, 2, none⟩ (.int .i64 (wrap64 (n.load + 1)))).setCell ⟨w.heap.size + 1 + 1, 3, none⟩ (.int .i64 (n.cap.a))).setCell ⟨w.heap.size + 1 + 1, 4, none⟩ (.int .i64 (n.cap.b))).setCell ⟨w.heap.size + 1 + 1, 5, none⟩ (.int .i64 (n.cap.c))).setCell ⟨w.heap.size + 1 + 1, 6, none⟩ (.int .i64 (u.a))).setCell ⟨w.heap.size + 1 + 1, 7, none⟩ (.int .i64 (u.b))).setCell ⟨w.heap.size + 1 + 1, 8, none⟩ (.int .i64 (u.c))).setCell ⟨w.heap.size + 1 + 1, 9, none⟩ (.bool n.up)) = W3 at hZ hY ⊢
            have v0 : W3.cell? ⟨w.heap.size + 1 + 1, 0, none⟩ = some (.int .i64 (n.id)) := hZ.cell 0
            have v1 : W3.cell? ⟨w.heap.size + 1 + 1, 1, none⟩ = some (.int .i64 (n.inc)) := hZ.cell 1
            have v2 : W3.cell? ⟨w.heap.size + 1 + 1, 2, none⟩ = some (.int .i64 (wrap64 (n.load + 1))) := hZ.cell 2
            have v3 : W3.cell? ⟨w.heap.size + 1 + 1, 3, none⟩ = some (.int .i64 (n.cap.a)) := hZ.cell 3
            have v4 : W3.cell? ⟨w.heap.size + 1 + 1, 4, none⟩ = some (.int .i64 (n.cap.b)) := hZ.cell 4
            have v5 : W3.cell? ⟨w.heap.size + 1 + 1, 5, none⟩ = some (.int .i64 (n.cap.c)) := hZ.cell 5
            have v6 : W3.cell? ⟨w.heap.size + 1 + 1, 6, none⟩ = some (.int .i64 (u.a)) := hZ.cell 6
            have v7 : W3.cell? ⟨w.heap.size + 1 + 1, 7, none⟩ = some (.int .i64 (u.b)) := hZ.cell 7
            have v8 : W3.cell? ⟨w.heap.size + 1 + 1, 8, none⟩ = some (.int .i64 (u.c)) := hZ.cell 8
            have v9 : W3.cell? ⟨w.heap.size + 1 + 1, 9, none⟩ = some (.bool n.up) := hZ.cell 9
            refine bodyPost_ret (v := .tuple #[aggNode ⟨n.id, n.inc, wrap64 (n.load + 1), n.cap, u, n.up⟩, .int .i64 0]) ?_ rfl ⟨?_, hY⟩
            · simp [results, Try.results77, go_sem, v0, v1, v2, v3, v4, v5, v6, v7, v8, v9]
            · first | rw [hT] | rw [if_pos rfl, hT]
end Go.Proofs.Ytcfninipcghbmaa
