/-
  REFERENCES: reeveref08.Fits, Add; reeveref10.Free, Takes, Node, Job.
  REFERENCES: reeveref10.Takes, reeveref08.Add, reeveref23.Right.
-/
import Derived.Test.YtcfninipcghbmaaPlace7
import Derived.BigRegion
import Derived.BigQuiet
set_option linter.unusedVariables false
set_option linter.unusedSimpArgs false
namespace Go.Proofs.Ytcfninipcghbmaa
open Go.RowKit Go.Sort

theorem fitsR_eq (a b : LRes) : fitsR a b = (decide (a.a ≤ b.a) && decide (a.b ≤ b.b) && decide (a.c ≤ b.c)) := by
  unfold fitsR
  rw [Bool.eq_iff_iff]
  simp [and_assoc]
set_option maxRecDepth 100000 in
set_option maxHeartbeats 1600000 in
theorem refFits_t (a b : LRes) (w : World) : Calls Try.prog 102 #[aggRes a, aggRes b] w fun e w' => e = .returned (.bool (fitsR a b)) ∧ Below w.heap.size w w' := by
  have hb := (Blk.new w 36 (boxRes a)).alloc (.cells (boxRes b) 36)
  have hx := Blk.new (w.alloc (.cells (boxRes a) 36)) 36 (boxRes b)
  have hs1 : (w.alloc (.cells (boxRes a) 36)).heap.size = w.heap.size + 1 := by simp
  rw [hs1] at hx
  have hB : Below w.heap.size w ((w.alloc (.cells (boxRes a) 36)).alloc (.cells (boxRes b) 36)) := ((Below.refl _ _).alloc (Nat.le_refl _) _).alloc (by simp) _
  have a0 := hb.cell 0
  have a1 := hb.cell 1
  have a2 := hb.cell 2
  have b0 := hx.cell 0
  have b1 := hx.cell 1
  have b2 := hx.cell 2
  simp only [List.getElem?_toArray, List.getElem?_cons_zero, List.getElem?_cons_succ] at a0 a1 a2 b0 b1 b2
  have HB := Lib.hid hB
  clear hb hx hs1 hB
  go_enter Try.func102, Try.ntmps102
  cases q1 : decide (a.a ≤ b.a)
  · have HE := Lib.hid (show fitsR a b = false by rw [fitsR_eq, q1]; rfl)
    go_wp2
    go_ret
    exact ⟨ret_bool HE.out.symm, HB.out⟩
  · cases q2 : decide (a.b ≤ b.b)
    · have HE := Lib.hid (show fitsR a b = false by rw [fitsR_eq, q1, q2]; rfl)
      go_wp2
      go_ret
      exact ⟨ret_bool HE.out.symm, HB.out⟩
    · have HE := Lib.hid (show fitsR a b = decide (a.c ≤ b.c) by rw [fitsR_eq, q1, q2]; rfl)
      go_wp2
      go_ret
      exact ⟨ret_bool HE.out.symm, HB.out⟩

set_option maxRecDepth 100000 in
set_option maxHeartbeats 1600000 in
theorem refNode_t (a b : LNode) (w : World) : Calls Try.prog 99 #[aggNode a, aggNode b] w fun e w' => e = .returned (.bool (nodeLt a b)) ∧ Below w.heap.size w w' := by
  have hb := (Blk.new w 38 (boxNode a)).alloc (.cells (boxNode b) 38)
  have hx := Blk.new (w.alloc (.cells (boxNode a) 38)) 38 (boxNode b)
  have hs1 : (w.alloc (.cells (boxNode a) 38)).heap.size = w.heap.size + 1 := by simp
  rw [hs1] at hx
  have hB : Below w.heap.size w ((w.alloc (.cells (boxNode a) 38)).alloc (.cells (boxNode b) 38)) := ((Below.refl _ _).alloc (Nat.le_refl _) _).alloc (by simp) _
  have a0 := hb.cell 0
  have a2 := hb.cell 2
  have b0 := hx.cell 0
  have b2 := hx.cell 2
  simp only [List.getElem?_toArray, List.getElem?_cons_zero, List.getElem?_cons_succ] at a0 a2 b0 b2
  have HB := Lib.hid hB
  clear hb hx hs1 hB
  go_enter Try.func99, Try.ntmps99
  by_cases q1 : a.load < b.load
  · have HE := Lib.hid (show nodeLt a b = true by simp [nodeLt, q1])
    go_wp2
    go_ret
    exact ⟨ret_bool HE.out.symm, HB.out⟩
  · cases q2 : (a.load == b.load)
    · have HE := Lib.hid (show nodeLt a b = false by simp [nodeLt, q1, q2])
      go_wp2
      go_ret
      exact ⟨ret_bool HE.out.symm, HB.out⟩
    · have HE := Lib.hid (show nodeLt a b = decide (a.id < b.id) by simp [nodeLt, q1, q2])
      go_wp2
      go_ret
      exact ⟨ret_bool HE.out.symm, HB.out⟩

set_option maxRecDepth 100000 in
set_option maxHeartbeats 1600000 in
theorem refJob_t (a b : LJob) (w : World) : Calls Try.prog 75 #[aggJob a, aggJob b] w fun e w' => e = .returned (.bool (jobLt a b)) ∧ Below w.heap.size w w' := by
  have hb := (Blk.new w 40 (boxJob a)).alloc (.cells (boxJob b) 40)
  have hx := Blk.new (w.alloc (.cells (boxJob a) 40)) 40 (boxJob b)
  have hs1 : (w.alloc (.cells (boxJob a) 40)).heap.size = w.heap.size + 1 := by simp
  rw [hs1] at hx
  have hB : Below w.heap.size w ((w.alloc (.cells (boxJob a) 40)).alloc (.cells (boxJob b) 40)) := ((Below.refl _ _).alloc (Nat.le_refl _) _).alloc (by simp) _
  have a0 := hb.cell 0
  have a1 := hb.cell 1
  have a2 := hb.cell 2
  have b0 := hx.cell 0
  have b1 := hx.cell 1
  have b2 := hx.cell 2
  simp only [List.getElem?_toArray, List.getElem?_cons_zero, List.getElem?_cons_succ] at a0 a1 a2 b0 b1 b2
  have HB := Lib.hid hB
  clear hb hx hs1 hB
  go_enter Try.func75, Try.ntmps75
  cases q1 : (a.prio != b.prio)
  · cases q2 : (a.seq != b.seq)
    · have HE := Lib.hid (show jobLt a b = decide (a.id < b.id) by simp only [bne_eq_false_iff_eq] at q1 q2; simp [jobLt, q1, q2])
      go_wp2
      go_ret
      exact ⟨ret_bool HE.out.symm, HB.out⟩
    · have HE := Lib.hid (show jobLt a b = decide (a.seq < b.seq) by simp only [bne_eq_false_iff_eq, bne_iff_ne] at q1 q2; simp [jobLt, q1, q2])
      go_wp2
      go_ret
      exact ⟨ret_bool HE.out.symm, HB.out⟩
  · have HE := Lib.hid (show jobLt a b = decide (a.prio > b.prio) by simp only [bne_iff_ne] at q1; simp [jobLt, q1])
    go_wp2
    go_ret
    exact ⟨ret_bool HE.out.symm, HB.out⟩

/-- What lies in memory while room is counted: the node, what is answered, what is counted. -/
structure FW (w : World) (n : LNode) (k : Nat) (wr : World) : Prop where
  node : Blk wr w.heap.size 38 (boxNode n)
  res : Blk wr (w.heap.size + 1) 36 #[.int .i64 0, .int .i64 0, .int .i64 0]
  d : Blk wr (w.heap.size + 1 + 1) 36 (freeA n k)
  below : Below w.heap.size w wr
theorem FW.later {w wr w' : World} {n : LNode} {k : Nat} (h : FW w n k wr) (hb : Below wr.heap.size wr w') : FW w n k w' :=
  ⟨h.node.below hb h.node.lt, h.res.below hb h.res.lt, h.d.below hb h.d.lt, h.below.trans (hb.mono h.below.size)⟩
theorem FW.put {w wr : World} {n : LNode} {k k' j : Nat} {u : Value} (h : FW w n k wr) (e : freeA n k' = (freeA n k).setIfInBounds j u) : FW w n k' (wr.setCell ⟨w.heap.size + 1 + 1, j, none⟩ u) :=
  ⟨h.node.far (p := ⟨w.heap.size + 1 + 1, j, none⟩) (show w.heap.size ≠ w.heap.size + 1 + 1 by omega) u, h.res.far (p := ⟨w.heap.size + 1 + 1, j, none⟩) (show w.heap.size + 1 ≠ w.heap.size + 1 + 1 by omega) u, by rw [e]; exact h.d.set_ j u, h.below.setCell (p := ⟨w.heap.size + 1 + 1, j, none⟩) (show w.heap.size ≤ w.heap.size + 1 + 1 by omega) u⟩
set_option maxRecDepth 100000 in
set_option maxHeartbeats 3200000 in
theorem refFree_t (n : LNode) (w : World) : Calls Try.prog 103 #[aggNode n] w fun e w' => e = .returned (aggRes (freeN n)) ∧ Below w.heap.size w w' := by
  go_enter Try.func103, Try.ntmps103
  go_wp2
  have hs1 : (w.alloc (.cells (boxNode n) 38)).heap.size = w.heap.size + 1 := by simp
  have hs2 : ((w.alloc (.cells (boxNode n) 38)).alloc (.cells #[.int .i64 0, .int .i64 0, .int .i64 0] 36)).heap.size = w.heap.size + 1 + 1 := by simp
  have h0 := ((Blk.new w 38 (boxNode n)).alloc (.cells #[.int .i64 0, .int .i64 0, .int .i64 0] 36)).alloc (.cells #[.int .i64 0, .int .i64 0, .int .i64 0] 36)
  have h1 := (Blk.new (w.alloc (.cells (boxNode n) 38)) 36 #[.int .i64 0, .int .i64 0, .int .i64 0]).alloc (.cells #[.int .i64 0, .int .i64 0, .int .i64 0] 36)
  have h2 := Blk.new ((w.alloc (.cells (boxNode n) 38)).alloc (.cells #[.int .i64 0, .int .i64 0, .int .i64 0] 36)) 36 #[.int .i64 0, .int .i64 0, .int .i64 0]
  rw [hs1] at h1
  rw [hs2] at h2
  have hB0 : Below w.heap.size w (((w.alloc (.cells (boxNode n) 38)).alloc (.cells #[.int .i64 0, .int .i64 0, .int .i64 0] 36)).alloc (.cells #[.int .i64 0, .int .i64 0, .int .i64 0] 36)) := (((Below.refl _ _).alloc (Nat.le_refl _) _).alloc (by simp) _).alloc (by simp; omega) _
  have HF : Hid (FW w n 0 (((w.alloc (.cells (boxNode n) 38)).alloc (.cells #[.int .i64 0, .int .i64 0, .int .i64 0] 36)).alloc (.cells #[.int .i64 0, .int .i64 0, .int .i64 0] 36))) := Lib.hid ⟨h0, h1, h2, hB0⟩
  clear hs1 hs2 h0 h1 h2 hB0
  generalize (((w.alloc (.cells (boxNode n) 38)).alloc (.cells #[.int .i64 0, .int .i64 0, .int .i64 0] 36)).alloc (.cells #[.int .i64 0, .int .i64 0, .int .i64 0] 36)) = w0 at HF ⊢
  go_loopw [4] (fun i wr => ∃ k : Nat, k ≤ 3 ∧ i = .int .i64 k ∧ Hid (FW w n k wr)) (fun i _ => 3 - (intOf i).toNat)
  case atStart => exact ⟨0, by omega, rfl, HF⟩
  case round =>
    clear HF
    obtain ⟨k, hk, hi, HF⟩ := hrel
    rcases (show k = 0 ∨ k = 1 ∨ k = 2 ∨ k = 3 by omega) with rfl | rfl | rfl | rfl
    · have hi2 := hi.trans (show (Value.int .i64 ((0 : Nat) : Int)) = .int .i64 0 from rfl)
      clear hi
      subst hi2
      have p0 : wr.cell? ⟨w.heap.size, 3, none⟩ = some (.int .i64 n.cap.a) := HF.out.node.cell 3
      have u0 : wr.cell? ⟨w.heap.size, 6, none⟩ = some (.int .i64 n.used.a) := HF.out.node.cell 6
      by_cases hlt : n.cap.a > n.used.a
      · have HE := Lib.hid (show freeA n 1 = (freeA n 0).setIfInBounds 0 (.int .i64 (wrap64 (n.cap.a - n.used.a))) by simp [freeA, freeI, show n.used.a < n.cap.a from hlt])
        go_wp2
        go_quiet (fail)
        have HG := Lib.hid (HF.out.later (below_dN nq))
        clear HF p0 u0
        generalize wr.drewN nq = w2 at HG ⊢
        have p0 : w2.cell? ⟨w.heap.size, 3, none⟩ = some (.int .i64 n.cap.a) := HG.out.node.cell 3
        have u0 : w2.cell? ⟨w.heap.size, 6, none⟩ = some (.int .i64 n.used.a) := HG.out.node.cell 6
        have d0 : w2.cell? ⟨w.heap.size + 1 + 1, 0, none⟩ = some (.int .i64 0) := (HG.out.d.cell 0).trans (by simp [freeA])
        have df := HG.out.d.frozen
        have dl := HG.out.d.lt
        go_wp2
        go_region
        all_goals
          go_wp2
          go_roundw
          case rel => exact ⟨1, by omega, by go_num, Lib.hid ((HG.out.put HE.out).later ((Below.refl _ _).drew))⟩
          case measure => simp [intOf]
      · have HE := Lib.hid (show freeA n 1 = freeA n 0 by simp [freeA, freeI, show ¬ n.used.a < n.cap.a from hlt])
        go_wp2
        go_quiet (fail)
        have HG := Lib.hid (HF.out.later (below_dN nq))
        clear HF p0 u0
        generalize wr.drewN nq = w2 at HG ⊢
        go_wp2
        go_roundw
        case rel => exact ⟨1, by omega, by go_num, Lib.hid ⟨HG.out.node, HG.out.res, by rw [HE.out]; exact HG.out.d, HG.out.below⟩⟩
        case measure => simp [intOf]
    · have hi2 := hi.trans (show (Value.int .i64 ((1 : Nat) : Int)) = .int .i64 1 from rfl)
      clear hi
      subst hi2
      have p0 : wr.cell? ⟨w.heap.size, 4, none⟩ = some (.int .i64 n.cap.b) := HF.out.node.cell 4
      have u0 : wr.cell? ⟨w.heap.size, 7, none⟩ = some (.int .i64 n.used.b) := HF.out.node.cell 7
      by_cases hlt : n.cap.b > n.used.b
      · have HE := Lib.hid (show freeA n 2 = (freeA n 1).setIfInBounds 1 (.int .i64 (wrap64 (n.cap.b - n.used.b))) by simp [freeA, freeI, show n.used.b < n.cap.b from hlt])
        go_wp2
        go_quiet (fail)
        have HG := Lib.hid (HF.out.later (below_dN nq))
        clear HF p0 u0
        generalize wr.drewN nq = w2 at HG ⊢
        have p0 : w2.cell? ⟨w.heap.size, 4, none⟩ = some (.int .i64 n.cap.b) := HG.out.node.cell 4
        have u0 : w2.cell? ⟨w.heap.size, 7, none⟩ = some (.int .i64 n.used.b) := HG.out.node.cell 7
        have d0 : w2.cell? ⟨w.heap.size + 1 + 1, 1, none⟩ = some (.int .i64 0) := (HG.out.d.cell 1).trans (by simp [freeA])
        have df := HG.out.d.frozen
        have dl := HG.out.d.lt
        go_wp2
        go_region
        all_goals
          go_wp2
          go_roundw
          case rel => exact ⟨2, by omega, by go_num, Lib.hid ((HG.out.put HE.out).later ((Below.refl _ _).drew))⟩
          case measure => simp [intOf]
      · have HE := Lib.hid (show freeA n 2 = freeA n 1 by simp [freeA, freeI, show ¬ n.used.b < n.cap.b from hlt])
        go_wp2
        go_quiet (fail)
        have HG := Lib.hid (HF.out.later (below_dN nq))
        clear HF p0 u0
        generalize wr.drewN nq = w2 at HG ⊢
        go_wp2
        go_roundw
        case rel => exact ⟨2, by omega, by go_num, Lib.hid ⟨HG.out.node, HG.out.res, by rw [HE.out]; exact HG.out.d, HG.out.below⟩⟩
        case measure => simp [intOf]
    · have hi2 := hi.trans (show (Value.int .i64 ((2 : Nat) : Int)) = .int .i64 2 from rfl)
      clear hi
      subst hi2
      have p0 : wr.cell? ⟨w.heap.size, 5, none⟩ = some (.int .i64 n.cap.c) := HF.out.node.cell 5
      have u0 : wr.cell? ⟨w.heap.size, 8, none⟩ = some (.int .i64 n.used.c) := HF.out.node.cell 8
      by_cases hlt : n.cap.c > n.used.c
      · have HE := Lib.hid (show freeA n 3 = (freeA n 2).setIfInBounds 2 (.int .i64 (wrap64 (n.cap.c - n.used.c))) by simp [freeA, freeI, show n.used.c < n.cap.c from hlt])
        go_wp2
        go_quiet (fail)
        have HG := Lib.hid (HF.out.later (below_dN nq))
        clear HF p0 u0
        generalize wr.drewN nq = w2 at HG ⊢
        have p0 : w2.cell? ⟨w.heap.size, 5, none⟩ = some (.int .i64 n.cap.c) := HG.out.node.cell 5
        have u0 : w2.cell? ⟨w.heap.size, 8, none⟩ = some (.int .i64 n.used.c) := HG.out.node.cell 8
        have d0 : w2.cell? ⟨w.heap.size + 1 + 1, 2, none⟩ = some (.int .i64 0) := (HG.out.d.cell 2).trans (by simp [freeA])
        have df := HG.out.d.frozen
        have dl := HG.out.d.lt
        go_wp2
        go_region
        all_goals
          go_wp2
          go_roundw
          case rel => exact ⟨3, by omega, by go_num, Lib.hid ((HG.out.put HE.out).later ((Below.refl _ _).drew))⟩
          case measure => simp [intOf]
      · have HE := Lib.hid (show freeA n 3 = freeA n 2 by simp [freeA, freeI, show ¬ n.used.c < n.cap.c from hlt])
        go_wp2
        go_quiet (fail)
        have HG := Lib.hid (HF.out.later (below_dN nq))
        clear HF p0 u0
        generalize wr.drewN nq = w2 at HG ⊢
        go_wp2
        go_roundw
        case rel => exact ⟨3, by omega, by go_num, Lib.hid ⟨HG.out.node, HG.out.res, by rw [HE.out]; exact HG.out.d, HG.out.below⟩⟩
        case measure => simp [intOf]
    · have hi2 := hi.trans (show (Value.int .i64 ((3 : Nat) : Int)) = .int .i64 3 from rfl)
      clear hi
      subst hi2
      have c0 : wr.cell? ⟨w.heap.size + 1 + 1, 0, none⟩ = some (.int .i64 (freeI n.cap.a n.used.a)) := (HF.out.d.cell 0).trans (by simp [freeA])
      have c1 : wr.cell? ⟨w.heap.size + 1 + 1, 1, none⟩ = some (.int .i64 (freeI n.cap.b n.used.b)) := (HF.out.d.cell 1).trans (by simp [freeA])
      have c2 : wr.cell? ⟨w.heap.size + 1 + 1, 2, none⟩ = some (.int .i64 (freeI n.cap.c n.used.c)) := (HF.out.d.cell 2).trans (by simp [freeA])
      have d0 : wr.cell? ⟨w.heap.size + 1, 0, none⟩ = some (.int .i64 0) := HF.out.res.cell 0
      have d1 : wr.cell? ⟨w.heap.size + 1, 1, none⟩ = some (.int .i64 0) := HF.out.res.cell 1
      have d2 : wr.cell? ⟨w.heap.size + 1, 2, none⟩ = some (.int .i64 0) := HF.out.res.cell 2
      have df := HF.out.res.frozen
      have dl := HF.out.res.lt
      have hZ : Blk (((wr.setCell ⟨w.heap.size + 1, 0, none⟩ (.int .i64 (freeI n.cap.a n.used.a))).setCell ⟨w.heap.size + 1, 1, none⟩ (.int .i64 (freeI n.cap.b n.used.b))).setCell ⟨w.heap.size + 1, 2, none⟩ (.int .i64 (freeI n.cap.c n.used.c))) (w.heap.size + 1) 36 #[.int .i64 (freeI n.cap.a n.used.a), .int .i64 (freeI n.cap.b n.used.b), .int .i64 (freeI n.cap.c n.used.c)] := ((HF.out.res.set_ 0 _).set_ 1 _).set_ 2 _
      have hY : Below w.heap.size w (((wr.setCell ⟨w.heap.size + 1, 0, none⟩ (.int .i64 (freeI n.cap.a n.used.a))).setCell ⟨w.heap.size + 1, 1, none⟩ (.int .i64 (freeI n.cap.b n.used.b))).setCell ⟨w.heap.size + 1, 2, none⟩ (.int .i64 (freeI n.cap.c n.used.c))) := ((HF.out.below.setCell (p := ⟨w.heap.size + 1, 0, none⟩) (show w.heap.size ≤ w.heap.size + 1 by omega) _).setCell (p := ⟨w.heap.size + 1, 1, none⟩) (show w.heap.size ≤ w.heap.size + 1 by omega) _).setCell (p := ⟨w.heap.size + 1, 2, none⟩) (show w.heap.size ≤ w.heap.size + 1 by omega) _
      have HY := Lib.hid (And.intro hZ hY)
      clear hZ hY
      go_wp2
      obtain ⟨hZ, hY⟩ := HY.out
      generalize ((wr.setCell ⟨w.heap.size + 1, 0, none⟩ (.int .i64 (freeI n.cap.a n.used.a))).setCell ⟨w.heap.size + 1, 1, none⟩ (.int .i64 (freeI n.cap.b n.used.b))).setCell ⟨w.heap.size + 1, 2, none⟩ (.int .i64 (freeI n.cap.c n.used.c)) = W3 at hZ hY ⊢
      have z0 : W3.cell? ⟨w.heap.size + 1, 0, none⟩ = some (.int .i64 (freeI n.cap.a n.used.a)) := hZ.cell 0
      have z1 : W3.cell? ⟨w.heap.size + 1, 1, none⟩ = some (.int .i64 (freeI n.cap.b n.used.b)) := hZ.cell 1
      have z2 : W3.cell? ⟨w.heap.size + 1, 2, none⟩ = some (.int .i64 (freeI n.cap.c n.used.c)) := hZ.cell 2
      exact bodyPost_ret (v := aggRes (freeN n)) (by simp [results, Try.results103, go_sem, z0, z1, z2, freeN]) rfl ⟨rfl, hY⟩
end Go.Proofs.Ytcfninipcghbmaa
namespace Go.Proofs.Ytcfninipcghbmaa
open Go.RowKit Go.Sort

theorem refRightB_t (r : LRes) (w : World) : Calls Try.prog 54 #[aggRes r] w fun e w' => e = .returned (.bool (rightR r)) ∧ Below w.heap.size w w' :=
  (refRight_t r w).mono fun e w' h => ⟨h.1, by rw [h.2]; exact (Below.refl _ _).alloc (Nat.le_refl _) _⟩
set_option maxRecDepth 100000 in
set_option maxHeartbeats 1600000 in
theorem refTakes_t (n : LNode) (need : LRes) (w : World) : Calls Try.prog 98 #[aggNode n, aggRes need] w fun e w' => e = .returned (.bool (takesN n need)) ∧ Below w.heap.size w w' := by
  have hb := (Blk.new w 38 (boxNode n)).alloc (.cells (boxRes need) 36)
  have hx := Blk.new (w.alloc (.cells (boxNode n) 38)) 36 (boxRes need)
  have hs1 : (w.alloc (.cells (boxNode n) 38)).heap.size = w.heap.size + 1 := by simp
  rw [hs1] at hx
  have hB : Below w.heap.size w ((w.alloc (.cells (boxNode n) 38)).alloc (.cells (boxRes need) 36)) := ((Below.refl _ _).alloc (Nat.le_refl _) _).alloc (by simp) _
  have n0 := hb.cell 0
  have n1 := hb.cell 1
  have n2 := hb.cell 2
  have n3 := hb.cell 3
  have n4 := hb.cell 4
  have n5 := hb.cell 5
  have n6 := hb.cell 6
  have n7 := hb.cell 7
  have n8 := hb.cell 8
  have n9 := hb.cell 9
  simp only [List.getElem?_toArray, List.getElem?_cons_zero, List.getElem?_cons_succ] at n0 n1 n2 n3 n4 n5 n6 n7 n8 n9
  have m9 := hb.cells_in (v := .bool n.up) 9 rfl
  have b0 := hx.cells_in (v := .int .i64 need.a) 0 rfl
  have b1 := hx.cells_in (v := .int .i64 need.b) 1 rfl
  have b2 := hx.cells_in (v := .int .i64 need.c) 2 rfl
  have hrr := Below.refl ((w.alloc (.cells (boxNode n) 38)).alloc (.cells (boxRes need) 36)).heap.size ((w.alloc (.cells (boxNode n) 38)).alloc (.cells (boxRes need) 36))
  have HB := Lib.hid hB
  clear hb hx hB hs1
  go_enter Try.func98, Try.ntmps98
  go_upto_region 1 with fail
  simp only [boxNode, boxRes] at n0 n1 n2 n3 n4 n5 n6 n7 n8 n9 m9 b0 b1 b2 hrr HB
  generalize (w.alloc (.cells _ 38)).alloc (.cells _ 36) = w1 at n0 n1 n2 n3 n4 n5 n6 n7 n8 n9 m9 b0 b1 b2 hrr HB ⊢
  go_wp2_with fail
  (with_reducible refine (refFree_t n w1).mono ?_)
  clear n0 n1 n2 n3 n4 n5 n6 n7 n8 n9
  rintro e w2 ⟨rfl, hB2⟩
  obtain ⟨r, hr⟩ : ∃ r, freeN n = r := ⟨_, rfl⟩
  rw [hr]
  have HR := Lib.hid hr
  clear hr
  have hb3 := (hrr.trans hB2).alloc (hrr.trans hB2).size (.cells (boxRes r) 36)
  have hf := Blk.new w2 36 (boxRes r)
  have f0 : _ = some (Value.int .i64 r.a) := hf.cell 0
  have f1 : _ = some (Value.int .i64 r.b) := hf.cell 1
  have f2 : _ = some (Value.int .i64 r.c) := hf.cell 2
  clear hf hB2
  go_upto_region 2 with fail
  simp only [boxRes] at f0 f1 f2 hb3
  generalize w2.alloc (.cells _ 36) = w3 at f0 f1 f2 hb3 ⊢
  cases hu : n.up
  · simp only [hu] at m9
    have HE := Lib.hid (show takesN n need = false by simp [takesN, fitsR_eq, HR.out, hu])
    go_wp2
    go_ret
    exact ⟨ret_bool HE.out.symm, HB.out.trans (hb3.mono HB.out.size)⟩
  · simp only [hu] at m9
    cases q1 : decide (need.a ≤ r.a)
    · have q1p := of_decide_eq_false q1
      have HE := Lib.hid (show takesN n need = false by simp [takesN, fitsR_eq, HR.out, hu, q1])
      go_wp2
      go_ret
      exact ⟨ret_bool HE.out.symm, HB.out.trans (hb3.mono HB.out.size)⟩
    · have q1p := of_decide_eq_true q1
      cases q2 : decide (need.b ≤ r.b)
      · have q2p := of_decide_eq_false q2
        have HE := Lib.hid (show takesN n need = false by simp [takesN, fitsR_eq, HR.out, hu, q1, q2])
        go_wp2
        go_ret
        exact ⟨ret_bool HE.out.symm, HB.out.trans (hb3.mono HB.out.size)⟩
      · have q2p := of_decide_eq_true q2
        have HE := Lib.hid (show takesN n need = decide (need.c ≤ r.c) by simp [takesN, fitsR_eq, HR.out, hu, q1, q2])
        go_wp2
        go_ret
        exact ⟨ret_bool HE.out.symm, HB.out.trans (hb3.mono HB.out.size)⟩
theorem addR_eq (a b : LRes) : addR a b = if (rightR a && rightR b && rightR (eachR (fun x y => wrap64 (x + y)) a b)) = true then some (eachR (fun x y => wrap64 (x + y)) a b) else none := rfl
set_option maxRecDepth 100000 in
set_option maxHeartbeats 3200000 in
theorem refAdd_t (a b : LRes) (w : World) : Calls Try.prog 104 #[aggRes a, aggRes b] w fun e w' => e = .returned (.tuple #[aggRes ((addR a b).getD res0), .bool (addR a b).isSome]) ∧ Below w.heap.size w w' := by
  have hs1 : (w.alloc (.cells (boxRes a) 36)).heap.size = w.heap.size + 1 := by simp
  have hs2 : ((w.alloc (.cells (boxRes a) 36)).alloc (.cells (boxRes b) 36)).heap.size = w.heap.size + 1 + 1 := by simp
  have h0 := ((Blk.new w 36 (boxRes a)).alloc (.cells (boxRes b) 36)).alloc (.cells #[.int .i64 0, .int .i64 0, .int .i64 0] 36)
  have h1 := (Blk.new (w.alloc (.cells (boxRes a) 36)) 36 (boxRes b)).alloc (.cells #[.int .i64 0, .int .i64 0, .int .i64 0] 36)
  have h2 := Blk.new ((w.alloc (.cells (boxRes a) 36)).alloc (.cells (boxRes b) 36)) 36 #[.int .i64 0, .int .i64 0, .int .i64 0]
  rw [hs1] at h1
  rw [hs2] at h2
  have hB : Below w.heap.size w (((w.alloc (.cells (boxRes a) 36)).alloc (.cells (boxRes b) 36)).alloc (.cells #[.int .i64 0, .int .i64 0, .int .i64 0] 36)) := (((Below.refl _ _).alloc (Nat.le_refl _) _).alloc (by simp) _).alloc (by simp; omega) _
  have HB := Lib.hid (And.intro hB h2)
  have hbr := Below.refl (((w.alloc (.cells (boxRes a) 36)).alloc (.cells (boxRes b) 36)).alloc (.cells #[.int .i64 0, .int .i64 0, .int .i64 0] 36)).heap.size (((w.alloc (.cells (boxRes a) 36)).alloc (.cells (boxRes b) 36)).alloc (.cells #[.int .i64 0, .int .i64 0, .int .i64 0] 36))
  have a0 := h0.cells_in (v := .int .i64 a.a) 0 rfl
  have a1 := h0.cells_in (v := .int .i64 a.b) 1 rfl
  have a2 := h0.cells_in (v := .int .i64 a.c) 2 rfl
  have b0 := h1.cells_in (v := .int .i64 b.a) 0 rfl
  have b1 := h1.cells_in (v := .int .i64 b.b) 1 rfl
  have b2 := h1.cells_in (v := .int .i64 b.c) 2 rfl
  have c0 := h2.cells_in (v := .int .i64 0) 0 rfl
  have c1 := h2.cells_in (v := .int .i64 0) 1 rfl
  have c2 := h2.cells_in (v := .int .i64 0) 2 rfl
  have cf : ∀ j, ∀ W, Below (((w.alloc (.cells (boxRes a) 36)).alloc (.cells (boxRes b) 36)).alloc (.cells #[.int .i64 0, .int .i64 0, .int .i64 0] 36)).heap.size (((w.alloc (.cells (boxRes a) 36)).alloc (.cells (boxRes b) 36)).alloc (.cells #[.int .i64 0, .int .i64 0, .int .i64 0] 36)) W → W.frozen? ⟨w.heap.size + 1 + 1, j, none⟩ = false := fun j W h => (h2.below h h2.lt).frozen j
  clear h0 h1 h2 hB hs1 hs2
  go_enter Try.func104, Try.ntmps104
  go_wp2_with fail
  simp only [boxRes] at a0 a1 a2 b0 b1 b2 c0 c1 c2 cf HB hbr
  generalize ((w.alloc (.cells _ 36)).alloc (.cells _ 36)).alloc (.cells _ 36) = w1 at a0 a1 a2 b0 b1 b2 c0 c1 c2 cf HB hbr ⊢
  have hcx := refRightB_t a w1
  cases q1 : rightR a
  · rw [q1] at hcx
    have HE := Lib.hid (show addR a b = none by rw [addR_eq, q1]; rfl)
    (with_reducible refine hcx.mono ?_)
    clear hcx
    rintro e v2 ⟨rfl, hB2⟩
    have hb2 := hbr.trans (hB2.mono hbr.size)
    clear hB2
    have HL := Lib.hid (res_lay res0 (HB.out.2.below hb2 HB.out.2.lt) (show w.heap.size ≤ w.heap.size + 1 + 1 by omega) (HB.out.1.trans (hb2.mono HB.out.1.size)))
    go_wp2
    obtain ⟨hZ, hY⟩ := HL.out
    simp only [res0] at hZ hY
    generalize ((v2.setCell ⟨w.heap.size + 1 + 1, 0, none⟩ (.int .i64 0)).setCell ⟨w.heap.size + 1 + 1, 1, none⟩ (.int .i64 0)).setCell ⟨w.heap.size + 1 + 1, 2, none⟩ (.int .i64 0) = W3 at hZ hY ⊢
    have z0 : W3.cell? ⟨w.heap.size + 1 + 1, 0, none⟩ = some (.int .i64 0) := hZ.cell 0
    have z1 : W3.cell? ⟨w.heap.size + 1 + 1, 1, none⟩ = some (.int .i64 0) := hZ.cell 1
    have z2 : W3.cell? ⟨w.heap.size + 1 + 1, 2, none⟩ = some (.int .i64 0) := hZ.cell 2
    exact bodyPost_ret (v := .tuple #[aggRes res0, .bool false]) (by simp [results, Try.results104, go_sem, z0, z1, z2, res0]) rfl ⟨by rw [HE.out]; rfl, hY⟩
  · rw [q1] at hcx
    (with_reducible refine hcx.mono ?_)
    clear hcx
    rintro e v2 ⟨rfl, hB2⟩
    have hb2 := hbr.trans (hB2.mono hbr.size)
    clear hB2
    go_wp2_with fail
    have hcx := refRightB_t b v2
    cases q2 : rightR b
    · rw [q2] at hcx
      have HE := Lib.hid (show addR a b = none by rw [addR_eq, q1, q2]; rfl)
      (with_reducible refine hcx.mono ?_)
      clear hcx
      rintro e v3 ⟨rfl, hB3⟩
      have hb3 := hb2.trans (hB3.mono hb2.size)
      clear hB3
      have HL := Lib.hid (res_lay res0 (HB.out.2.below hb3 HB.out.2.lt) (show w.heap.size ≤ w.heap.size + 1 + 1 by omega) (HB.out.1.trans (hb3.mono HB.out.1.size)))
      go_wp2
      obtain ⟨hZ, hY⟩ := HL.out
      simp only [res0] at hZ hY
      generalize ((v3.setCell ⟨w.heap.size + 1 + 1, 0, none⟩ (.int .i64 0)).setCell ⟨w.heap.size + 1 + 1, 1, none⟩ (.int .i64 0)).setCell ⟨w.heap.size + 1 + 1, 2, none⟩ (.int .i64 0) = W3 at hZ hY ⊢
      have z0 : W3.cell? ⟨w.heap.size + 1 + 1, 0, none⟩ = some (.int .i64 0) := hZ.cell 0
      have z1 : W3.cell? ⟨w.heap.size + 1 + 1, 1, none⟩ = some (.int .i64 0) := hZ.cell 1
      have z2 : W3.cell? ⟨w.heap.size + 1 + 1, 2, none⟩ = some (.int .i64 0) := hZ.cell 2
      exact bodyPost_ret (v := .tuple #[aggRes res0, .bool false]) (by simp [results, Try.results104, go_sem, z0, z1, z2, res0]) rfl ⟨by rw [HE.out]; rfl, hY⟩
    · rw [q2] at hcx
      (with_reducible refine hcx.mono ?_)
      clear hcx
      rintro e v3 ⟨rfl, hB3⟩
      have hb3 := hb2.trans (hB3.mono hb2.size)
      clear hB3
      obtain ⟨r, hr⟩ : ∃ r : LRes, (⟨wrap64 (a.a + b.a), wrap64 (a.b + b.b), wrap64 (a.c + b.c)⟩ : LRes) = r := ⟨_, rfl⟩
      have r0 : wrap64 (a.a + b.a) = r.a := congrArg LRes.a hr
      have r1 : wrap64 (a.b + b.b) = r.b := congrArg LRes.b hr
      have r2 : wrap64 (a.c + b.c) = r.c := congrArg LRes.c hr
      have hA : addR a b = if rightR r = true then some r else none := by rw [addR_eq, q1, q2, show eachR (fun x y => wrap64 (x + y)) a b = r from hr]; rfl
      have HA := Lib.hid hA
      clear hA hr
      have h5 := Blk.new v3 36 (boxRes r)
      have hb5 := hb3.alloc hb3.size (.cells (boxRes r) 36)
      have s0 := h5.cells_in (v := .int .i64 r.a) 0 rfl
      have s1 := h5.cells_in (v := .int .i64 r.b) 1 rfl
      have s2 := h5.cells_in (v := .int .i64 r.c) 2 rfl
      have hrr := Below.refl (v3.alloc (.cells (boxRes r) 36)).heap.size (v3.alloc (.cells (boxRes r) 36))
      clear h5
      go_upto_region 4 with fail
      simp only [boxRes] at s0 s1 s2 hb5 hrr
      try simp only [r0, r1, r2]
      generalize v3.alloc (.cells _ 36) = v5 at s0 s1 s2 hb5 hrr ⊢
      go_wp2_with fail
      have hcx := refRightB_t r v5
      cases q3 : rightR r
      · rw [q3] at hcx
        have HE := Lib.hid (show addR a b = none by rw [HA.out, q3]; rfl)
        (with_reducible refine hcx.mono ?_)
        clear hcx r0 r1 r2
        rintro e v6 ⟨rfl, hB6⟩
        have hb6 := hb5.trans (hB6.mono hb5.size)
        clear hB6
        have HL := Lib.hid (res_lay res0 (HB.out.2.below hb6 HB.out.2.lt) (show w.heap.size ≤ w.heap.size + 1 + 1 by omega) (HB.out.1.trans (hb6.mono HB.out.1.size)))
        go_wp2
        obtain ⟨hZ, hY⟩ := HL.out
        simp only [res0] at hZ hY
        generalize ((v6.setCell ⟨w.heap.size + 1 + 1, 0, none⟩ (.int .i64 0)).setCell ⟨w.heap.size + 1 + 1, 1, none⟩ (.int .i64 0)).setCell ⟨w.heap.size + 1 + 1, 2, none⟩ (.int .i64 0) = W3 at hZ hY ⊢
        have z0 : W3.cell? ⟨w.heap.size + 1 + 1, 0, none⟩ = some (.int .i64 0) := hZ.cell 0
        have z1 : W3.cell? ⟨w.heap.size + 1 + 1, 1, none⟩ = some (.int .i64 0) := hZ.cell 1
        have z2 : W3.cell? ⟨w.heap.size + 1 + 1, 2, none⟩ = some (.int .i64 0) := hZ.cell 2
        exact bodyPost_ret (v := .tuple #[aggRes res0, .bool false]) (by simp [results, Try.results104, go_sem, z0, z1, z2, res0]) rfl ⟨by rw [HE.out]; rfl, hY⟩
      · rw [q3] at hcx
        have HE := Lib.hid (show addR a b = some r by rw [HA.out, q3]; rfl)
        (with_reducible refine hcx.mono ?_)
        clear hcx r0 r1 r2
        rintro e v6 ⟨rfl, hB6⟩
        have hr6 := hrr.trans (hB6.mono hrr.size)
        have hb6 := hb5.trans (hB6.mono hb5.size)
        clear hB6
        have HL := Lib.hid (res_lay r (HB.out.2.below hb6 HB.out.2.lt) (show w.heap.size ≤ w.heap.size + 1 + 1 by omega) (HB.out.1.trans (hb6.mono HB.out.1.size)))
        go_wp2
        obtain ⟨hZ, hY⟩ := HL.out
        generalize ((v6.setCell ⟨w.heap.size + 1 + 1, 0, none⟩ (.int .i64 r.a)).setCell ⟨w.heap.size + 1 + 1, 1, none⟩ (.int .i64 r.b)).setCell ⟨w.heap.size + 1 + 1, 2, none⟩ (.int .i64 r.c) = W3 at hZ hY ⊢
        have z0 : W3.cell? ⟨w.heap.size + 1 + 1, 0, none⟩ = some (.int .i64 r.a) := hZ.cell 0
        have z1 : W3.cell? ⟨w.heap.size + 1 + 1, 1, none⟩ = some (.int .i64 r.b) := hZ.cell 1
        have z2 : W3.cell? ⟨w.heap.size + 1 + 1, 2, none⟩ = some (.int .i64 r.c) := hZ.cell 2
        exact bodyPost_ret (v := .tuple #[aggRes r, .bool true]) (by simp [results, Try.results104, go_sem, z0, z1, z2, res0]) rfl ⟨by rw [HE.out]; rfl, hY⟩
theorem rightN_iff (n : LNode) : rightN n = true ↔ rightR n.cap = true ∧ rightR n.used = true ∧ fitsR n.used n.cap = true ∧ 0 ≤ n.id ∧ n.id ≤ 15 ∧ 1 ≤ n.inc ∧ n.inc ≤ 2147483647 ∧ 0 ≤ n.load ∧ n.load ≤ 64 ∧ ((n.load = 0 ∧ n.used = res0) ∨ (n.up = true ∧ 0 < n.load)) := by
  have hi : n = idleN n ↔ n.load = 0 ∧ n.used = res0 := by
    rw [LNode.ext_iff']
    simp [idleN, res0]
  unfold rightN numR
  simp only [Bool.and_eq_true, Bool.or_eq_true, decide_eq_true_iff, hi, and_assoc]
theorem rightN_no (n : LNode) (h : ¬ (rightR n.cap = true ∧ rightR n.used = true ∧ fitsR n.used n.cap = true ∧ 0 ≤ n.id ∧ n.id ≤ 15 ∧ 1 ≤ n.inc ∧ n.inc ≤ 2147483647 ∧ 0 ≤ n.load ∧ n.load ≤ 64 ∧ ((n.load = 0 ∧ n.used = res0) ∨ (n.up = true ∧ 0 < n.load)))) : rightN n = false := by
  rw [Bool.eq_false_iff]
  exact fun e => h ((rightN_iff n).1 e)
theorem rightN_down (n : LNode) (hu : n.up = false) (hz : n.used = res0) (q5 : rightR n.cap = true) (q6 : rightR n.used = true) (q7 : fitsR n.used n.cap = true) (h1 : 0 ≤ n.id) (h2 : n.id ≤ 15) (h3 : 1 ≤ n.inc) (h4 : n.inc ≤ 2147483647) (h5 : 0 ≤ n.load) (h6 : n.load ≤ 64) : rightN n = (n.load == 0) := by
  rw [Bool.eq_iff_iff, rightN_iff, beq_iff_eq]
  constructor
  · rintro ⟨t1, t2, t3, t4, t5, t6, t7, t8, t9, t10⟩
    rcases t10 with t | t
    · exact t.1
    · rw [hu] at t; exact absurd t.1 (by decide)
  · intro e
    exact ⟨q5, q6, q7, h1, h2, h3, h4, h5, h6, .inl ⟨e, hz⟩⟩
set_option maxRecDepth 100000 in
set_option maxHeartbeats 3200000 in
theorem refRight23_t (n : LNode) (w : World) : Calls Try.prog 100 #[aggNode n] w fun e w' => e = .returned (.bool (rightN n)) ∧ Below w.heap.size w w' := by
  have hb := Blk.new w 38 (boxNode n)
  have hB : Below w.heap.size w (w.alloc (.cells (boxNode n) 38)) := (Below.refl _ _).alloc (Nat.le_refl _) _
  have hrr := Below.refl (w.alloc (.cells (boxNode n) 38)).heap.size (w.alloc (.cells (boxNode n) 38))
  have n0 := hb.cells_in (v := .int .i64 n.id) 0 rfl
  have n1 := hb.cells_in (v := .int .i64 n.inc) 1 rfl
  have n2 := hb.cells_in (v := .int .i64 n.load) 2 rfl
  have n3 := hb.cells_in (v := .int .i64 n.cap.a) 3 rfl
  have n4 := hb.cells_in (v := .int .i64 n.cap.b) 4 rfl
  have n5 := hb.cells_in (v := .int .i64 n.cap.c) 5 rfl
  have n6 := hb.cells_in (v := .int .i64 n.used.a) 6 rfl
  have n7 := hb.cells_in (v := .int .i64 n.used.b) 7 rfl
  have n8 := hb.cells_in (v := .int .i64 n.used.c) 8 rfl
  have n9 := hb.cells_in (v := .bool n.up) 9 rfl
  have HB := Lib.hid hB
  clear hb hB
  go_enter Try.func100, Try.ntmps100
  go_upto_region 1 with fail
  simp only [boxNode] at n0 n1 n2 n3 n4 n5 n6 n7 n8 n9 hrr HB
  generalize w.alloc (.cells _ 38) = w1 at n0 n1 n2 n3 n4 n5 n6 n7 n8 n9 hrr HB ⊢
  by_cases q1 : n.id < 0
  · skip
    have HE := Lib.hid (rightN_no n (by rintro ⟨t1, t2, t3, t4, t5, t6, t7, t8, t9, t10⟩; first | omega | simp_all))
    go_wp2
    go_ret
    exact ⟨ret_bool HE.out.symm, HB.out⟩
  · skip
    by_cases q2 : n.id > 15
    · skip
      have HE := Lib.hid (rightN_no n (by rintro ⟨t1, t2, t3, t4, t5, t6, t7, t8, t9, t10⟩; first | omega | simp_all))
      go_wp2
      go_ret
      exact ⟨ret_bool HE.out.symm, HB.out⟩
    · skip
      by_cases q3 : n.inc < 1
      · skip
        have HE := Lib.hid (rightN_no n (by rintro ⟨t1, t2, t3, t4, t5, t6, t7, t8, t9, t10⟩; first | omega | simp_all))
        go_wp2
        go_ret
        exact ⟨ret_bool HE.out.symm, HB.out⟩
      · skip
        by_cases q4 : n.inc > 2147483647
        · skip
          have HE := Lib.hid (rightN_no n (by rintro ⟨t1, t2, t3, t4, t5, t6, t7, t8, t9, t10⟩; first | omega | simp_all))
          go_wp2
          go_ret
          exact ⟨ret_bool HE.out.symm, HB.out⟩
        · skip
          go_wp2_with fail
          have hcx := refRightB_t n.cap w1
          cases q5 : rightR n.cap
          · skip
            rw [q5] at hcx
            (with_reducible refine hcx.mono ?_)
            clear hcx
            rintro e v2 ⟨rfl, hB2⟩
            have hb2 := hrr.trans (hB2.mono hrr.size)
            clear hB2
            have HE := Lib.hid (rightN_no n (by rintro ⟨t1, t2, t3, t4, t5, t6, t7, t8, t9, t10⟩; first | omega | simp_all))
            go_wp2
            go_ret
            exact ⟨ret_bool HE.out.symm, HB.out.trans (hb2.mono HB.out.size)⟩
          · skip
            rw [q5] at hcx
            (with_reducible refine hcx.mono ?_)
            clear hcx
            rintro e v2 ⟨rfl, hB2⟩
            have hb2 := hrr.trans (hB2.mono hrr.size)
            clear hB2
            go_wp2_with fail
            have hcx := refRightB_t n.used v2
            cases q6 : rightR n.used
            · skip
              rw [q6] at hcx
              (with_reducible refine hcx.mono ?_)
              clear hcx
              rintro e v3 ⟨rfl, hB3⟩
              have hb3 := hb2.trans (hB3.mono hb2.size)
              clear hB3
              have HE := Lib.hid (rightN_no n (by rintro ⟨t1, t2, t3, t4, t5, t6, t7, t8, t9, t10⟩; first | omega | simp_all))
              go_wp2
              go_ret
              exact ⟨ret_bool HE.out.symm, HB.out.trans (hb3.mono HB.out.size)⟩
            · skip
              rw [q6] at hcx
              (with_reducible refine hcx.mono ?_)
              clear hcx
              rintro e v3 ⟨rfl, hB3⟩
              have hb3 := hb2.trans (hB3.mono hb2.size)
              clear hB3
              go_wp2_with fail
              have hcx := refFits_t n.used n.cap v3
              cases q7 : fitsR n.used n.cap
              · skip
                rw [q7] at hcx
                (with_reducible refine hcx.mono ?_)
                clear hcx
                rintro e v4 ⟨rfl, hB4⟩
                have hb4 := hb3.trans (hB4.mono hb3.size)
                clear hB4
                have HE := Lib.hid (rightN_no n (by rintro ⟨t1, t2, t3, t4, t5, t6, t7, t8, t9, t10⟩; first | omega | simp_all))
                go_wp2
                go_ret
                exact ⟨ret_bool HE.out.symm, HB.out.trans (hb4.mono HB.out.size)⟩
              · skip
                rw [q7] at hcx
                (with_reducible refine hcx.mono ?_)
                clear hcx
                rintro e v4 ⟨rfl, hB4⟩
                have hb4 := hb3.trans (hB4.mono hb3.size)
                clear hB4
                by_cases q8 : n.load < 0
                · skip
                  have HE := Lib.hid (rightN_no n (by rintro ⟨t1, t2, t3, t4, t5, t6, t7, t8, t9, t10⟩; first | omega | simp_all))
                  go_wp2
                  go_ret
                  exact ⟨ret_bool HE.out.symm, HB.out.trans (hb4.mono HB.out.size)⟩
                · skip
                  by_cases q9 : n.load > 64
                  · skip
                    have HE := Lib.hid (rightN_no n (by rintro ⟨t1, t2, t3, t4, t5, t6, t7, t8, t9, t10⟩; first | omega | simp_all))
                    go_wp2
                    go_ret
                    exact ⟨ret_bool HE.out.symm, HB.out.trans (hb4.mono HB.out.size)⟩
                  · skip
                    have hne : ∀ W : World, (binOp .neq 36 (.agg #[.int .i64 n.used.a, .int .i64 n.used.b, .int .i64 n.used.c]) (.agg #[.int .i64 0, .int .i64 0, .int .i64 0])).run Try.prog W = .ok (.bool (!decide (n.used = res0))) W := fun W => neqRes n.used res0 W
                    have HQ := Lib.hid (And.intro q1 (And.intro q2 (And.intro q3 (And.intro q4 (And.intro q5 (And.intro q6 (And.intro q7 (And.intro q8 q9))))))))
                    clear q1 q2 q3 q4 q5 q6 q7
                    cases hu : n.up
                    · simp only [hu] at n9
                      by_cases hz : n.used = res0
                      · simp only [decide_eq_true hz, Bool.not_true] at hne
                        have HZ := Lib.hid hz
                        clear hz
                        have HE := Lib.hid (show rightN n = (n.load == 0) by obtain ⟨q1, q2, q3, q4, q5, q6, q7, q8, q9⟩ := HQ.out; have hz := HZ.out; exact rightN_down n hu hz q5 q6 q7 (by omega) (by omega) (by omega) (by omega) (by omega) (by omega))
                        go_wp2
                        go_ret
                        exact ⟨ret_bool HE.out.symm, HB.out.trans (hb4.mono HB.out.size)⟩
                      · simp only [decide_eq_false hz, Bool.not_false] at hne
                        have HZ := Lib.hid hz
                        clear hz
                        have HE := Lib.hid (show rightN n = false by obtain ⟨q1, q2, q3, q4, q5, q6, q7, q8, q9⟩ := HQ.out; have hz := HZ.out; exact rightN_no n (by rintro ⟨t1, t2, t3, t4, t5, t6, t7, t8, t9, t10⟩; first | omega | simp_all))
                        go_wp2
                        go_ret
                        exact ⟨ret_bool HE.out.symm, HB.out.trans (hb4.mono HB.out.size)⟩
                    · simp only [hu] at n9
                      by_cases hl : n.load = 0
                      · have hl2 : (n.load == 0) = true := by rw [hl]; rfl
                        by_cases hz : n.used = res0
                        · simp only [decide_eq_true hz, Bool.not_true] at hne
                          have HZ := Lib.hid hz
                          clear hz
                          have HE := Lib.hid (show rightN n = true by obtain ⟨q1, q2, q3, q4, q5, q6, q7, q8, q9⟩ := HQ.out; have hz := HZ.out; exact (rightN_iff n).2 ⟨q5, q6, q7, by omega, by omega, by omega, by omega, by omega, by omega, .inl ⟨hl, hz⟩⟩)
                          go_wp2
                          go_ret
                          exact ⟨ret_bool HE.out.symm, HB.out.trans (hb4.mono HB.out.size)⟩
                        · simp only [decide_eq_false hz, Bool.not_false] at hne
                          have HZ := Lib.hid hz
                          clear hz
                          have HE := Lib.hid (show rightN n = false by obtain ⟨q1, q2, q3, q4, q5, q6, q7, q8, q9⟩ := HQ.out; have hz := HZ.out; exact rightN_no n (by rintro ⟨t1, t2, t3, t4, t5, t6, t7, t8, t9, t10⟩; rcases t10 with t | t; exact hz t.2; omega))
                          go_wp2
                          go_ret
                          exact ⟨ret_bool HE.out.symm, HB.out.trans (hb4.mono HB.out.size)⟩
                      · have hl2 : (n.load == 0) = false := by rw [beq_eq_false_iff_ne]; exact hl
                        have HE := Lib.hid (show rightN n = true by obtain ⟨q1, q2, q3, q4, q5, q6, q7, q8, q9⟩ := HQ.out; exact (rightN_iff n).2 ⟨q5, q6, q7, by omega, by omega, by omega, by omega, by omega, by omega, .inr ⟨hu, by omega⟩⟩)
                        go_wp2
                        go_ret
                        exact ⟨ret_bool HE.out.symm, HB.out.trans (hb4.mono HB.out.size)⟩
end Go.Proofs.Ytcfninipcghbmaa
