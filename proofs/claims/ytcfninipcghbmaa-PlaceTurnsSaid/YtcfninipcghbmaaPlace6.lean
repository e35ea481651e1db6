/-
  LAYERS 8, 23: res.both, res.Add; what node.Take tests and does.
-/
import Derived.Test.YtcfninipcghbmaaPlace5
set_option linter.unusedVariables false
set_option linter.unusedSimpArgs false
namespace Go.Proofs.Ytcfninipcghbmaa
open Go.RowKit Go.Sort

theorem res_lay {w W : World} {b B : Nat} {x0 y0 z0 : Int} (r : LRes) (h : Blk W b 36 #[.int .i64 x0, .int .i64 y0, .int .i64 z0]) (hb : B ≤ b) (hB : Below B w W) :
    Blk (((W.setCell ⟨b, 0, none⟩ (.int .i64 r.a)).setCell ⟨b, 1, none⟩ (.int .i64 r.b)).setCell ⟨b, 2, none⟩ (.int .i64 r.c)) b 36 (boxRes r) ∧ Below B w (((W.setCell ⟨b, 0, none⟩ (.int .i64 r.a)).setCell ⟨b, 1, none⟩ (.int .i64 r.b)).setCell ⟨b, 2, none⟩ (.int .i64 r.c)) :=
  ⟨((h.set_ 0 _).set_ 1 _).set_ 2 _, ((hB.setCell (p := ⟨b, 0, none⟩) hb _).setCell (p := ⟨b, 1, none⟩) hb _).setCell (p := ⟨b, 2, none⟩) hb _⟩
def bothR (op : Int → Int → Int) (a b : LRes) : Option LRes := if (rightR a && rightR b && rightR (eachR op a b)) = true then some (eachR op a b) else none
def res0 : LRes := ⟨0, 0, 0⟩
set_option maxRecDepth 100000 in
set_option maxHeartbeats 3200000 in
theorem resBoth_t (g : Nat) (heg : ∀ args w, (callFunc g args).run Try.prog w = .ok (.enter g args) w) (op : Int → Int → Int) (hg : ∀ x y W, Calls Try.prog g #[.int .i64 x, .int .i64 y] W fun e W' => e = .returned (.int .i64 (op x y)) ∧ W' = W) (a b : LRes) (w : World) :
    Calls Try.prog 158 #[aggRes a, aggRes b, .func (.func g) #[] #[]] w fun e w' => e = .returned (.tuple #[aggRes ((bothR op a b).getD res0), .bool (bothR op a b).isSome]) ∧ Below w.heap.size w w' := by
  have HG := Lib.hid hg
  have HEG := Lib.hid heg
  clear hg heg
  have hs1 : (w.alloc (.cells (boxRes a) 36)).heap.size = w.heap.size + 1 := by simp
  have hs2 : ((w.alloc (.cells (boxRes a) 36)).alloc (.cells (boxRes b) 36)).heap.size = w.heap.size + 1 + 1 := by simp
  have h0 := ((Blk.new w 36 (boxRes a)).alloc (.cells (boxRes b) 36)).alloc (.cells #[.int .i64 0, .int .i64 0, .int .i64 0] 36)
  have h1 := (Blk.new (w.alloc (.cells (boxRes a) 36)) 36 (boxRes b)).alloc (.cells #[.int .i64 0, .int .i64 0, .int .i64 0] 36)
  have h2 := Blk.new ((w.alloc (.cells (boxRes a) 36)).alloc (.cells (boxRes b) 36)) 36 #[.int .i64 0, .int .i64 0, .int .i64 0]
  rw [hs1] at h1
  rw [hs2] at h2
  have hB : Below w.heap.size w (((w.alloc (.cells (boxRes a) 36)).alloc (.cells (boxRes b) 36)).alloc (.cells #[.int .i64 0, .int .i64 0, .int .i64 0] 36)) := (((Below.refl _ _).alloc (Nat.le_refl _) _).alloc (by simp) _).alloc (by simp; omega) _
  have HB := Lib.hid (And.intro hB h2)
  have hbr := Below.refl (((w.alloc (.cells (boxRes a) 36)).alloc (.cells (boxRes b) 36)).alloc (.cells #[.int .i64 0, .int .i64 0, .int .i64 0] 36)).heap.size (((w.alloc (.cells (boxRes a) 36)).alloc (.cells (boxRes b) 36)).alloc (.cells #[.int .i64 0, .int .i64 0, .int .i64 0] 36))
  have a0 := h0.cells_in (v := .int .i64 a.a) 0 rfl
  have a1 := h0.cells_in (v := .int .i64 a.b) 1 rfl
  have a2 := h0.cells_in (v := .int .i64 a.c) 2 rfl
  have b0 := h1.cells_in (v := .int .i64 b.a) 0 rfl
  have b1 := h1.cells_in (v := .int .i64 b.b) 1 rfl
  have b2 := h1.cells_in (v := .int .i64 b.c) 2 rfl
  have c0 := h2.cells_in (v := .int .i64 0) 0 rfl
  have c1 := h2.cells_in (v := .int .i64 0) 1 rfl
  have c2 := h2.cells_in (v := .int .i64 0) 2 rfl
  have cf : ∀ j, ∀ W, Below (((w.alloc (.cells (boxRes a) 36)).alloc (.cells (boxRes b) 36)).alloc (.cells #[.int .i64 0, .int .i64 0, .int .i64 0] 36)).heap.size (((w.alloc (.cells (boxRes a) 36)).alloc (.cells (boxRes b) 36)).alloc (.cells #[.int .i64 0, .int .i64 0, .int .i64 0] 36)) W → W.frozen? ⟨w.heap.size + 1 + 1, j, none⟩ = false := fun j W h => (h2.below h h2.lt).frozen j
  clear h0 h1 h2 hB hs1 hs2
  go_enter Try.func158, Try.ntmps158
  go_wp2_with fail
  simp only [boxRes] at a0 a1 a2 b0 b1 b2 c0 c1 c2 cf HB hbr
  generalize ((w.alloc (.cells _ 36)).alloc (.cells _ 36)).alloc (.cells _ 36) = w1 at a0 a1 a2 b0 b1 b2 c0 c1 c2 cf HB hbr ⊢
  have hcx := resRight_t a w1
  cases q1 : rightR a
  · rw [q1] at hcx
    have HQ := Lib.hid q1
    clear q1
    (with_reducible refine hcx.mono ?_)
    clear hcx
    rintro e v2 ⟨rfl, hB2⟩
    have hb2 := hbr.trans (hB2.mono hbr.size)
    clear hB2
    have HL := Lib.hid (res_lay res0 (HB.out.2.below hb2 HB.out.2.lt) (show w.heap.size ≤ w.heap.size + 1 + 1 by omega) (HB.out.1.trans (hb2.mono HB.out.1.size)))
    go_wp2
    obtain ⟨hZ, hY⟩ := HL.out
    simp only [res0] at hZ hY
    generalize ((v2.setCell ⟨w.heap.size + 1 + 1, 0, none⟩ (.int .i64 0)).setCell ⟨w.heap.size + 1 + 1, 1, none⟩ (.int .i64 0)).setCell ⟨w.heap.size + 1 + 1, 2, none⟩ (.int .i64 0) = W3 at hZ hY ⊢
    have z0 := hZ.cell 0
    have z1 := hZ.cell 1
    have z2 := hZ.cell 2
    simp only [List.getElem?_toArray] at z0 z1 z2
    exact bodyPost_ret (v := .tuple #[aggRes res0, .bool false]) (by simp [results, Try.results158, go_sem, z0, z1, z2, res0]) rfl ⟨by simp [bothR, HQ.out], hY⟩
  · rw [q1] at hcx
    (with_reducible refine hcx.mono ?_)
    clear hcx
    rintro e v2 ⟨rfl, hB2⟩
    have hb2 := hbr.trans (hB2.mono hbr.size)
    clear hB2
    have hcx := resRight_t b v2
    cases q2 : rightR b
    · rw [q2] at hcx
      have HQ := Lib.hid (And.intro q1 q2)
      clear q1 q2
      go_wp2_with fail
      (with_reducible refine hcx.mono ?_)
      clear hcx
      rintro e v3 ⟨rfl, hB3⟩
      have hb3 := hb2.trans (hB3.mono hb2.size)
      clear hB3
      have HL := Lib.hid (res_lay res0 (HB.out.2.below hb3 HB.out.2.lt) (show w.heap.size ≤ w.heap.size + 1 + 1 by omega) (HB.out.1.trans (hb3.mono HB.out.1.size)))
      go_wp2
      obtain ⟨hZ, hY⟩ := HL.out
      simp only [res0] at hZ hY
      generalize ((v3.setCell ⟨w.heap.size + 1 + 1, 0, none⟩ (.int .i64 0)).setCell ⟨w.heap.size + 1 + 1, 1, none⟩ (.int .i64 0)).setCell ⟨w.heap.size + 1 + 1, 2, none⟩ (.int .i64 0) = W3 at hZ hY ⊢
      have z0 := hZ.cell 0
      have z1 := hZ.cell 1
      have z2 := hZ.cell 2
      simp only [List.getElem?_toArray] at z0 z1 z2
      exact bodyPost_ret (v := .tuple #[aggRes res0, .bool false]) (by simp [results, Try.results158, go_sem, z0, z1, z2, res0]) rfl ⟨by simp [bothR, HQ.out], hY⟩
    · rw [q2] at hcx
      go_wp2_with fail
      (with_reducible refine hcx.mono ?_)
      clear hcx
      rintro e v3 ⟨rfl, hB3⟩
      have hb3 := hb2.trans (hB3.mono hb2.size)
      clear hB3
      go_wp2_with fail
      have hcx := each_t g HEG.out op HG.out a b v3
      (with_reducible refine hcx.mono ?_)
      clear hcx
      rintro e v4 ⟨rfl, hB4⟩
      have hb4 := hb3.trans (hB4.mono hb3.size)
      clear hB4
      obtain ⟨r, hr⟩ : ∃ r, eachR op a b = r := ⟨_, rfl⟩
      have HR := Lib.hid hr
      rw [hr]
      clear hr
      have h5 := Blk.new v4 36 (boxRes r)
      have hb5 := hb4.alloc hb4.size (.cells (boxRes r) 36)
      have r0 := h5.cells_in (v := .int .i64 r.a) 0 rfl
      have r1 := h5.cells_in (v := .int .i64 r.b) 1 rfl
      have r2 := h5.cells_in (v := .int .i64 r.c) 2 rfl
      have hrr := Below.refl (v4.alloc (.cells (boxRes r) 36)).heap.size (v4.alloc (.cells (boxRes r) 36))
      clear h5
      go_wp2_with fail
      simp only [boxRes] at r0 r1 r2 hb5 hrr
      generalize v4.alloc (.cells _ 36) = v5 at r0 r1 r2 hb5 hrr ⊢
      have hcx := resRight_t r v5
      cases q3 : rightR r
      · rw [q3] at hcx
        have HQ := Lib.hid (And.intro q1 (And.intro q2 (show rightR (eachR op a b) = false by rw [HR.out]; exact q3)))
        clear q1 q2 q3
        (with_reducible refine hcx.mono ?_)
        clear hcx
        rintro e v6 ⟨rfl, hB6⟩
        have hb6 := hb5.trans (hB6.mono hb5.size)
        clear hB6
        have HL := Lib.hid (res_lay res0 (HB.out.2.below hb6 HB.out.2.lt) (show w.heap.size ≤ w.heap.size + 1 + 1 by omega) (HB.out.1.trans (hb6.mono HB.out.1.size)))
        go_wp2
        obtain ⟨hZ, hY⟩ := HL.out
        simp only [res0] at hZ hY
        generalize ((v6.setCell ⟨w.heap.size + 1 + 1, 0, none⟩ (.int .i64 0)).setCell ⟨w.heap.size + 1 + 1, 1, none⟩ (.int .i64 0)).setCell ⟨w.heap.size + 1 + 1, 2, none⟩ (.int .i64 0) = W3 at hZ hY ⊢
        have z0 := hZ.cell 0
        have z1 := hZ.cell 1
        have z2 := hZ.cell 2
        simp only [List.getElem?_toArray] at z0 z1 z2
        exact bodyPost_ret (v := .tuple #[aggRes res0, .bool false]) (by simp [results, Try.results158, go_sem, z0, z1, z2, res0]) rfl ⟨by simp [bothR, HQ.out], hY⟩
      · rw [q3] at hcx
        have HQ := Lib.hid (And.intro q1 (And.intro q2 (show rightR (eachR op a b) = true by rw [HR.out]; exact q3)))
        clear q1 q2 q3
        (with_reducible refine hcx.mono ?_)
        clear hcx
        rintro e v6 ⟨rfl, hB6⟩
        have hr6 := hrr.trans (hB6.mono hrr.size)
        have hb6 := hb5.trans (hB6.mono hb5.size)
        clear hB6
        have HL := Lib.hid (res_lay r (HB.out.2.below hb6 HB.out.2.lt) (show w.heap.size ≤ w.heap.size + 1 + 1 by omega) (HB.out.1.trans (hb6.mono HB.out.1.size)))
        go_wp2
        obtain ⟨hZ, hY⟩ := HL.out
        generalize ((v6.setCell ⟨w.heap.size + 1 + 1, 0, none⟩ (.int .i64 r.a)).setCell ⟨w.heap.size + 1 + 1, 1, none⟩ (.int .i64 r.b)).setCell ⟨w.heap.size + 1 + 1, 2, none⟩ (.int .i64 r.c) = W3 at hZ hY ⊢
        have z0 := hZ.cell 0
        have z1 := hZ.cell 1
        have z2 := hZ.cell 2
        simp only [List.getElem?_toArray] at z0 z1 z2
        exact bodyPost_ret (v := .tuple #[aggRes r, .bool true]) (by simp [results, Try.results158, go_sem, z0, z1, z2]) rfl ⟨by rw [show bothR op a b = some r by rw [bothR, HQ.out.1, HQ.out.2.1, HQ.out.2.2, HR.out]; rfl]; rfl, hY⟩
theorem eg_add (args : Array Value) (w : World) : (callFunc 159 args).run Try.prog w = .ok (.enter 159 args) w := by kernel_rfl
theorem add1_t (n m : Int) (w : World) : Calls Try.prog 159 #[.int .i64 n, .int .i64 m] w fun e w' => e = .returned (.int .i64 (wrap64 (n + m))) ∧ w' = w := by
  go_enter Try.func159, Try.ntmps159
  go_wp2
  go_ret
  exact ⟨rfl, rfl⟩
def addR (a b : LRes) : Option LRes := bothR (fun x y => wrap64 (x + y)) a b
set_option maxRecDepth 100000 in
set_option maxHeartbeats 1600000 in
theorem resAdd_t (a b : LRes) (w : World) : Calls Try.prog 148 #[aggRes a, aggRes b] w fun e w' => e = .returned (.tuple #[aggRes ((addR a b).getD res0), .bool (addR a b).isSome]) ∧ Below w.heap.size w w' := by
  obtain ⟨r, hr⟩ : ∃ r, (addR a b).getD res0 = r := ⟨_, rfl⟩
  obtain ⟨t, ht⟩ : ∃ t, (addR a b).isSome = t := ⟨_, rfl⟩
  have hcx := fun W => resBoth_t 159 eg_add _ add1_t a b W
  simp only [show bothR (fun x y => wrap64 (x + y)) a b = addR a b from rfl, hr, ht] at hcx
  rw [hr, ht]
  have HCX := Lib.hid hcx
  clear hcx hr ht
  have hs1 : ((w.alloc (.cells (boxRes a) 36)).alloc (.cells (boxRes b) 36)).heap.size = w.heap.size + 1 + 1 := by simp
  have h2 := Blk.new ((w.alloc (.cells (boxRes a) 36)).alloc (.cells (boxRes b) 36)) 36 #[.int .i64 0, .int .i64 0, .int .i64 0]
  rw [hs1] at h2
  have hB : Below w.heap.size w (((w.alloc (.cells (boxRes a) 36)).alloc (.cells (boxRes b) 36)).alloc (.cells #[.int .i64 0, .int .i64 0, .int .i64 0] 36)) := (((Below.refl _ _).alloc (Nat.le_refl _) _).alloc (by simp) _).alloc (by simp; omega) _
  have HB := Lib.hid (And.intro hB h2)
  clear hB h2 hs1
  go_enter Try.func148, Try.ntmps148
  go_wp2_with fail
  simp only [boxRes] at HB
  generalize ((w.alloc (.cells _ 36)).alloc (.cells _ 36)).alloc (.cells _ 36) = w1 at HB ⊢
  (with_reducible refine (HCX.out w1).mono ?_)
  rintro e w2 ⟨rfl, hB2⟩
  have h2 := HB.out.2.below hB2 HB.out.2.lt
  have HL := Lib.hid (res_lay r h2 (show w.heap.size ≤ w.heap.size + 1 + 1 by omega) (HB.out.1.trans (hB2.mono HB.out.1.size)))
  have c0 := h2.cell 0
  have c1 := h2.cell 1
  have c2 := h2.cell 2
  simp only [List.getElem?_toArray, List.getElem?_cons_zero, List.getElem?_cons_succ] at c0 c1 c2
  have cf := h2.frozen
  clear hB2 h2
  go_wp2
  obtain ⟨hZ, hY⟩ := HL.out
  generalize ((w2.setCell ⟨w.heap.size + 1 + 1, 0, none⟩ (.int .i64 r.a)).setCell ⟨w.heap.size + 1 + 1, 1, none⟩ (.int .i64 r.b)).setCell ⟨w.heap.size + 1 + 1, 2, none⟩ (.int .i64 r.c) = W3 at hZ hY ⊢
  have z0 := hZ.cell 0
  have z1 := hZ.cell 1
  have z2 := hZ.cell 2
  simp only [List.getElem?_toArray] at z0 z1 z2
  exact bodyPost_ret (v := .tuple #[aggRes r, .bool t]) (by simp [results, Try.results148, go_sem, z0, z1, z2]) rfl ⟨rfl, hY⟩
/-! ### what node.Take tests: closures over the node's box (block nb), the box of x (xb), of the need (rb) -/
section
variable {w : World} {nb xb rb : Nat} {n : LNode}
theorem mineUp_t (h : Blk w nb 38 (boxNode n)) : Calls Try.prog 156 #[.pointer (some ⟨nb, 0, none⟩)] w fun e w' => e = .returned (.bool n.up) ∧ w' = w := by
  have c9 := h.cell 9
  simp only [List.getElem?_toArray, List.getElem?_cons_zero, List.getElem?_cons_succ] at c9
  go_enter Try.func156, Try.ntmps156
  go_wp2
  go_ret
  exact ⟨rfl, rfl⟩
theorem mineInc_t {x : Int} (h : Blk w nb 38 (boxNode n)) (hx : Blk w xb 3 #[.int .i64 x]) : Calls Try.prog 157 #[.pointer (some ⟨nb, 0, none⟩), .pointer (some ⟨xb, 0, none⟩)] w fun e w' => e = .returned (.bool (n.inc == x)) ∧ w' = w := by
  have c1 := h.cell 1
  have x0 := hx.cell 0
  simp only [List.getElem?_toArray, List.getElem?_cons_zero, List.getElem?_cons_succ] at c1 x0
  go_enter Try.func157, Try.ntmps157
  go_wp2
  go_ret
  exact ⟨rfl, rfl⟩
theorem takeFull_t (h : Blk w nb 38 (boxNode n)) : Calls Try.prog 143 #[.pointer (some ⟨nb, 0, none⟩)] w fun e w' => e = .returned (.bool (decide (n.load < 64))) ∧ w' = w := by
  have c2 := h.cell 2
  simp only [List.getElem?_toArray, List.getElem?_cons_zero, List.getElem?_cons_succ] at c2
  go_enter Try.func143, Try.ntmps143
  go_wp2
  go_ret
  exact ⟨rfl, rfl⟩
set_option maxRecDepth 100000 in
theorem takeRoom_t {need : LRes} (h : Blk w nb 38 (boxNode n)) (hr : Blk w rb 36 (boxRes need)) : Calls Try.prog 144 #[.pointer (some ⟨nb, 0, none⟩), .pointer (some ⟨rb, 0, none⟩)] w fun e w' => e = .returned (.bool (takesN n need)) ∧ Below w.heap.size w w' := by
  have c0 := h.cell 0
  have c1 := h.cell 1
  have c2 := h.cell 2
  have c3 := h.cell 3
  have c4 := h.cell 4
  have c5 := h.cell 5
  have c6 := h.cell 6
  have c7 := h.cell 7
  have c8 := h.cell 8
  have c9 := h.cell 9
  have r0 := hr.cell 0
  have r1 := hr.cell 1
  have r2 := hr.cell 2
  simp only [List.getElem?_toArray, List.getElem?_cons_zero, List.getElem?_cons_succ] at c0 c1 c2 c3 c4 c5 c6 c7 c8 c9 r0 r1 r2
  clear h hr
  go_enter Try.func144, Try.ntmps144
  go_wp2_with fail
  (with_reducible refine (takes_t n need w).mono ?_)
  rintro e w2 ⟨rfl, hB⟩
  have HB := Lib.hid hB
  clear hB
  go_wp2
  go_ret
  exact ⟨rfl, HB.out⟩
end
end Go.Proofs.Ytcfninipcghbmaa
