/-
  LAYER 23 (node): step, mine.
-/
import Derived.Test.YtcfninipcghbmaaPlace7
import Derived.Deep.DeepCutAuto
set_option linter.unusedVariables false
set_option linter.unusedSimpArgs false
namespace Go.Proofs.Ytcfninipcghbmaa
open Go.RowKit Go.Sort

set_option maxRecDepth 100000 in
set_option maxHeartbeats 1600000 in
theorem step_err (n : LNode) (e : Int) (he : e ≠ 0) (fv : Value) (w : World) :
    Calls Try.prog 145 #[aggNode n, .int .i64 e, fv] w fun en w' => en = .returned (.tuple #[aggNode zeroN, .int .i64 e]) ∧ Below w.heap.size w w' := by
  have hs1 : (w.alloc (.cells (boxNode n) 38)).heap.size = w.heap.size + 1 := by simp
  have h0 := (Blk.new w 38 (boxNode n)).alloc (.cells (boxNode zeroN) 38)
  have h1 := Blk.new (w.alloc (.cells (boxNode n) 38)) 38 (boxNode zeroN)
  rw [hs1] at h1
  have hB : Below w.heap.size w ((w.alloc (.cells (boxNode n) 38)).alloc (.cells (boxNode zeroN) 38)) := ((Below.refl _ _).alloc (Nat.le_refl _) _).alloc (by simp) _
  have HB := Lib.hid (And.intro h1 hB)
  have he2 : (e != 0) = true := by rw [bne_iff_ne]; exact he
  have z0 := h1.cell 0
  have z1 := h1.cell 1
  have z2 := h1.cell 2
  have z3 := h1.cell 3
  have z4 := h1.cell 4
  have z5 := h1.cell 5
  have z6 := h1.cell 6
  have z7 := h1.cell 7
  have z8 := h1.cell 8
  have z9 := h1.cell 9
  simp only [List.getElem?_toArray, List.getElem?_cons_zero, List.getElem?_cons_succ] at z0 z1 z2 z3 z4 z5 z6 z7 z8 z9
  have zf := h1.frozen
  clear h0 h1 hB hs1 he
  go_enter Try.func145, Try.ntmps145
  go_upto_if 9 with fail
  simp only [boxNode, zeroN] at HB zf z0 z1 z2 z3 z4 z5 z6 z7 z8 z9
  generalize (w.alloc (.cells _ 38)).alloc (.cells _ 38) = w1 at HB zf z0 z1 z2 z3 z4 z5 z6 z7 z8 z9 ⊢
  have HL := Lib.hid (node_lay zeroN zeroN HB.out.1 (show w.heap.size ≤ w.heap.size + 1 by omega) HB.out.2)
  simp only [zeroN, boxNode] at HL
  go_wp2
  obtain ⟨hZ, hY⟩ := HL.out
  generalize (((((((((w1.setCell ⟨w.heap.size + 1, 0, none⟩ (.int .i64 0)).setCell ⟨w.heap.size + 1, 1, none⟩ (.int .i64 0)).setCell ⟨w.heap.size + 1, 2, none⟩ (.int .i64 0)).setCell ⟨w.heap.size + 1, 3, none⟩ (.int .i64 0)).setCell ⟨w.heap.size + 1, 4, none⟩ (.int .i64 0)).setCell ⟨w.heap.size + 1, 5, none⟩ (.int .i64 0)).setCell ⟨w.heap.size + 1, 6, none⟩ (.int .i64 0)).setCell ⟨w.heap.size + 1, 7, none⟩ (.int .i64 0)).setCell ⟨w.heap.size + 1, 8, none⟩ (.int .i64 0)).setCell ⟨w.heap.size + 1, 9, none⟩ (.bool false) = W3 at hZ hY ⊢
  have v0 := hZ.cell 0
  have v1 := hZ.cell 1
  have v2 := hZ.cell 2
  have v3 := hZ.cell 3
  have v4 := hZ.cell 4
  have v5 := hZ.cell 5
  have v6 := hZ.cell 6
  have v7 := hZ.cell 7
  have v8 := hZ.cell 8
  have v9 := hZ.cell 9
  simp only [List.getElem?_toArray] at v0 v1 v2 v3 v4 v5 v6 v7 v8 v9
  exact bodyPost_ret (v := .tuple #[aggNode zeroN, .int .i64 e]) (by simp [results, Try.results145, go_sem, v0, v1, v2, v3, v4, v5, v6, v7, v8, v9, zeroN]) rfl ⟨rfl, hY⟩
set_option maxRecDepth 100000 in
set_option maxHeartbeats 1600000 in
theorem step_ok (n n' : LNode) (g : Nat) (cap : Array Value) (heg : ∀ args W, (callFunc g args).run Try.prog W = .ok (.enter g args) W) (w : World)
    (hdo : ∀ W nb, Below w.heap.size w W → w.heap.size ≤ nb → Blk W nb 38 (boxNode n) → Calls Try.prog g (#[.pointer (some ⟨nb, 0, none⟩)] ++ cap) W fun e W' => e = .returned (.tuple #[]) ∧ Blk W' nb 38 (boxNode n') ∧ Kept (fun b => b = nb) W W') :
    Calls Try.prog 145 #[aggNode n, .int .i64 0, .func (.func g) #[] cap] w fun en w' => en = .returned (.tuple #[aggNode n', .int .i64 0]) ∧ Below w.heap.size w w' := by
  have hs1 : (w.alloc (.cells (boxNode n) 38)).heap.size = w.heap.size + 1 := by simp
  have h0 := (Blk.new w 38 (boxNode n)).alloc (.cells (boxNode zeroN) 38)
  have h1 := Blk.new (w.alloc (.cells (boxNode n) 38)) 38 (boxNode zeroN)
  rw [hs1] at h1
  have hB : Below w.heap.size w ((w.alloc (.cells (boxNode n) 38)).alloc (.cells (boxNode zeroN) 38)) := ((Below.refl _ _).alloc (Nat.le_refl _) _).alloc (by simp) _
  have hcx := hdo _ w.heap.size hB (Nat.le_refl _) h0
  have HB := Lib.hid (And.intro h1 hB)
  clear h0 h1 hB hs1 hdo
  go_enter Try.func145, Try.ntmps145
  go_wp2_with fail
  simp only [boxNode, zeroN] at HB hcx
  generalize (w.alloc (.cells _ 38)).alloc (.cells _ 38) = w1 at HB hcx ⊢
  (with_reducible refine hcx.mono ?_)
  clear hcx heg
  rintro e w2 ⟨rfl, h2, hk⟩
  have h1 := HB.out.1.kept hk (by omega)
  have hB2 : Below w.heap.size w w2 := HB.out.2.trans (hk.below HB.out.2.size (fun i hi e => by omega))
  have HL := Lib.hid (node_lay n' zeroN h1 (show w.heap.size ≤ w.heap.size + 1 by omega) hB2)
  have y0 := h2.cell 0
  have y1 := h2.cell 1
  have y2 := h2.cell 2
  have y3 := h2.cell 3
  have y4 := h2.cell 4
  have y5 := h2.cell 5
  have y6 := h2.cell 6
  have y7 := h2.cell 7
  have y8 := h2.cell 8
  have y9 := h2.cell 9
  simp only [List.getElem?_toArray, List.getElem?_cons_zero, List.getElem?_cons_succ] at y0 y1 y2 y3 y4 y5 y6 y7 y8 y9
  have z0 := h1.cell 0
  have z1 := h1.cell 1
  have z2 := h1.cell 2
  have z3 := h1.cell 3
  have z4 := h1.cell 4
  have z5 := h1.cell 5
  have z6 := h1.cell 6
  have z7 := h1.cell 7
  have z8 := h1.cell 8
  have z9 := h1.cell 9
  simp only [List.getElem?_toArray, List.getElem?_cons_zero, List.getElem?_cons_succ] at z0 z1 z2 z3 z4 z5 z6 z7 z8 z9
  have zf := h1.frozen
  clear h2 hk h1 hB2
  go_wp2
  obtain ⟨hZ, hY⟩ := HL.out
  generalize ((((((((((w2.setCell ⟨w.heap.size + 1, 0, none⟩ (.int .i64 n'.id)).setCell ⟨w.heap.size + 1, 1, none⟩ (.int .i64 n'.inc)).setCell ⟨w.heap.size + 1, 2, none⟩ (.int .i64 n'.load)).setCell ⟨w.heap.size + 1, 3, none⟩ (.int .i64 n'.cap.a)).setCell ⟨w.heap.size + 1, 4, none⟩ (.int .i64 n'.cap.b)).setCell ⟨w.heap.size + 1, 5, none⟩ (.int .i64 n'.cap.c)).setCell ⟨w.heap.size + 1, 6, none⟩ (.int .i64 n'.used.a)).setCell ⟨w.heap.size + 1, 7, none⟩ (.int .i64 n'.used.b)).setCell ⟨w.heap.size + 1, 8, none⟩ (.int .i64 n'.used.c)).setCell ⟨w.heap.size + 1, 9, none⟩ (.bool n'.up)) = W3 at hZ hY ⊢
  have v0 := hZ.cell 0
  have v1 := hZ.cell 1
  have v2 := hZ.cell 2
  have v3 := hZ.cell 3
  have v4 := hZ.cell 4
  have v5 := hZ.cell 5
  have v6 := hZ.cell 6
  have v7 := hZ.cell 7
  have v8 := hZ.cell 8
  have v9 := hZ.cell 9
  simp only [List.getElem?_toArray] at v0 v1 v2 v3 v4 v5 v6 v7 v8 v9
  exact bodyPost_ret (v := .tuple #[aggNode n', .int .i64 0]) (by simp [results, Try.results145, go_sem, v0, v1, v2, v3, v4, v5, v6, v7, v8, v9]) rfl ⟨rfl, hY⟩

/-- The tests that mine makes, the node's box being block b (then x's, then that of what is told). -/
def mineL (b : Nat) (n : LNode) (x : Int) (rs : List LRes) : List LTest :=
  [⟨153, #[.pointer (some ⟨b + 1 + 1, 0, none⟩), .pointer (some ⟨b, 0, none⟩), .pointer (some ⟨b + 1, 0, none⟩)], 1, rs.all rightR && rightN n && numR x 1 2147483647⟩,
   ⟨156, #[.pointer (some ⟨b, 0, none⟩)], 7, n.up⟩, ⟨157, #[.pointer (some ⟨b, 0, none⟩), .pointer (some ⟨b + 1, 0, none⟩)], 11, n.inc == x⟩]
theorem flat3 {α : Type} (enc : α → List Value) (a b c : α) : [a, b, c].flatMap enc = enc a ++ (enc b ++ enc c) := by simp
/-- A slice that the call has just built: its row is the whole block. -/
theorem OwnL.built {α : Type} {enc : α → List Value} {e sz : Nat} (w : World) (base : Nat) (hb : base ≤ w.heap.size) (l : List α) (n : Nat) (cs : Array Value) (hn : l.length = n) (hn2 : n ≤ 1000000) (hcs : cs.toList = l.flatMap enc) (hl : (l.flatMap enc).length = n * sz) : OwnL enc e sz (w.alloc (.cells cs e)) base (some ⟨w.heap.size, 0, none⟩) n n l := by
  refine ⟨⟨hl, .inr ⟨w.heap.size, n, cs, rfl, hb, heap_alloc_new w _, Nat.le_refl _, by unfold maxLen; omega, ?_, ?_⟩⟩, hn⟩
  · rw [← Array.length_toList, hcs, hl]
  · rw [hcs, List.take_of_length_le (by rw [hl]; exact Nat.le_refl _)]
theorem TestOk.of_same {w : World} {t : LTest} (h1 : ∀ args W, (callFunc t.g args).run Try.prog W = .ok (.enter t.g args) W) (h2 : ∀ W, Below w.heap.size w W → Calls Try.prog t.g t.cap W fun e W' => e = .returned (.bool t.so) ∧ W' = W) : TestOk w t :=
  ⟨h1, fun W hb => (h2 W hb).mono fun e W' ⟨he, hw⟩ => ⟨he, by rw [hw]; exact Below.refl _ _⟩⟩
theorem TestOk.below {w w' : World} {t : LTest} (h : TestOk w t) (hb : Below w.heap.size w w') : TestOk w' t := ⟨h.1, fun W hW => h.2 W (hb.trans (hW.mono hb.size))⟩
set_option maxRecDepth 100000 in
set_option maxHeartbeats 1600000 in
theorem mine_t (n : LNode) (x : Int) (A : Option Addr) (m c : Nat) (rs : List LRes) (w : World) (hl : Rd encRes 3 w A m rs) (hm : m ≤ 1000) :
    Calls Try.prog 142 #[aggNode n, .int .i64 x, .slice A m c] w fun e w' => ∃ wm A', e = .returned (.slice A' 3 3) ∧ OwnL encTest 216 2 w' wm.heap.size A' 3 3 (mineL w.heap.size n x rs) ∧ Below w.heap.size w wm ∧ Below wm.heap.size wm w' ∧ ∀ t ∈ mineL w.heap.size n x rs, TestOk wm t := by
  have hs1 : (w.alloc (.cells (boxNode n) 38)).heap.size = w.heap.size + 1 := by simp
  have hs2 : ((w.alloc (.cells (boxNode n) 38)).alloc (.cells #[.int .i64 x] 3)).heap.size = w.heap.size + 1 + 1 := by simp
  have hs3 : (((w.alloc (.cells (boxNode n) 38)).alloc (.cells #[.int .i64 x] 3)).alloc (.cells #[.slice A m c] 50)).heap.size = w.heap.size + 1 + 1 + 1 := by simp
  have h0 := ((Blk.new w 38 (boxNode n)).alloc (.cells #[.int .i64 x] 3)).alloc (.cells #[.slice A m c] 50)
  have h1 := (Blk.new (w.alloc (.cells (boxNode n) 38)) 3 #[.int .i64 x]).alloc (.cells #[.slice A m c] 50)
  have h2 := Blk.new ((w.alloc (.cells (boxNode n) 38)).alloc (.cells #[.int .i64 x] 3)) 50 #[.slice A m c]
  rw [hs1] at h1
  rw [hs2] at h2
  have hB : Below w.heap.size w (((w.alloc (.cells (boxNode n) 38)).alloc (.cells #[.int .i64 x] 3)).alloc (.cells #[.slice A m c] 50)) := (((Below.refl _ _).alloc (Nat.le_refl _) _).alloc (by simp) _).alloc (by simp; omega) _
  have hmf : ∀ (fn : Fn) (first cap : Array Value) (w : World), (Instr.makeFunc fn first cap).run Try.prog w = .ok (.func fn first cap) w := fun _ _ _ _ => rfl
  have HB := Lib.hid (And.intro h0 (And.intro h1 (And.intro h2 (And.intro hB (And.intro (hl.below hB) hs3)))))
  clear h0 h1 h2 hB hs1 hs2 hs3 hl
  go_enter Try.func142, Try.ntmps142
  go_upto_region 1 with fail
  simp only [boxNode] at HB
  generalize ((w.alloc (.cells _ 38)).alloc (.cells _ 3)).alloc (.cells _ 50) = w1 at HB ⊢
  have hsz := HB.out.2.2.2.2.2
  have HZ := Lib.hid hsz
  clear hsz
  go_wp2
  go_ret
  refine ⟨w1, _, rfl, OwnL.built (enc := encTest) (e := 216) (sz := 2) w1 w1.heap.size (Nat.le_refl _) (mineL w.heap.size n x rs) 3 _ rfl (by omega) rfl rfl, HB.out.2.2.2.1, (Below.refl _ _).alloc (Nat.le_refl _) _, fun t ht => ?_⟩
  simp only [mineL, List.mem_cons, List.not_mem_nil, or_false] at ht
  rcases ht with rfl | rfl | rfl
  · exact ⟨fun args W => by kernel_rfl, fun W hW => mineRight_t (HB.out.2.2.1.below hW HB.out.2.2.1.lt) (HB.out.2.2.2.2.1.below hW) hm (HB.out.1.below hW HB.out.1.lt) (HB.out.2.1.below hW HB.out.2.1.lt)⟩
  · exact TestOk.of_same (fun args W => by kernel_rfl) (fun W hW => mineUp_t (HB.out.1.below hW HB.out.1.lt))
  · exact TestOk.of_same (fun args W => by kernel_rfl) (fun W hW => mineInc_t (HB.out.1.below hW HB.out.1.lt) (HB.out.2.1.below hW HB.out.2.1.lt))
end Go.Proofs.Ytcfninipcghbmaa
