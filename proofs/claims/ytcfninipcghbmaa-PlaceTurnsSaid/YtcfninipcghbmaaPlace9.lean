/-
  LAYER 23 (node): Take.
-/
import Derived.Test.YtcfninipcghbmaaPlace8
set_option linter.unusedVariables false
set_option linter.unusedSimpArgs false
namespace Go.Proofs.Ytcfninipcghbmaa
open Go.RowKit Go.Sort

/-- What a node tells of a job that is to be taken on. -/
def takeE (n : LNode) (x : Int) (need : LRes) : Int :=
  if (rightR need && rightN n && numR x 1 2147483647) = false then 1 else if n.up = false then 7 else if (n.inc == x) = false then 11 else if decide (n.load < 64) = false then 6 else if takesN n need = false then 13 else 0
theorem Try.infoTest : (Try.prog.info? 216).map (fun i => (i.zero, i.size, i.bytes)) = some (some (.agg #[.nilFunc, .int .i64 0]), 2, 16) := by kernel_rfl
def takeL (b hb : Nat) (n : LNode) (x : Int) (need : LRes) : List LTest :=
  mineL b n x [need] ++ [⟨143, #[.pointer (some ⟨hb, 0, none⟩)], 6, decide (n.load < 64)⟩, ⟨144, #[.pointer (some ⟨hb, 0, none⟩), .pointer (some ⟨hb + 1, 0, none⟩)], 13, takesN n need⟩]
theorem mustE_take (b hb : Nat) (n : LNode) (x : Int) (need : LRes) : mustE (takeL b hb n x need) = takeE n x need := by
  unfold mustE takeL mineL takeE
  cases h1 : (rightR need && rightN n && numR x 1 2147483647)
  · simp [List.find?_cons, h1]
  · cases h2 : n.up
    · simp [List.find?_cons, h1, h2]
    · cases h3 : (n.inc == x)
      · simp [List.find?_cons, h1, h2, h3]
      · cases h4 : decide (n.load < 64)
        · simp [List.find?_cons, h1, h2, h3, h4]
        · cases h5 : takesN n need <;> simp [List.find?_cons, h1, h2, h3, h4, h5]
set_option maxRecDepth 100000 in
set_option maxHeartbeats 3200000 in
theorem take_t (n : LNode) (x : Int) (need : LRes) (w : World) :
    Calls Try.prog 127 #[aggNode n, .int .i64 x, aggRes need] w fun e w' => e = .returned (.tuple #[aggNode (if takeE n x need = 0 then tookN n need else zeroN), .int .i64 (takeE n x need)]) ∧ Below w.heap.size w w' := by
  obtain ⟨er, her⟩ : ∃ er, takeE n x need = er := ⟨_, rfl⟩
  rw [her]
  have HER := Lib.hid her
  clear her
  have hs1 : (w.alloc (.cells (boxNode n) 38)).heap.size = w.heap.size + 1 := by simp
  have hs2 : ((w.alloc (.cells (boxNode n) 38)).alloc (.cells (boxRes need) 36)).heap.size = w.heap.size + 1 + 1 := by simp
  have h0 := ((Blk.new w 38 (boxNode n)).alloc (.cells (boxRes need) 36)).alloc (.cells (boxNode zeroN) 38)
  have h1 := (Blk.new (w.alloc (.cells (boxNode n) 38)) 36 (boxRes need)).alloc (.cells (boxNode zeroN) 38)
  have h2 := Blk.new ((w.alloc (.cells (boxNode n) 38)).alloc (.cells (boxRes need) 36)) 38 (boxNode zeroN)
  rw [hs1] at h1
  rw [hs2] at h2
  have hB : Below w.heap.size w (((w.alloc (.cells (boxNode n) 38)).alloc (.cells (boxRes need) 36)).alloc (.cells (boxNode zeroN) 38)) := (((Below.refl _ _).alloc (Nat.le_refl _) _).alloc (by simp) _).alloc (by simp; omega) _
  have hmf : ∀ (fn : Fn) (first cap : Array Value) (w : World), (Instr.makeFunc fn first cap).run Try.prog w = .ok (.func fn first cap) w := fun _ _ _ _ => rfl
  have HB := Lib.hid (And.intro h0 (And.intro h1 (And.intro h2 hB)))
  have c0 := h0.cell 0
  have c1 := h0.cell 1
  have c2 := h0.cell 2
  have c3 := h0.cell 3
  have c4 := h0.cell 4
  have c5 := h0.cell 5
  have c6 := h0.cell 6
  have c7 := h0.cell 7
  have c8 := h0.cell 8
  have c9 := h0.cell 9
  simp only [List.getElem?_toArray, List.getElem?_cons_zero, List.getElem?_cons_succ] at c0 c1 c2 c3 c4 c5 c6 c7 c8 c9
  have r0 := h1.cell 0
  have r1 := h1.cell 1
  have r2 := h1.cell 2
  simp only [List.getElem?_toArray, List.getElem?_cons_zero, List.getElem?_cons_succ] at r0 r1 r2
  clear h0 h1 h2 hB hs1 hs2
  go_enter Try.func127, Try.ntmps127
  go_upto_region 1 with fail
  simp only [boxNode, boxRes, zeroN] at HB c0 c1 c2 c3 c4 c5 c6 c7 c8 c9 r0 r1 r2
  generalize ((w.alloc (.cells _ 38)).alloc (.cells _ 36)).alloc (.cells _ 38) = w1 at HB c0 c1 c2 c3 c4 c5 c6 c7 c8 c9 r0 r1 r2 ⊢
  go_wp2_with fail
  have hcx := mine_t n x (some ⟨w1.heap.size, 0, none⟩) 1 1 [need] (w1.alloc (.cells (boxRes need) 36)) (Rd.new1 _ need _ _ _ rfl) (by omega)
  (with_reducible refine hcx.mono ?_)
  clear hcx c0 c1 c2 c3 c4 c5 c6 c7 c8 c9 r0 r1 r2
  rintro e w2 ⟨wm, A2, rfl, hO, hBm, hB2, hT⟩
  have hb1 : Below w1.heap.size w1 wm := ((Below.refl _ w1).alloc (Nat.le_refl _) (.cells (boxRes need) 36)).trans (hBm.mono (by simp))
  obtain ⟨bm, hbm⟩ : ∃ bm, (w1.alloc (.cells (boxRes need) 36)).heap.size = bm := ⟨_, rfl⟩
  rw [hbm] at hO hT
  have hT5 : ∀ t ∈ takeL bm w.heap.size n x need, TestOk wm t := fun t ht => by
    rcases List.mem_append.1 ht with ht | ht
    · exact hT t ht
    · simp only [List.mem_cons, List.not_mem_nil, or_false] at ht
      rcases ht with rfl | rfl
      · exact TestOk.below (TestOk.of_same (w := w1) (fun args W => by kernel_rfl) (fun W hW => takeFull_t (HB.out.1.below hW HB.out.1.lt))) hb1
      · exact TestOk.below (w := w1) ⟨fun args W => by kernel_rfl, fun W hW => takeRoom_t (HB.out.1.below hW HB.out.1.lt) (HB.out.2.1.below hW HB.out.2.1.lt)⟩ hb1
  have hnew := (OwnL.built (enc := encTest) (e := 216) (sz := 2) w2 0 (Nat.zero_le _) [⟨143, #[.pointer (some ⟨w.heap.size, 0, none⟩)], 6, decide (n.load < 64)⟩, ⟨144, #[.pointer (some ⟨w.heap.size, 0, none⟩), .pointer (some ⟨w.heap.size + 1, 0, none⟩)], 13, takesN n need⟩] 2 (#[.func (.func 143) #[] #[.pointer (some ⟨w.heap.size, 0, none⟩)], .int .i64 6, .func (.func 144) #[] #[.pointer (some ⟨w.heap.size, 0, none⟩), .pointer (some ⟨w.heap.size + 1, 0, none⟩)], .int .i64 13]) rfl (by omega) rfl rfl).rd Test_len
  have HX := Lib.hid (And.intro hb1 (And.intro hB2 (And.intro hT5 (And.intro hnew (hO.alloc (.cells (#[.func (.func 143) #[] #[.pointer (some ⟨w.heap.size, 0, none⟩)], .int .i64 6, .func (.func 144) #[] #[.pointer (some ⟨w.heap.size, 0, none⟩), .pointer (some ⟨w.heap.size + 1, 0, none⟩)], .int .i64 13]) 216))))))
  clear hb1 hB2 hT hT5 hnew hO hBm hbm
  go_upto_region 2 with (at_builtin; refine wp_app (enc := encTest) Test_len Test_one rfl (.tmp 13) (.tmp 18) 213 rfl 216 _ 16 Try.underlying213 Try.infoTest rfl (by decide) wm.heap.size _ 3 _ _ rfl HX.out.2.2.2.2 _ 2 _ _ (by rfl) HX.out.2.2.2.1 5 rfl (takeL bm w.heap.size n x need) rfl (by omega) (by omega) (by have := HX.out.2.1.size; simp; omega) ?_; intro A4 c4 w4 ho4 hg4 _; have hb4 := (HX.out.2.1.alloc HX.out.2.1.size _).grown hg4 (by have := HX.out.2.1.size; simp; omega) (own_block_ge HX.out.2.2.2.2))
  have h0 := (HB.out.1.below HX.out.1 HB.out.1.lt).below hb4 (HB.out.1.below HX.out.1 HB.out.1.lt).lt
  have h1 := (HB.out.2.1.below HX.out.1 HB.out.2.1.lt).below hb4 (HB.out.2.1.below HX.out.1 HB.out.2.1.lt).lt
  have h2 := (HB.out.2.2.1.below HX.out.1 HB.out.2.2.1.lt).below hb4 (HB.out.2.2.1.below HX.out.1 HB.out.2.2.1.lt).lt
  have hBw : Below w.heap.size w w4 := (HB.out.2.2.2.trans (HX.out.1.mono HB.out.2.2.2.size)).trans (hb4.mono (Nat.le_trans HB.out.2.2.2.size HX.out.1.size))
  have hT4 : ∀ t ∈ takeL bm w.heap.size n x need, TestOk w4.drew t := fun t ht => (HX.out.2.2.1 t ht).below hb4.drew
  have hcx := must_t A4 5 c4 (takeL bm w.heap.size n x need) w4.drew ((ho4.rd Test_len).drew) (by omega) hT4
  rw [mustE_take, HER.out] at hcx
  have n0 := h0.cells_in (v := .int .i64 n.id) 0 rfl
  have n1 := h0.cells_in (v := .int .i64 n.inc) 1 rfl
  have n2 := h0.cells_in (v := .int .i64 n.load) 2 rfl
  have n3 := h0.cells_in (v := .int .i64 n.cap.a) 3 rfl
  have n4 := h0.cells_in (v := .int .i64 n.cap.b) 4 rfl
  have n5 := h0.cells_in (v := .int .i64 n.cap.c) 5 rfl
  have n6 := h0.cells_in (v := .int .i64 n.used.a) 6 rfl
  have n7 := h0.cells_in (v := .int .i64 n.used.b) 7 rfl
  have n8 := h0.cells_in (v := .int .i64 n.used.c) 8 rfl
  have n9 := h0.cells_in (v := .bool n.up) 9 rfl
  have hbd := (Below.refl w4.heap.size w4).drew
  have H4 := Lib.hid (And.intro h1 (And.intro h2 (And.intro hBw hcx)))
  clear h0 h1 h2 hBw hT4 hcx ho4 hg4 hb4
  by_cases he0 : er = 0
  · subst he0
    go_region_with (first
      | (go_at_call 146; have hcx := H4.out.2.2.2; (with_reducible refine hcx.mono ?_); clear hcx; rintro e w5 ⟨rfl, hB5⟩; have hb5 : Below w4.heap.size w4 w5 := hbd.trans hB5)
      | (go_at_call 145; have hcx := step_ok n (tookN n need) 147 #[.pointer (some ⟨w.heap.size + 1, 0, none⟩)] (fun args W => by kernel_rfl) w5 (fun W nb hW hnb hn => takeDo_t hn ((H4.out.1.below hb5 H4.out.1.lt).below hW (H4.out.1.below hb5 H4.out.1.lt).lt)); (with_reducible refine hcx.mono ?_); clear hcx; rintro e w6 ⟨rfl, hB6⟩; have h6 := (H4.out.2.1.below hb5 H4.out.2.1.lt).below hB6 (H4.out.2.1.below hb5 H4.out.2.1.lt).lt; have f6 := h6.frozen; have z0 := h6.cell 0; have z1 := h6.cell 1; have z2 := h6.cell 2; have z3 := h6.cell 3; have z4 := h6.cell 4; have z5 := h6.cell 5; have z6 := h6.cell 6; have z7 := h6.cell 7; have z8 := h6.cell 8; have z9 := h6.cell 9; simp only [List.getElem?_toArray, List.getElem?_cons_zero, List.getElem?_cons_succ] at z0 z1 z2 z3 z4 z5 z6 z7 z8 z9))
    all_goals
      have HL := Lib.hid (node_lay (tookN n need) zeroN h6 (show w.heap.size ≤ w.heap.size + 1 + 1 by omega) ((H4.out.2.2.1.trans (hb5.mono H4.out.2.2.1.size)).trans (hB6.mono (Nat.le_trans H4.out.2.2.1.size hb5.size))))
      clear h6 f6 z0 z1 z2 z3 z4 z5 z6 z7 z8 z9 hB5 hB6
      go_wp2
      obtain ⟨hZ, hY⟩ := HL.out
      generalize ((((((((((w6.setCell ⟨w.heap.size + 1 + 1, 0, none⟩ (.int .i64 (tookN n need).id)).setCell ⟨w.heap.size + 1 + 1, 1, none⟩ (.int .i64 (tookN n need).inc)).setCell ⟨w.heap.size + 1 + 1, 2, none⟩ (.int .i64 (tookN n need).load)).setCell ⟨w.heap.size + 1 + 1, 3, none⟩ (.int .i64 (tookN n need).cap.a)).setCell ⟨w.heap.size + 1 + 1, 4, none⟩ (.int .i64 (tookN n need).cap.b)).setCell ⟨w.heap.size + 1 + 1, 5, none⟩ (.int .i64 (tookN n need).cap.c)).setCell ⟨w.heap.size + 1 + 1, 6, none⟩ (.int .i64 (tookN n need).used.a)).setCell ⟨w.heap.size + 1 + 1, 7, none⟩ (.int .i64 (tookN n need).used.b)).setCell ⟨w.heap.size + 1 + 1, 8, none⟩ (.int .i64 (tookN n need).used.c)).setCell ⟨w.heap.size + 1 + 1, 9, none⟩ (.bool (tookN n need).up)) = W3 at hZ hY ⊢
      have v0 := hZ.cell 0
      have v1 := hZ.cell 1
      have v2 := hZ.cell 2
      have v3 := hZ.cell 3
      have v4 := hZ.cell 4
      have v5 := hZ.cell 5
      have v6 := hZ.cell 6
      have v7 := hZ.cell 7
      have v8 := hZ.cell 8
      have v9 := hZ.cell 9
      simp only [List.getElem?_toArray] at v0 v1 v2 v3 v4 v5 v6 v7 v8 v9
      exact bodyPost_ret (v := .tuple #[aggNode (tookN n need), .int .i64 0]) (by simp [results, Try.results127, go_sem, v0, v1, v2, v3, v4, v5, v6, v7, v8, v9]) rfl ⟨by first | rfl | rw [if_pos rfl], hY⟩
  · have HE0 := Lib.hid he0
    clear he0
    go_region_with (first
      | (go_at_call 146; have hcx := H4.out.2.2.2; (with_reducible refine hcx.mono ?_); clear hcx; rintro e w5 ⟨rfl, hB5⟩; have hb5 : Below w4.heap.size w4 w5 := hbd.trans hB5)
      | (go_at_call 145; have hcx := step_err n er HE0.out (.func (.func 147) #[] #[.pointer (some ⟨w.heap.size + 1, 0, none⟩)]) w5; (with_reducible refine hcx.mono ?_); clear hcx; rintro e w6 ⟨rfl, hB6⟩; have h6 := (H4.out.2.1.below hb5 H4.out.2.1.lt).below hB6 (H4.out.2.1.below hb5 H4.out.2.1.lt).lt; have f6 := h6.frozen; have z0 := h6.cell 0; have z1 := h6.cell 1; have z2 := h6.cell 2; have z3 := h6.cell 3; have z4 := h6.cell 4; have z5 := h6.cell 5; have z6 := h6.cell 6; have z7 := h6.cell 7; have z8 := h6.cell 8; have z9 := h6.cell 9; simp only [List.getElem?_toArray, List.getElem?_cons_zero, List.getElem?_cons_succ] at z0 z1 z2 z3 z4 z5 z6 z7 z8 z9))
    all_goals
      have hl6 := node_lay zeroN zeroN h6 (show w.heap.size ≤ w.heap.size + 1 + 1 by omega) ((H4.out.2.2.1.trans (hb5.mono H4.out.2.2.1.size)).trans (hB6.mono (Nat.le_trans H4.out.2.2.1.size hb5.size)))
      simp only [zeroN, boxNode] at hl6
      have HL := Lib.hid hl6
      clear h6 f6 z0 z1 z2 z3 z4 z5 z6 z7 z8 z9 hB5 hB6 hl6
      go_wp2
      obtain ⟨hZ, hY⟩ := HL.out
      simp only [zeroN]
      generalize (((((((((w6.setCell ⟨w.heap.size + 1 + 1, 0, none⟩ (.int .i64 0)).setCell ⟨w.heap.size + 1 + 1, 1, none⟩ (.int .i64 0)).setCell ⟨w.heap.size + 1 + 1, 2, none⟩ (.int .i64 0)).setCell ⟨w.heap.size + 1 + 1, 3, none⟩ (.int .i64 0)).setCell ⟨w.heap.size + 1 + 1, 4, none⟩ (.int .i64 0)).setCell ⟨w.heap.size + 1 + 1, 5, none⟩ (.int .i64 0)).setCell ⟨w.heap.size + 1 + 1, 6, none⟩ (.int .i64 0)).setCell ⟨w.heap.size + 1 + 1, 7, none⟩ (.int .i64 0)).setCell ⟨w.heap.size + 1 + 1, 8, none⟩ (.int .i64 0)).setCell ⟨w.heap.size + 1 + 1, 9, none⟩ (.bool false) = W3 at hZ hY ⊢
      have v0 := hZ.cell 0
      have v1 := hZ.cell 1
      have v2 := hZ.cell 2
      have v3 := hZ.cell 3
      have v4 := hZ.cell 4
      have v5 := hZ.cell 5
      have v6 := hZ.cell 6
      have v7 := hZ.cell 7
      have v8 := hZ.cell 8
      have v9 := hZ.cell 9
      simp only [List.getElem?_toArray] at v0 v1 v2 v3 v4 v5 v6 v7 v8 v9
      exact bodyPost_ret (v := .tuple #[aggNode zeroN, .int .i64 er]) (by simp [results, Try.results127, go_sem, v0, v1, v2, v3, v4, v5, v6, v7, v8, v9, zeroN]) rfl ⟨by first | rfl | (rw [if_neg HE0.out]; rfl), hY⟩
end Go.Proofs.Ytcfninipcghbmaa
