/-
  LAYER 27 (choose): takers, least, Best; slices.Clone at nodes.
  LAYER 27 (choose): Best; slices.Clone at nodes.
-/
import Derived.Test.YtcafmodenbifhaaPlace2
import Derived.Test.YtcafmodenbifhaaStabP
import Derived.Test.YtcafmodenbifhaaObj
set_option linter.unusedVariables false
set_option linter.unusedSimpArgs false
namespace Go.Proofs.Ytcafmodenbifhaa
open Go.RowKit Go.Sort

theorem filter_snoc_n {α : Type} (p : α → Bool) {l : List α} {k : Nat} {x : α} (h : l[k]? = some x) : (l.take (k + 1)).filter p = (l.take k).filter p ++ if p x = true then [x] else [] := by
  rw [take_succ_of _ _ _ h, List.filter_append]
  cases hp : p x <;> simp [hp]
def takersN (need : LRes) (l : List LNode) : List LNode := l.filter (fun n => takesN n need)
set_option maxRecDepth 100000 in
set_option maxHeartbeats 1600000 in
theorem takers_t (A : Option Addr) (n c : Nat) (l : List LNode) (need : LRes) (w : World) (h : Rd encNode 10 w A n l) (hn : n ≤ 1000000) :
    Calls Try.prog 43 #[aggRes need, .slice A n c] w fun e w' => ∃ A' n' c', e = .returned (.slice A' n' c') ∧ n' ≤ n ∧ OwnL encNode 55 10 w' w.heap.size A' n' c' (takersN need l) ∧ Below w.heap.size w w' := by
  have hb := Blk.new w 53 (boxRes need)
  have hB : Below w.heap.size w (w.alloc (.cells (boxRes need) 53)) := (Below.refl _ _).alloc (Nat.le_refl _) _
  have HB := Lib.hid (And.intro hb (And.intro hB (h.below hB)))
  clear hb hB h
  go_enter Try.func43, Try.ntmps43
  go_wp2
  generalize w.alloc (.cells (boxRes need) 53) = w1 at HB ⊢
  go_loopw [5, 10] (fun v i wr => ∃ (k q : Nat) (A' : Option Addr) (c' : Nat), k ≤ n ∧ i = .int .i64 k ∧ v = .slice A' q c' ∧ q ≤ k ∧ OwnL encNode 55 10 wr w1.heap.size A' q c' ((l.take k).filter (fun n => takesN n need)) ∧ Below w1.heap.size w1 wr) (fun _ i _ => n - (intOf i).toNat)
  case atStart => exact ⟨0, 0, none, 0, Nat.zero_le _, rfl, rfl, Nat.le_refl _, OwnL.nil _ _, Below.refl _ _⟩
  case round =>
    obtain ⟨k, q, A', c', hk, rfl, rfl, hqk, hO, hBq⟩ := hrel
    have hs1 := HB.out.2.1.size
    have hsq := hBq.size
    by_cases hlt : k < n
    · obtain ⟨ab, ao, x, rfl, hxx, hal, hcells⟩ := (HB.out.2.2.below hBq).at_ hlt
      have x0 := hcells 0 _ rfl
      have x1 := hcells 1 _ rfl
      have x2 := hcells 2 _ rfl
      have x3 := hcells 3 _ rfl
      have x4 := hcells 4 _ rfl
      have x5 := hcells 5 _ rfl
      have x6 := hcells 6 _ rfl
      have x7 := hcells 7 _ rfl
      have x8 := hcells 8 _ rfl
      have x9 := hcells 9 _ rfl
      simp only [Nat.add_zero] at x0
      have hst := filter_snoc_n (fun n => takesN n need) hxx
      have hbx := Blk.new wr 55 (boxNode x)
      have hBx : Below wr.heap.size wr (wr.alloc (.cells (boxNode x) 55)) := (Below.refl _ _).alloc (Nat.le_refl _) _
      have hr := (HB.out.1.below hBq HB.out.1.lt).below hBx (by have := (HB.out.1.below hBq HB.out.1.lt).lt; omega)
      have r0 := hr.cell 0
      have r1 := hr.cell 1
      have r2 := hr.cell 2
      have y0 := hbx.cell 0
      have y1 := hbx.cell 1
      have y2 := hbx.cell 2
      have y3 := hbx.cell 3
      have y4 := hbx.cell 4
      have y5 := hbx.cell 5
      have y6 := hbx.cell 6
      have y7 := hbx.cell 7
      have y8 := hbx.cell 8
      have y9 := hbx.cell 9
      simp only [List.getElem?_toArray, List.getElem?_cons_zero, List.getElem?_cons_succ] at y0 y1 y2 y3 y4 y5 y6 y7 y8 y9
      simp only [List.getElem?_toArray, List.getElem?_cons_zero, List.getElem?_cons_succ] at r0 r1 r2
      have HX := Lib.hid (And.intro hst (And.intro hbx (And.intro (hO.below hBx) (hBq.trans (hBx.mono hsq)))))
      have hlr := hr.lt
      have hlx := hbx.lt
      clear hcells hxx hst hbx hBx hr
      go_wp2_with fail
      clear x0 x1 x2 x3 x4 x5 x6 x7 x8 x9
      generalize wr.alloc (.cells (boxNode x) 55) = w2 at r0 r1 r2 y0 y1 y2 y3 y4 y5 y6 y7 y8 y9 HX hlr hlx ⊢
      have hcx := takes_t x need w2
      (with_reducible refine hcx.mono ?_)
      clear hcx r0 r1 r2 y0 y1 y2 y3 y4 y5 y6 y7 y8 y9 hlr
      rintro e w3 ⟨rfl, hB3⟩
      have hs2 : wr.heap.size < w2.heap.size := HX.out.2.1.lt
      have hs3 := hB3.size
      have hb3 := HX.out.2.1.below hB3 hs2
      have y0 := hb3.cell 0
      have y1 := hb3.cell 1
      have y2 := hb3.cell 2
      have y3 := hb3.cell 3
      have y4 := hb3.cell 4
      have y5 := hb3.cell 5
      have y6 := hb3.cell 6
      have y7 := hb3.cell 7
      have y8 := hb3.cell 8
      have y9 := hb3.cell 9
      simp only [List.getElem?_toArray, List.getElem?_cons_zero, List.getElem?_cons_succ] at y0 y1 y2 y3 y4 y5 y6 y7 y8 y9
      have H3 := Lib.hid (And.intro (HX.out.2.2.1.below hB3) (HX.out.2.2.2.trans (hB3.mono HX.out.2.2.2.size)))
      clear hB3 hb3
      cases htk : takesN x need
      · have HS := Lib.hid (show (l.take (k + 1)).filter (fun n => takesN n need) = (l.take k).filter (fun n => takesN n need) by rw [HX.out.1, htk]; simp)
        clear htk
        go_wp2
        go_roundw
        case rel => exact ⟨k + 1, q, A', c', by omega, by go_num, rfl, by omega, by rw [HS.out]; exact H3.out.1, H3.out.2⟩
        case measure => simp [intOf]; omega
      · have HS := Lib.hid (show (l.take (k + 1)).filter (fun n => takesN n need) = (l.take k).filter (fun n => takesN n need) ++ [x] by rw [HX.out.1, htk]; rfl)
        clear htk
        go_wp2_with (at_builtin; refine wp_app (enc := encNode) Node_len Node_one rfl (.tmp 17) (.tmp 19) 22 rfl 55 _ 80 Try.underlying22 Try.infoNode rfl (by decide) w1.heap.size _ q _ _ rfl (H3.out.1.alloc _) _ 1 _ [x] (by rfl) (Rd.new1 _ x _ _ _ rfl) (q + 1) rfl _ rfl (by omega) (by omega) (by have := H3.out.2.size; simp; omega) ?_; intro A4 c4 w4 ho4 hg4 _; have hb4 := (H3.out.2.alloc H3.out.2.size _).grown hg4 (by have := H3.out.2.size; simp; omega) (own_block_ge H3.out.1))
        go_roundw
        case rel => exact ⟨k + 1, q + 1, A4, c4, by omega, by go_num, rfl, by omega, by rw [HS.out]; exact ho4, hb4⟩
        case measure => simp [intOf]; omega
    · have hfull : l.take k = l := List.take_of_length_le (by have := HB.out.2.2.len; omega)
      rw [hfull] at hO
      have HO := Lib.hid hO
      clear hO hfull
      go_wp2
      go_ret
      exact ⟨A', q, c', rfl, by omega, HO.out.lower hs1, HB.out.2.1.trans (hBq.mono hs1)⟩
theorem node_lay {w W : World} {b B : Nat} (x y : LNode) (h : Blk W b 55 (boxNode y)) (hb : B ≤ b) (hB : Below B w W) :
    Blk ((((((((((W.setCell ⟨b, 0, none⟩ (.int .i64 x.id)).setCell ⟨b, 1, none⟩ (.int .i64 x.inc)).setCell ⟨b, 2, none⟩ (.int .i64 x.load)).setCell ⟨b, 3, none⟩ (.int .i64 x.cap.a)).setCell ⟨b, 4, none⟩ (.int .i64 x.cap.b)).setCell ⟨b, 5, none⟩ (.int .i64 x.cap.c)).setCell ⟨b, 6, none⟩ (.int .i64 x.used.a)).setCell ⟨b, 7, none⟩ (.int .i64 x.used.b)).setCell ⟨b, 8, none⟩ (.int .i64 x.used.c)).setCell ⟨b, 9, none⟩ (.bool x.up)) b 55 (boxNode x) ∧ Below B w ((((((((((W.setCell ⟨b, 0, none⟩ (.int .i64 x.id)).setCell ⟨b, 1, none⟩ (.int .i64 x.inc)).setCell ⟨b, 2, none⟩ (.int .i64 x.load)).setCell ⟨b, 3, none⟩ (.int .i64 x.cap.a)).setCell ⟨b, 4, none⟩ (.int .i64 x.cap.b)).setCell ⟨b, 5, none⟩ (.int .i64 x.cap.c)).setCell ⟨b, 6, none⟩ (.int .i64 x.used.a)).setCell ⟨b, 7, none⟩ (.int .i64 x.used.b)).setCell ⟨b, 8, none⟩ (.int .i64 x.used.c)).setCell ⟨b, 9, none⟩ (.bool x.up)) := by
  refine ⟨?_, ?_⟩
  · have h0 := h.set_ 0 (.int .i64 x.id)
    have h1 := h0.set_ 1 (.int .i64 x.inc)
    have h2 := h1.set_ 2 (.int .i64 x.load)
    have h3 := h2.set_ 3 (.int .i64 x.cap.a)
    have h4 := h3.set_ 4 (.int .i64 x.cap.b)
    have h5 := h4.set_ 5 (.int .i64 x.cap.c)
    have h6 := h5.set_ 6 (.int .i64 x.used.a)
    have h7 := h6.set_ 7 (.int .i64 x.used.b)
    have h8 := h7.set_ 8 (.int .i64 x.used.c)
    have h9 := h8.set_ 9 (.bool x.up)
    simpa only [List.setIfInBounds_toArray, List.set_cons_zero, List.set_cons_succ] using h9
  · iterate 10 refine Below.setCell ?_ (by exact hb) _
    exact hB
theorem node_far {W : World} {b g t : Nat} {cs : Array Value} (x : LNode) (h : Blk W g t cs) (hne : g ≠ b) : Blk ((((((((((W.setCell ⟨b, 0, none⟩ (.int .i64 x.id)).setCell ⟨b, 1, none⟩ (.int .i64 x.inc)).setCell ⟨b, 2, none⟩ (.int .i64 x.load)).setCell ⟨b, 3, none⟩ (.int .i64 x.cap.a)).setCell ⟨b, 4, none⟩ (.int .i64 x.cap.b)).setCell ⟨b, 5, none⟩ (.int .i64 x.cap.c)).setCell ⟨b, 6, none⟩ (.int .i64 x.used.a)).setCell ⟨b, 7, none⟩ (.int .i64 x.used.b)).setCell ⟨b, 8, none⟩ (.int .i64 x.used.c)).setCell ⟨b, 9, none⟩ (.bool x.up)) g t cs := by
  iterate 10 refine Blk.far ?_ (by exact hne) _
  exact h
def zeroN : LNode := ⟨0, 0, 0, ⟨0, 0, 0⟩, ⟨0, 0, 0⟩, false⟩
def leastStep (o : Option LNode) (x : LNode) : Option LNode := match o with
  | none => some x
  | some b => some (if nodeLt x b = true then x else b)
def least? (l : List LNode) : Option LNode := l.foldl leastStep none
theorem least_snoc (l : List LNode) (x : LNode) : least? (l ++ [x]) = leastStep (least? l) x := by simp [least?, List.foldl_append]
theorem least_head (l : List LNode) : least? l = (ssort nodeLt l).head? := by
  induction l using snoc_ind with
  | h0 => rfl
  | h1 l x ih =>
    rw [least_snoc, ih, ssort_snoc]
    cases h : ssort nodeLt l with
    | nil => rfl
    | cons y r =>
      rw [sIns]
      show some _ = _
      split <;> rfl
set_option maxRecDepth 100000 in
set_option maxHeartbeats 3200000 in
theorem least_t (A : Option Addr) (n c : Nat) (l : List LNode) (w : World) (h : Rd encNode 10 w A n l) (hn : n ≤ 1000000) :
    Calls Try.prog 42 #[.slice A n c, .func (.func 44) #[] #[]] w fun e w' => e = .returned (.tuple #[aggNode ((least? l).getD zeroN), .bool (decide (0 < n))]) ∧ Below w.heap.size w w' := by
  obtain ⟨b, hb⟩ : ∃ b, (least? l).getD zeroN = b := ⟨_, rfl⟩
  rw [hb]
  have HBEST := Lib.hid hb
  clear hb
  have hs1 : (w.alloc (.cells (boxNode zeroN) 55)).heap.size = w.heap.size + 1 := by simp
  have h0 := (Blk.new w 55 (boxNode zeroN)).alloc (.cells (boxNode zeroN) 55)
  have h1 := Blk.new (w.alloc (.cells (boxNode zeroN) 55)) 55 (boxNode zeroN)
  rw [hs1] at h1
  have hB : Below w.heap.size w ((w.alloc (.cells (boxNode zeroN) 55)).alloc (.cells (boxNode zeroN) 55)) := ((Below.refl _ _).alloc (Nat.le_refl _) _).alloc (by simp) _
  have HB := Lib.hid (And.intro h0 (And.intro h1 (And.intro hB h)))
  clear h0 h1 hB hs1 h
  go_enter Try.func42, Try.ntmps42
  go_wp2
  simp only [boxNode, zeroN] at HB
  generalize (w.alloc (.cells _ 55)).alloc (.cells _ 55) = w1 at HB ⊢
  go_loopw [11] (fun i wr => ∃ k : Nat, k ≤ n ∧ i = .int .i64 k ∧ Blk wr w.heap.size 55 (boxNode zeroN) ∧ Blk wr (w.heap.size + 1) 55 (boxNode ((least? (l.take k)).getD zeroN)) ∧ Below w.heap.size w wr) (fun i _ => n - (intOf i).toNat)
  case atStart => exact ⟨0, Nat.zero_le _, rfl, HB.out.1, HB.out.2.1, HB.out.2.2.1⟩
  case round =>
    obtain ⟨k, hk, rfl, h0, h1, hBq⟩ := hrel
    have hsq := hBq.size
    have hl1 := h1.lt
    by_cases hlt : k < n
    · obtain ⟨ab, ao, x, rfl, hxx, hal, hcells⟩ := (HB.out.2.2.2.below hBq).at_ hlt
      have x0 := hcells 0 _ rfl
      have x1 := hcells 1 _ rfl
      have x2 := hcells 2 _ rfl
      have x3 := hcells 3 _ rfl
      have x4 := hcells 4 _ rfl
      have x5 := hcells 5 _ rfl
      have x6 := hcells 6 _ rfl
      have x7 := hcells 7 _ rfl
      have x8 := hcells 8 _ rfl
      have x9 := hcells 9 _ rfl
      simp only [Nat.add_zero] at x0
      have htk := take_succ_of _ _ _ hxx
      have hst : least? (l.take (k + 1)) = leastStep (least? (l.take k)) x := by rw [htk, least_snoc]
      have hbx := Blk.new wr 55 (boxNode x)
      have hBx : Below wr.heap.size wr (wr.alloc (.cells (boxNode x) 55)) := (Below.refl _ _).alloc (Nat.le_refl _) _
      have h0x := h0.below hBx h0.lt
      have h1x := h1.below hBx h1.lt
      have y0 := hbx.cell 0
      have y1 := hbx.cell 1
      have y2 := hbx.cell 2
      have y3 := hbx.cell 3
      have y4 := hbx.cell 4
      have y5 := hbx.cell 5
      have y6 := hbx.cell 6
      have y7 := hbx.cell 7
      have y8 := hbx.cell 8
      have y9 := hbx.cell 9
      simp only [List.getElem?_toArray, List.getElem?_cons_zero, List.getElem?_cons_succ] at y0 y1 y2 y3 y4 y5 y6 y7 y8 y9
      have HX := Lib.hid (And.intro hst (And.intro hbx (And.intro h0x (And.intro h1x (hBq.trans (hBx.mono hsq))))))
      have hlx := hbx.lt
      obtain ⟨bz, hb⟩ : ∃ b, (least? (l.take k)).getD zeroN = b := ⟨_, rfl⟩
      rw [hb] at HX
      have z0 := h1x.cell 0
      have z1 := h1x.cell 1
      have z2 := h1x.cell 2
      have z3 := h1x.cell 3
      have z4 := h1x.cell 4
      have z5 := h1x.cell 5
      have z6 := h1x.cell 6
      have z7 := h1x.cell 7
      have z8 := h1x.cell 8
      have z9 := h1x.cell 9
      rw [hb] at z0 z1 z2 z3 z4 z5 z6 z7 z8 z9
      simp only [List.getElem?_toArray, List.getElem?_cons_zero, List.getElem?_cons_succ] at z0 z1 z2 z3 z4 z5 z6 z7 z8 z9
      have hfz := h1x.frozen
      have HF := Lib.hid (And.intro h0 (And.intro h1 hBq))
      rw [hb] at HF
      clear hcells hxx hst hbx hBx h0x h1x h0 h1 htk
      by_cases hk0 : k = 0
      · have hkq : ((k : Int) == 0) = true := by simp [hk0]
        have HL := Lib.hid (show (least? (l.take (k + 1))).getD zeroN = x by rw [HX.out.1, show l.take k = [] by rw [hk0]; rfl]; rfl)
        clear hk0
        have hlay := node_lay x bz HF.out.2.1 (show w.heap.size ≤ w.heap.size + 1 by omega) HF.out.2.2
        have HLY := Lib.hid (And.intro ((node_far (b := w.heap.size + 1) x HF.out.1 (by omega)).alloc (.cells (boxNode x) 55)) (And.intro (hlay.1.alloc (.cells (boxNode x) 55)) (hlay.2.alloc hlay.2.size (.cells (boxNode x) 55))))
        have hz1 := HF.out.2.1
        have q0 := hz1.cell 0
        have q1 := hz1.cell 1
        have q2 := hz1.cell 2
        have q3 := hz1.cell 3
        have q4 := hz1.cell 4
        have q5 := hz1.cell 5
        have q6 := hz1.cell 6
        have q7 := hz1.cell 7
        have q8 := hz1.cell 8
        have q9 := hz1.cell 9
        simp only [List.getElem?_toArray, List.getElem?_cons_zero, List.getElem?_cons_succ] at q0 q1 q2 q3 q4 q5 q6 q7 q8 q9
        have hfq := hz1.frozen
        clear hlay hz1
        go_wp2
        go_roundw
        case rel => exact ⟨k + 1, by omega, by go_num, HLY.out.1, by rw [HL.out]; exact HLY.out.2.1, HLY.out.2.2⟩
        case measure => simp [intOf]; omega
      · have hkq : ((k : Int) == 0) = false := by rw [beq_eq_false_iff_ne]; omega
        obtain ⟨b0, hb0⟩ : ∃ b0, least? (l.take k) = some b0 := by
          cases hq : least? (l.take k) with
          | some b0 => exact ⟨b0, rfl⟩
          | none =>
            rw [least_head] at hq
            have h9 := length_ssort (lt := nodeLt) (l.take k)
            cases hs9 : ssort nodeLt (l.take k) with
            | nil => rw [hs9, List.length_take, HB.out.2.2.2.len] at h9; simp at h9; omega
            | cons y r => rw [hs9] at hq; cases hq
        have hbb : b0 = bz := by rw [hb0] at hb; exact hb
        have HL := Lib.hid (show (least? (l.take (k + 1))).getD zeroN = if nodeLt x bz = true then x else bz by rw [HX.out.1, hb0, hbb]; rfl)
        have HK0 := Lib.hid hk0
        clear hb hb0 hbb hk0
        go_wp2_with fail
        clear x0 x1 x2 x3 x4 x5 x6 x7 x8 x9
        generalize wr.alloc (.cells (boxNode x) 55) = w2 at y0 y1 y2 y3 y4 y5 y6 y7 y8 y9 z0 z1 z2 z3 z4 z5 z6 z7 z8 z9 hfz HX hlx ⊢
        have hcx := node10_t x bz w2
        (with_reducible refine hcx.mono ?_)
        clear hcx hfz y0 y1 y2 y3 y4 y5 y6 y7 y8 y9 z0 z1 z2 z3 z4 z5 z6 z7 z8 z9
        rintro e w3 ⟨rfl, hB3⟩
        have hs2 : wr.heap.size < w2.heap.size := HX.out.2.1.lt
        have hs3 := hB3.size
        have hb3 := HX.out.2.1.below hB3 hs2
        have hz3 := HX.out.2.2.2.1.below hB3 HX.out.2.2.2.1.lt
        have h03 := HX.out.2.2.1.below hB3 HX.out.2.2.1.lt
        have hBB := HX.out.2.2.2.2.trans (hB3.mono HX.out.2.2.2.2.size)
        have y0 := hb3.cell 0
        have y1 := hb3.cell 1
        have y2 := hb3.cell 2
        have y3 := hb3.cell 3
        have y4 := hb3.cell 4
        have y5 := hb3.cell 5
        have y6 := hb3.cell 6
        have y7 := hb3.cell 7
        have y8 := hb3.cell 8
        have y9 := hb3.cell 9
        simp only [List.getElem?_toArray, List.getElem?_cons_zero, List.getElem?_cons_succ] at y0 y1 y2 y3 y4 y5 y6 y7 y8 y9
        have z0 := hz3.cell 0
        have z1 := hz3.cell 1
        have z2 := hz3.cell 2
        have z3 := hz3.cell 3
        have z4 := hz3.cell 4
        have z5 := hz3.cell 5
        have z6 := hz3.cell 6
        have z7 := hz3.cell 7
        have z8 := hz3.cell 8
        have z9 := hz3.cell 9
        simp only [List.getElem?_toArray, List.getElem?_cons_zero, List.getElem?_cons_succ] at z0 z1 z2 z3 z4 z5 z6 z7 z8 z9
        have hfz := hz3.frozen
        have hlay := node_lay x bz hz3 (show w.heap.size ≤ w.heap.size + 1 by omega) hBB
        have HLY := Lib.hid (And.intro (And.intro h03 (And.intro hz3 hBB)) (And.intro (node_far (b := w.heap.size + 1) x h03 (by omega)) hlay))
        clear hB3 hb3 hz3 h03 hBB hlay
        cases hnl : nodeLt x bz
        · have HS := Lib.hid (show (least? (l.take (k + 1))).getD zeroN = bz by rw [HL.out, hnl]; rfl)
          clear hnl
          go_wp2
          go_roundw
          case rel => exact ⟨k + 1, by omega, by go_num, HLY.out.1.1, by rw [HS.out]; exact HLY.out.1.2.1, HLY.out.1.2.2⟩
          case measure => simp [intOf]; omega
        · have HS := Lib.hid (show (least? (l.take (k + 1))).getD zeroN = x by rw [HL.out, hnl]; rfl)
          clear hnl
          go_wp2
          go_roundw
          case rel => exact ⟨k + 1, by omega, by go_num, HLY.out.2.1, by rw [HS.out]; exact HLY.out.2.2.1, HLY.out.2.2.2⟩
          case measure => simp [intOf]; omega
    · have hfull : l.take k = l := List.take_of_length_le (by have := HB.out.2.2.2.len; omega)
      rw [hfull, HBEST.out] at h1
      have z0 := h1.cell 0
      have z1 := h1.cell 1
      have z2 := h1.cell 2
      have z3 := h1.cell 3
      have z4 := h1.cell 4
      have z5 := h1.cell 5
      have z6 := h1.cell 6
      have z7 := h1.cell 7
      have z8 := h1.cell 8
      have z9 := h1.cell 9
      simp only [List.getElem?_toArray, List.getElem?_cons_zero, List.getElem?_cons_succ] at z0 z1 z2 z3 z4 z5 z6 z7 z8 z9
      have hf0 := h0.frozen
      have hl0 := h0.lt
      have y0 := h0.cell 0
      have y1 := h0.cell 1
      have y2 := h0.cell 2
      have y3 := h0.cell 3
      have y4 := h0.cell 4
      have y5 := h0.cell 5
      have y6 := h0.cell 6
      have y7 := h0.cell 7
      have y8 := h0.cell 8
      have y9 := h0.cell 9
      simp only [List.getElem?_toArray, List.getElem?_cons_zero, List.getElem?_cons_succ] at y0 y1 y2 y3 y4 y5 y6 y7 y8 y9
      have hlay := node_lay b zeroN h0 (show w.heap.size ≤ w.heap.size by omega) hBq
      have HLY := Lib.hid hlay
      clear hlay hfull h0 h1
      go_wp2
      obtain ⟨hZ, hY⟩ := HLY.out
      generalize ((((((((((wr.setCell ⟨w.heap.size, 0, none⟩ (.int .i64 b.id)).setCell ⟨w.heap.size, 1, none⟩ (.int .i64 b.inc)).setCell ⟨w.heap.size, 2, none⟩ (.int .i64 b.load)).setCell ⟨w.heap.size, 3, none⟩ (.int .i64 b.cap.a)).setCell ⟨w.heap.size, 4, none⟩ (.int .i64 b.cap.b)).setCell ⟨w.heap.size, 5, none⟩ (.int .i64 b.cap.c)).setCell ⟨w.heap.size, 6, none⟩ (.int .i64 b.used.a)).setCell ⟨w.heap.size, 7, none⟩ (.int .i64 b.used.b)).setCell ⟨w.heap.size, 8, none⟩ (.int .i64 b.used.c)).setCell ⟨w.heap.size, 9, none⟩ (.bool b.up)) = W3 at hZ hY ⊢
      have v0 := hZ.cell 0
      have v1 := hZ.cell 1
      have v2 := hZ.cell 2
      have v3 := hZ.cell 3
      have v4 := hZ.cell 4
      have v5 := hZ.cell 5
      have v6 := hZ.cell 6
      have v7 := hZ.cell 7
      have v8 := hZ.cell 8
      have v9 := hZ.cell 9
      simp only [List.getElem?_toArray] at v0 v1 v2 v3 v4 v5 v6 v7 v8 v9
      exact bodyPost_ret (v := .tuple #[aggNode b, .bool (decide (0 < n))]) (by simp [results, Try.results42, go_sem, v0, v1, v2, v3, v4, v5, v6, v7, v8, v9]) rfl ⟨rfl, hY⟩
end Go.Proofs.Ytcafmodenbifhaa
namespace Go.Proofs.Ytcafmodenbifhaa
open Go.RowKit Go.Sort

def bestN (need : LRes) (l : List LNode) : Option LNode := least? (takersN need l)
theorem least_some (l : List LNode) : decide (0 < l.length) = (least? l).isSome := by
  rw [least_head]
  have h := length_ssort (lt := nodeLt) l
  cases hs : ssort nodeLt l with
  | nil => rw [hs] at h; simp at h; rw [← h]; rfl
  | cons y r => rw [hs] at h; simp at h; simp; omega
set_option maxRecDepth 100000 in
set_option maxHeartbeats 1600000 in
theorem best_t (A : Option Addr) (n c : Nat) (l : List LNode) (need : LRes) (w : World) (h : Rd encNode 10 w A n l) (hn : n ≤ 1000000) :
    Calls Try.prog 27 #[aggRes need, .slice A n c] w fun e w' => e = .returned (.tuple #[aggNode ((bestN need l).getD zeroN), .bool (bestN need l).isSome]) ∧ Below w.heap.size w w' := by
  obtain ⟨b, hb⟩ : ∃ b, (bestN need l).getD zeroN = b := ⟨_, rfl⟩
  rw [hb]
  have HBEST := Lib.hid hb
  clear hb
  have hs1 : (w.alloc (.cells (boxRes need) 53)).heap.size = w.heap.size + 1 := by simp
  have h0 := (Blk.new w 53 (boxRes need)).alloc (.cells (boxNode zeroN) 55)
  have h1 := Blk.new (w.alloc (.cells (boxRes need) 53)) 55 (boxNode zeroN)
  rw [hs1] at h1
  have hB : Below w.heap.size w ((w.alloc (.cells (boxRes need) 53)).alloc (.cells (boxNode zeroN) 55)) := ((Below.refl _ _).alloc (Nat.le_refl _) _).alloc (by simp) _
  have HB := Lib.hid (And.intro h0 (And.intro h1 (And.intro hB (h.below hB))))
  clear h0 h1 hB hs1 h
  go_enter Try.func27, Try.ntmps27
  go_wp2_with fail
  simp only [boxNode, zeroN] at HB
  generalize (w.alloc (.cells _ 53)).alloc (.cells _ 55) = w1 at HB ⊢
  have hcx := takers_t A n c l need w1 HB.out.2.2.2 hn
  (with_reducible refine hcx.mono ?_)
  clear hcx
  rintro e w2 ⟨A2, n2, c2, rfl, hn2, hO, hB2⟩
  have hs2 := hB2.size
  have H2 := Lib.hid (And.intro (hO.rd Node_len) (And.intro hO.len (And.intro (HB.out.2.1.below hB2 HB.out.2.1.lt) (HB.out.2.2.1.trans (hB2.mono HB.out.2.2.1.size)))))
  clear hO hB2
  go_wp2_with fail
  have hcx := least_t A2 n2 c2 _ w2 H2.out.1 (by omega)
  rw [show (least? (takersN need l)).getD zeroN = b from HBEST.out] at hcx
  (with_reducible refine hcx.mono ?_)
  clear hcx
  rintro e w3 ⟨rfl, hB3⟩
  have h1 := H2.out.2.2.1.below hB3 H2.out.2.2.1.lt
  have hz := node_lay b zeroN h1 (show w.heap.size ≤ w.heap.size + 1 by omega) (H2.out.2.2.2.trans (hB3.mono H2.out.2.2.2.size))
  have HZ := Lib.hid hz
  have y0 := h1.cell 0
  have y1 := h1.cell 1
  have y2 := h1.cell 2
  have y3 := h1.cell 3
  have y4 := h1.cell 4
  have y5 := h1.cell 5
  have y6 := h1.cell 6
  have y7 := h1.cell 7
  have y8 := h1.cell 8
  have y9 := h1.cell 9
  simp only [List.getElem?_toArray, List.getElem?_cons_zero, List.getElem?_cons_succ] at y0 y1 y2 y3 y4 y5 y6 y7 y8 y9
  have hf := h1.frozen
  have hl := h1.lt
  clear hz hB3 h1
  go_wp2
  obtain ⟨hZ, hY⟩ := HZ.out
  generalize ((((((((((w3.setCell ⟨w.heap.size + 1, 0, none⟩ (.int .i64 b.id)).setCell ⟨w.heap.size + 1, 1, none⟩ (.int .i64 b.inc)).setCell ⟨w.heap.size + 1, 2, none⟩ (.int .i64 b.load)).setCell ⟨w.heap.size + 1, 3, none⟩ (.int .i64 b.cap.a)).setCell ⟨w.heap.size + 1, 4, none⟩ (.int .i64 b.cap.b)).setCell ⟨w.heap.size + 1, 5, none⟩ (.int .i64 b.cap.c)).setCell ⟨w.heap.size + 1, 6, none⟩ (.int .i64 b.used.a)).setCell ⟨w.heap.size + 1, 7, none⟩ (.int .i64 b.used.b)).setCell ⟨w.heap.size + 1, 8, none⟩ (.int .i64 b.used.c)).setCell ⟨w.heap.size + 1, 9, none⟩ (.bool b.up)) = W3 at hZ hY ⊢
  have v0 := hZ.cell 0
  have v1 := hZ.cell 1
  have v2 := hZ.cell 2
  have v3 := hZ.cell 3
  have v4 := hZ.cell 4
  have v5 := hZ.cell 5
  have v6 := hZ.cell 6
  have v7 := hZ.cell 7
  have v8 := hZ.cell 8
  have v9 := hZ.cell 9
  simp only [List.getElem?_toArray] at v0 v1 v2 v3 v4 v5 v6 v7 v8 v9
  have hsm : decide (0 < n2) = (bestN need l).isSome := by rw [← H2.out.2.1]; exact least_some _
  exact bodyPost_ret (v := .tuple #[aggNode b, .bool (bestN need l).isSome]) (by simp [results, Try.results27, go_sem, v0, v1, v2, v3, v4, v5, v6, v7, v8, v9, ← hsm]) rfl ⟨rfl, hY⟩

end Go.Proofs.Ytcafmodenbifhaa
