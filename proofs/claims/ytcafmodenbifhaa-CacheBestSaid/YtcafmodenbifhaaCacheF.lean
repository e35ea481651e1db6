/-
  LAYER 32 (cache): the law CacheForgets, walked.
-/
import Derived.Test.YtcafmodenbifhaaCacheL
import Derived.Test.YtcafmodenbifhaaTAct32
import Derived.Deep.RegionHeld3
set_option linter.unusedVariables false
set_option linter.unusedSimpArgs false
namespace Go.Proofs.Ytcafmodenbifhaa
open Go.RowKit Go.Maps

theorem below_dr1 (w : World) : Below w.heap.size w w.drew := (Below.refl _ _).drew
theorem put_2 {X Y : CX} (h : X.nodes = Y.nodes) (n : LNode) : (X.put n).2 = (Y.put n).2 := by unfold CX.put; rw [h]; split <;> rfl
theorem put_n {X Y : CX} (h : X.nodes = Y.nodes) (n : LNode) : (X.put n).1.nodes = (Y.put n).1.nodes := by
  unfold CX.put
  rw [h]
  split
  · exact h
  · rfl
theorem put_needs (X : CX) (n : LNode) : (X.put n).1.needs = X.needs := by unfold CX.put; split <;> rfl
theorem forget_n (X : CX) (r : LRes) : (X.forget r).1.nodes = X.nodes := by unfold CX.forget; split <;> rfl
theorem best_n (X : CX) (r : LRes) : (X.best r).nodes = X.nodes := CX.of_nodes _ r
theorem best_s (X : CX) (r : LRes) : (X.best r).stale = [] := CX.of_stale _ r
theorem Act32_cells {w : World} {A : Option Addr} {n k : Nat} {l : List LAct32} (h : Rd encAct32 14 w A n l) (hk : k < n) : ∃ ab ao a, A = some ⟨ab, ao, none⟩ ∧ l[k]? = some a ∧ ab < w.heap.size ∧ ∀ j v, (encAct32 a)[j]? = some v → w.cell? ⟨ab, ao + k * 14 + j, none⟩ = some v := by
  obtain ⟨b, o, x, h1, h2, h3, h4⟩ := h.at_ hk
  exact ⟨b, o, x, h1, h2, h3, h4⟩
set_option maxRecDepth 100000 in
set_option maxHeartbeats 6400000 in
theorem forgets32 (A : Option Addr) (n cap : Nat) (l : List LAct32) (need : LRes) (w : World) (h : Rd encAct32 14 w A n l) (hw : ∀ a ∈ l, wfAct32 a) (hwn : wfRes need) :
    Calls Try.prog 5 #[.slice A n cap, aggRes need] w fun e w' => e = .returned (.bool true) ∧ Below w.heap.size w w' := by
  by_cases hb1 : 80 < n
  · go_enter Try.func5, Try.ntmps5
    have hB1 : Below w.heap.size w (w.alloc (.cells (boxRes need) 53)) := (Below.refl _ _).alloc (Nat.le_refl _) _
    have HB1 := Lib.hid hB1
    clear hB1
    have hcx := awake32 (w.alloc (.cells (boxRes need) 53))
    go_wp2_with fail
    (with_reducible refine hcx.mono ?_)
    clear hcx
    rintro e w' ⟨rfl, hb⟩
    have HE := Lib.hid (HB1.out.trans (hb.mono HB1.out.size))
    clear hb
    go_wp2
    go_ret
    exact ⟨rfl, HE.out⟩
  have hn : n ≤ 80 := by omega
  have hB1 : Below w.heap.size w (w.alloc (.cells (boxRes need) 53)) := (Below.refl _ _).alloc (Nat.le_refl _) _
  have H1 : Hid (Below w.heap.size w (w.alloc (.cells (boxRes need) 53)) ∧ Blk (w.alloc (.cells (boxRes need) 53)) w.heap.size 53 (boxRes need) ∧ Rd encAct32 14 (w.alloc (.cells (boxRes need) 53)) A n l ∧ (∀ a ∈ l, wfAct32 a) ∧ wfRes need) := Lib.hid ⟨hB1, Blk.new w _ _, h.below hB1, hw, hwn⟩
  clear hB1 h hw hwn hb1
  go_enter Try.func5, Try.ntmps5
  go_upto_region 3 with fail
  obtain ⟨nb, hnb⟩ : ∃ nb, w.heap.size = nb := ⟨_, rfl⟩
  have HNB := Lib.hid hnb.symm
  rw [hnb] at H1
  generalize (w.alloc (.cells (boxRes need) 53)) = w1 at H1 ⊢
  try rw [hnb]
  clear hnb
  have hcx := caNew_t w1
  go_wp2_with fail
  (with_reducible refine hcx.mono ?_)
  clear hcx
  rintro e w2 ⟨rfl, hw2⟩
  have HW2 := Lib.hid hw2
  have hz2 : w2.heap.size = w1.heap.size + 1 := by rw [hw2]; simp
  have HZ2 := Lib.hid hz2
  clear hw2 hz2
  have hcx := caNew_t w2
  go_wp2_with fail
  (with_reducible refine hcx.mono ?_)
  clear hcx
  rintro e w3 ⟨rfl, hw3⟩
  have hcc := CC.made w1
  rw [HW2.out] at hw3
  rw [← hw3] at hcc
  rw [HZ2.out]
  obtain ⟨c, hc⟩ : ∃ c, w1.heap.size = c := ⟨_, rfl⟩
  obtain ⟨d, hd⟩ : ∃ d, c + 1 = d := ⟨_, rfl⟩
  obtain ⟨S0, hS0⟩ : ∃ S0 : Nat → Prop, (fun k => k = w1.heap.size) = S0 := ⟨_, rfl⟩
  obtain ⟨D0, hD0⟩ : ∃ D0 : Nat → Prop, (fun k => k = w1.heap.size + 1) = D0 := ⟨_, rfl⟩
  rw [hS0, hD0, hc, hd] at hcc
  rw [hc, hd]
  have HC := Lib.hid hcc
  clear hcc hS0 hD0 hc hd HW2 HZ2 hw3
  go_wp2
  go_loopw [7] (fun i wr => ∃ (k : Nat) (X Y : CX) (S D : Nat → Prop), k ≤ n ∧ i = .int .i64 k ∧ CC w1 wr c d X Y S D ∧ X.Small k ∧ Y.Small k ∧ X.nodes = Y.nodes ∧ Y.needs = []) (fun i _ => n - (intOf i).toNat)
  case atStart => exact ⟨0, _, _, _, _, Nat.zero_le _, rfl, HC.out, CX.Small.zero, CX.Small.zero, rfl, rfl⟩
  case round =>
    obtain ⟨k, X, Y, S, D, hk, rfl, hC, hsX, hsY, hXY, hYn⟩ := hrel
    have H4 := Lib.hid (And.intro hC (And.intro hsX (And.intro hsY (And.intro hXY hYn))))
    clear hC hsX hsY hXY hYn
    by_cases hlt : k < n
    · obtain ⟨ab, ao, a, hAe, hx, hal, hc1⟩ := Act32_cells H1.out.2.2.1 hlt
      subst hAe
      have hwa := H1.out.2.2.2.1 a (List.mem_of_getElem? hx)
      have HCC : Hid (∀ W : World, Below w1.heap.size w1 W → ∀ j v, (encAct32 a)[j]? = some v → W.cell? ⟨ab, ao + k * 14 + j, none⟩ = some v) := Lib.hid fun W hW j v hv => (hW.cell (p := ⟨ab, ao + k * 14 + j, none⟩) hal).trans (hc1 j v hv)
      have hck := HCC.out wr H4.out.1.below
      have xk : wr.cell? ⟨ab, ao + k * 14, none⟩ = some (.int .i64 a.kind) := hck 0 _ rfl
      have HW := Lib.hid hwa
      clear hx hal hc1 hwa
      by_cases hk1 : a.kind = 1
      · have t1 : (a.kind == 1) = true := by simp [hk1]
        clear hk1
        obtain ⟨X1, hX1⟩ : ∃ X1, (X.put a.node).1 = X1 := ⟨_, rfl⟩
        obtain ⟨Y1, hY1⟩ : ∃ Y1, (Y.put a.node).1 = Y1 := ⟨_, rfl⟩
        obtain ⟨p, hp⟩ : ∃ p, (X.put a.node).2 = p := ⟨_, rfl⟩
        have hpY : (Y.put a.node).2 = p := by rw [← put_2 H4.out.2.2.2.1]; exact hp
        have HX1 := Lib.hid (And.intro hX1 (And.intro hY1 (And.intro hp hpY)))
        clear hX1 hY1 hp hpY
        have HR : Hid (X1.Small (k + 1) ∧ Y1.Small (k + 1) ∧ X1.nodes = Y1.nodes ∧ Y1.needs = []) := Lib.hid ⟨by rw [← HX1.out.1]; exact H4.out.2.1.put _, by rw [← HX1.out.2.1]; exact H4.out.2.2.1.put _, by rw [← HX1.out.1, ← HX1.out.2.1]; exact put_n H4.out.2.2.2.1 _, by rw [← HX1.out.2.1, put_needs]; exact H4.out.2.2.2.2⟩
        have tpp : (p != p) = false := bne_self_eq_false p
        have HKS : Hid (∀ W : World, Below w1.heap.size w1 W → (W.cell? ⟨ab, ao + k * 14 + 1, none⟩ = some (.int .i64 a.node.id) ∧ W.cell? ⟨ab, ao + k * 14 + 1 + 1, none⟩ = some (.int .i64 a.node.inc) ∧ W.cell? ⟨ab, ao + k * 14 + 1 + 2, none⟩ = some (.int .i64 a.node.load) ∧ W.cell? ⟨ab, ao + k * 14 + 1 + 3, none⟩ = some (.int .i64 a.node.cap.a) ∧ W.cell? ⟨ab, ao + k * 14 + 1 + 4, none⟩ = some (.int .i64 a.node.cap.b) ∧ W.cell? ⟨ab, ao + k * 14 + 1 + 5, none⟩ = some (.int .i64 a.node.cap.c) ∧ W.cell? ⟨ab, ao + k * 14 + 1 + 6, none⟩ = some (.int .i64 a.node.used.a) ∧ W.cell? ⟨ab, ao + k * 14 + 1 + 7, none⟩ = some (.int .i64 a.node.used.b) ∧ W.cell? ⟨ab, ao + k * 14 + 1 + 8, none⟩ = some (.int .i64 a.node.used.c) ∧ W.cell? ⟨ab, ao + k * 14 + 1 + 9, none⟩ = some (.bool a.node.up))) := Lib.hid fun W hW => ⟨HCC.out W hW 1 _ rfl, HCC.out W hW 2 _ rfl, HCC.out W hW 3 _ rfl, HCC.out W hW 4 _ rfl, HCC.out W hW 5 _ rfl, HCC.out W hW 6 _ rfl, HCC.out W hW 7 _ rfl, HCC.out W hW 8 _ rfl, HCC.out W hW 9 _ rfl, HCC.out W hW 10 _ rfl⟩
        have hcA : ∀ (W : World) (Z : CX) (E : Nat → Prop) (S2 : Nat → Prop), CC w1 W c d X Z S2 E → Calls Try.prog 17 #[.pointer (some ⟨c, 0, none⟩), aggNode a.node] W fun e w' => e = .returned (.bool p) ∧ ∃ S', CC w1 w' c d X1 Z S' E := fun W Z E S2 hW => by
          have := ccPut hW a.node HW.out.2.1 ⟨by have := H4.out.2.1.nodes; omega, by have := H4.out.2.1.stale; omega⟩
          rw [HX1.out.1, HX1.out.2.2.1] at this
          exact this
        have hcB : ∀ (W : World) (Z : CX) (E : Nat → Prop) (S2 : Nat → Prop), CC w1 W c d Z Y E S2 → Calls Try.prog 17 #[.pointer (some ⟨d, 0, none⟩), aggNode a.node] W fun e w' => e = .returned (.bool p) ∧ ∃ D', CC w1 w' c d Z Y1 E D' := fun W Z E S2 hW => by
          have := ccPut hW.swap a.node HW.out.2.1 ⟨by have := H4.out.2.2.1.nodes; omega, by have := H4.out.2.2.1.stale; omega⟩
          rw [HX1.out.2.1, HX1.out.2.2.2] at this
          refine this.mono ?_
          rintro e w' ⟨rfl, S', hS'⟩
          exact ⟨rfl, S', hS'.swap⟩
        have HA := Lib.hid hcA
        have HBc := Lib.hid hcB
        clear hcA hcB hck
        go_upto_region 10 with fail
        have hks := HKS.out wr H4.out.1.below
        obtain ⟨x0, x1, x2, x3, x4, x5, x6, x7, x8, x9⟩ := hks
        have H4c := Lib.hid H4.out.1
        clear xk
        go_region_held3 (fun w' => w'.cell? ⟨ab, ao + k * 14 + 1, none⟩ = some (.int .i64 a.node.id) ∧ w'.cell? ⟨ab, ao + k * 14 + 1 + 1, none⟩ = some (.int .i64 a.node.inc) ∧ w'.cell? ⟨ab, ao + k * 14 + 1 + 2, none⟩ = some (.int .i64 a.node.load) ∧ w'.cell? ⟨ab, ao + k * 14 + 1 + 3, none⟩ = some (.int .i64 a.node.cap.a) ∧ w'.cell? ⟨ab, ao + k * 14 + 1 + 4, none⟩ = some (.int .i64 a.node.cap.b) ∧ w'.cell? ⟨ab, ao + k * 14 + 1 + 5, none⟩ = some (.int .i64 a.node.cap.c) ∧ w'.cell? ⟨ab, ao + k * 14 + 1 + 6, none⟩ = some (.int .i64 a.node.used.a) ∧ w'.cell? ⟨ab, ao + k * 14 + 1 + 7, none⟩ = some (.int .i64 a.node.used.b) ∧ w'.cell? ⟨ab, ao + k * 14 + 1 + 8, none⟩ = some (.int .i64 a.node.used.c) ∧ w'.cell? ⟨ab, ao + k * 14 + 1 + 9, none⟩ = some (.bool a.node.up)) (first | with_reducible exact ⟨x0, x1, x2, x3, x4, x5, x6, x7, x8, x9⟩ | with_reducible exact HKS.out _ H7.out.below | with_reducible exact HKS.out _ H5.out.below | with_reducible exact HKS.out _ H6.out.below | exact HKS.out _ (H4c.out.then (below_dr1 wr)).below)
          (first
            | (go_at_call 17; (with_reducible refine (HBc.out _ _ _ _ H5.out).mono ?_); rintro e w7 ⟨rfl, S7, h7⟩; have H7 := Lib.hid h7; clear h7)
            | (go_at_call 17; (with_reducible refine (HA.out _ _ _ _ H6.out).mono ?_); rintro e w7 ⟨rfl, S7, h7⟩; have H7 := Lib.hid h7; clear h7)
            | (go_at_call 17; (with_reducible refine (HA.out _ _ _ _ (H4c.out.then (below_dr1 wr))).mono ?_); rintro e w5 ⟨rfl, S5, h5⟩; have H5 := Lib.hid h5; clear h5)
            | (go_at_call 17; (with_reducible refine (HBc.out _ _ _ _ (H4c.out.then (below_dr1 wr))).mono ?_); rintro e w6 ⟨rfl, S6, h6⟩; have H6 := Lib.hid h6; clear h6))
        all_goals (
          clear x0 x1 x2 x3 x4 x5 x6 x7 x8 x9
          go_wp2
          go_roundw
          case rel => exact ⟨k + 1, X1, Y1, _, _, by omega, by go_num, H7.out, HR.out⟩
          case measure => simp [intOf]; omega)
      · by_cases hk2 : a.kind = 2
        · have t1 : (a.kind == 1) = false := by simp [hk1]
          have t2 : (a.kind == 2) = true := by simp [hk2]
          clear hk1 hk2
          have HS : Hid ((X.best a.need).Small (k + 1) ∧ Y.Small (k + 1) ∧ (X.best a.need).nodes = Y.nodes ∧ Y.needs = []) := Lib.hid ⟨H4.out.2.1.best (by omega) _, H4.out.2.2.1.succ, by rw [best_n]; exact H4.out.2.2.2.1, H4.out.2.2.2.2⟩
          have r0 : wr.cell? ⟨ab, ao + k * 14 + 11, none⟩ = some (.int .i64 a.need.a) := hck 11 _ rfl
          have r1 : wr.cell? ⟨ab, ao + k * 14 + 11 + 1, none⟩ = some (.int .i64 a.need.b) := hck 12 _ rfl
          have r2 : wr.cell? ⟨ab, ao + k * 14 + 11 + 2, none⟩ = some (.int .i64 a.need.c) := hck 13 _ rfl
          have hcx := ccBest H4.out.1 a.need HW.out.2.2 (H4.out.2.1.bd (by omega))
          clear hck
          go_wp2_with fail
          (with_reducible refine hcx.mono ?_)
          clear hcx xk r0 r1 r2
          rintro e w5 ⟨rfl, S5, h5⟩
          have H5 := Lib.hid h5
          clear h5
          go_wp2
          go_roundw
          case rel => exact ⟨k + 1, _, Y, _, _, by omega, by go_num, H5.out, HS.out⟩
          case measure => simp [intOf]; omega
        · have t1 : (a.kind == 1) = false := by simp [hk1]
          have t2 : (a.kind == 2) = false := by simp [hk2]
          clear hk1 hk2
          have HS : Hid (((X.forget a.need).1).Small (k + 1) ∧ Y.Small (k + 1) ∧ ((X.forget a.need).1).nodes = Y.nodes ∧ Y.needs = []) := Lib.hid ⟨H4.out.2.1.forget _, H4.out.2.2.1.succ, by rw [forget_n]; exact H4.out.2.2.2.1, H4.out.2.2.2.2⟩
          have r0 : wr.cell? ⟨ab, ao + k * 14 + 11, none⟩ = some (.int .i64 a.need.a) := hck 11 _ rfl
          have r1 : wr.cell? ⟨ab, ao + k * 14 + 11 + 1, none⟩ = some (.int .i64 a.need.b) := hck 12 _ rfl
          have r2 : wr.cell? ⟨ab, ao + k * 14 + 11 + 2, none⟩ = some (.int .i64 a.need.c) := hck 13 _ rfl
          have hcx := ccForget H4.out.1 a.need HW.out.2.2
          clear hck
          go_wp2_with fail
          (with_reducible refine hcx.mono ?_)
          clear hcx xk r0 r1 r2
          rintro e w5 ⟨rfl, S5, h5⟩
          have H5 := Lib.hid h5
          clear h5
          go_wp2
          go_roundw
          case rel => exact ⟨k + 1, _, Y, _, _, by omega, by go_num, H5.out, HS.out⟩
          case measure => simp [intOf]; omega
    · obtain ⟨m, hm⟩ : ∃ m, (bestN need X.nodes).getD zeroN = m := ⟨_, rfl⟩
      obtain ⟨q, hq⟩ : ∃ q, (bestN need X.nodes).isSome = q := ⟨_, rfl⟩
      have z0 := (H1.out.2.1.below H4.out.1.below H1.out.2.1.lt).cell 0
      have z1 := (H1.out.2.1.below H4.out.1.below H1.out.2.1.lt).cell 1
      have z2 := (H1.out.2.1.below H4.out.1.below H1.out.2.1.lt).cell 2
      have zl := (H1.out.2.1.below H4.out.1.below H1.out.2.1.lt).lt
      simp only [List.getElem?_toArray, List.getElem?_cons_zero, List.getElem?_cons_succ] at z0 z1 z2
      have hcx := caBest_o H4.out.1.a need H1.out.2.2.2.2 (H4.out.2.1.bd (by omega))
      rw [hm, hq] at hcx
      have HMQ := Lib.hid (And.intro hm hq)
      clear hm hq
      go_wp2_with fail
      (with_reducible refine hcx.mono ?_)
      clear hcx z0 z1 z2 zl
      rintro e w5 ⟨rfl, S5, h5, ht5⟩
      have H5 := Lib.hid (H4.out.1.step h5 ht5)
      clear h5 ht5
      go_upto_region 15 with fail
      have hb6 := Blk.new w5 55 (boxNode m)
      have hB6 : Below w5.heap.size w5 (w5.alloc (.cells (boxNode m) 55)) := (Below.refl _ _).alloc (Nat.le_refl _) _
      have H6 : Hid (CC w1 (w5.alloc (.cells (boxNode m) 55)) c d (X.best need) Y S5 D ∧ Blk (w5.alloc (.cells (boxNode m) 55)) w5.heap.size 55 (boxNode m) ∧ ¬ D w5.heap.size) := Lib.hid ⟨H5.out.then hB6, hb6, fun h9 => (by have := H5.out.b.lt _ h9; omega)⟩
      clear hb6 hB6 H5
      obtain ⟨p8, hp8⟩ : ∃ q, w5.heap.size = q := ⟨_, rfl⟩
      rw [hp8] at H6
      generalize (w5.alloc (.cells (boxNode m) 55)) = w6 at H6 ⊢
      try simp only [hp8]
      clear hp8
      have z0 := (H1.out.2.1.below H6.out.1.below H1.out.2.1.lt).cell 0
      have z1 := (H1.out.2.1.below H6.out.1.below H1.out.2.1.lt).cell 1
      have z2 := (H1.out.2.1.below H6.out.1.below H1.out.2.1.lt).cell 2
      have zl := (H1.out.2.1.below H6.out.1.below H1.out.2.1.lt).lt
      simp only [List.getElem?_toArray, List.getElem?_cons_zero, List.getElem?_cons_succ] at z0 z1 z2
      have hcx := caBest_o H6.out.1.b need H1.out.2.2.2.2 (H4.out.2.2.1.bd (by omega))
      rw [← H4.out.2.2.2.1, HMQ.out.1, HMQ.out.2] at hcx
      go_wp2_with fail
      (with_reducible refine hcx.mono ?_)
      clear hcx z0 z1 z2 zl
      rintro e w7 ⟨rfl, D7, h7, ht7⟩
      have H7 : Hid (CC w1 w7 c d (X.best need) (Y.best need) S5 D7 ∧ Blk w7 p8 55 (boxNode m)) := Lib.hid ⟨(H6.out.1.swap.step h7 ht7).swap, H6.out.2.1.kept ht7.kept H6.out.2.2⟩
      clear h7 ht7 H6
      go_upto_region 16 with fail
      have hb8 := Blk.new w7 55 (boxNode m)
      have hB8 : Below w7.heap.size w7 (w7.alloc (.cells (boxNode m) 55)) := (Below.refl _ _).alloc (Nat.le_refl _) _
      have H8 : Hid (CC w1 (w7.alloc (.cells (boxNode m) 55)) c d (X.best need) (Y.best need) S5 D7 ∧ Blk (w7.alloc (.cells (boxNode m) 55)) p8 55 (boxNode m) ∧ Blk (w7.alloc (.cells (boxNode m) 55)) w7.heap.size 55 (boxNode m)) := Lib.hid ⟨H7.out.1.then hB8, H7.out.2.below hB8 H7.out.2.lt, hb8⟩
      clear hb8 hB8 H7
      obtain ⟨p10, hp10⟩ : ∃ q, w7.heap.size = q := ⟨_, rfl⟩
      rw [hp10] at H8
      generalize (w7.alloc (.cells (boxNode m) 55)) = w8 at H8 ⊢
      try simp only [hp10]
      clear hp10
      have y0 := (H8.out.2.1).cell 0
      have y1 := (H8.out.2.1).cell 1
      have y2 := (H8.out.2.1).cell 2
      have y3 := (H8.out.2.1).cell 3
      have y4 := (H8.out.2.1).cell 4
      have y5 := (H8.out.2.1).cell 5
      have y6 := (H8.out.2.1).cell 6
      have y7 := (H8.out.2.1).cell 7
      have y8 := (H8.out.2.1).cell 8
      have y9 := (H8.out.2.1).cell 9
      have yl := (H8.out.2.1).lt
      simp only [boxNode, List.getElem?_toArray, List.getElem?_cons_zero, List.getElem?_cons_succ] at y0 y1 y2 y3 y4 y5 y6 y7 y8 y9
      have v0 := (H8.out.2.2).cell 0
      have v1 := (H8.out.2.2).cell 1
      have v2 := (H8.out.2.2).cell 2
      have v3 := (H8.out.2.2).cell 3
      have v4 := (H8.out.2.2).cell 4
      have v5 := (H8.out.2.2).cell 5
      have v6 := (H8.out.2.2).cell 6
      have v7 := (H8.out.2.2).cell 7
      have v8 := (H8.out.2.2).cell 8
      have v9 := (H8.out.2.2).cell 9
      have vl := (H8.out.2.2).lt
      simp only [boxNode, List.getElem?_toArray, List.getElem?_cons_zero, List.getElem?_cons_succ] at v0 v1 v2 v3 v4 v5 v6 v7 v8 v9
      have heq := fun (W : World) => eqlNode m m W
      simp only [decide_true] at heq
      have hgd := fun (op : BinOp) (p q : Operand) (W : World) => guardNode op p q m m W
      have tqq : (q == q) = true := beq_self_eq_true q
      have hcx : Calls Try.prog 24 #[.pointer (some ⟨d, 0, none⟩)] w8 (fun e w' => e = .returned (.int .i64 1) ∧ w' = w8) := by
        have h9 := caNeeds_o H8.out.1.b
        rw [show (Y.best need).needs = [need] by unfold CX.best CX.of; rw [H4.out.2.2.2.2]; rfl] at h9
        exact h9
      go_wp2_with fail
      (with_reducible refine hcx.mono ?_)
      clear hcx
      rintro e wq ⟨rfl, hw⟩
      replace hw := hw.symm
      subst hw
      have hcx : Calls Try.prog 25 #[.pointer (some ⟨c, 0, none⟩)] w8 (fun e w' => e = .returned (.int .i64 0) ∧ w' = w8) := by
        have h9 := caStale_o H8.out.1.a
        rw [best_s] at h9
        exact h9
      go_wp2_with fail
      (with_reducible refine hcx.mono ?_)
      clear hcx
      rintro e wq ⟨rfl, hw⟩
      replace hw := hw.symm
      subst hw
      have hcx : Calls Try.prog 25 #[.pointer (some ⟨d, 0, none⟩)] w8 (fun e w' => e = .returned (.int .i64 0) ∧ w' = w8) := by
        have h9 := caStale_o H8.out.1.b
        rw [best_s] at h9
        exact h9
      go_wp2_with fail
      (with_reducible refine hcx.mono ?_)
      clear hcx
      rintro e wq ⟨rfl, hw⟩
      replace hw := hw.symm
      subst hw
      have hcx := awake32 w8
      go_wp2_with fail
      (with_reducible refine hcx.mono ?_)
      clear hcx
      rintro e w9 ⟨rfl, hb9⟩
      have hbw : Below w.heap.size w w1 := by have := H1.out.1; rw [HNB.out] at this; exact this
      have HE : Hid (Below w.heap.size w w9) := Lib.hid ((hbw.trans (H8.out.1.below.mono hbw.size)).trans (hb9.mono (Nat.le_trans hbw.size H8.out.1.below.size)))
      clear hb9 hbw
      go_wp2
      go_ret
      exact ⟨rfl, HE.out⟩
end Go.Proofs.Ytcafmodenbifhaa
