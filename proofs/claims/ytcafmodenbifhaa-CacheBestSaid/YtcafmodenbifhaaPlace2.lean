/-
  LAYERS 8, 10: res.Most, res.Fits, rank.Free, rank.Takes.
  LAYER 10: rank.Free, rank.Takes.
-/
import Derived.Test.YtcafmodenbifhaaRes2
import Derived.Test.YtcafmodenbifhaaRank1
import Derived.Lib.QuietBelow
set_option linter.unusedVariables false
set_option linter.unusedSimpArgs false
namespace Go.Proofs.Ytcafmodenbifhaa
open Go.RowKit Go.Sort

theorem eg_most (args : Array Value) (w : World) : (callFunc 102 args).run Try.prog w = .ok (.enter 102 args) w := by kernel_rfl
theorem most1_t (n m : Int) (w : World) : Calls Try.prog 102 #[.int .i64 n, .int .i64 m] w fun e w' => e = .returned (.int .i64 (max n m)) ∧ w' = w := by
  go_enter Try.func102, Try.ntmps102
  go_wp2
  go_ret
  exact ⟨rfl, rfl⟩
def mostR (a b : LRes) : LRes := eachR (fun x y => max x y) a b
set_option maxRecDepth 100000 in
set_option maxHeartbeats 800000 in
theorem resMost_t (a b : LRes) (w : World) : Calls Try.prog 89 #[aggRes a, aggRes b] w fun e w' => e = .returned (aggRes (mostR a b)) ∧ Below w.heap.size w w' := by
  go_enter Try.func89, Try.ntmps89
  go_wp2_with fail
  have hcx := each_t 102 eg_most _ most1_t a b (((w.alloc (.cells (boxRes a) 53)).alloc (.cells (boxRes b) 53)).alloc (.cells #[.int .i64 0, .int .i64 0, .int .i64 0] 53))
  have hb := Blk.new ((w.alloc (.cells (boxRes a) 53)).alloc (.cells (boxRes b) 53)) 53 #[.int .i64 0, .int .i64 0, .int .i64 0]
  have hs1 : ((w.alloc (.cells (boxRes a) 53)).alloc (.cells (boxRes b) 53)).heap.size = w.heap.size + 1 + 1 := by simp
  rw [hs1] at hb
  have hB : Below w.heap.size w (((w.alloc (.cells (boxRes a) 53)).alloc (.cells (boxRes b) 53)).alloc (.cells #[.int .i64 0, .int .i64 0, .int .i64 0] 53)) := (((Below.refl _ _).alloc (Nat.le_refl _) _).alloc (by simp) _).alloc (by simp; omega) _
  generalize ((w.alloc (.cells (boxRes a) 53)).alloc (.cells (boxRes b) 53)).alloc (.cells #[.int .i64 0, .int .i64 0, .int .i64 0] 53) = w1 at hcx hb hB ⊢
  (with_reducible refine hcx.mono ?_)
  clear hcx hs1
  rintro e w2 ⟨rfl, hB2⟩
  have hb2 := hb.below hB2 hb.lt
  have f2 := hb2.frozen
  have c0 := hb2.cell 0
  have c1 := hb2.cell 1
  have c2 := hb2.cell 2
  simp only [List.getElem?_toArray, List.getElem?_cons_zero, List.getElem?_cons_succ] at c0 c1 c2
  have hZ := (hB.trans (hB2.mono hB.size))
  have hY : Blk (((w2.setCell ⟨w.heap.size + 1 + 1, 0, none⟩ (.int .i64 (max a.a b.a))).setCell ⟨w.heap.size + 1 + 1, 1, none⟩ (.int .i64 (max a.b b.b))).setCell ⟨w.heap.size + 1 + 1, 2, none⟩ (.int .i64 (max a.c b.c))) (w.heap.size + 1 + 1) 53 #[.int .i64 (max a.a b.a), .int .i64 (max a.b b.b), .int .i64 (max a.c b.c)] ∧
      Below w.heap.size w (((w2.setCell ⟨w.heap.size + 1 + 1, 0, none⟩ (.int .i64 (max a.a b.a))).setCell ⟨w.heap.size + 1 + 1, 1, none⟩ (.int .i64 (max a.b b.b))).setCell ⟨w.heap.size + 1 + 1, 2, none⟩ (.int .i64 (max a.c b.c))) :=
    ⟨((hb2.set_ 0 _).set_ 1 _).set_ 2 _, ((hZ.setCell (p := ⟨w.heap.size + 1 + 1, 0, none⟩) (show w.heap.size ≤ w.heap.size + 1 + 1 by omega) _).setCell (p := ⟨w.heap.size + 1 + 1, 1, none⟩) (show w.heap.size ≤ w.heap.size + 1 + 1 by omega) _).setCell (p := ⟨w.heap.size + 1 + 1, 2, none⟩) (show w.heap.size ≤ w.heap.size + 1 + 1 by omega) _⟩
  have HY := Lib.hid hY
  clear hY hZ hB2 hb2 hb hB
  simp only [mostR, eachR]
  go_wp2
  obtain ⟨hY, hZ⟩ := HY.out
  generalize ((w2.setCell ⟨w.heap.size + 1 + 1, 0, none⟩ (.int .i64 (max a.a b.a))).setCell ⟨w.heap.size + 1 + 1, 1, none⟩ (.int .i64 (max a.b b.b))).setCell ⟨w.heap.size + 1 + 1, 2, none⟩ (.int .i64 (max a.c b.c)) = w3 at hY hZ ⊢
  have y0 := hY.cell 0
  have y1 := hY.cell 1
  have y2 := hY.cell 2
  simp only [List.getElem?_toArray] at y0 y1 y2
  exact bodyPost_ret (v := aggRes (mostR a b)) (by simp [results, Try.results89, go_sem, y0, y1, y2, mostR, eachR]) rfl ⟨rfl, hZ⟩
/-- There is enough of each. -/
def fitsR (a b : LRes) : Bool := decide (a.a ≤ b.a ∧ a.b ≤ b.b ∧ a.c ≤ b.c)
theorem fits_most (a b : LRes) : decide (mostR a b = b) = fitsR a b := by
  unfold fitsR
  rw [Bool.eq_iff_iff, decide_eq_true_iff, decide_eq_true_iff, LRes.ext_iff']
  simp only [mostR, eachR]
  omega
set_option maxRecDepth 100000 in
set_option maxHeartbeats 1600000 in
theorem resFits_t (a b : LRes) (w : World) : Calls Try.prog 76 #[aggRes a, aggRes b] w fun e w' => e = .returned (.bool (fitsR a b)) ∧ Below w.heap.size w w' := by
  go_enter Try.func76, Try.ntmps76
  go_wp2
  have hb := (Blk.new w 53 (boxRes a)).alloc (.cells (boxRes b) 53)
  have hx := Blk.new (w.alloc (.cells (boxRes a) 53)) 53 (boxRes b)
  have hs1 : (w.alloc (.cells (boxRes a) 53)).heap.size = w.heap.size + 1 := by simp
  rw [hs1] at hx
  have hB : Below w.heap.size w ((w.alloc (.cells (boxRes a) 53)).alloc (.cells (boxRes b) 53)) := ((Below.refl _ _).alloc (Nat.le_refl _) _).alloc (by simp) _
  generalize (w.alloc (.cells (boxRes a) 53)).alloc (.cells (boxRes b) 53) = w1 at hb hx hB ⊢
  have a0 := cell_regrown (hb.cell 0)
  have a1 := cell_regrown (hb.cell 1)
  have a2 := cell_regrown (hb.cell 2)
  have b0 := cell_regrown (hx.cell 0)
  have b1 := cell_regrown (hx.cell 1)
  have b2 := cell_regrown (hx.cell 2)
  have HB := Lib.hid hB
  clear hb hx hB hs1
  have hek := fun (W : World) => eqlRes (mostR a b) b W
  simp only [fits_most] at hek
  have hcq := fun d os => Calls.regrown_of (resMost_t a b (grow (redrawn w1 d) os))
  refine wp_region_quiet_below (by kernel_rfl) (by kernel_rfl) ?_
  repeat (quiet_step (exact hcq _ _))
  refine wpQuiet_nil ?_
  intro _ hw'
  obtain ⟨⟨dq, osq⟩, hw''⟩ := hw'
  subst hw''
  have HX := Lib.hid (HB.out.trans ((below_regrown w1 dq osq).mono HB.out.size))
  clear a0 a1 a2 b0 b1 b2 hcq hek
  generalize grow (redrawn w1 dq) osq = w2 at HX ⊢
  go_wp2
  go_ret
  exact ⟨rfl, HX.out⟩
end Go.Proofs.Ytcafmodenbifhaa
namespace Go.Proofs.Ytcafmodenbifhaa
open Go.RowKit Go.Sort

def freeI (all used : Int) : Int := if used < all then wrap64 (all - used) else 0
def freeN (n : LNode) : LRes := ⟨freeI n.cap.a n.used.a, freeI n.cap.b n.used.b, freeI n.cap.c n.used.c⟩
def freeA (n : LNode) (k : Nat) : Array Value := #[.int .i64 (if 0 < k then freeI n.cap.a n.used.a else 0), .int .i64 (if 1 < k then freeI n.cap.b n.used.b else 0), .int .i64 (if 2 < k then freeI n.cap.c n.used.c else 0)]
set_option maxRecDepth 100000 in
set_option maxHeartbeats 1600000 in
theorem free_t (n : LNode) (w : World) : Calls Try.prog 77 #[aggNode n] w fun e w' => e = .returned (aggRes (freeN n)) ∧ Below w.heap.size w w' := by
  go_enter Try.func77, Try.ntmps77
  go_wp2
  have hs1 : (w.alloc (.cells (boxNode n) 55)).heap.size = w.heap.size + 1 := by simp
  have hs2 : ((w.alloc (.cells (boxNode n) 55)).alloc (.cells #[.int .i64 0, .int .i64 0, .int .i64 0] 53)).heap.size = w.heap.size + 1 + 1 := by simp
  have h0 := ((Blk.new w 55 (boxNode n)).alloc (.cells #[.int .i64 0, .int .i64 0, .int .i64 0] 53)).alloc (.cells #[.int .i64 0, .int .i64 0, .int .i64 0] 53)
  have h1 := (Blk.new (w.alloc (.cells (boxNode n) 55)) 53 #[.int .i64 0, .int .i64 0, .int .i64 0]).alloc (.cells #[.int .i64 0, .int .i64 0, .int .i64 0] 53)
  have h2 := Blk.new ((w.alloc (.cells (boxNode n) 55)).alloc (.cells #[.int .i64 0, .int .i64 0, .int .i64 0] 53)) 53 #[.int .i64 0, .int .i64 0, .int .i64 0]
  rw [hs1] at h1
  rw [hs2] at h2
  have hB0 : Below w.heap.size w (((w.alloc (.cells (boxNode n) 55)).alloc (.cells #[.int .i64 0, .int .i64 0, .int .i64 0] 53)).alloc (.cells #[.int .i64 0, .int .i64 0, .int .i64 0] 53)) := (((Below.refl _ _).alloc (Nat.le_refl _) _).alloc (by simp) _).alloc (by simp; omega) _
  clear hs1 hs2
  generalize (((w.alloc (.cells (boxNode n) 55)).alloc (.cells #[.int .i64 0, .int .i64 0, .int .i64 0] 53)).alloc (.cells #[.int .i64 0, .int .i64 0, .int .i64 0] 53)) = w0 at h0 h1 h2 hB0 ⊢
  have HS := Lib.hid (And.intro h0 (And.intro h1 (And.intro h2 hB0)))
  clear h0 h1 h2 hB0
  go_loopw [8] (fun i wr => ∃ k : Nat, k ≤ 3 ∧ i = .int .i64 k ∧ Blk wr w.heap.size 55 (boxNode n) ∧ Blk wr (w.heap.size + 1) 53 #[.int .i64 0, .int .i64 0, .int .i64 0] ∧ Blk wr (w.heap.size + 1 + 1) 53 (freeA n k) ∧ Below w.heap.size w wr) (fun i _ => 3 - (intOf i).toNat)
  case atStart => exact ⟨0, by omega, rfl, HS.out.1, HS.out.2.1, HS.out.2.2.1, HS.out.2.2.2⟩
  case round =>
    clear HS
    obtain ⟨k, hk, hi, h0, h1, h2, hB⟩ := hrel
    have i0 : ∀ W, (Instr.index 53 (.agg #[.int .i64 n.cap.a, .int .i64 n.cap.b, .int .i64 n.cap.c]) (.int .i64 0)).run Try.prog W = .ok (.int .i64 n.cap.a) W := fun _ => by kernel_rfl
    have i1 : ∀ W, (Instr.index 53 (.agg #[.int .i64 n.cap.a, .int .i64 n.cap.b, .int .i64 n.cap.c]) (.int .i64 1)).run Try.prog W = .ok (.int .i64 n.cap.b) W := fun _ => by kernel_rfl
    have i2 : ∀ W, (Instr.index 53 (.agg #[.int .i64 n.cap.a, .int .i64 n.cap.b, .int .i64 n.cap.c]) (.int .i64 2)).run Try.prog W = .ok (.int .i64 n.cap.c) W := fun _ => by kernel_rfl
    have u0 := h0.cell 6
    have u1 := h0.cell 7
    have u2 := h0.cell 8
    have c0 := h2.cell 0
    have c1 := h2.cell 1
    have c2 := h2.cell 2
    have f2 := h2.frozen
    have d0 := h1.cell 0
    have d1 := h1.cell 1
    have d2 := h1.cell 2
    have f1 := h1.frozen
    simp only [List.getElem?_toArray, List.getElem?_cons_zero, List.getElem?_cons_succ] at u0 u1 u2 d0 d1 d2
    have HA := Lib.hid (And.intro h0 (And.intro h1 (And.intro h2 hB)))
    clear h0 h1 h2 hB
    rcases (show k = 0 ∨ k = 1 ∨ k = 2 ∨ k = 3 by omega) with rfl | rfl | rfl | rfl
    · have hi2 := hi.trans (show (Value.int .i64 ((0 : Nat) : Int)) = .int .i64 0 from rfl)
      clear hi
      subst hi2
      simp [freeA] at c0 c1 c2
      by_cases hlt : n.used.a < n.cap.a
      · have e : freeA n 1 = (freeA n 0).setIfInBounds 0 (.int .i64 (wrap64 (n.cap.a - n.used.a))) := by simp [freeA, freeI, hlt]
        have HE := Lib.hid e
        have HX := Lib.hid (fun (u : Value) => And.intro (HA.out.1.far (p := ⟨w.heap.size + 1 + 1, 0, none⟩) (show w.heap.size ≠ w.heap.size + 1 + 1 by omega) u) (And.intro (HA.out.2.1.far (p := ⟨w.heap.size + 1 + 1, 0, none⟩) (show w.heap.size + 1 ≠ w.heap.size + 1 + 1 by omega) u) (And.intro (HA.out.2.2.1.set_ 0 u) (HA.out.2.2.2.setCell (p := ⟨w.heap.size + 1 + 1, 0, none⟩) (show w.heap.size ≤ w.heap.size + 1 + 1 by omega) u))))
        clear e
        go_wp2
        go_roundw
        case rel => exact ⟨1, by omega, by go_num, (HX.out _).1, (HX.out _).2.1, by rw [HE.out]; exact (HX.out _).2.2.1, (HX.out _).2.2.2⟩
        case measure => simp [intOf]
      · have e : freeA n 1 = freeA n 0 := by simp [freeA, freeI, hlt]
        have HE := Lib.hid e
        clear e
        go_wp2
        go_roundw
        case rel => exact ⟨1, by omega, by go_num, HA.out.1, HA.out.2.1, by rw [HE.out]; exact HA.out.2.2.1, HA.out.2.2.2⟩
        case measure => simp [intOf]
    · have hi2 := hi.trans (show (Value.int .i64 ((1 : Nat) : Int)) = .int .i64 1 from rfl)
      clear hi
      subst hi2
      simp [freeA] at c0 c1 c2
      by_cases hlt : n.used.b < n.cap.b
      · have e : freeA n 2 = (freeA n 1).setIfInBounds 1 (.int .i64 (wrap64 (n.cap.b - n.used.b))) := by simp [freeA, freeI, hlt]
        have HE := Lib.hid e
        have HX := Lib.hid (fun (u : Value) => And.intro (HA.out.1.far (p := ⟨w.heap.size + 1 + 1, 1, none⟩) (show w.heap.size ≠ w.heap.size + 1 + 1 by omega) u) (And.intro (HA.out.2.1.far (p := ⟨w.heap.size + 1 + 1, 1, none⟩) (show w.heap.size + 1 ≠ w.heap.size + 1 + 1 by omega) u) (And.intro (HA.out.2.2.1.set_ 1 u) (HA.out.2.2.2.setCell (p := ⟨w.heap.size + 1 + 1, 1, none⟩) (show w.heap.size ≤ w.heap.size + 1 + 1 by omega) u))))
        clear e
        go_wp2
        go_roundw
        case rel => exact ⟨2, by omega, by go_num, (HX.out _).1, (HX.out _).2.1, by rw [HE.out]; exact (HX.out _).2.2.1, (HX.out _).2.2.2⟩
        case measure => simp [intOf]
      · have e : freeA n 2 = freeA n 1 := by simp [freeA, freeI, hlt]
        have HE := Lib.hid e
        clear e
        go_wp2
        go_roundw
        case rel => exact ⟨2, by omega, by go_num, HA.out.1, HA.out.2.1, by rw [HE.out]; exact HA.out.2.2.1, HA.out.2.2.2⟩
        case measure => simp [intOf]
    · have hi2 := hi.trans (show (Value.int .i64 ((2 : Nat) : Int)) = .int .i64 2 from rfl)
      clear hi
      subst hi2
      simp [freeA] at c0 c1 c2
      by_cases hlt : n.used.c < n.cap.c
      · have e : freeA n 3 = (freeA n 2).setIfInBounds 2 (.int .i64 (wrap64 (n.cap.c - n.used.c))) := by simp [freeA, freeI, hlt]
        have HE := Lib.hid e
        have HX := Lib.hid (fun (u : Value) => And.intro (HA.out.1.far (p := ⟨w.heap.size + 1 + 1, 2, none⟩) (show w.heap.size ≠ w.heap.size + 1 + 1 by omega) u) (And.intro (HA.out.2.1.far (p := ⟨w.heap.size + 1 + 1, 2, none⟩) (show w.heap.size + 1 ≠ w.heap.size + 1 + 1 by omega) u) (And.intro (HA.out.2.2.1.set_ 2 u) (HA.out.2.2.2.setCell (p := ⟨w.heap.size + 1 + 1, 2, none⟩) (show w.heap.size ≤ w.heap.size + 1 + 1 by omega) u))))
        clear e
        go_wp2
        go_roundw
        case rel => exact ⟨3, by omega, by go_num, (HX.out _).1, (HX.out _).2.1, by rw [HE.out]; exact (HX.out _).2.2.1, (HX.out _).2.2.2⟩
        case measure => simp [intOf]
      · have e : freeA n 3 = freeA n 2 := by simp [freeA, freeI, hlt]
        have HE := Lib.hid e
        clear e
        go_wp2
        go_roundw
        case rel => exact ⟨3, by omega, by go_num, HA.out.1, HA.out.2.1, by rw [HE.out]; exact HA.out.2.2.1, HA.out.2.2.2⟩
        case measure => simp [intOf]
    · have hi2 := hi.trans (show (Value.int .i64 ((3 : Nat) : Int)) = .int .i64 3 from rfl)
      clear hi
      subst hi2
      simp [freeA] at c0 c1 c2
      have hZ : Blk (((wr.setCell ⟨w.heap.size + 1, 0, none⟩ (.int .i64 (freeI n.cap.a n.used.a))).setCell ⟨w.heap.size + 1, 1, none⟩ (.int .i64 (freeI n.cap.b n.used.b))).setCell ⟨w.heap.size + 1, 2, none⟩ (.int .i64 (freeI n.cap.c n.used.c))) (w.heap.size + 1) 53 #[.int .i64 (freeI n.cap.a n.used.a), .int .i64 (freeI n.cap.b n.used.b), .int .i64 (freeI n.cap.c n.used.c)] := ((HA.out.2.1.set_ 0 _).set_ 1 _).set_ 2 _
      have hY : Below w.heap.size w (((wr.setCell ⟨w.heap.size + 1, 0, none⟩ (.int .i64 (freeI n.cap.a n.used.a))).setCell ⟨w.heap.size + 1, 1, none⟩ (.int .i64 (freeI n.cap.b n.used.b))).setCell ⟨w.heap.size + 1, 2, none⟩ (.int .i64 (freeI n.cap.c n.used.c))) := ((HA.out.2.2.2.setCell (p := ⟨w.heap.size + 1, 0, none⟩) (show w.heap.size ≤ w.heap.size + 1 by omega) _).setCell (p := ⟨w.heap.size + 1, 1, none⟩) (show w.heap.size ≤ w.heap.size + 1 by omega) _).setCell (p := ⟨w.heap.size + 1, 2, none⟩) (show w.heap.size ≤ w.heap.size + 1 by omega) _
      have HY := Lib.hid (And.intro hZ hY)
      clear hZ hY
      go_wp2
      obtain ⟨hZ, hY⟩ := HY.out
      generalize ((wr.setCell ⟨w.heap.size + 1, 0, none⟩ (.int .i64 (freeI n.cap.a n.used.a))).setCell ⟨w.heap.size + 1, 1, none⟩ (.int .i64 (freeI n.cap.b n.used.b))).setCell ⟨w.heap.size + 1, 2, none⟩ (.int .i64 (freeI n.cap.c n.used.c)) = W3 at hZ hY ⊢
      have z0 := hZ.cell 0
      have z1 := hZ.cell 1
      have z2 := hZ.cell 2
      simp only [List.getElem?_toArray] at z0 z1 z2
      exact bodyPost_ret (v := aggRes (freeN n)) (by simp [results, Try.results77, go_sem, z0, z1, z2, freeN]) rfl ⟨rfl, hY⟩
/-- A job may run there. -/
def takesN (n : LNode) (need : LRes) : Bool := n.up && fitsR need (freeN n)
set_option maxRecDepth 100000 in
set_option maxHeartbeats 1600000 in
theorem takes_t (n : LNode) (need : LRes) (w : World) : Calls Try.prog 57 #[aggNode n, aggRes need] w fun e w' => e = .returned (.bool (takesN n need)) ∧ Below w.heap.size w w' := by
  have hb := (Blk.new w 55 (boxNode n)).alloc (.cells (boxRes need) 53)
  have hx := Blk.new (w.alloc (.cells (boxNode n) 55)) 53 (boxRes need)
  have hs1 : (w.alloc (.cells (boxNode n) 55)).heap.size = w.heap.size + 1 := by simp
  rw [hs1] at hx
  have hB : Below w.heap.size w ((w.alloc (.cells (boxNode n) 55)).alloc (.cells (boxRes need) 53)) := ((Below.refl _ _).alloc (Nat.le_refl _) _).alloc (by simp) _
  have n0 := cell_regrown (hb.cell 0)
  have n1 := cell_regrown (hb.cell 1)
  have n2 := cell_regrown (hb.cell 2)
  have n3 := cell_regrown (hb.cell 3)
  have n4 := cell_regrown (hb.cell 4)
  have n5 := cell_regrown (hb.cell 5)
  have n6 := cell_regrown (hb.cell 6)
  have n7 := cell_regrown (hb.cell 7)
  have n8 := cell_regrown (hb.cell 8)
  have n9 := cell_regrown (hb.cell 9)
  have r0 := cell_regrown (hx.cell 0)
  have r1 := cell_regrown (hx.cell 1)
  have r2 := cell_regrown (hx.cell 2)
  have HB := Lib.hid hB
  clear hb hx hB hs1
  obtain ⟨i0, i1, i2, i3, i4, up⟩ := n
  cases up
  all_goals
    go_enter Try.func57, Try.ntmps57
    go_wp2
    generalize (w.alloc (.cells _ 55)).alloc (.cells (boxRes need) 53) = w1 at n0 n1 n2 n3 n4 n5 n6 n7 n8 n9 r0 r1 r2 HB ⊢
  · refine wp_region_quiet_below (by kernel_rfl) (by kernel_rfl) ?_
    repeat (quiet_step (fail))
    refine wpQuiet_nil ?_
    intro _ hw'
    obtain ⟨⟨dq, osq⟩, hw''⟩ := hw'
    subst hw''
    have HX := Lib.hid (HB.out.trans ((below_regrown w1 dq osq).mono HB.out.size))
    clear n0 n1 n2 n3 n4 n5 n6 n7 n8 n9 r0 r1 r2
    generalize grow (redrawn w1 dq) osq = w2 at HX ⊢
    go_wp2
    go_ret
    exact ⟨rfl, HX.out⟩
  · have hc1 := fun d os => Calls.regrown_of (free_t ⟨i0, i1, i2, i3, i4, true⟩ (grow (redrawn w1 d) os))
    have hc2 := fun d os => Calls.regrown_of (resFits_t need (freeN ⟨i0, i1, i2, i3, i4, true⟩) (grow (redrawn w1 d) os))
    refine wp_region_quiet_below (by kernel_rfl) (by kernel_rfl) ?_
    repeat (quiet_step (first | exact hc1 _ _ | exact hc2 _ _))
    refine wpQuiet_nil ?_
    intro _ hw'
    obtain ⟨⟨dq, osq⟩, hw''⟩ := hw'
    subst hw''
    have HX := Lib.hid (HB.out.trans ((below_regrown w1 dq osq).mono HB.out.size))
    clear n0 n1 n2 n3 n4 n5 n6 n7 n8 n9 r0 r1 r2 hc1 hc2
    generalize grow (redrawn w1 dq) osq = w2 at HX ⊢
    go_wp2
    go_ret
    exact ⟨by simp [takesN], HX.out⟩
end Go.Proofs.Ytcafmodenbifhaa
