/-
  LAYER 35 (msg): the document's Pure.
-/
import Derived.Test.YthhnocnkicoimaaDoorMsg9
import Derived.Deep.RegionHeld3
set_option linter.unusedVariables false
set_option linter.unusedSimpArgs false
namespace Go.Proofs.YthhnocnkicoimaaDoor
open Go.RowKit

set_option maxRecDepth 100000 in
set_option maxHeartbeats 6400000 in
theorem rpure_k1 (m : LMsg) (hk : m.kind = 1) (w : World) : Calls Tryd.prog 77 #[aggMsg m] w fun e w' => e = .returned (aggMsg (keepM m [4, 6, 9, 10, 11])) ∧ Below w.heap.size w w' := by
  have hs1 : (w.alloc (.cells (boxMsg m) 38)).heap.size = w.heap.size + 1 := by simp
  have h1 := (Blk.new w 38 (boxMsg m)).alloc (.cells #[.int .i64 0, .int .i64 0, .int .i64 0, .int .i64 0, .int .i64 0, .int .i64 0, .int .i64 0, .int .i64 0, .int .i64 0, .int .i64 0, .int .i64 0, .int .i64 0] 38)
  have h2 := Blk.new (w.alloc (.cells (boxMsg m) 38)) 38 #[.int .i64 0, .int .i64 0, .int .i64 0, .int .i64 0, .int .i64 0, .int .i64 0, .int .i64 0, .int .i64 0, .int .i64 0, .int .i64 0, .int .i64 0, .int .i64 0]
  rw [hs1] at h2
  have hB : Below w.heap.size w ((w.alloc (.cells (boxMsg m) 38)).alloc (.cells #[.int .i64 0, .int .i64 0, .int .i64 0, .int .i64 0, .int .i64 0, .int .i64 0, .int .i64 0, .int .i64 0, .int .i64 0, .int .i64 0, .int .i64 0, .int .i64 0] 38)) := ((Below.refl _ _).alloc (Nat.le_refl _) _).alloc (by simp) _
  have c0 : ((w.alloc (.cells (boxMsg m) 38)).alloc (.cells #[.int .i64 0, .int .i64 0, .int .i64 0, .int .i64 0, .int .i64 0, .int .i64 0, .int .i64 0, .int .i64 0, .int .i64 0, .int .i64 0, .int .i64 0, .int .i64 0] 38)).cell? ⟨w.heap.size, 0, none⟩ = some (.int .i64 1) := by rw [← hk]; exact (h1.cell 0).trans rfl
  have H0 := Lib.hid (And.intro h1 (And.intro h2 hB))
  have HK0 := Lib.hid hk
  clear hs1 h1 h2 hB hk
  go_enter Tryd.func77, Tryd.ntmps77
  go_wp2_with fail
  generalize (w.alloc (.cells (boxMsg m) 38)).alloc (.cells #[.int .i64 0, .int .i64 0, .int .i64 0, .int .i64 0, .int .i64 0, .int .i64 0, .int .i64 0, .int .i64 0, .int .i64 0, .int .i64 0, .int .i64 0, .int .i64 0] 38) = w1 at H0 c0 ⊢
  obtain ⟨b1, hb1⟩ : ∃ b1, w.heap.size = b1 := ⟨_, rfl⟩
  have h1 : Blk w1 b1 38 (boxMsg m) := by rw [← hb1]; exact H0.out.1
  have h2 : Blk w1 (b1 + 1) 38 #[.int .i64 0, .int .i64 0, .int .i64 0, .int .i64 0, .int .i64 0, .int .i64 0, .int .i64 0, .int .i64 0, .int .i64 0, .int .i64 0, .int .i64 0, .int .i64 0] := by rw [← hb1]; exact H0.out.2.1
  rw [hb1] at c0
  have HG := Lib.hid (show w.heap.size ≤ b1 + 1 by omega)
  try simp only [hb1]
  go_wp2_with fail
  (with_reducible refine (rnames_k1 w1).mono ?_)
  rintro e w2 ⟨rfl, hB2⟩
  have H2 := Lib.hid (And.intro (h1.below hB2 h1.lt) (And.intro (h2.below hB2 h2.lt) (H0.out.2.2.trans (hB2.mono H0.out.2.2.size))))
  clear h1 h2 hb1 H0 c0 hB2
  have z2 := H2.out.2.1.frozen
  have l2 := H2.out.2.1.lt
  have l1 := H2.out.1.lt
  have HKS : Hid (∀ W, Below w2.heap.size w2 W → (fun w' => w'.cell? ⟨b1, 0, none⟩ = some (.int .i64 m.kind) ∧ w'.cell? ⟨b1, 1, none⟩ = some (.int .i64 m.frm) ∧ w'.cell? ⟨b1, 2, none⟩ = some (.int .i64 m.to_) ∧ w'.cell? ⟨b1, 3, none⟩ = some (.int .i64 m.epoch) ∧ w'.cell? ⟨b1, 4, none⟩ = some (.int .i64 m.inc) ∧ w'.cell? ⟨b1, 5, none⟩ = some (.int .i64 m.job) ∧ w'.cell? ⟨b1, 6, none⟩ = some (.int .i64 m.tick) ∧ w'.cell? ⟨b1, 7, none⟩ = some (.int .i64 m.prio) ∧ w'.cell? ⟨b1, 8, none⟩ = some (.int .i64 m.code) ∧ w'.cell? ⟨b1, 9, none⟩ = some (.int .i64 m.res.a) ∧ w'.cell? ⟨b1, 10, none⟩ = some (.int .i64 m.res.b) ∧ w'.cell? ⟨b1, 11, none⟩ = some (.int .i64 m.res.c)) W) := Lib.hid (fun W hb => ⟨((H2.out.1.below hb H2.out.1.lt).cell 0).trans rfl, ((H2.out.1.below hb H2.out.1.lt).cell 1).trans rfl, ((H2.out.1.below hb H2.out.1.lt).cell 2).trans rfl, ((H2.out.1.below hb H2.out.1.lt).cell 3).trans rfl, ((H2.out.1.below hb H2.out.1.lt).cell 4).trans rfl, ((H2.out.1.below hb H2.out.1.lt).cell 5).trans rfl, ((H2.out.1.below hb H2.out.1.lt).cell 6).trans rfl, ((H2.out.1.below hb H2.out.1.lt).cell 7).trans rfl, ((H2.out.1.below hb H2.out.1.lt).cell 8).trans rfl, ((H2.out.1.below hb H2.out.1.lt).cell 9).trans rfl, ((H2.out.1.below hb H2.out.1.lt).cell 10).trans rfl, ((H2.out.1.below hb H2.out.1.lt).cell 11).trans rfl⟩)
  obtain ⟨c0, c1, c2, c3, c4, c5, c6, c7, c8, c9, c10, c11⟩ := HKS.out w2 (Below.refl _ _)
  go_wp2_with fail
  go_region_held3 (fun w' => w'.cell? ⟨b1, 0, none⟩ = some (.int .i64 m.kind) ∧ w'.cell? ⟨b1, 1, none⟩ = some (.int .i64 m.frm) ∧ w'.cell? ⟨b1, 2, none⟩ = some (.int .i64 m.to_) ∧ w'.cell? ⟨b1, 3, none⟩ = some (.int .i64 m.epoch) ∧ w'.cell? ⟨b1, 4, none⟩ = some (.int .i64 m.inc) ∧ w'.cell? ⟨b1, 5, none⟩ = some (.int .i64 m.job) ∧ w'.cell? ⟨b1, 6, none⟩ = some (.int .i64 m.tick) ∧ w'.cell? ⟨b1, 7, none⟩ = some (.int .i64 m.prio) ∧ w'.cell? ⟨b1, 8, none⟩ = some (.int .i64 m.code) ∧ w'.cell? ⟨b1, 9, none⟩ = some (.int .i64 m.res.a) ∧ w'.cell? ⟨b1, 10, none⟩ = some (.int .i64 m.res.b) ∧ w'.cell? ⟨b1, 11, none⟩ = some (.int .i64 m.res.c)) (first | with_reducible exact ⟨c0, c1, c2, c3, c4, c5, c6, c7, c8, c9, c10, c11⟩ | with_reducible exact HKS.out _ HB3.out | with_reducible exact HKS.out _ HB4.out | go_keep)
    ((first
      | (go_at_call 97; (with_reducible refine (rnum_k1 m HK0.out _).mono ?_); rintro e w3 ⟨A3, n3, rfl, hr3, hB3⟩; have HB3 := Lib.hid (show Below w2.heap.size w2 w3 from ⟨hB3.os, hB3.tape, hB3.output, hB3.size, hB3.block⟩); have HR3 := Lib.hid hr3; clear hB3 hr3)
      | (go_at_call 96; have hcx := made_k1 m HK0.out A3 n3 w3 HR3.out; rw [← HK0.out] at hcx; (with_reducible refine hcx.mono ?_); clear hcx; rintro e w4 ⟨rfl, hB4⟩; have HB4 := Lib.hid (HB3.out.trans (hB4.mono HB3.out.size)); clear hB4; have hx4 := H2.out.2.1.below HB4.out H2.out.2.1.lt; have z4 := hx4.frozen; have l4 := hx4.lt; have y0 : w4.cell? ⟨b1 + 1, 0, none⟩ = some (.int .i64 0) := hx4.cell 0; have y1 : w4.cell? ⟨b1 + 1, 1, none⟩ = some (.int .i64 0) := hx4.cell 1; have y2 : w4.cell? ⟨b1 + 1, 2, none⟩ = some (.int .i64 0) := hx4.cell 2; have y3 : w4.cell? ⟨b1 + 1, 3, none⟩ = some (.int .i64 0) := hx4.cell 3; have y4 : w4.cell? ⟨b1 + 1, 4, none⟩ = some (.int .i64 0) := hx4.cell 4; have y5 : w4.cell? ⟨b1 + 1, 5, none⟩ = some (.int .i64 0) := hx4.cell 5; have y6 : w4.cell? ⟨b1 + 1, 6, none⟩ = some (.int .i64 0) := hx4.cell 6; have y7 : w4.cell? ⟨b1 + 1, 7, none⟩ = some (.int .i64 0) := hx4.cell 7; have y8 : w4.cell? ⟨b1 + 1, 8, none⟩ = some (.int .i64 0) := hx4.cell 8; have y9 : w4.cell? ⟨b1 + 1, 9, none⟩ = some (.int .i64 0) := hx4.cell 9; have y10 : w4.cell? ⟨b1 + 1, 10, none⟩ = some (.int .i64 0) := hx4.cell 10; have y11 : w4.cell? ⟨b1 + 1, 11, none⟩ = some (.int .i64 0) := hx4.cell 11; clear hx4)))
  all_goals
    go_wp2_with fail
    obtain ⟨hbz, hbe⟩ := lay12 (H2.out.2.1.below HB4.out H2.out.2.1.lt) HG.out (H2.out.2.2.trans (HB4.out.mono H2.out.2.2.size)) (.int .i64 (keepM m [4, 6, 9, 10, 11]).kind) (.int .i64 (keepM m [4, 6, 9, 10, 11]).frm) (.int .i64 (keepM m [4, 6, 9, 10, 11]).to_) (.int .i64 (keepM m [4, 6, 9, 10, 11]).epoch) (.int .i64 (keepM m [4, 6, 9, 10, 11]).inc) (.int .i64 (keepM m [4, 6, 9, 10, 11]).job) (.int .i64 (keepM m [4, 6, 9, 10, 11]).tick) (.int .i64 (keepM m [4, 6, 9, 10, 11]).prio) (.int .i64 (keepM m [4, 6, 9, 10, 11]).code) (.int .i64 (keepM m [4, 6, 9, 10, 11]).res.a) (.int .i64 (keepM m [4, 6, 9, 10, 11]).res.b) (.int .i64 (keepM m [4, 6, 9, 10, 11]).res.c)
    have HZ := Lib.hid hbe
    clear hbe
    generalize ((((((((((((w4.setCell ⟨b1 + 1, 0, none⟩ (.int .i64 (keepM m [4, 6, 9, 10, 11]).kind)).setCell ⟨b1 + 1, 1, none⟩ (.int .i64 (keepM m [4, 6, 9, 10, 11]).frm)).setCell ⟨b1 + 1, 2, none⟩ (.int .i64 (keepM m [4, 6, 9, 10, 11]).to_)).setCell ⟨b1 + 1, 3, none⟩ (.int .i64 (keepM m [4, 6, 9, 10, 11]).epoch)).setCell ⟨b1 + 1, 4, none⟩ (.int .i64 (keepM m [4, 6, 9, 10, 11]).inc)).setCell ⟨b1 + 1, 5, none⟩ (.int .i64 (keepM m [4, 6, 9, 10, 11]).job)).setCell ⟨b1 + 1, 6, none⟩ (.int .i64 (keepM m [4, 6, 9, 10, 11]).tick)).setCell ⟨b1 + 1, 7, none⟩ (.int .i64 (keepM m [4, 6, 9, 10, 11]).prio)).setCell ⟨b1 + 1, 8, none⟩ (.int .i64 (keepM m [4, 6, 9, 10, 11]).code)).setCell ⟨b1 + 1, 9, none⟩ (.int .i64 (keepM m [4, 6, 9, 10, 11]).res.a)).setCell ⟨b1 + 1, 10, none⟩ (.int .i64 (keepM m [4, 6, 9, 10, 11]).res.b)).setCell ⟨b1 + 1, 11, none⟩ (.int .i64 (keepM m [4, 6, 9, 10, 11]).res.c)) = wz at hbz HZ ⊢
    have d0 := hbz.cell 0
    have d1 := hbz.cell 1
    have d2 := hbz.cell 2
    have d3 := hbz.cell 3
    have d4 := hbz.cell 4
    have d5 := hbz.cell 5
    have d6 := hbz.cell 6
    have d7 := hbz.cell 7
    have d8 := hbz.cell 8
    have d9 := hbz.cell 9
    have d10 := hbz.cell 10
    have d11 := hbz.cell 11
    simp only [List.getElem?_toArray, List.getElem?_cons_zero, List.getElem?_cons_succ] at d0 d1 d2 d3 d4 d5 d6 d7 d8 d9 d10 d11
    refine bodyPost_ret (v := aggMsg (keepM m [4, 6, 9, 10, 11])) (by simp [results, Tryd.results77, go_sem, d0, d1, d2, d3, d4, d5, d6, d7, d8, d9, d10, d11]) rfl ⟨rfl, HZ.out⟩
set_option maxRecDepth 100000 in
set_option maxHeartbeats 6400000 in
theorem rpure_k2 (m : LMsg) (hk : m.kind = 2) (w : World) : Calls Tryd.prog 77 #[aggMsg m] w fun e w' => e = .returned (aggMsg (keepM m [3, 4, 6])) ∧ Below w.heap.size w w' := by
  have hs1 : (w.alloc (.cells (boxMsg m) 38)).heap.size = w.heap.size + 1 := by simp
  have h1 := (Blk.new w 38 (boxMsg m)).alloc (.cells #[.int .i64 0, .int .i64 0, .int .i64 0, .int .i64 0, .int .i64 0, .int .i64 0, .int .i64 0, .int .i64 0, .int .i64 0, .int .i64 0, .int .i64 0, .int .i64 0] 38)
  have h2 := Blk.new (w.alloc (.cells (boxMsg m) 38)) 38 #[.int .i64 0, .int .i64 0, .int .i64 0, .int .i64 0, .int .i64 0, .int .i64 0, .int .i64 0, .int .i64 0, .int .i64 0, .int .i64 0, .int .i64 0, .int .i64 0]
  rw [hs1] at h2
  have hB : Below w.heap.size w ((w.alloc (.cells (boxMsg m) 38)).alloc (.cells #[.int .i64 0, .int .i64 0, .int .i64 0, .int .i64 0, .int .i64 0, .int .i64 0, .int .i64 0, .int .i64 0, .int .i64 0, .int .i64 0, .int .i64 0, .int .i64 0] 38)) := ((Below.refl _ _).alloc (Nat.le_refl _) _).alloc (by simp) _
  have c0 : ((w.alloc (.cells (boxMsg m) 38)).alloc (.cells #[.int .i64 0, .int .i64 0, .int .i64 0, .int .i64 0, .int .i64 0, .int .i64 0, .int .i64 0, .int .i64 0, .int .i64 0, .int .i64 0, .int .i64 0, .int .i64 0] 38)).cell? ⟨w.heap.size, 0, none⟩ = some (.int .i64 2) := by rw [← hk]; exact (h1.cell 0).trans rfl
  have H0 := Lib.hid (And.intro h1 (And.intro h2 hB))
  have HK0 := Lib.hid hk
  clear hs1 h1 h2 hB hk
  go_enter Tryd.func77, Tryd.ntmps77
  go_wp2_with fail
  generalize (w.alloc (.cells (boxMsg m) 38)).alloc (.cells #[.int .i64 0, .int .i64 0, .int .i64 0, .int .i64 0, .int .i64 0, .int .i64 0, .int .i64 0, .int .i64 0, .int .i64 0, .int .i64 0, .int .i64 0, .int .i64 0] 38) = w1 at H0 c0 ⊢
  obtain ⟨b1, hb1⟩ : ∃ b1, w.heap.size = b1 := ⟨_, rfl⟩
  have h1 : Blk w1 b1 38 (boxMsg m) := by rw [← hb1]; exact H0.out.1
  have h2 : Blk w1 (b1 + 1) 38 #[.int .i64 0, .int .i64 0, .int .i64 0, .int .i64 0, .int .i64 0, .int .i64 0, .int .i64 0, .int .i64 0, .int .i64 0, .int .i64 0, .int .i64 0, .int .i64 0] := by rw [← hb1]; exact H0.out.2.1
  rw [hb1] at c0
  have HG := Lib.hid (show w.heap.size ≤ b1 + 1 by omega)
  try simp only [hb1]
  go_wp2_with fail
  (with_reducible refine (rnames_k2 w1).mono ?_)
  rintro e w2 ⟨rfl, hB2⟩
  have H2 := Lib.hid (And.intro (h1.below hB2 h1.lt) (And.intro (h2.below hB2 h2.lt) (H0.out.2.2.trans (hB2.mono H0.out.2.2.size))))
  clear h1 h2 hb1 H0 c0 hB2
  have z2 := H2.out.2.1.frozen
  have l2 := H2.out.2.1.lt
  have l1 := H2.out.1.lt
  have HKS : Hid (∀ W, Below w2.heap.size w2 W → (fun w' => w'.cell? ⟨b1, 0, none⟩ = some (.int .i64 m.kind) ∧ w'.cell? ⟨b1, 1, none⟩ = some (.int .i64 m.frm) ∧ w'.cell? ⟨b1, 2, none⟩ = some (.int .i64 m.to_) ∧ w'.cell? ⟨b1, 3, none⟩ = some (.int .i64 m.epoch) ∧ w'.cell? ⟨b1, 4, none⟩ = some (.int .i64 m.inc) ∧ w'.cell? ⟨b1, 5, none⟩ = some (.int .i64 m.job) ∧ w'.cell? ⟨b1, 6, none⟩ = some (.int .i64 m.tick) ∧ w'.cell? ⟨b1, 7, none⟩ = some (.int .i64 m.prio) ∧ w'.cell? ⟨b1, 8, none⟩ = some (.int .i64 m.code) ∧ w'.cell? ⟨b1, 9, none⟩ = some (.int .i64 m.res.a) ∧ w'.cell? ⟨b1, 10, none⟩ = some (.int .i64 m.res.b) ∧ w'.cell? ⟨b1, 11, none⟩ = some (.int .i64 m.res.c)) W) := Lib.hid (fun W hb => ⟨((H2.out.1.below hb H2.out.1.lt).cell 0).trans rfl, ((H2.out.1.below hb H2.out.1.lt).cell 1).trans rfl, ((H2.out.1.below hb H2.out.1.lt).cell 2).trans rfl, ((H2.out.1.below hb H2.out.1.lt).cell 3).trans rfl, ((H2.out.1.below hb H2.out.1.lt).cell 4).trans rfl, ((H2.out.1.below hb H2.out.1.lt).cell 5).trans rfl, ((H2.out.1.below hb H2.out.1.lt).cell 6).trans rfl, ((H2.out.1.below hb H2.out.1.lt).cell 7).trans rfl, ((H2.out.1.below hb H2.out.1.lt).cell 8).trans rfl, ((H2.out.1.below hb H2.out.1.lt).cell 9).trans rfl, ((H2.out.1.below hb H2.out.1.lt).cell 10).trans rfl, ((H2.out.1.below hb H2.out.1.lt).cell 11).trans rfl⟩)
  obtain ⟨c0, c1, c2, c3, c4, c5, c6, c7, c8, c9, c10, c11⟩ := HKS.out w2 (Below.refl _ _)
  go_wp2_with fail
  go_region_held3 (fun w' => w'.cell? ⟨b1, 0, none⟩ = some (.int .i64 m.kind) ∧ w'.cell? ⟨b1, 1, none⟩ = some (.int .i64 m.frm) ∧ w'.cell? ⟨b1, 2, none⟩ = some (.int .i64 m.to_) ∧ w'.cell? ⟨b1, 3, none⟩ = some (.int .i64 m.epoch) ∧ w'.cell? ⟨b1, 4, none⟩ = some (.int .i64 m.inc) ∧ w'.cell? ⟨b1, 5, none⟩ = some (.int .i64 m.job) ∧ w'.cell? ⟨b1, 6, none⟩ = some (.int .i64 m.tick) ∧ w'.cell? ⟨b1, 7, none⟩ = some (.int .i64 m.prio) ∧ w'.cell? ⟨b1, 8, none⟩ = some (.int .i64 m.code) ∧ w'.cell? ⟨b1, 9, none⟩ = some (.int .i64 m.res.a) ∧ w'.cell? ⟨b1, 10, none⟩ = some (.int .i64 m.res.b) ∧ w'.cell? ⟨b1, 11, none⟩ = some (.int .i64 m.res.c)) (first | with_reducible exact ⟨c0, c1, c2, c3, c4, c5, c6, c7, c8, c9, c10, c11⟩ | with_reducible exact HKS.out _ HB3.out | with_reducible exact HKS.out _ HB4.out | go_keep)
    ((first
      | (go_at_call 97; (with_reducible refine (rnum_k2 m HK0.out _).mono ?_); rintro e w3 ⟨A3, n3, rfl, hr3, hB3⟩; have HB3 := Lib.hid (show Below w2.heap.size w2 w3 from ⟨hB3.os, hB3.tape, hB3.output, hB3.size, hB3.block⟩); have HR3 := Lib.hid hr3; clear hB3 hr3)
      | (go_at_call 96; have hcx := made_k2 m HK0.out A3 n3 w3 HR3.out; rw [← HK0.out] at hcx; (with_reducible refine hcx.mono ?_); clear hcx; rintro e w4 ⟨rfl, hB4⟩; have HB4 := Lib.hid (HB3.out.trans (hB4.mono HB3.out.size)); clear hB4; have hx4 := H2.out.2.1.below HB4.out H2.out.2.1.lt; have z4 := hx4.frozen; have l4 := hx4.lt; have y0 : w4.cell? ⟨b1 + 1, 0, none⟩ = some (.int .i64 0) := hx4.cell 0; have y1 : w4.cell? ⟨b1 + 1, 1, none⟩ = some (.int .i64 0) := hx4.cell 1; have y2 : w4.cell? ⟨b1 + 1, 2, none⟩ = some (.int .i64 0) := hx4.cell 2; have y3 : w4.cell? ⟨b1 + 1, 3, none⟩ = some (.int .i64 0) := hx4.cell 3; have y4 : w4.cell? ⟨b1 + 1, 4, none⟩ = some (.int .i64 0) := hx4.cell 4; have y5 : w4.cell? ⟨b1 + 1, 5, none⟩ = some (.int .i64 0) := hx4.cell 5; have y6 : w4.cell? ⟨b1 + 1, 6, none⟩ = some (.int .i64 0) := hx4.cell 6; have y7 : w4.cell? ⟨b1 + 1, 7, none⟩ = some (.int .i64 0) := hx4.cell 7; have y8 : w4.cell? ⟨b1 + 1, 8, none⟩ = some (.int .i64 0) := hx4.cell 8; have y9 : w4.cell? ⟨b1 + 1, 9, none⟩ = some (.int .i64 0) := hx4.cell 9; have y10 : w4.cell? ⟨b1 + 1, 10, none⟩ = some (.int .i64 0) := hx4.cell 10; have y11 : w4.cell? ⟨b1 + 1, 11, none⟩ = some (.int .i64 0) := hx4.cell 11; clear hx4)))
  all_goals
    go_wp2_with fail
    obtain ⟨hbz, hbe⟩ := lay12 (H2.out.2.1.below HB4.out H2.out.2.1.lt) HG.out (H2.out.2.2.trans (HB4.out.mono H2.out.2.2.size)) (.int .i64 (keepM m [3, 4, 6]).kind) (.int .i64 (keepM m [3, 4, 6]).frm) (.int .i64 (keepM m [3, 4, 6]).to_) (.int .i64 (keepM m [3, 4, 6]).epoch) (.int .i64 (keepM m [3, 4, 6]).inc) (.int .i64 (keepM m [3, 4, 6]).job) (.int .i64 (keepM m [3, 4, 6]).tick) (.int .i64 (keepM m [3, 4, 6]).prio) (.int .i64 (keepM m [3, 4, 6]).code) (.int .i64 (keepM m [3, 4, 6]).res.a) (.int .i64 (keepM m [3, 4, 6]).res.b) (.int .i64 (keepM m [3, 4, 6]).res.c)
    have HZ := Lib.hid hbe
    clear hbe
    generalize ((((((((((((w4.setCell ⟨b1 + 1, 0, none⟩ (.int .i64 (keepM m [3, 4, 6]).kind)).setCell ⟨b1 + 1, 1, none⟩ (.int .i64 (keepM m [3, 4, 6]).frm)).setCell ⟨b1 + 1, 2, none⟩ (.int .i64 (keepM m [3, 4, 6]).to_)).setCell ⟨b1 + 1, 3, none⟩ (.int .i64 (keepM m [3, 4, 6]).epoch)).setCell ⟨b1 + 1, 4, none⟩ (.int .i64 (keepM m [3, 4, 6]).inc)).setCell ⟨b1 + 1, 5, none⟩ (.int .i64 (keepM m [3, 4, 6]).job)).setCell ⟨b1 + 1, 6, none⟩ (.int .i64 (keepM m [3, 4, 6]).tick)).setCell ⟨b1 + 1, 7, none⟩ (.int .i64 (keepM m [3, 4, 6]).prio)).setCell ⟨b1 + 1, 8, none⟩ (.int .i64 (keepM m [3, 4, 6]).code)).setCell ⟨b1 + 1, 9, none⟩ (.int .i64 (keepM m [3, 4, 6]).res.a)).setCell ⟨b1 + 1, 10, none⟩ (.int .i64 (keepM m [3, 4, 6]).res.b)).setCell ⟨b1 + 1, 11, none⟩ (.int .i64 (keepM m [3, 4, 6]).res.c)) = wz at hbz HZ ⊢
    have d0 := hbz.cell 0
    have d1 := hbz.cell 1
    have d2 := hbz.cell 2
    have d3 := hbz.cell 3
    have d4 := hbz.cell 4
    have d5 := hbz.cell 5
    have d6 := hbz.cell 6
    have d7 := hbz.cell 7
    have d8 := hbz.cell 8
    have d9 := hbz.cell 9
    have d10 := hbz.cell 10
    have d11 := hbz.cell 11
    simp only [List.getElem?_toArray, List.getElem?_cons_zero, List.getElem?_cons_succ] at d0 d1 d2 d3 d4 d5 d6 d7 d8 d9 d10 d11
    refine bodyPost_ret (v := aggMsg (keepM m [3, 4, 6])) (by simp [results, Tryd.results77, go_sem, d0, d1, d2, d3, d4, d5, d6, d7, d8, d9, d10, d11]) rfl ⟨rfl, HZ.out⟩
set_option maxRecDepth 100000 in
set_option maxHeartbeats 6400000 in
theorem rpure_k3 (m : LMsg) (hk : m.kind = 3) (w : World) : Calls Tryd.prog 77 #[aggMsg m] w fun e w' => e = .returned (aggMsg (keepM m [3, 4, 5])) ∧ Below w.heap.size w w' := by
  have hs1 : (w.alloc (.cells (boxMsg m) 38)).heap.size = w.heap.size + 1 := by simp
  have h1 := (Blk.new w 38 (boxMsg m)).alloc (.cells #[.int .i64 0, .int .i64 0, .int .i64 0, .int .i64 0, .int .i64 0, .int .i64 0, .int .i64 0, .int .i64 0, .int .i64 0, .int .i64 0, .int .i64 0, .int .i64 0] 38)
  have h2 := Blk.new (w.alloc (.cells (boxMsg m) 38)) 38 #[.int .i64 0, .int .i64 0, .int .i64 0, .int .i64 0, .int .i64 0, .int .i64 0, .int .i64 0, .int .i64 0, .int .i64 0, .int .i64 0, .int .i64 0, .int .i64 0]
  rw [hs1] at h2
  have hB : Below w.heap.size w ((w.alloc (.cells (boxMsg m) 38)).alloc (.cells #[.int .i64 0, .int .i64 0, .int .i64 0, .int .i64 0, .int .i64 0, .int .i64 0, .int .i64 0, .int .i64 0, .int .i64 0, .int .i64 0, .int .i64 0, .int .i64 0] 38)) := ((Below.refl _ _).alloc (Nat.le_refl _) _).alloc (by simp) _
  have c0 : ((w.alloc (.cells (boxMsg m) 38)).alloc (.cells #[.int .i64 0, .int .i64 0, .int .i64 0, .int .i64 0, .int .i64 0, .int .i64 0, .int .i64 0, .int .i64 0, .int .i64 0, .int .i64 0, .int .i64 0, .int .i64 0] 38)).cell? ⟨w.heap.size, 0, none⟩ = some (.int .i64 3) := by rw [← hk]; exact (h1.cell 0).trans rfl
  have H0 := Lib.hid (And.intro h1 (And.intro h2 hB))
  have HK0 := Lib.hid hk
  clear hs1 h1 h2 hB hk
  go_enter Tryd.func77, Tryd.ntmps77
  go_wp2_with fail
  generalize (w.alloc (.cells (boxMsg m) 38)).alloc (.cells #[.int .i64 0, .int .i64 0, .int .i64 0, .int .i64 0, .int .i64 0, .int .i64 0, .int .i64 0, .int .i64 0, .int .i64 0, .int .i64 0, .int .i64 0, .int .i64 0] 38) = w1 at H0 c0 ⊢
  obtain ⟨b1, hb1⟩ : ∃ b1, w.heap.size = b1 := ⟨_, rfl⟩
  have h1 : Blk w1 b1 38 (boxMsg m) := by rw [← hb1]; exact H0.out.1
  have h2 : Blk w1 (b1 + 1) 38 #[.int .i64 0, .int .i64 0, .int .i64 0, .int .i64 0, .int .i64 0, .int .i64 0, .int .i64 0, .int .i64 0, .int .i64 0, .int .i64 0, .int .i64 0, .int .i64 0] := by rw [← hb1]; exact H0.out.2.1
  rw [hb1] at c0
  have HG := Lib.hid (show w.heap.size ≤ b1 + 1 by omega)
  try simp only [hb1]
  go_wp2_with fail
  (with_reducible refine (rnames_k3 w1).mono ?_)
  rintro e w2 ⟨rfl, hB2⟩
  have H2 := Lib.hid (And.intro (h1.below hB2 h1.lt) (And.intro (h2.below hB2 h2.lt) (H0.out.2.2.trans (hB2.mono H0.out.2.2.size))))
  clear h1 h2 hb1 H0 c0 hB2
  have z2 := H2.out.2.1.frozen
  have l2 := H2.out.2.1.lt
  have l1 := H2.out.1.lt
  have HKS : Hid (∀ W, Below w2.heap.size w2 W → (fun w' => w'.cell? ⟨b1, 0, none⟩ = some (.int .i64 m.kind) ∧ w'.cell? ⟨b1, 1, none⟩ = some (.int .i64 m.frm) ∧ w'.cell? ⟨b1, 2, none⟩ = some (.int .i64 m.to_) ∧ w'.cell? ⟨b1, 3, none⟩ = some (.int .i64 m.epoch) ∧ w'.cell? ⟨b1, 4, none⟩ = some (.int .i64 m.inc) ∧ w'.cell? ⟨b1, 5, none⟩ = some (.int .i64 m.job) ∧ w'.cell? ⟨b1, 6, none⟩ = some (.int .i64 m.tick) ∧ w'.cell? ⟨b1, 7, none⟩ = some (.int .i64 m.prio) ∧ w'.cell? ⟨b1, 8, none⟩ = some (.int .i64 m.code) ∧ w'.cell? ⟨b1, 9, none⟩ = some (.int .i64 m.res.a) ∧ w'.cell? ⟨b1, 10, none⟩ = some (.int .i64 m.res.b) ∧ w'.cell? ⟨b1, 11, none⟩ = some (.int .i64 m.res.c)) W) := Lib.hid (fun W hb => ⟨((H2.out.1.below hb H2.out.1.lt).cell 0).trans rfl, ((H2.out.1.below hb H2.out.1.lt).cell 1).trans rfl, ((H2.out.1.below hb H2.out.1.lt).cell 2).trans rfl, ((H2.out.1.below hb H2.out.1.lt).cell 3).trans rfl, ((H2.out.1.below hb H2.out.1.lt).cell 4).trans rfl, ((H2.out.1.below hb H2.out.1.lt).cell 5).trans rfl, ((H2.out.1.below hb H2.out.1.lt).cell 6).trans rfl, ((H2.out.1.below hb H2.out.1.lt).cell 7).trans rfl, ((H2.out.1.below hb H2.out.1.lt).cell 8).trans rfl, ((H2.out.1.below hb H2.out.1.lt).cell 9).trans rfl, ((H2.out.1.below hb H2.out.1.lt).cell 10).trans rfl, ((H2.out.1.below hb H2.out.1.lt).cell 11).trans rfl⟩)
  obtain ⟨c0, c1, c2, c3, c4, c5, c6, c7, c8, c9, c10, c11⟩ := HKS.out w2 (Below.refl _ _)
  go_wp2_with fail
  go_region_held3 (fun w' => w'.cell? ⟨b1, 0, none⟩ = some (.int .i64 m.kind) ∧ w'.cell? ⟨b1, 1, none⟩ = some (.int .i64 m.frm) ∧ w'.cell? ⟨b1, 2, none⟩ = some (.int .i64 m.to_) ∧ w'.cell? ⟨b1, 3, none⟩ = some (.int .i64 m.epoch) ∧ w'.cell? ⟨b1, 4, none⟩ = some (.int .i64 m.inc) ∧ w'.cell? ⟨b1, 5, none⟩ = some (.int .i64 m.job) ∧ w'.cell? ⟨b1, 6, none⟩ = some (.int .i64 m.tick) ∧ w'.cell? ⟨b1, 7, none⟩ = some (.int .i64 m.prio) ∧ w'.cell? ⟨b1, 8, none⟩ = some (.int .i64 m.code) ∧ w'.cell? ⟨b1, 9, none⟩ = some (.int .i64 m.res.a) ∧ w'.cell? ⟨b1, 10, none⟩ = some (.int .i64 m.res.b) ∧ w'.cell? ⟨b1, 11, none⟩ = some (.int .i64 m.res.c)) (first | with_reducible exact ⟨c0, c1, c2, c3, c4, c5, c6, c7, c8, c9, c10, c11⟩ | with_reducible exact HKS.out _ HB3.out | with_reducible exact HKS.out _ HB4.out | go_keep)
    ((first
      | (go_at_call 97; (with_reducible refine (rnum_k3 m HK0.out _).mono ?_); rintro e w3 ⟨A3, n3, rfl, hr3, hB3⟩; have HB3 := Lib.hid (show Below w2.heap.size w2 w3 from ⟨hB3.os, hB3.tape, hB3.output, hB3.size, hB3.block⟩); have HR3 := Lib.hid hr3; clear hB3 hr3)
      | (go_at_call 96; have hcx := made_k3 m HK0.out A3 n3 w3 HR3.out; rw [← HK0.out] at hcx; (with_reducible refine hcx.mono ?_); clear hcx; rintro e w4 ⟨rfl, hB4⟩; have HB4 := Lib.hid (HB3.out.trans (hB4.mono HB3.out.size)); clear hB4; have hx4 := H2.out.2.1.below HB4.out H2.out.2.1.lt; have z4 := hx4.frozen; have l4 := hx4.lt; have y0 : w4.cell? ⟨b1 + 1, 0, none⟩ = some (.int .i64 0) := hx4.cell 0; have y1 : w4.cell? ⟨b1 + 1, 1, none⟩ = some (.int .i64 0) := hx4.cell 1; have y2 : w4.cell? ⟨b1 + 1, 2, none⟩ = some (.int .i64 0) := hx4.cell 2; have y3 : w4.cell? ⟨b1 + 1, 3, none⟩ = some (.int .i64 0) := hx4.cell 3; have y4 : w4.cell? ⟨b1 + 1, 4, none⟩ = some (.int .i64 0) := hx4.cell 4; have y5 : w4.cell? ⟨b1 + 1, 5, none⟩ = some (.int .i64 0) := hx4.cell 5; have y6 : w4.cell? ⟨b1 + 1, 6, none⟩ = some (.int .i64 0) := hx4.cell 6; have y7 : w4.cell? ⟨b1 + 1, 7, none⟩ = some (.int .i64 0) := hx4.cell 7; have y8 : w4.cell? ⟨b1 + 1, 8, none⟩ = some (.int .i64 0) := hx4.cell 8; have y9 : w4.cell? ⟨b1 + 1, 9, none⟩ = some (.int .i64 0) := hx4.cell 9; have y10 : w4.cell? ⟨b1 + 1, 10, none⟩ = some (.int .i64 0) := hx4.cell 10; have y11 : w4.cell? ⟨b1 + 1, 11, none⟩ = some (.int .i64 0) := hx4.cell 11; clear hx4)))
  all_goals
    go_wp2_with fail
    obtain ⟨hbz, hbe⟩ := lay12 (H2.out.2.1.below HB4.out H2.out.2.1.lt) HG.out (H2.out.2.2.trans (HB4.out.mono H2.out.2.2.size)) (.int .i64 (keepM m [3, 4, 5]).kind) (.int .i64 (keepM m [3, 4, 5]).frm) (.int .i64 (keepM m [3, 4, 5]).to_) (.int .i64 (keepM m [3, 4, 5]).epoch) (.int .i64 (keepM m [3, 4, 5]).inc) (.int .i64 (keepM m [3, 4, 5]).job) (.int .i64 (keepM m [3, 4, 5]).tick) (.int .i64 (keepM m [3, 4, 5]).prio) (.int .i64 (keepM m [3, 4, 5]).code) (.int .i64 (keepM m [3, 4, 5]).res.a) (.int .i64 (keepM m [3, 4, 5]).res.b) (.int .i64 (keepM m [3, 4, 5]).res.c)
    have HZ := Lib.hid hbe
    clear hbe
    generalize ((((((((((((w4.setCell ⟨b1 + 1, 0, none⟩ (.int .i64 (keepM m [3, 4, 5]).kind)).setCell ⟨b1 + 1, 1, none⟩ (.int .i64 (keepM m [3, 4, 5]).frm)).setCell ⟨b1 + 1, 2, none⟩ (.int .i64 (keepM m [3, 4, 5]).to_)).setCell ⟨b1 + 1, 3, none⟩ (.int .i64 (keepM m [3, 4, 5]).epoch)).setCell ⟨b1 + 1, 4, none⟩ (.int .i64 (keepM m [3, 4, 5]).inc)).setCell ⟨b1 + 1, 5, none⟩ (.int .i64 (keepM m [3, 4, 5]).job)).setCell ⟨b1 + 1, 6, none⟩ (.int .i64 (keepM m [3, 4, 5]).tick)).setCell ⟨b1 + 1, 7, none⟩ (.int .i64 (keepM m [3, 4, 5]).prio)).setCell ⟨b1 + 1, 8, none⟩ (.int .i64 (keepM m [3, 4, 5]).code)).setCell ⟨b1 + 1, 9, none⟩ (.int .i64 (keepM m [3, 4, 5]).res.a)).setCell ⟨b1 + 1, 10, none⟩ (.int .i64 (keepM m [3, 4, 5]).res.b)).setCell ⟨b1 + 1, 11, none⟩ (.int .i64 (keepM m [3, 4, 5]).res.c)) = wz at hbz HZ ⊢
    have d0 := hbz.cell 0
    have d1 := hbz.cell 1
    have d2 := hbz.cell 2
    have d3 := hbz.cell 3
    have d4 := hbz.cell 4
    have d5 := hbz.cell 5
    have d6 := hbz.cell 6
    have d7 := hbz.cell 7
    have d8 := hbz.cell 8
    have d9 := hbz.cell 9
    have d10 := hbz.cell 10
    have d11 := hbz.cell 11
    simp only [List.getElem?_toArray, List.getElem?_cons_zero, List.getElem?_cons_succ] at d0 d1 d2 d3 d4 d5 d6 d7 d8 d9 d10 d11
    refine bodyPost_ret (v := aggMsg (keepM m [3, 4, 5])) (by simp [results, Tryd.results77, go_sem, d0, d1, d2, d3, d4, d5, d6, d7, d8, d9, d10, d11]) rfl ⟨rfl, HZ.out⟩
set_option maxRecDepth 100000 in
set_option maxHeartbeats 6400000 in
theorem rpure_k4 (m : LMsg) (hk : m.kind = 4) (w : World) : Calls Tryd.prog 77 #[aggMsg m] w fun e w' => e = .returned (aggMsg (keepM m [3, 4, 5])) ∧ Below w.heap.size w w' := by
  have hs1 : (w.alloc (.cells (boxMsg m) 38)).heap.size = w.heap.size + 1 := by simp
  have h1 := (Blk.new w 38 (boxMsg m)).alloc (.cells #[.int .i64 0, .int .i64 0, .int .i64 0, .int .i64 0, .int .i64 0, .int .i64 0, .int .i64 0, .int .i64 0, .int .i64 0, .int .i64 0, .int .i64 0, .int .i64 0] 38)
  have h2 := Blk.new (w.alloc (.cells (boxMsg m) 38)) 38 #[.int .i64 0, .int .i64 0, .int .i64 0, .int .i64 0, .int .i64 0, .int .i64 0, .int .i64 0, .int .i64 0, .int .i64 0, .int .i64 0, .int .i64 0, .int .i64 0]
  rw [hs1] at h2
  have hB : Below w.heap.size w ((w.alloc (.cells (boxMsg m) 38)).alloc (.cells #[.int .i64 0, .int .i64 0, .int .i64 0, .int .i64 0, .int .i64 0, .int .i64 0, .int .i64 0, .int .i64 0, .int .i64 0, .int .i64 0, .int .i64 0, .int .i64 0] 38)) := ((Below.refl _ _).alloc (Nat.le_refl _) _).alloc (by simp) _
  have c0 : ((w.alloc (.cells (boxMsg m) 38)).alloc (.cells #[.int .i64 0, .int .i64 0, .int .i64 0, .int .i64 0, .int .i64 0, .int .i64 0, .int .i64 0, .int .i64 0, .int .i64 0, .int .i64 0, .int .i64 0, .int .i64 0] 38)).cell? ⟨w.heap.size, 0, none⟩ = some (.int .i64 4) := by rw [← hk]; exact (h1.cell 0).trans rfl
  have H0 := Lib.hid (And.intro h1 (And.intro h2 hB))
  have HK0 := Lib.hid hk
  clear hs1 h1 h2 hB hk
  go_enter Tryd.func77, Tryd.ntmps77
  go_wp2_with fail
  generalize (w.alloc (.cells (boxMsg m) 38)).alloc (.cells #[.int .i64 0, .int .i64 0, .int .i64 0, .int .i64 0, .int .i64 0, .int .i64 0, .int .i64 0, .int .i64 0, .int .i64 0, .int .i64 0, .int .i64 0, .int .i64 0] 38) = w1 at H0 c0 ⊢
  obtain ⟨b1, hb1⟩ : ∃ b1, w.heap.size = b1 := ⟨_, rfl⟩
  have h1 : Blk w1 b1 38 (boxMsg m) := by rw [← hb1]; exact H0.out.1
  have h2 : Blk w1 (b1 + 1) 38 #[.int .i64 0, .int .i64 0, .int .i64 0, .int .i64 0, .int .i64 0, .int .i64 0, .int .i64 0, .int .i64 0, .int .i64 0, .int .i64 0, .int .i64 0, .int .i64 0] := by rw [← hb1]; exact H0.out.2.1
  rw [hb1] at c0
  have HG := Lib.hid (show w.heap.size ≤ b1 + 1 by omega)
  try simp only [hb1]
  go_wp2_with fail
  (with_reducible refine (rnames_k4 w1).mono ?_)
  rintro e w2 ⟨rfl, hB2⟩
  have H2 := Lib.hid (And.intro (h1.below hB2 h1.lt) (And.intro (h2.below hB2 h2.lt) (H0.out.2.2.trans (hB2.mono H0.out.2.2.size))))
  clear h1 h2 hb1 H0 c0 hB2
  have z2 := H2.out.2.1.frozen
  have l2 := H2.out.2.1.lt
  have l1 := H2.out.1.lt
  have HKS : Hid (∀ W, Below w2.heap.size w2 W → (fun w' => w'.cell? ⟨b1, 0, none⟩ = some (.int .i64 m.kind) ∧ w'.cell? ⟨b1, 1, none⟩ = some (.int .i64 m.frm) ∧ w'.cell? ⟨b1, 2, none⟩ = some (.int .i64 m.to_) ∧ w'.cell? ⟨b1, 3, none⟩ = some (.int .i64 m.epoch) ∧ w'.cell? ⟨b1, 4, none⟩ = some (.int .i64 m.inc) ∧ w'.cell? ⟨b1, 5, none⟩ = some (.int .i64 m.job) ∧ w'.cell? ⟨b1, 6, none⟩ = some (.int .i64 m.tick) ∧ w'.cell? ⟨b1, 7, none⟩ = some (.int .i64 m.prio) ∧ w'.cell? ⟨b1, 8, none⟩ = some (.int .i64 m.code) ∧ w'.cell? ⟨b1, 9, none⟩ = some (.int .i64 m.res.a) ∧ w'.cell? ⟨b1, 10, none⟩ = some (.int .i64 m.res.b) ∧ w'.cell? ⟨b1, 11, none⟩ = some (.int .i64 m.res.c)) W) := Lib.hid (fun W hb => ⟨((H2.out.1.below hb H2.out.1.lt).cell 0).trans rfl, ((H2.out.1.below hb H2.out.1.lt).cell 1).trans rfl, ((H2.out.1.below hb H2.out.1.lt).cell 2).trans rfl, ((H2.out.1.below hb H2.out.1.lt).cell 3).trans rfl, ((H2.out.1.below hb H2.out.1.lt).cell 4).trans rfl, ((H2.out.1.below hb H2.out.1.lt).cell 5).trans rfl, ((H2.out.1.below hb H2.out.1.lt).cell 6).trans rfl, ((H2.out.1.below hb H2.out.1.lt).cell 7).trans rfl, ((H2.out.1.below hb H2.out.1.lt).cell 8).trans rfl, ((H2.out.1.below hb H2.out.1.lt).cell 9).trans rfl, ((H2.out.1.below hb H2.out.1.lt).cell 10).trans rfl, ((H2.out.1.below hb H2.out.1.lt).cell 11).trans rfl⟩)
  obtain ⟨c0, c1, c2, c3, c4, c5, c6, c7, c8, c9, c10, c11⟩ := HKS.out w2 (Below.refl _ _)
  go_wp2_with fail
  go_region_held3 (fun w' => w'.cell? ⟨b1, 0, none⟩ = some (.int .i64 m.kind) ∧ w'.cell? ⟨b1, 1, none⟩ = some (.int .i64 m.frm) ∧ w'.cell? ⟨b1, 2, none⟩ = some (.int .i64 m.to_) ∧ w'.cell? ⟨b1, 3, none⟩ = some (.int .i64 m.epoch) ∧ w'.cell? ⟨b1, 4, none⟩ = some (.int .i64 m.inc) ∧ w'.cell? ⟨b1, 5, none⟩ = some (.int .i64 m.job) ∧ w'.cell? ⟨b1, 6, none⟩ = some (.int .i64 m.tick) ∧ w'.cell? ⟨b1, 7, none⟩ = some (.int .i64 m.prio) ∧ w'.cell? ⟨b1, 8, none⟩ = some (.int .i64 m.code) ∧ w'.cell? ⟨b1, 9, none⟩ = some (.int .i64 m.res.a) ∧ w'.cell? ⟨b1, 10, none⟩ = some (.int .i64 m.res.b) ∧ w'.cell? ⟨b1, 11, none⟩ = some (.int .i64 m.res.c)) (first | with_reducible exact ⟨c0, c1, c2, c3, c4, c5, c6, c7, c8, c9, c10, c11⟩ | with_reducible exact HKS.out _ HB3.out | with_reducible exact HKS.out _ HB4.out | go_keep)
    ((first
      | (go_at_call 97; (with_reducible refine (rnum_k4 m HK0.out _).mono ?_); rintro e w3 ⟨A3, n3, rfl, hr3, hB3⟩; have HB3 := Lib.hid (show Below w2.heap.size w2 w3 from ⟨hB3.os, hB3.tape, hB3.output, hB3.size, hB3.block⟩); have HR3 := Lib.hid hr3; clear hB3 hr3)
      | (go_at_call 96; have hcx := made_k4 m HK0.out A3 n3 w3 HR3.out; rw [← HK0.out] at hcx; (with_reducible refine hcx.mono ?_); clear hcx; rintro e w4 ⟨rfl, hB4⟩; have HB4 := Lib.hid (HB3.out.trans (hB4.mono HB3.out.size)); clear hB4; have hx4 := H2.out.2.1.below HB4.out H2.out.2.1.lt; have z4 := hx4.frozen; have l4 := hx4.lt; have y0 : w4.cell? ⟨b1 + 1, 0, none⟩ = some (.int .i64 0) := hx4.cell 0; have y1 : w4.cell? ⟨b1 + 1, 1, none⟩ = some (.int .i64 0) := hx4.cell 1; have y2 : w4.cell? ⟨b1 + 1, 2, none⟩ = some (.int .i64 0) := hx4.cell 2; have y3 : w4.cell? ⟨b1 + 1, 3, none⟩ = some (.int .i64 0) := hx4.cell 3; have y4 : w4.cell? ⟨b1 + 1, 4, none⟩ = some (.int .i64 0) := hx4.cell 4; have y5 : w4.cell? ⟨b1 + 1, 5, none⟩ = some (.int .i64 0) := hx4.cell 5; have y6 : w4.cell? ⟨b1 + 1, 6, none⟩ = some (.int .i64 0) := hx4.cell 6; have y7 : w4.cell? ⟨b1 + 1, 7, none⟩ = some (.int .i64 0) := hx4.cell 7; have y8 : w4.cell? ⟨b1 + 1, 8, none⟩ = some (.int .i64 0) := hx4.cell 8; have y9 : w4.cell? ⟨b1 + 1, 9, none⟩ = some (.int .i64 0) := hx4.cell 9; have y10 : w4.cell? ⟨b1 + 1, 10, none⟩ = some (.int .i64 0) := hx4.cell 10; have y11 : w4.cell? ⟨b1 + 1, 11, none⟩ = some (.int .i64 0) := hx4.cell 11; clear hx4)))
  all_goals
    go_wp2_with fail
    obtain ⟨hbz, hbe⟩ := lay12 (H2.out.2.1.below HB4.out H2.out.2.1.lt) HG.out (H2.out.2.2.trans (HB4.out.mono H2.out.2.2.size)) (.int .i64 (keepM m [3, 4, 5]).kind) (.int .i64 (keepM m [3, 4, 5]).frm) (.int .i64 (keepM m [3, 4, 5]).to_) (.int .i64 (keepM m [3, 4, 5]).epoch) (.int .i64 (keepM m [3, 4, 5]).inc) (.int .i64 (keepM m [3, 4, 5]).job) (.int .i64 (keepM m [3, 4, 5]).tick) (.int .i64 (keepM m [3, 4, 5]).prio) (.int .i64 (keepM m [3, 4, 5]).code) (.int .i64 (keepM m [3, 4, 5]).res.a) (.int .i64 (keepM m [3, 4, 5]).res.b) (.int .i64 (keepM m [3, 4, 5]).res.c)
    have HZ := Lib.hid hbe
    clear hbe
    generalize ((((((((((((w4.setCell ⟨b1 + 1, 0, none⟩ (.int .i64 (keepM m [3, 4, 5]).kind)).setCell ⟨b1 + 1, 1, none⟩ (.int .i64 (keepM m [3, 4, 5]).frm)).setCell ⟨b1 + 1, 2, none⟩ (.int .i64 (keepM m [3, 4, 5]).to_)).setCell ⟨b1 + 1, 3, none⟩ (.int .i64 (keepM m [3, 4, 5]).epoch)).setCell ⟨b1 + 1, 4, none⟩ (.int .i64 (keepM m [3, 4, 5]).inc)).setCell ⟨b1 + 1, 5, none⟩ (.int .i64 (keepM m [3, 4, 5]).job)).setCell ⟨b1 + 1, 6, none⟩ (.int .i64 (keepM m [3, 4, 5]).tick)).setCell ⟨b1 + 1, 7, none⟩ (.int .i64 (keepM m [3, 4, 5]).prio)).setCell ⟨b1 + 1, 8, none⟩ (.int .i64 (keepM m [3, 4, 5]).code)).setCell ⟨b1 + 1, 9, none⟩ (.int .i64 (keepM m [3, 4, 5]).res.a)).setCell ⟨b1 + 1, 10, none⟩ (.int .i64 (keepM m [3, 4, 5]).res.b)).setCell ⟨b1 + 1, 11, none⟩ (.int .i64 (keepM m [3, 4, 5]).res.c)) = wz at hbz HZ ⊢
    have d0 := hbz.cell 0
    have d1 := hbz.cell 1
    have d2 := hbz.cell 2
    have d3 := hbz.cell 3
    have d4 := hbz.cell 4
    have d5 := hbz.cell 5
    have d6 := hbz.cell 6
    have d7 := hbz.cell 7
    have d8 := hbz.cell 8
    have d9 := hbz.cell 9
    have d10 := hbz.cell 10
    have d11 := hbz.cell 11
    simp only [List.getElem?_toArray, List.getElem?_cons_zero, List.getElem?_cons_succ] at d0 d1 d2 d3 d4 d5 d6 d7 d8 d9 d10 d11
    refine bodyPost_ret (v := aggMsg (keepM m [3, 4, 5])) (by simp [results, Tryd.results77, go_sem, d0, d1, d2, d3, d4, d5, d6, d7, d8, d9, d10, d11]) rfl ⟨rfl, HZ.out⟩
set_option maxRecDepth 100000 in
set_option maxHeartbeats 6400000 in
theorem rpure_k5 (m : LMsg) (hk : m.kind = 5) (w : World) : Calls Tryd.prog 77 #[aggMsg m] w fun e w' => e = .returned (aggMsg (keepM m [4, 5])) ∧ Below w.heap.size w w' := by
  have hs1 : (w.alloc (.cells (boxMsg m) 38)).heap.size = w.heap.size + 1 := by simp
  have h1 := (Blk.new w 38 (boxMsg m)).alloc (.cells #[.int .i64 0, .int .i64 0, .int .i64 0, .int .i64 0, .int .i64 0, .int .i64 0, .int .i64 0, .int .i64 0, .int .i64 0, .int .i64 0, .int .i64 0, .int .i64 0] 38)
  have h2 := Blk.new (w.alloc (.cells (boxMsg m) 38)) 38 #[.int .i64 0, .int .i64 0, .int .i64 0, .int .i64 0, .int .i64 0, .int .i64 0, .int .i64 0, .int .i64 0, .int .i64 0, .int .i64 0, .int .i64 0, .int .i64 0]
  rw [hs1] at h2
  have hB : Below w.heap.size w ((w.alloc (.cells (boxMsg m) 38)).alloc (.cells #[.int .i64 0, .int .i64 0, .int .i64 0, .int .i64 0, .int .i64 0, .int .i64 0, .int .i64 0, .int .i64 0, .int .i64 0, .int .i64 0, .int .i64 0, .int .i64 0] 38)) := ((Below.refl _ _).alloc (Nat.le_refl _) _).alloc (by simp) _
  have c0 : ((w.alloc (.cells (boxMsg m) 38)).alloc (.cells #[.int .i64 0, .int .i64 0, .int .i64 0, .int .i64 0, .int .i64 0, .int .i64 0, .int .i64 0, .int .i64 0, .int .i64 0, .int .i64 0, .int .i64 0, .int .i64 0] 38)).cell? ⟨w.heap.size, 0, none⟩ = some (.int .i64 5) := by rw [← hk]; exact (h1.cell 0).trans rfl
  have H0 := Lib.hid (And.intro h1 (And.intro h2 hB))
  have HK0 := Lib.hid hk
  clear hs1 h1 h2 hB hk
  go_enter Tryd.func77, Tryd.ntmps77
  go_wp2_with fail
  generalize (w.alloc (.cells (boxMsg m) 38)).alloc (.cells #[.int .i64 0, .int .i64 0, .int .i64 0, .int .i64 0, .int .i64 0, .int .i64 0, .int .i64 0, .int .i64 0, .int .i64 0, .int .i64 0, .int .i64 0, .int .i64 0] 38) = w1 at H0 c0 ⊢
  obtain ⟨b1, hb1⟩ : ∃ b1, w.heap.size = b1 := ⟨_, rfl⟩
  have h1 : Blk w1 b1 38 (boxMsg m) := by rw [← hb1]; exact H0.out.1
  have h2 : Blk w1 (b1 + 1) 38 #[.int .i64 0, .int .i64 0, .int .i64 0, .int .i64 0, .int .i64 0, .int .i64 0, .int .i64 0, .int .i64 0, .int .i64 0, .int .i64 0, .int .i64 0, .int .i64 0] := by rw [← hb1]; exact H0.out.2.1
  rw [hb1] at c0
  have HG := Lib.hid (show w.heap.size ≤ b1 + 1 by omega)
  try simp only [hb1]
  go_wp2_with fail
  (with_reducible refine (rnames_k5 w1).mono ?_)
  rintro e w2 ⟨rfl, hB2⟩
  have H2 := Lib.hid (And.intro (h1.below hB2 h1.lt) (And.intro (h2.below hB2 h2.lt) (H0.out.2.2.trans (hB2.mono H0.out.2.2.size))))
  clear h1 h2 hb1 H0 c0 hB2
  have z2 := H2.out.2.1.frozen
  have l2 := H2.out.2.1.lt
  have l1 := H2.out.1.lt
  have HKS : Hid (∀ W, Below w2.heap.size w2 W → (fun w' => w'.cell? ⟨b1, 0, none⟩ = some (.int .i64 m.kind) ∧ w'.cell? ⟨b1, 1, none⟩ = some (.int .i64 m.frm) ∧ w'.cell? ⟨b1, 2, none⟩ = some (.int .i64 m.to_) ∧ w'.cell? ⟨b1, 3, none⟩ = some (.int .i64 m.epoch) ∧ w'.cell? ⟨b1, 4, none⟩ = some (.int .i64 m.inc) ∧ w'.cell? ⟨b1, 5, none⟩ = some (.int .i64 m.job) ∧ w'.cell? ⟨b1, 6, none⟩ = some (.int .i64 m.tick) ∧ w'.cell? ⟨b1, 7, none⟩ = some (.int .i64 m.prio) ∧ w'.cell? ⟨b1, 8, none⟩ = some (.int .i64 m.code) ∧ w'.cell? ⟨b1, 9, none⟩ = some (.int .i64 m.res.a) ∧ w'.cell? ⟨b1, 10, none⟩ = some (.int .i64 m.res.b) ∧ w'.cell? ⟨b1, 11, none⟩ = some (.int .i64 m.res.c)) W) := Lib.hid (fun W hb => ⟨((H2.out.1.below hb H2.out.1.lt).cell 0).trans rfl, ((H2.out.1.below hb H2.out.1.lt).cell 1).trans rfl, ((H2.out.1.below hb H2.out.1.lt).cell 2).trans rfl, ((H2.out.1.below hb H2.out.1.lt).cell 3).trans rfl, ((H2.out.1.below hb H2.out.1.lt).cell 4).trans rfl, ((H2.out.1.below hb H2.out.1.lt).cell 5).trans rfl, ((H2.out.1.below hb H2.out.1.lt).cell 6).trans rfl, ((H2.out.1.below hb H2.out.1.lt).cell 7).trans rfl, ((H2.out.1.below hb H2.out.1.lt).cell 8).trans rfl, ((H2.out.1.below hb H2.out.1.lt).cell 9).trans rfl, ((H2.out.1.below hb H2.out.1.lt).cell 10).trans rfl, ((H2.out.1.below hb H2.out.1.lt).cell 11).trans rfl⟩)
  obtain ⟨c0, c1, c2, c3, c4, c5, c6, c7, c8, c9, c10, c11⟩ := HKS.out w2 (Below.refl _ _)
  go_wp2_with fail
  go_region_held3 (fun w' => w'.cell? ⟨b1, 0, none⟩ = some (.int .i64 m.kind) ∧ w'.cell? ⟨b1, 1, none⟩ = some (.int .i64 m.frm) ∧ w'.cell? ⟨b1, 2, none⟩ = some (.int .i64 m.to_) ∧ w'.cell? ⟨b1, 3, none⟩ = some (.int .i64 m.epoch) ∧ w'.cell? ⟨b1, 4, none⟩ = some (.int .i64 m.inc) ∧ w'.cell? ⟨b1, 5, none⟩ = some (.int .i64 m.job) ∧ w'.cell? ⟨b1, 6, none⟩ = some (.int .i64 m.tick) ∧ w'.cell? ⟨b1, 7, none⟩ = some (.int .i64 m.prio) ∧ w'.cell? ⟨b1, 8, none⟩ = some (.int .i64 m.code) ∧ w'.cell? ⟨b1, 9, none⟩ = some (.int .i64 m.res.a) ∧ w'.cell? ⟨b1, 10, none⟩ = some (.int .i64 m.res.b) ∧ w'.cell? ⟨b1, 11, none⟩ = some (.int .i64 m.res.c)) (first | with_reducible exact ⟨c0, c1, c2, c3, c4, c5, c6, c7, c8, c9, c10, c11⟩ | with_reducible exact HKS.out _ HB3.out | with_reducible exact HKS.out _ HB4.out | go_keep)
    ((first
      | (go_at_call 97; (with_reducible refine (rnum_k5 m HK0.out _).mono ?_); rintro e w3 ⟨A3, n3, rfl, hr3, hB3⟩; have HB3 := Lib.hid (show Below w2.heap.size w2 w3 from ⟨hB3.os, hB3.tape, hB3.output, hB3.size, hB3.block⟩); have HR3 := Lib.hid hr3; clear hB3 hr3)
      | (go_at_call 96; have hcx := made_k5 m HK0.out A3 n3 w3 HR3.out; rw [← HK0.out] at hcx; (with_reducible refine hcx.mono ?_); clear hcx; rintro e w4 ⟨rfl, hB4⟩; have HB4 := Lib.hid (HB3.out.trans (hB4.mono HB3.out.size)); clear hB4; have hx4 := H2.out.2.1.below HB4.out H2.out.2.1.lt; have z4 := hx4.frozen; have l4 := hx4.lt; have y0 : w4.cell? ⟨b1 + 1, 0, none⟩ = some (.int .i64 0) := hx4.cell 0; have y1 : w4.cell? ⟨b1 + 1, 1, none⟩ = some (.int .i64 0) := hx4.cell 1; have y2 : w4.cell? ⟨b1 + 1, 2, none⟩ = some (.int .i64 0) := hx4.cell 2; have y3 : w4.cell? ⟨b1 + 1, 3, none⟩ = some (.int .i64 0) := hx4.cell 3; have y4 : w4.cell? ⟨b1 + 1, 4, none⟩ = some (.int .i64 0) := hx4.cell 4; have y5 : w4.cell? ⟨b1 + 1, 5, none⟩ = some (.int .i64 0) := hx4.cell 5; have y6 : w4.cell? ⟨b1 + 1, 6, none⟩ = some (.int .i64 0) := hx4.cell 6; have y7 : w4.cell? ⟨b1 + 1, 7, none⟩ = some (.int .i64 0) := hx4.cell 7; have y8 : w4.cell? ⟨b1 + 1, 8, none⟩ = some (.int .i64 0) := hx4.cell 8; have y9 : w4.cell? ⟨b1 + 1, 9, none⟩ = some (.int .i64 0) := hx4.cell 9; have y10 : w4.cell? ⟨b1 + 1, 10, none⟩ = some (.int .i64 0) := hx4.cell 10; have y11 : w4.cell? ⟨b1 + 1, 11, none⟩ = some (.int .i64 0) := hx4.cell 11; clear hx4)))
  all_goals
    go_wp2_with fail
    obtain ⟨hbz, hbe⟩ := lay12 (H2.out.2.1.below HB4.out H2.out.2.1.lt) HG.out (H2.out.2.2.trans (HB4.out.mono H2.out.2.2.size)) (.int .i64 (keepM m [4, 5]).kind) (.int .i64 (keepM m [4, 5]).frm) (.int .i64 (keepM m [4, 5]).to_) (.int .i64 (keepM m [4, 5]).epoch) (.int .i64 (keepM m [4, 5]).inc) (.int .i64 (keepM m [4, 5]).job) (.int .i64 (keepM m [4, 5]).tick) (.int .i64 (keepM m [4, 5]).prio) (.int .i64 (keepM m [4, 5]).code) (.int .i64 (keepM m [4, 5]).res.a) (.int .i64 (keepM m [4, 5]).res.b) (.int .i64 (keepM m [4, 5]).res.c)
    have HZ := Lib.hid hbe
    clear hbe
    generalize ((((((((((((w4.setCell ⟨b1 + 1, 0, none⟩ (.int .i64 (keepM m [4, 5]).kind)).setCell ⟨b1 + 1, 1, none⟩ (.int .i64 (keepM m [4, 5]).frm)).setCell ⟨b1 + 1, 2, none⟩ (.int .i64 (keepM m [4, 5]).to_)).setCell ⟨b1 + 1, 3, none⟩ (.int .i64 (keepM m [4, 5]).epoch)).setCell ⟨b1 + 1, 4, none⟩ (.int .i64 (keepM m [4, 5]).inc)).setCell ⟨b1 + 1, 5, none⟩ (.int .i64 (keepM m [4, 5]).job)).setCell ⟨b1 + 1, 6, none⟩ (.int .i64 (keepM m [4, 5]).tick)).setCell ⟨b1 + 1, 7, none⟩ (.int .i64 (keepM m [4, 5]).prio)).setCell ⟨b1 + 1, 8, none⟩ (.int .i64 (keepM m [4, 5]).code)).setCell ⟨b1 + 1, 9, none⟩ (.int .i64 (keepM m [4, 5]).res.a)).setCell ⟨b1 + 1, 10, none⟩ (.int .i64 (keepM m [4, 5]).res.b)).setCell ⟨b1 + 1, 11, none⟩ (.int .i64 (keepM m [4, 5]).res.c)) = wz at hbz HZ ⊢
    have d0 := hbz.cell 0
    have d1 := hbz.cell 1
    have d2 := hbz.cell 2
    have d3 := hbz.cell 3
    have d4 := hbz.cell 4
    have d5 := hbz.cell 5
    have d6 := hbz.cell 6
    have d7 := hbz.cell 7
    have d8 := hbz.cell 8
    have d9 := hbz.cell 9
    have d10 := hbz.cell 10
    have d11 := hbz.cell 11
    simp only [List.getElem?_toArray, List.getElem?_cons_zero, List.getElem?_cons_succ] at d0 d1 d2 d3 d4 d5 d6 d7 d8 d9 d10 d11
    refine bodyPost_ret (v := aggMsg (keepM m [4, 5])) (by simp [results, Tryd.results77, go_sem, d0, d1, d2, d3, d4, d5, d6, d7, d8, d9, d10, d11]) rfl ⟨rfl, HZ.out⟩
set_option maxRecDepth 100000 in
set_option maxHeartbeats 6400000 in
theorem rpure_k6 (m : LMsg) (hk : m.kind = 6) (w : World) : Calls Tryd.prog 77 #[aggMsg m] w fun e w' => e = .returned (aggMsg (keepM m [5, 7, 9, 10, 11])) ∧ Below w.heap.size w w' := by
  have hs1 : (w.alloc (.cells (boxMsg m) 38)).heap.size = w.heap.size + 1 := by simp
  have h1 := (Blk.new w 38 (boxMsg m)).alloc (.cells #[.int .i64 0, .int .i64 0, .int .i64 0, .int .i64 0, .int .i64 0, .int .i64 0, .int .i64 0, .int .i64 0, .int .i64 0, .int .i64 0, .int .i64 0, .int .i64 0] 38)
  have h2 := Blk.new (w.alloc (.cells (boxMsg m) 38)) 38 #[.int .i64 0, .int .i64 0, .int .i64 0, .int .i64 0, .int .i64 0, .int .i64 0, .int .i64 0, .int .i64 0, .int .i64 0, .int .i64 0, .int .i64 0, .int .i64 0]
  rw [hs1] at h2
  have hB : Below w.heap.size w ((w.alloc (.cells (boxMsg m) 38)).alloc (.cells #[.int .i64 0, .int .i64 0, .int .i64 0, .int .i64 0, .int .i64 0, .int .i64 0, .int .i64 0, .int .i64 0, .int .i64 0, .int .i64 0, .int .i64 0, .int .i64 0] 38)) := ((Below.refl _ _).alloc (Nat.le_refl _) _).alloc (by simp) _
  have c0 : ((w.alloc (.cells (boxMsg m) 38)).alloc (.cells #[.int .i64 0, .int .i64 0, .int .i64 0, .int .i64 0, .int .i64 0, .int .i64 0, .int .i64 0, .int .i64 0, .int .i64 0, .int .i64 0, .int .i64 0, .int .i64 0] 38)).cell? ⟨w.heap.size, 0, none⟩ = some (.int .i64 6) := by rw [← hk]; exact (h1.cell 0).trans rfl
  have H0 := Lib.hid (And.intro h1 (And.intro h2 hB))
  have HK0 := Lib.hid hk
  clear hs1 h1 h2 hB hk
  go_enter Tryd.func77, Tryd.ntmps77
  go_wp2_with fail
  generalize (w.alloc (.cells (boxMsg m) 38)).alloc (.cells #[.int .i64 0, .int .i64 0, .int .i64 0, .int .i64 0, .int .i64 0, .int .i64 0, .int .i64 0, .int .i64 0, .int .i64 0, .int .i64 0, .int .i64 0, .int .i64 0] 38) = w1 at H0 c0 ⊢
  obtain ⟨b1, hb1⟩ : ∃ b1, w.heap.size = b1 := ⟨_, rfl⟩
  have h1 : Blk w1 b1 38 (boxMsg m) := by rw [← hb1]; exact H0.out.1
  have h2 : Blk w1 (b1 + 1) 38 #[.int .i64 0, .int .i64 0, .int .i64 0, .int .i64 0, .int .i64 0, .int .i64 0, .int .i64 0, .int .i64 0, .int .i64 0, .int .i64 0, .int .i64 0, .int .i64 0] := by rw [← hb1]; exact H0.out.2.1
  rw [hb1] at c0
  have HG := Lib.hid (show w.heap.size ≤ b1 + 1 by omega)
  try simp only [hb1]
  go_wp2_with fail
  (with_reducible refine (rnames_k6 w1).mono ?_)
  rintro e w2 ⟨rfl, hB2⟩
  have H2 := Lib.hid (And.intro (h1.below hB2 h1.lt) (And.intro (h2.below hB2 h2.lt) (H0.out.2.2.trans (hB2.mono H0.out.2.2.size))))
  clear h1 h2 hb1 H0 c0 hB2
  have z2 := H2.out.2.1.frozen
  have l2 := H2.out.2.1.lt
  have l1 := H2.out.1.lt
  have HKS : Hid (∀ W, Below w2.heap.size w2 W → (fun w' => w'.cell? ⟨b1, 0, none⟩ = some (.int .i64 m.kind) ∧ w'.cell? ⟨b1, 1, none⟩ = some (.int .i64 m.frm) ∧ w'.cell? ⟨b1, 2, none⟩ = some (.int .i64 m.to_) ∧ w'.cell? ⟨b1, 3, none⟩ = some (.int .i64 m.epoch) ∧ w'.cell? ⟨b1, 4, none⟩ = some (.int .i64 m.inc) ∧ w'.cell? ⟨b1, 5, none⟩ = some (.int .i64 m.job) ∧ w'.cell? ⟨b1, 6, none⟩ = some (.int .i64 m.tick) ∧ w'.cell? ⟨b1, 7, none⟩ = some (.int .i64 m.prio) ∧ w'.cell? ⟨b1, 8, none⟩ = some (.int .i64 m.code) ∧ w'.cell? ⟨b1, 9, none⟩ = some (.int .i64 m.res.a) ∧ w'.cell? ⟨b1, 10, none⟩ = some (.int .i64 m.res.b) ∧ w'.cell? ⟨b1, 11, none⟩ = some (.int .i64 m.res.c)) W) := Lib.hid (fun W hb => ⟨((H2.out.1.below hb H2.out.1.lt).cell 0).trans rfl, ((H2.out.1.below hb H2.out.1.lt).cell 1).trans rfl, ((H2.out.1.below hb H2.out.1.lt).cell 2).trans rfl, ((H2.out.1.below hb H2.out.1.lt).cell 3).trans rfl, ((H2.out.1.below hb H2.out.1.lt).cell 4).trans rfl, ((H2.out.1.below hb H2.out.1.lt).cell 5).trans rfl, ((H2.out.1.below hb H2.out.1.lt).cell 6).trans rfl, ((H2.out.1.below hb H2.out.1.lt).cell 7).trans rfl, ((H2.out.1.below hb H2.out.1.lt).cell 8).trans rfl, ((H2.out.1.below hb H2.out.1.lt).cell 9).trans rfl, ((H2.out.1.below hb H2.out.1.lt).cell 10).trans rfl, ((H2.out.1.below hb H2.out.1.lt).cell 11).trans rfl⟩)
  obtain ⟨c0, c1, c2, c3, c4, c5, c6, c7, c8, c9, c10, c11⟩ := HKS.out w2 (Below.refl _ _)
  go_wp2_with fail
  go_region_held3 (fun w' => w'.cell? ⟨b1, 0, none⟩ = some (.int .i64 m.kind) ∧ w'.cell? ⟨b1, 1, none⟩ = some (.int .i64 m.frm) ∧ w'.cell? ⟨b1, 2, none⟩ = some (.int .i64 m.to_) ∧ w'.cell? ⟨b1, 3, none⟩ = some (.int .i64 m.epoch) ∧ w'.cell? ⟨b1, 4, none⟩ = some (.int .i64 m.inc) ∧ w'.cell? ⟨b1, 5, none⟩ = some (.int .i64 m.job) ∧ w'.cell? ⟨b1, 6, none⟩ = some (.int .i64 m.tick) ∧ w'.cell? ⟨b1, 7, none⟩ = some (.int .i64 m.prio) ∧ w'.cell? ⟨b1, 8, none⟩ = some (.int .i64 m.code) ∧ w'.cell? ⟨b1, 9, none⟩ = some (.int .i64 m.res.a) ∧ w'.cell? ⟨b1, 10, none⟩ = some (.int .i64 m.res.b) ∧ w'.cell? ⟨b1, 11, none⟩ = some (.int .i64 m.res.c)) (first | with_reducible exact ⟨c0, c1, c2, c3, c4, c5, c6, c7, c8, c9, c10, c11⟩ | with_reducible exact HKS.out _ HB3.out | with_reducible exact HKS.out _ HB4.out | go_keep)
    ((first
      | (go_at_call 97; (with_reducible refine (rnum_k6 m HK0.out _).mono ?_); rintro e w3 ⟨A3, n3, rfl, hr3, hB3⟩; have HB3 := Lib.hid (show Below w2.heap.size w2 w3 from ⟨hB3.os, hB3.tape, hB3.output, hB3.size, hB3.block⟩); have HR3 := Lib.hid hr3; clear hB3 hr3)
      | (go_at_call 96; have hcx := made_k6 m HK0.out A3 n3 w3 HR3.out; rw [← HK0.out] at hcx; (with_reducible refine hcx.mono ?_); clear hcx; rintro e w4 ⟨rfl, hB4⟩; have HB4 := Lib.hid (HB3.out.trans (hB4.mono HB3.out.size)); clear hB4; have hx4 := H2.out.2.1.below HB4.out H2.out.2.1.lt; have z4 := hx4.frozen; have l4 := hx4.lt; have y0 : w4.cell? ⟨b1 + 1, 0, none⟩ = some (.int .i64 0) := hx4.cell 0; have y1 : w4.cell? ⟨b1 + 1, 1, none⟩ = some (.int .i64 0) := hx4.cell 1; have y2 : w4.cell? ⟨b1 + 1, 2, none⟩ = some (.int .i64 0) := hx4.cell 2; have y3 : w4.cell? ⟨b1 + 1, 3, none⟩ = some (.int .i64 0) := hx4.cell 3; have y4 : w4.cell? ⟨b1 + 1, 4, none⟩ = some (.int .i64 0) := hx4.cell 4; have y5 : w4.cell? ⟨b1 + 1, 5, none⟩ = some (.int .i64 0) := hx4.cell 5; have y6 : w4.cell? ⟨b1 + 1, 6, none⟩ = some (.int .i64 0) := hx4.cell 6; have y7 : w4.cell? ⟨b1 + 1, 7, none⟩ = some (.int .i64 0) := hx4.cell 7; have y8 : w4.cell? ⟨b1 + 1, 8, none⟩ = some (.int .i64 0) := hx4.cell 8; have y9 : w4.cell? ⟨b1 + 1, 9, none⟩ = some (.int .i64 0) := hx4.cell 9; have y10 : w4.cell? ⟨b1 + 1, 10, none⟩ = some (.int .i64 0) := hx4.cell 10; have y11 : w4.cell? ⟨b1 + 1, 11, none⟩ = some (.int .i64 0) := hx4.cell 11; clear hx4)))
  all_goals
    go_wp2_with fail
    obtain ⟨hbz, hbe⟩ := lay12 (H2.out.2.1.below HB4.out H2.out.2.1.lt) HG.out (H2.out.2.2.trans (HB4.out.mono H2.out.2.2.size)) (.int .i64 (keepM m [5, 7, 9, 10, 11]).kind) (.int .i64 (keepM m [5, 7, 9, 10, 11]).frm) (.int .i64 (keepM m [5, 7, 9, 10, 11]).to_) (.int .i64 (keepM m [5, 7, 9, 10, 11]).epoch) (.int .i64 (keepM m [5, 7, 9, 10, 11]).inc) (.int .i64 (keepM m [5, 7, 9, 10, 11]).job) (.int .i64 (keepM m [5, 7, 9, 10, 11]).tick) (.int .i64 (keepM m [5, 7, 9, 10, 11]).prio) (.int .i64 (keepM m [5, 7, 9, 10, 11]).code) (.int .i64 (keepM m [5, 7, 9, 10, 11]).res.a) (.int .i64 (keepM m [5, 7, 9, 10, 11]).res.b) (.int .i64 (keepM m [5, 7, 9, 10, 11]).res.c)
    have HZ := Lib.hid hbe
    clear hbe
    generalize ((((((((((((w4.setCell ⟨b1 + 1, 0, none⟩ (.int .i64 (keepM m [5, 7, 9, 10, 11]).kind)).setCell ⟨b1 + 1, 1, none⟩ (.int .i64 (keepM m [5, 7, 9, 10, 11]).frm)).setCell ⟨b1 + 1, 2, none⟩ (.int .i64 (keepM m [5, 7, 9, 10, 11]).to_)).setCell ⟨b1 + 1, 3, none⟩ (.int .i64 (keepM m [5, 7, 9, 10, 11]).epoch)).setCell ⟨b1 + 1, 4, none⟩ (.int .i64 (keepM m [5, 7, 9, 10, 11]).inc)).setCell ⟨b1 + 1, 5, none⟩ (.int .i64 (keepM m [5, 7, 9, 10, 11]).job)).setCell ⟨b1 + 1, 6, none⟩ (.int .i64 (keepM m [5, 7, 9, 10, 11]).tick)).setCell ⟨b1 + 1, 7, none⟩ (.int .i64 (keepM m [5, 7, 9, 10, 11]).prio)).setCell ⟨b1 + 1, 8, none⟩ (.int .i64 (keepM m [5, 7, 9, 10, 11]).code)).setCell ⟨b1 + 1, 9, none⟩ (.int .i64 (keepM m [5, 7, 9, 10, 11]).res.a)).setCell ⟨b1 + 1, 10, none⟩ (.int .i64 (keepM m [5, 7, 9, 10, 11]).res.b)).setCell ⟨b1 + 1, 11, none⟩ (.int .i64 (keepM m [5, 7, 9, 10, 11]).res.c)) = wz at hbz HZ ⊢
    have d0 := hbz.cell 0
    have d1 := hbz.cell 1
    have d2 := hbz.cell 2
    have d3 := hbz.cell 3
    have d4 := hbz.cell 4
    have d5 := hbz.cell 5
    have d6 := hbz.cell 6
    have d7 := hbz.cell 7
    have d8 := hbz.cell 8
    have d9 := hbz.cell 9
    have d10 := hbz.cell 10
    have d11 := hbz.cell 11
    simp only [List.getElem?_toArray, List.getElem?_cons_zero, List.getElem?_cons_succ] at d0 d1 d2 d3 d4 d5 d6 d7 d8 d9 d10 d11
    refine bodyPost_ret (v := aggMsg (keepM m [5, 7, 9, 10, 11])) (by simp [results, Tryd.results77, go_sem, d0, d1, d2, d3, d4, d5, d6, d7, d8, d9, d10, d11]) rfl ⟨rfl, HZ.out⟩
set_option maxRecDepth 100000 in
set_option maxHeartbeats 6400000 in
theorem rpure_k7 (m : LMsg) (hk : m.kind = 7) (w : World) : Calls Tryd.prog 77 #[aggMsg m] w fun e w' => e = .returned (aggMsg (keepM m [5])) ∧ Below w.heap.size w w' := by
  have hs1 : (w.alloc (.cells (boxMsg m) 38)).heap.size = w.heap.size + 1 := by simp
  have h1 := (Blk.new w 38 (boxMsg m)).alloc (.cells #[.int .i64 0, .int .i64 0, .int .i64 0, .int .i64 0, .int .i64 0, .int .i64 0, .int .i64 0, .int .i64 0, .int .i64 0, .int .i64 0, .int .i64 0, .int .i64 0] 38)
  have h2 := Blk.new (w.alloc (.cells (boxMsg m) 38)) 38 #[.int .i64 0, .int .i64 0, .int .i64 0, .int .i64 0, .int .i64 0, .int .i64 0, .int .i64 0, .int .i64 0, .int .i64 0, .int .i64 0, .int .i64 0, .int .i64 0]
  rw [hs1] at h2
  have hB : Below w.heap.size w ((w.alloc (.cells (boxMsg m) 38)).alloc (.cells #[.int .i64 0, .int .i64 0, .int .i64 0, .int .i64 0, .int .i64 0, .int .i64 0, .int .i64 0, .int .i64 0, .int .i64 0, .int .i64 0, .int .i64 0, .int .i64 0] 38)) := ((Below.refl _ _).alloc (Nat.le_refl _) _).alloc (by simp) _
  have c0 : ((w.alloc (.cells (boxMsg m) 38)).alloc (.cells #[.int .i64 0, .int .i64 0, .int .i64 0, .int .i64 0, .int .i64 0, .int .i64 0, .int .i64 0, .int .i64 0, .int .i64 0, .int .i64 0, .int .i64 0, .int .i64 0] 38)).cell? ⟨w.heap.size, 0, none⟩ = some (.int .i64 7) := by rw [← hk]; exact (h1.cell 0).trans rfl
  have H0 := Lib.hid (And.intro h1 (And.intro h2 hB))
  have HK0 := Lib.hid hk
  clear hs1 h1 h2 hB hk
  go_enter Tryd.func77, Tryd.ntmps77
  go_wp2_with fail
  generalize (w.alloc (.cells (boxMsg m) 38)).alloc (.cells #[.int .i64 0, .int .i64 0, .int .i64 0, .int .i64 0, .int .i64 0, .int .i64 0, .int .i64 0, .int .i64 0, .int .i64 0, .int .i64 0, .int .i64 0, .int .i64 0] 38) = w1 at H0 c0 ⊢
  obtain ⟨b1, hb1⟩ : ∃ b1, w.heap.size = b1 := ⟨_, rfl⟩
  have h1 : Blk w1 b1 38 (boxMsg m) := by rw [← hb1]; exact H0.out.1
  have h2 : Blk w1 (b1 + 1) 38 #[.int .i64 0, .int .i64 0, .int .i64 0, .int .i64 0, .int .i64 0, .int .i64 0, .int .i64 0, .int .i64 0, .int .i64 0, .int .i64 0, .int .i64 0, .int .i64 0] := by rw [← hb1]; exact H0.out.2.1
  rw [hb1] at c0
  have HG := Lib.hid (show w.heap.size ≤ b1 + 1 by omega)
  try simp only [hb1]
  go_wp2_with fail
  (with_reducible refine (rnames_k7 w1).mono ?_)
  rintro e w2 ⟨rfl, hB2⟩
  have H2 := Lib.hid (And.intro (h1.below hB2 h1.lt) (And.intro (h2.below hB2 h2.lt) (H0.out.2.2.trans (hB2.mono H0.out.2.2.size))))
  clear h1 h2 hb1 H0 c0 hB2
  have z2 := H2.out.2.1.frozen
  have l2 := H2.out.2.1.lt
  have l1 := H2.out.1.lt
  have HKS : Hid (∀ W, Below w2.heap.size w2 W → (fun w' => w'.cell? ⟨b1, 0, none⟩ = some (.int .i64 m.kind) ∧ w'.cell? ⟨b1, 1, none⟩ = some (.int .i64 m.frm) ∧ w'.cell? ⟨b1, 2, none⟩ = some (.int .i64 m.to_) ∧ w'.cell? ⟨b1, 3, none⟩ = some (.int .i64 m.epoch) ∧ w'.cell? ⟨b1, 4, none⟩ = some (.int .i64 m.inc) ∧ w'.cell? ⟨b1, 5, none⟩ = some (.int .i64 m.job) ∧ w'.cell? ⟨b1, 6, none⟩ = some (.int .i64 m.tick) ∧ w'.cell? ⟨b1, 7, none⟩ = some (.int .i64 m.prio) ∧ w'.cell? ⟨b1, 8, none⟩ = some (.int .i64 m.code) ∧ w'.cell? ⟨b1, 9, none⟩ = some (.int .i64 m.res.a) ∧ w'.cell? ⟨b1, 10, none⟩ = some (.int .i64 m.res.b) ∧ w'.cell? ⟨b1, 11, none⟩ = some (.int .i64 m.res.c)) W) := Lib.hid (fun W hb => ⟨((H2.out.1.below hb H2.out.1.lt).cell 0).trans rfl, ((H2.out.1.below hb H2.out.1.lt).cell 1).trans rfl, ((H2.out.1.below hb H2.out.1.lt).cell 2).trans rfl, ((H2.out.1.below hb H2.out.1.lt).cell 3).trans rfl, ((H2.out.1.below hb H2.out.1.lt).cell 4).trans rfl, ((H2.out.1.below hb H2.out.1.lt).cell 5).trans rfl, ((H2.out.1.below hb H2.out.1.lt).cell 6).trans rfl, ((H2.out.1.below hb H2.out.1.lt).cell 7).trans rfl, ((H2.out.1.below hb H2.out.1.lt).cell 8).trans rfl, ((H2.out.1.below hb H2.out.1.lt).cell 9).trans rfl, ((H2.out.1.below hb H2.out.1.lt).cell 10).trans rfl, ((H2.out.1.below hb H2.out.1.lt).cell 11).trans rfl⟩)
  obtain ⟨c0, c1, c2, c3, c4, c5, c6, c7, c8, c9, c10, c11⟩ := HKS.out w2 (Below.refl _ _)
  go_wp2_with fail
  go_region_held3 (fun w' => w'.cell? ⟨b1, 0, none⟩ = some (.int .i64 m.kind) ∧ w'.cell? ⟨b1, 1, none⟩ = some (.int .i64 m.frm) ∧ w'.cell? ⟨b1, 2, none⟩ = some (.int .i64 m.to_) ∧ w'.cell? ⟨b1, 3, none⟩ = some (.int .i64 m.epoch) ∧ w'.cell? ⟨b1, 4, none⟩ = some (.int .i64 m.inc) ∧ w'.cell? ⟨b1, 5, none⟩ = some (.int .i64 m.job) ∧ w'.cell? ⟨b1, 6, none⟩ = some (.int .i64 m.tick) ∧ w'.cell? ⟨b1, 7, none⟩ = some (.int .i64 m.prio) ∧ w'.cell? ⟨b1, 8, none⟩ = some (.int .i64 m.code) ∧ w'.cell? ⟨b1, 9, none⟩ = some (.int .i64 m.res.a) ∧ w'.cell? ⟨b1, 10, none⟩ = some (.int .i64 m.res.b) ∧ w'.cell? ⟨b1, 11, none⟩ = some (.int .i64 m.res.c)) (first | with_reducible exact ⟨c0, c1, c2, c3, c4, c5, c6, c7, c8, c9, c10, c11⟩ | with_reducible exact HKS.out _ HB3.out | with_reducible exact HKS.out _ HB4.out | go_keep)
    ((first
      | (go_at_call 97; (with_reducible refine (rnum_k7 m HK0.out _).mono ?_); rintro e w3 ⟨A3, n3, rfl, hr3, hB3⟩; have HB3 := Lib.hid (show Below w2.heap.size w2 w3 from ⟨hB3.os, hB3.tape, hB3.output, hB3.size, hB3.block⟩); have HR3 := Lib.hid hr3; clear hB3 hr3)
      | (go_at_call 96; have hcx := made_k7 m HK0.out A3 n3 w3 HR3.out; rw [← HK0.out] at hcx; (with_reducible refine hcx.mono ?_); clear hcx; rintro e w4 ⟨rfl, hB4⟩; have HB4 := Lib.hid (HB3.out.trans (hB4.mono HB3.out.size)); clear hB4; have hx4 := H2.out.2.1.below HB4.out H2.out.2.1.lt; have z4 := hx4.frozen; have l4 := hx4.lt; have y0 : w4.cell? ⟨b1 + 1, 0, none⟩ = some (.int .i64 0) := hx4.cell 0; have y1 : w4.cell? ⟨b1 + 1, 1, none⟩ = some (.int .i64 0) := hx4.cell 1; have y2 : w4.cell? ⟨b1 + 1, 2, none⟩ = some (.int .i64 0) := hx4.cell 2; have y3 : w4.cell? ⟨b1 + 1, 3, none⟩ = some (.int .i64 0) := hx4.cell 3; have y4 : w4.cell? ⟨b1 + 1, 4, none⟩ = some (.int .i64 0) := hx4.cell 4; have y5 : w4.cell? ⟨b1 + 1, 5, none⟩ = some (.int .i64 0) := hx4.cell 5; have y6 : w4.cell? ⟨b1 + 1, 6, none⟩ = some (.int .i64 0) := hx4.cell 6; have y7 : w4.cell? ⟨b1 + 1, 7, none⟩ = some (.int .i64 0) := hx4.cell 7; have y8 : w4.cell? ⟨b1 + 1, 8, none⟩ = some (.int .i64 0) := hx4.cell 8; have y9 : w4.cell? ⟨b1 + 1, 9, none⟩ = some (.int .i64 0) := hx4.cell 9; have y10 : w4.cell? ⟨b1 + 1, 10, none⟩ = some (.int .i64 0) := hx4.cell 10; have y11 : w4.cell? ⟨b1 + 1, 11, none⟩ = some (.int .i64 0) := hx4.cell 11; clear hx4)))
  all_goals
    go_wp2_with fail
    obtain ⟨hbz, hbe⟩ := lay12 (H2.out.2.1.below HB4.out H2.out.2.1.lt) HG.out (H2.out.2.2.trans (HB4.out.mono H2.out.2.2.size)) (.int .i64 (keepM m [5]).kind) (.int .i64 (keepM m [5]).frm) (.int .i64 (keepM m [5]).to_) (.int .i64 (keepM m [5]).epoch) (.int .i64 (keepM m [5]).inc) (.int .i64 (keepM m [5]).job) (.int .i64 (keepM m [5]).tick) (.int .i64 (keepM m [5]).prio) (.int .i64 (keepM m [5]).code) (.int .i64 (keepM m [5]).res.a) (.int .i64 (keepM m [5]).res.b) (.int .i64 (keepM m [5]).res.c)
    have HZ := Lib.hid hbe
    clear hbe
    generalize ((((((((((((w4.setCell ⟨b1 + 1, 0, none⟩ (.int .i64 (keepM m [5]).kind)).setCell ⟨b1 + 1, 1, none⟩ (.int .i64 (keepM m [5]).frm)).setCell ⟨b1 + 1, 2, none⟩ (.int .i64 (keepM m [5]).to_)).setCell ⟨b1 + 1, 3, none⟩ (.int .i64 (keepM m [5]).epoch)).setCell ⟨b1 + 1, 4, none⟩ (.int .i64 (keepM m [5]).inc)).setCell ⟨b1 + 1, 5, none⟩ (.int .i64 (keepM m [5]).job)).setCell ⟨b1 + 1, 6, none⟩ (.int .i64 (keepM m [5]).tick)).setCell ⟨b1 + 1, 7, none⟩ (.int .i64 (keepM m [5]).prio)).setCell ⟨b1 + 1, 8, none⟩ (.int .i64 (keepM m [5]).code)).setCell ⟨b1 + 1, 9, none⟩ (.int .i64 (keepM m [5]).res.a)).setCell ⟨b1 + 1, 10, none⟩ (.int .i64 (keepM m [5]).res.b)).setCell ⟨b1 + 1, 11, none⟩ (.int .i64 (keepM m [5]).res.c)) = wz at hbz HZ ⊢
    have d0 := hbz.cell 0
    have d1 := hbz.cell 1
    have d2 := hbz.cell 2
    have d3 := hbz.cell 3
    have d4 := hbz.cell 4
    have d5 := hbz.cell 5
    have d6 := hbz.cell 6
    have d7 := hbz.cell 7
    have d8 := hbz.cell 8
    have d9 := hbz.cell 9
    have d10 := hbz.cell 10
    have d11 := hbz.cell 11
    simp only [List.getElem?_toArray, List.getElem?_cons_zero, List.getElem?_cons_succ] at d0 d1 d2 d3 d4 d5 d6 d7 d8 d9 d10 d11
    refine bodyPost_ret (v := aggMsg (keepM m [5])) (by simp [results, Tryd.results77, go_sem, d0, d1, d2, d3, d4, d5, d6, d7, d8, d9, d10, d11]) rfl ⟨rfl, HZ.out⟩
set_option maxRecDepth 100000 in
set_option maxHeartbeats 6400000 in
theorem rpure_k8 (m : LMsg) (hk : m.kind = 8) (w : World) : Calls Tryd.prog 77 #[aggMsg m] w fun e w' => e = .returned (aggMsg (keepM m [5, 8])) ∧ Below w.heap.size w w' := by
  have hs1 : (w.alloc (.cells (boxMsg m) 38)).heap.size = w.heap.size + 1 := by simp
  have h1 := (Blk.new w 38 (boxMsg m)).alloc (.cells #[.int .i64 0, .int .i64 0, .int .i64 0, .int .i64 0, .int .i64 0, .int .i64 0, .int .i64 0, .int .i64 0, .int .i64 0, .int .i64 0, .int .i64 0, .int .i64 0] 38)
  have h2 := Blk.new (w.alloc (.cells (boxMsg m) 38)) 38 #[.int .i64 0, .int .i64 0, .int .i64 0, .int .i64 0, .int .i64 0, .int .i64 0, .int .i64 0, .int .i64 0, .int .i64 0, .int .i64 0, .int .i64 0, .int .i64 0]
  rw [hs1] at h2
  have hB : Below w.heap.size w ((w.alloc (.cells (boxMsg m) 38)).alloc (.cells #[.int .i64 0, .int .i64 0, .int .i64 0, .int .i64 0, .int .i64 0, .int .i64 0, .int .i64 0, .int .i64 0, .int .i64 0, .int .i64 0, .int .i64 0, .int .i64 0] 38)) := ((Below.refl _ _).alloc (Nat.le_refl _) _).alloc (by simp) _
  have c0 : ((w.alloc (.cells (boxMsg m) 38)).alloc (.cells #[.int .i64 0, .int .i64 0, .int .i64 0, .int .i64 0, .int .i64 0, .int .i64 0, .int .i64 0, .int .i64 0, .int .i64 0, .int .i64 0, .int .i64 0, .int .i64 0] 38)).cell? ⟨w.heap.size, 0, none⟩ = some (.int .i64 8) := by rw [← hk]; exact (h1.cell 0).trans rfl
  have H0 := Lib.hid (And.intro h1 (And.intro h2 hB))
  have HK0 := Lib.hid hk
  clear hs1 h1 h2 hB hk
  go_enter Tryd.func77, Tryd.ntmps77
  go_wp2_with fail
  generalize (w.alloc (.cells (boxMsg m) 38)).alloc (.cells #[.int .i64 0, .int .i64 0, .int .i64 0, .int .i64 0, .int .i64 0, .int .i64 0, .int .i64 0, .int .i64 0, .int .i64 0, .int .i64 0, .int .i64 0, .int .i64 0] 38) = w1 at H0 c0 ⊢
  obtain ⟨b1, hb1⟩ : ∃ b1, w.heap.size = b1 := ⟨_, rfl⟩
  have h1 : Blk w1 b1 38 (boxMsg m) := by rw [← hb1]; exact H0.out.1
  have h2 : Blk w1 (b1 + 1) 38 #[.int .i64 0, .int .i64 0, .int .i64 0, .int .i64 0, .int .i64 0, .int .i64 0, .int .i64 0, .int .i64 0, .int .i64 0, .int .i64 0, .int .i64 0, .int .i64 0] := by rw [← hb1]; exact H0.out.2.1
  rw [hb1] at c0
  have HG := Lib.hid (show w.heap.size ≤ b1 + 1 by omega)
  try simp only [hb1]
  go_wp2_with fail
  (with_reducible refine (rnames_k8 w1).mono ?_)
  rintro e w2 ⟨rfl, hB2⟩
  have H2 := Lib.hid (And.intro (h1.below hB2 h1.lt) (And.intro (h2.below hB2 h2.lt) (H0.out.2.2.trans (hB2.mono H0.out.2.2.size))))
  clear h1 h2 hb1 H0 c0 hB2
  have z2 := H2.out.2.1.frozen
  have l2 := H2.out.2.1.lt
  have l1 := H2.out.1.lt
  have HKS : Hid (∀ W, Below w2.heap.size w2 W → (fun w' => w'.cell? ⟨b1, 0, none⟩ = some (.int .i64 m.kind) ∧ w'.cell? ⟨b1, 1, none⟩ = some (.int .i64 m.frm) ∧ w'.cell? ⟨b1, 2, none⟩ = some (.int .i64 m.to_) ∧ w'.cell? ⟨b1, 3, none⟩ = some (.int .i64 m.epoch) ∧ w'.cell? ⟨b1, 4, none⟩ = some (.int .i64 m.inc) ∧ w'.cell? ⟨b1, 5, none⟩ = some (.int .i64 m.job) ∧ w'.cell? ⟨b1, 6, none⟩ = some (.int .i64 m.tick) ∧ w'.cell? ⟨b1, 7, none⟩ = some (.int .i64 m.prio) ∧ w'.cell? ⟨b1, 8, none⟩ = some (.int .i64 m.code) ∧ w'.cell? ⟨b1, 9, none⟩ = some (.int .i64 m.res.a) ∧ w'.cell? ⟨b1, 10, none⟩ = some (.int .i64 m.res.b) ∧ w'.cell? ⟨b1, 11, none⟩ = some (.int .i64 m.res.c)) W) := Lib.hid (fun W hb => ⟨((H2.out.1.below hb H2.out.1.lt).cell 0).trans rfl, ((H2.out.1.below hb H2.out.1.lt).cell 1).trans rfl, ((H2.out.1.below hb H2.out.1.lt).cell 2).trans rfl, ((H2.out.1.below hb H2.out.1.lt).cell 3).trans rfl, ((H2.out.1.below hb H2.out.1.lt).cell 4).trans rfl, ((H2.out.1.below hb H2.out.1.lt).cell 5).trans rfl, ((H2.out.1.below hb H2.out.1.lt).cell 6).trans rfl, ((H2.out.1.below hb H2.out.1.lt).cell 7).trans rfl, ((H2.out.1.below hb H2.out.1.lt).cell 8).trans rfl, ((H2.out.1.below hb H2.out.1.lt).cell 9).trans rfl, ((H2.out.1.below hb H2.out.1.lt).cell 10).trans rfl, ((H2.out.1.below hb H2.out.1.lt).cell 11).trans rfl⟩)
  obtain ⟨c0, c1, c2, c3, c4, c5, c6, c7, c8, c9, c10, c11⟩ := HKS.out w2 (Below.refl _ _)
  go_wp2_with fail
  go_region_held3 (fun w' => w'.cell? ⟨b1, 0, none⟩ = some (.int .i64 m.kind) ∧ w'.cell? ⟨b1, 1, none⟩ = some (.int .i64 m.frm) ∧ w'.cell? ⟨b1, 2, none⟩ = some (.int .i64 m.to_) ∧ w'.cell? ⟨b1, 3, none⟩ = some (.int .i64 m.epoch) ∧ w'.cell? ⟨b1, 4, none⟩ = some (.int .i64 m.inc) ∧ w'.cell? ⟨b1, 5, none⟩ = some (.int .i64 m.job) ∧ w'.cell? ⟨b1, 6, none⟩ = some (.int .i64 m.tick) ∧ w'.cell? ⟨b1, 7, none⟩ = some (.int .i64 m.prio) ∧ w'.cell? ⟨b1, 8, none⟩ = some (.int .i64 m.code) ∧ w'.cell? ⟨b1, 9, none⟩ = some (.int .i64 m.res.a) ∧ w'.cell? ⟨b1, 10, none⟩ = some (.int .i64 m.res.b) ∧ w'.cell? ⟨b1, 11, none⟩ = some (.int .i64 m.res.c)) (first | with_reducible exact ⟨c0, c1, c2, c3, c4, c5, c6, c7, c8, c9, c10, c11⟩ | with_reducible exact HKS.out _ HB3.out | with_reducible exact HKS.out _ HB4.out | go_keep)
    ((first
      | (go_at_call 97; (with_reducible refine (rnum_k8 m HK0.out _).mono ?_); rintro e w3 ⟨A3, n3, rfl, hr3, hB3⟩; have HB3 := Lib.hid (show Below w2.heap.size w2 w3 from ⟨hB3.os, hB3.tape, hB3.output, hB3.size, hB3.block⟩); have HR3 := Lib.hid hr3; clear hB3 hr3)
      | (go_at_call 96; have hcx := made_k8 m HK0.out A3 n3 w3 HR3.out; rw [← HK0.out] at hcx; (with_reducible refine hcx.mono ?_); clear hcx; rintro e w4 ⟨rfl, hB4⟩; have HB4 := Lib.hid (HB3.out.trans (hB4.mono HB3.out.size)); clear hB4; have hx4 := H2.out.2.1.below HB4.out H2.out.2.1.lt; have z4 := hx4.frozen; have l4 := hx4.lt; have y0 : w4.cell? ⟨b1 + 1, 0, none⟩ = some (.int .i64 0) := hx4.cell 0; have y1 : w4.cell? ⟨b1 + 1, 1, none⟩ = some (.int .i64 0) := hx4.cell 1; have y2 : w4.cell? ⟨b1 + 1, 2, none⟩ = some (.int .i64 0) := hx4.cell 2; have y3 : w4.cell? ⟨b1 + 1, 3, none⟩ = some (.int .i64 0) := hx4.cell 3; have y4 : w4.cell? ⟨b1 + 1, 4, none⟩ = some (.int .i64 0) := hx4.cell 4; have y5 : w4.cell? ⟨b1 + 1, 5, none⟩ = some (.int .i64 0) := hx4.cell 5; have y6 : w4.cell? ⟨b1 + 1, 6, none⟩ = some (.int .i64 0) := hx4.cell 6; have y7 : w4.cell? ⟨b1 + 1, 7, none⟩ = some (.int .i64 0) := hx4.cell 7; have y8 : w4.cell? ⟨b1 + 1, 8, none⟩ = some (.int .i64 0) := hx4.cell 8; have y9 : w4.cell? ⟨b1 + 1, 9, none⟩ = some (.int .i64 0) := hx4.cell 9; have y10 : w4.cell? ⟨b1 + 1, 10, none⟩ = some (.int .i64 0) := hx4.cell 10; have y11 : w4.cell? ⟨b1 + 1, 11, none⟩ = some (.int .i64 0) := hx4.cell 11; clear hx4)))
  all_goals
    go_wp2_with fail
    obtain ⟨hbz, hbe⟩ := lay12 (H2.out.2.1.below HB4.out H2.out.2.1.lt) HG.out (H2.out.2.2.trans (HB4.out.mono H2.out.2.2.size)) (.int .i64 (keepM m [5, 8]).kind) (.int .i64 (keepM m [5, 8]).frm) (.int .i64 (keepM m [5, 8]).to_) (.int .i64 (keepM m [5, 8]).epoch) (.int .i64 (keepM m [5, 8]).inc) (.int .i64 (keepM m [5, 8]).job) (.int .i64 (keepM m [5, 8]).tick) (.int .i64 (keepM m [5, 8]).prio) (.int .i64 (keepM m [5, 8]).code) (.int .i64 (keepM m [5, 8]).res.a) (.int .i64 (keepM m [5, 8]).res.b) (.int .i64 (keepM m [5, 8]).res.c)
    have HZ := Lib.hid hbe
    clear hbe
    generalize ((((((((((((w4.setCell ⟨b1 + 1, 0, none⟩ (.int .i64 (keepM m [5, 8]).kind)).setCell ⟨b1 + 1, 1, none⟩ (.int .i64 (keepM m [5, 8]).frm)).setCell ⟨b1 + 1, 2, none⟩ (.int .i64 (keepM m [5, 8]).to_)).setCell ⟨b1 + 1, 3, none⟩ (.int .i64 (keepM m [5, 8]).epoch)).setCell ⟨b1 + 1, 4, none⟩ (.int .i64 (keepM m [5, 8]).inc)).setCell ⟨b1 + 1, 5, none⟩ (.int .i64 (keepM m [5, 8]).job)).setCell ⟨b1 + 1, 6, none⟩ (.int .i64 (keepM m [5, 8]).tick)).setCell ⟨b1 + 1, 7, none⟩ (.int .i64 (keepM m [5, 8]).prio)).setCell ⟨b1 + 1, 8, none⟩ (.int .i64 (keepM m [5, 8]).code)).setCell ⟨b1 + 1, 9, none⟩ (.int .i64 (keepM m [5, 8]).res.a)).setCell ⟨b1 + 1, 10, none⟩ (.int .i64 (keepM m [5, 8]).res.b)).setCell ⟨b1 + 1, 11, none⟩ (.int .i64 (keepM m [5, 8]).res.c)) = wz at hbz HZ ⊢
    have d0 := hbz.cell 0
    have d1 := hbz.cell 1
    have d2 := hbz.cell 2
    have d3 := hbz.cell 3
    have d4 := hbz.cell 4
    have d5 := hbz.cell 5
    have d6 := hbz.cell 6
    have d7 := hbz.cell 7
    have d8 := hbz.cell 8
    have d9 := hbz.cell 9
    have d10 := hbz.cell 10
    have d11 := hbz.cell 11
    simp only [List.getElem?_toArray, List.getElem?_cons_zero, List.getElem?_cons_succ] at d0 d1 d2 d3 d4 d5 d6 d7 d8 d9 d10 d11
    refine bodyPost_ret (v := aggMsg (keepM m [5, 8])) (by simp [results, Tryd.results77, go_sem, d0, d1, d2, d3, d4, d5, d6, d7, d8, d9, d10, d11]) rfl ⟨rfl, HZ.out⟩
set_option maxRecDepth 100000 in
set_option maxHeartbeats 6400000 in
theorem rpure_kx (m : LMsg) (hk : namesM m.kind = []) (w : World) : Calls Tryd.prog 77 #[aggMsg m] w fun e w' => e = .returned (aggMsg zeroLMsg) ∧ Below w.heap.size w w' := by
  have hs1 : (w.alloc (.cells (boxMsg m) 38)).heap.size = w.heap.size + 1 := by simp
  have h1 := (Blk.new w 38 (boxMsg m)).alloc (.cells #[.int .i64 0, .int .i64 0, .int .i64 0, .int .i64 0, .int .i64 0, .int .i64 0, .int .i64 0, .int .i64 0, .int .i64 0, .int .i64 0, .int .i64 0, .int .i64 0] 38)
  have h2 := Blk.new (w.alloc (.cells (boxMsg m) 38)) 38 #[.int .i64 0, .int .i64 0, .int .i64 0, .int .i64 0, .int .i64 0, .int .i64 0, .int .i64 0, .int .i64 0, .int .i64 0, .int .i64 0, .int .i64 0, .int .i64 0]
  rw [hs1] at h2
  have hB : Below w.heap.size w ((w.alloc (.cells (boxMsg m) 38)).alloc (.cells #[.int .i64 0, .int .i64 0, .int .i64 0, .int .i64 0, .int .i64 0, .int .i64 0, .int .i64 0, .int .i64 0, .int .i64 0, .int .i64 0, .int .i64 0, .int .i64 0] 38)) := ((Below.refl _ _).alloc (Nat.le_refl _) _).alloc (by simp) _
  have c0 : ((w.alloc (.cells (boxMsg m) 38)).alloc (.cells #[.int .i64 0, .int .i64 0, .int .i64 0, .int .i64 0, .int .i64 0, .int .i64 0, .int .i64 0, .int .i64 0, .int .i64 0, .int .i64 0, .int .i64 0, .int .i64 0] 38)).cell? ⟨w.heap.size, 0, none⟩ = some (.int .i64 m.kind) := by exact (h1.cell 0).trans rfl
  have H0 := Lib.hid (And.intro h1 (And.intro h2 hB))
  have HK0 := Lib.hid hk
  clear hs1 h1 h2 hB hk
  go_enter Tryd.func77, Tryd.ntmps77
  go_wp2_with fail
  generalize (w.alloc (.cells (boxMsg m) 38)).alloc (.cells #[.int .i64 0, .int .i64 0, .int .i64 0, .int .i64 0, .int .i64 0, .int .i64 0, .int .i64 0, .int .i64 0, .int .i64 0, .int .i64 0, .int .i64 0, .int .i64 0] 38) = w1 at H0 c0 ⊢
  obtain ⟨b1, hb1⟩ : ∃ b1, w.heap.size = b1 := ⟨_, rfl⟩
  have h1 : Blk w1 b1 38 (boxMsg m) := by rw [← hb1]; exact H0.out.1
  have h2 : Blk w1 (b1 + 1) 38 #[.int .i64 0, .int .i64 0, .int .i64 0, .int .i64 0, .int .i64 0, .int .i64 0, .int .i64 0, .int .i64 0, .int .i64 0, .int .i64 0, .int .i64 0, .int .i64 0] := by rw [← hb1]; exact H0.out.2.1
  rw [hb1] at c0
  have HG := Lib.hid (show w.heap.size ≤ b1 + 1 by omega)
  try simp only [hb1]
  go_wp2_with fail
  (with_reducible refine (rnames_kx m.kind HK0.out w1).mono ?_)
  rintro e w2 ⟨rfl, hB2⟩
  have H2 := Lib.hid (And.intro (h1.below hB2 h1.lt) (And.intro (h2.below hB2 h2.lt) (H0.out.2.2.trans (hB2.mono H0.out.2.2.size))))
  clear h1 h2 hb1 H0 c0 hB2
  have z2 := H2.out.2.1.frozen
  have l2 := H2.out.2.1.lt
  have l1 := H2.out.1.lt
  have y0 := H2.out.2.1.cell 0
  have y1 := H2.out.2.1.cell 1
  have y2 := H2.out.2.1.cell 2
  have y3 := H2.out.2.1.cell 3
  have y4 := H2.out.2.1.cell 4
  have y5 := H2.out.2.1.cell 5
  have y6 := H2.out.2.1.cell 6
  have y7 := H2.out.2.1.cell 7
  have y8 := H2.out.2.1.cell 8
  have y9 := H2.out.2.1.cell 9
  have y10 := H2.out.2.1.cell 10
  have y11 := H2.out.2.1.cell 11
  simp only [List.getElem?_toArray, List.getElem?_cons_zero, List.getElem?_cons_succ] at y0 y1 y2 y3 y4 y5 y6 y7 y8 y9 y10 y11
  go_wp2_with fail
  obtain ⟨hbz, hbe⟩ := lay12 H2.out.2.1 HG.out H2.out.2.2 (.int .i64 0) (.int .i64 0) (.int .i64 0) (.int .i64 0) (.int .i64 0) (.int .i64 0) (.int .i64 0) (.int .i64 0) (.int .i64 0) (.int .i64 0) (.int .i64 0) (.int .i64 0)
  have HZ := Lib.hid hbe
  clear hbe
  generalize ((((((((((((w2.setCell ⟨b1 + 1, 0, none⟩ (.int .i64 0)).setCell ⟨b1 + 1, 1, none⟩ (.int .i64 0)).setCell ⟨b1 + 1, 2, none⟩ (.int .i64 0)).setCell ⟨b1 + 1, 3, none⟩ (.int .i64 0)).setCell ⟨b1 + 1, 4, none⟩ (.int .i64 0)).setCell ⟨b1 + 1, 5, none⟩ (.int .i64 0)).setCell ⟨b1 + 1, 6, none⟩ (.int .i64 0)).setCell ⟨b1 + 1, 7, none⟩ (.int .i64 0)).setCell ⟨b1 + 1, 8, none⟩ (.int .i64 0)).setCell ⟨b1 + 1, 9, none⟩ (.int .i64 0)).setCell ⟨b1 + 1, 10, none⟩ (.int .i64 0)).setCell ⟨b1 + 1, 11, none⟩ (.int .i64 0)) = wz at hbz HZ ⊢
  have d0 := hbz.cell 0
  have d1 := hbz.cell 1
  have d2 := hbz.cell 2
  have d3 := hbz.cell 3
  have d4 := hbz.cell 4
  have d5 := hbz.cell 5
  have d6 := hbz.cell 6
  have d7 := hbz.cell 7
  have d8 := hbz.cell 8
  have d9 := hbz.cell 9
  have d10 := hbz.cell 10
  have d11 := hbz.cell 11
  simp only [List.getElem?_toArray, List.getElem?_cons_zero, List.getElem?_cons_succ] at d0 d1 d2 d3 d4 d5 d6 d7 d8 d9 d10 d11
  refine bodyPost_ret (v := aggMsg zeroLMsg) (by simp [results, Tryd.results77, go_sem, zeroLMsg, d0, d1, d2, d3, d4, d5, d6, d7, d8, d9, d10, d11]) rfl ⟨rfl, HZ.out⟩
theorem rpure_t (m : LMsg) (w : World) : Calls Tryd.prog 77 #[aggMsg m] w fun e w' => e = .returned (aggMsg (pureM m)) ∧ Below w.heap.size w w' := by
  by_cases h : namesM m.kind = []
  · rw [show pureM m = zeroLMsg by unfold pureM; rw [if_pos h]]
    exact rpure_kx m h w
  · rw [show pureM m = keepM m (namesM m.kind) by unfold pureM; rw [if_neg h]]
    have hc : m.kind = 1 ∨ m.kind = 2 ∨ m.kind = 3 ∨ m.kind = 4 ∨ m.kind = 5 ∨ m.kind = 6 ∨ m.kind = 7 ∨ m.kind = 8 := by
      by_cases hc : m.kind = 1 ∨ m.kind = 2 ∨ m.kind = 3 ∨ m.kind = 4 ∨ m.kind = 5 ∨ m.kind = 6 ∨ m.kind = 7 ∨ m.kind = 8
      · exact hc
      · exfalso
        apply h
        simp only [not_or] at hc
        obtain ⟨h1, h2, h3, h4, h5, h6, h7, h8⟩ := hc
        simp [namesM, h1, h2, h3, h4, h5, h6, h7, h8]
    rcases hc with e | e | e | e | e | e | e | e
    · rw [e]; exact rpure_k1 m e w
    · rw [e]; exact rpure_k2 m e w
    · rw [e]; exact rpure_k3 m e w
    · rw [e]; exact rpure_k4 m e w
    · rw [e]; exact rpure_k5 m e w
    · rw [e]; exact rpure_k6 m e w
    · rw [e]; exact rpure_k7 m e w
    · rw [e]; exact rpure_k8 m e w
end Go.Proofs.YthhnocnkicoimaaDoor
