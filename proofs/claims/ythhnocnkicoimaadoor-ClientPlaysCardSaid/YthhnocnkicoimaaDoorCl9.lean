/-
  LAYER 41 (client): Submit, Cancel, over whatever ask does.
  LAYER 41 (client): Hear, where it is not heeded.
  LAYER 41 (client): Hear, where it is heeded.
-/
import Derived.Test.YthhnocnkicoimaaDoorCl6
import Derived.Deep.Cut
import Derived.Deep.RegionLaw
import Derived.Deep.AppendLies
import Derived.Deep.RegionHeld3
set_option linter.unusedVariables false
set_option linter.unusedSimpArgs false
namespace Go.Proofs.YthhnocnkicoimaaDoor
open Go.RowKit Go.Maps

set_option maxRecDepth 100000 in
set_option maxHeartbeats 3200000 in
theorem clSubmit_t (pv : Value) (to_ job prio : Int) (need : LRes) (m' : LMsg) (er : Int) (w : World) (R : World → World → Prop)
    (hA : ∀ W, Below w.heap.size w W → Calls Tryd.prog 45 #[pv, aggMsg ⟨6, 200, to_, 0, 0, job, 0, prio, 0, need⟩] W fun e w' => e = .returned (.tuple #[aggMsg m', .int .i64 er]) ∧ R W w' ∧ ∀ k t cs, w.heap.size ≤ k → Blk W k t cs → Blk w' k t cs) :
    Calls Tryd.prog 11 #[pv, .int .i64 to_, .int .i64 job, .int .i64 prio, aggRes need] w fun e w' => e = .returned (.tuple #[aggMsg m', .int .i64 er]) ∧ ∃ W w1, Below w.heap.size w W ∧ R W w1 ∧ w.heap.size + 1 < W.heap.size ∧ Kept (fun k => k = w.heap.size + 1) w1 w' := by
  have hB : Below w.heap.size w ((w.alloc (.cells (boxRes need) 36)).alloc (.cells #[.int .i64 0, .int .i64 0, .int .i64 0, .int .i64 0, .int .i64 0, .int .i64 0, .int .i64 0, .int .i64 0, .int .i64 0, .int .i64 0, .int .i64 0, .int .i64 0] 38)) := ((Below.refl _ _).alloc (Nat.le_refl _) _).alloc (by simp) _
  have hs : ((w.alloc (.cells (boxRes need) 36)).alloc (.cells #[.int .i64 0, .int .i64 0, .int .i64 0, .int .i64 0, .int .i64 0, .int .i64 0, .int .i64 0, .int .i64 0, .int .i64 0, .int .i64 0, .int .i64 0, .int .i64 0] 38)).heap.size = w.heap.size + 2 := by simp
  have hz : Blk ((w.alloc (.cells (boxRes need) 36)).alloc (.cells #[.int .i64 0, .int .i64 0, .int .i64 0, .int .i64 0, .int .i64 0, .int .i64 0, .int .i64 0, .int .i64 0, .int .i64 0, .int .i64 0, .int .i64 0, .int .i64 0] 38)) (w.heap.size + 1) 38 #[.int .i64 0, .int .i64 0, .int .i64 0, .int .i64 0, .int .i64 0, .int .i64 0, .int .i64 0, .int .i64 0, .int .i64 0, .int .i64 0, .int .i64 0, .int .i64 0] := by
    have := Blk.new (w.alloc (.cells (boxRes need) 36)) 38 #[.int .i64 0, .int .i64 0, .int .i64 0, .int .i64 0, .int .i64 0, .int .i64 0, .int .i64 0, .int .i64 0, .int .i64 0, .int .i64 0, .int .i64 0, .int .i64 0]
    rwa [show (w.alloc (.cells (boxRes need) 36)).heap.size = w.heap.size + 1 by simp] at this
  have hr := (Blk.new w 36 (boxRes need)).alloc (.cells #[.int .i64 0, .int .i64 0, .int .i64 0, .int .i64 0, .int .i64 0, .int .i64 0, .int .i64 0, .int .i64 0, .int .i64 0, .int .i64 0, .int .i64 0, .int .i64 0] 38)
  have r0 := (hr.cell 0).trans (show _ = some (Value.int .i64 need.a) from rfl)
  have r1 := (hr.cell 1).trans (show _ = some (Value.int .i64 need.b) from rfl)
  have r2 := (hr.cell 2).trans (show _ = some (Value.int .i64 need.c) from rfl)
  clear hr
  have H0 := Lib.hid (And.intro hz (And.intro hB hs))
  have HA := Lib.hid (hA _ hB)
  clear hB hs hz hA
  go_enter Tryd.func11, Tryd.ntmps11
  go_upto_region 1 with fail
  generalize (w.alloc (.cells (boxRes need) 36)).alloc (.cells #[.int .i64 0, .int .i64 0, .int .i64 0, .int .i64 0, .int .i64 0, .int .i64 0, .int .i64 0, .int .i64 0, .int .i64 0, .int .i64 0, .int .i64 0, .int .i64 0] 38) = w1 at H0 HA r0 r1 r2 ⊢
  obtain ⟨b1, hb1⟩ : ∃ b1, w.heap.size = b1 := ⟨_, rfl⟩
  rw [hb1] at H0 r0 r1 r2
  have HB1 := Lib.hid hb1
  try simp only [hb1]
  clear hb1
  go_wp2_with fail
  (with_reducible refine HA.out.mono ?_)
  clear r0 r1 r2 HA
  rintro e w3 ⟨rfl, hR, hK⟩
  have h3 := hK (b1 + 1) _ _ (by have := HB1.out; omega) H0.out.1
  have H3 := Lib.hid (And.intro h3 hR)
  clear h3 hR hK
  have z2 := H3.out.1.frozen
  have l2 := H3.out.1.lt
  have y0 := H3.out.1.cell 0
  have y1 := H3.out.1.cell 1
  have y2 := H3.out.1.cell 2
  have y3 := H3.out.1.cell 3
  have y4 := H3.out.1.cell 4
  have y5 := H3.out.1.cell 5
  have y6 := H3.out.1.cell 6
  have y7 := H3.out.1.cell 7
  have y8 := H3.out.1.cell 8
  have y9 := H3.out.1.cell 9
  have y10 := H3.out.1.cell 10
  have y11 := H3.out.1.cell 11
  simp only [Nat.add_zero, List.getElem?_toArray, List.getElem?_cons_zero, List.getElem?_cons_succ] at z2 l2 y0 y1 y2 y3 y4 y5 y6 y7 y8 y9 y10 y11
  go_wp2_with fail
  have hke : Kept (fun k => k = b1 + 1) w3 ((((((((((((w3.setCell ⟨b1 + 1, 0, none⟩ (.int .i64 m'.kind)).setCell ⟨b1 + 1, 1, none⟩ (.int .i64 m'.frm)).setCell ⟨b1 + 1, 2, none⟩ (.int .i64 m'.to_)).setCell ⟨b1 + 1, 3, none⟩ (.int .i64 m'.epoch)).setCell ⟨b1 + 1, 4, none⟩ (.int .i64 m'.inc)).setCell ⟨b1 + 1, 5, none⟩ (.int .i64 m'.job)).setCell ⟨b1 + 1, 6, none⟩ (.int .i64 m'.tick)).setCell ⟨b1 + 1, 7, none⟩ (.int .i64 m'.prio)).setCell ⟨b1 + 1, 8, none⟩ (.int .i64 m'.code)).setCell ⟨b1 + 1, 9, none⟩ (.int .i64 m'.res.a)).setCell ⟨b1 + 1, 10, none⟩ (.int .i64 m'.res.b)).setCell ⟨b1 + 1, 11, none⟩ (.int .i64 m'.res.c)) := (Kept.setCell (F := fun k => k = b1 + 1) (Kept.setCell (F := fun k => k = b1 + 1) (Kept.setCell (F := fun k => k = b1 + 1) (Kept.setCell (F := fun k => k = b1 + 1) (Kept.setCell (F := fun k => k = b1 + 1) (Kept.setCell (F := fun k => k = b1 + 1) (Kept.setCell (F := fun k => k = b1 + 1) (Kept.setCell (F := fun k => k = b1 + 1) (Kept.setCell (F := fun k => k = b1 + 1) (Kept.setCell (F := fun k => k = b1 + 1) (Kept.setCell (F := fun k => k = b1 + 1) (Kept.setCell (F := fun k => k = b1 + 1) (Kept.refl (fun k => k = b1 + 1) w3) (p := ⟨b1 + 1, 0, none⟩) (fun _ => rfl) (.int .i64 m'.kind)) (p := ⟨b1 + 1, 1, none⟩) (fun _ => rfl) (.int .i64 m'.frm)) (p := ⟨b1 + 1, 2, none⟩) (fun _ => rfl) (.int .i64 m'.to_)) (p := ⟨b1 + 1, 3, none⟩) (fun _ => rfl) (.int .i64 m'.epoch)) (p := ⟨b1 + 1, 4, none⟩) (fun _ => rfl) (.int .i64 m'.inc)) (p := ⟨b1 + 1, 5, none⟩) (fun _ => rfl) (.int .i64 m'.job)) (p := ⟨b1 + 1, 6, none⟩) (fun _ => rfl) (.int .i64 m'.tick)) (p := ⟨b1 + 1, 7, none⟩) (fun _ => rfl) (.int .i64 m'.prio)) (p := ⟨b1 + 1, 8, none⟩) (fun _ => rfl) (.int .i64 m'.code)) (p := ⟨b1 + 1, 9, none⟩) (fun _ => rfl) (.int .i64 m'.res.a)) (p := ⟨b1 + 1, 10, none⟩) (fun _ => rfl) (.int .i64 m'.res.b)) (p := ⟨b1 + 1, 11, none⟩) (fun _ => rfl) (.int .i64 m'.res.c))
  have hbz := lay12c H3.out.1 (.int .i64 m'.kind) (.int .i64 m'.frm) (.int .i64 m'.to_) (.int .i64 m'.epoch) (.int .i64 m'.inc) (.int .i64 m'.job) (.int .i64 m'.tick) (.int .i64 m'.prio) (.int .i64 m'.code) (.int .i64 m'.res.a) (.int .i64 m'.res.b) (.int .i64 m'.res.c)
  skip
  clear z2 l2 y0 y1 y2 y3 y4 y5 y6 y7 y8 y9 y10 y11
  generalize ((((((((((((w3.setCell ⟨b1 + 1, 0, none⟩ (.int .i64 m'.kind)).setCell ⟨b1 + 1, 1, none⟩ (.int .i64 m'.frm)).setCell ⟨b1 + 1, 2, none⟩ (.int .i64 m'.to_)).setCell ⟨b1 + 1, 3, none⟩ (.int .i64 m'.epoch)).setCell ⟨b1 + 1, 4, none⟩ (.int .i64 m'.inc)).setCell ⟨b1 + 1, 5, none⟩ (.int .i64 m'.job)).setCell ⟨b1 + 1, 6, none⟩ (.int .i64 m'.tick)).setCell ⟨b1 + 1, 7, none⟩ (.int .i64 m'.prio)).setCell ⟨b1 + 1, 8, none⟩ (.int .i64 m'.code)).setCell ⟨b1 + 1, 9, none⟩ (.int .i64 m'.res.a)).setCell ⟨b1 + 1, 10, none⟩ (.int .i64 m'.res.b)).setCell ⟨b1 + 1, 11, none⟩ (.int .i64 m'.res.c)) = wz at hke hbz ⊢
  have HKE := Lib.hid hke
  clear hke
  have d0 := hbz.cell 0
  have d1 := hbz.cell 1
  have d2 := hbz.cell 2
  have d3 := hbz.cell 3
  have d4 := hbz.cell 4
  have d5 := hbz.cell 5
  have d6 := hbz.cell 6
  have d7 := hbz.cell 7
  have d8 := hbz.cell 8
  have d9 := hbz.cell 9
  have d10 := hbz.cell 10
  have d11 := hbz.cell 11
  simp only [List.getElem?_toArray, List.getElem?_cons_zero, List.getElem?_cons_succ] at d0 d1 d2 d3 d4 d5 d6 d7 d8 d9 d10 d11
  try go_wp2_with fail
  refine bodyPost_ret (v := .tuple #[aggMsg m', .int .i64 er]) (by simp [results, Tryd.results11, go_sem, d0, d1, d2, d3, d4, d5, d6, d7, d8, d9, d10, d11]) rfl ⟨rfl, w1, w3, by rw [HB1.out]; exact H0.out.2.1, H3.out.2, by have := H0.out.2.2; have := HB1.out; omega, by simpa [HB1.out] using HKE.out⟩
set_option maxRecDepth 100000 in
set_option maxHeartbeats 3200000 in
theorem clCancel_t (pv : Value) (to_ job : Int) (m' : LMsg) (er : Int) (w : World) (R : World → World → Prop)
    (hA : ∀ W, Below w.heap.size w W → Calls Tryd.prog 45 #[pv, aggMsg ⟨7, 200, to_, 0, 0, job, 0, 0, 0, ⟨0, 0, 0⟩⟩] W fun e w' => e = .returned (.tuple #[aggMsg m', .int .i64 er]) ∧ R W w' ∧ ∀ k t cs, w.heap.size ≤ k → Blk W k t cs → Blk w' k t cs) :
    Calls Tryd.prog 12 #[pv, .int .i64 to_, .int .i64 job] w fun e w' => e = .returned (.tuple #[aggMsg m', .int .i64 er]) ∧ ∃ W w1, Below w.heap.size w W ∧ R W w1 ∧ w.heap.size + 0 < W.heap.size ∧ Kept (fun k => k = w.heap.size + 0) w1 w' := by
  have hB : Below w.heap.size w (w.alloc (.cells #[.int .i64 0, .int .i64 0, .int .i64 0, .int .i64 0, .int .i64 0, .int .i64 0, .int .i64 0, .int .i64 0, .int .i64 0, .int .i64 0, .int .i64 0, .int .i64 0] 38)) := (Below.refl _ _).alloc (Nat.le_refl _) _
  have hs : (w.alloc (.cells #[.int .i64 0, .int .i64 0, .int .i64 0, .int .i64 0, .int .i64 0, .int .i64 0, .int .i64 0, .int .i64 0, .int .i64 0, .int .i64 0, .int .i64 0, .int .i64 0] 38)).heap.size = w.heap.size + 1 := by simp
  have hz : Blk (w.alloc (.cells #[.int .i64 0, .int .i64 0, .int .i64 0, .int .i64 0, .int .i64 0, .int .i64 0, .int .i64 0, .int .i64 0, .int .i64 0, .int .i64 0, .int .i64 0, .int .i64 0] 38)) (w.heap.size + 0) 38 #[.int .i64 0, .int .i64 0, .int .i64 0, .int .i64 0, .int .i64 0, .int .i64 0, .int .i64 0, .int .i64 0, .int .i64 0, .int .i64 0, .int .i64 0, .int .i64 0] := Blk.new w 38 #[.int .i64 0, .int .i64 0, .int .i64 0, .int .i64 0, .int .i64 0, .int .i64 0, .int .i64 0, .int .i64 0, .int .i64 0, .int .i64 0, .int .i64 0, .int .i64 0]
  have H0 := Lib.hid (And.intro hz (And.intro hB hs))
  have HA := Lib.hid (hA _ hB)
  clear hB hs hz hA
  go_enter Tryd.func12, Tryd.ntmps12
  go_upto_region 1 with fail
  generalize w.alloc (.cells #[.int .i64 0, .int .i64 0, .int .i64 0, .int .i64 0, .int .i64 0, .int .i64 0, .int .i64 0, .int .i64 0, .int .i64 0, .int .i64 0, .int .i64 0, .int .i64 0] 38) = w1 at H0 HA ⊢
  obtain ⟨b1, hb1⟩ : ∃ b1, w.heap.size = b1 := ⟨_, rfl⟩
  rw [hb1] at H0
  have HB1 := Lib.hid hb1
  try simp only [hb1]
  clear hb1
  go_wp2_with fail
  (with_reducible refine HA.out.mono ?_)
  clear HA
  rintro e w3 ⟨rfl, hR, hK⟩
  have h3 := hK (b1 + 0) _ _ (by have := HB1.out; omega) H0.out.1
  have H3 := Lib.hid (And.intro h3 hR)
  clear h3 hR hK
  have z2 := H3.out.1.frozen
  have l2 := H3.out.1.lt
  have y0 := H3.out.1.cell 0
  have y1 := H3.out.1.cell 1
  have y2 := H3.out.1.cell 2
  have y3 := H3.out.1.cell 3
  have y4 := H3.out.1.cell 4
  have y5 := H3.out.1.cell 5
  have y6 := H3.out.1.cell 6
  have y7 := H3.out.1.cell 7
  have y8 := H3.out.1.cell 8
  have y9 := H3.out.1.cell 9
  have y10 := H3.out.1.cell 10
  have y11 := H3.out.1.cell 11
  simp only [Nat.add_zero, List.getElem?_toArray, List.getElem?_cons_zero, List.getElem?_cons_succ] at z2 l2 y0 y1 y2 y3 y4 y5 y6 y7 y8 y9 y10 y11
  go_wp2_with fail
  have hke : Kept (fun k => k = b1) w3 ((((((((((((w3.setCell ⟨b1, 0, none⟩ (.int .i64 m'.kind)).setCell ⟨b1, 1, none⟩ (.int .i64 m'.frm)).setCell ⟨b1, 2, none⟩ (.int .i64 m'.to_)).setCell ⟨b1, 3, none⟩ (.int .i64 m'.epoch)).setCell ⟨b1, 4, none⟩ (.int .i64 m'.inc)).setCell ⟨b1, 5, none⟩ (.int .i64 m'.job)).setCell ⟨b1, 6, none⟩ (.int .i64 m'.tick)).setCell ⟨b1, 7, none⟩ (.int .i64 m'.prio)).setCell ⟨b1, 8, none⟩ (.int .i64 m'.code)).setCell ⟨b1, 9, none⟩ (.int .i64 m'.res.a)).setCell ⟨b1, 10, none⟩ (.int .i64 m'.res.b)).setCell ⟨b1, 11, none⟩ (.int .i64 m'.res.c)) := (Kept.setCell (F := fun k => k = b1) (Kept.setCell (F := fun k => k = b1) (Kept.setCell (F := fun k => k = b1) (Kept.setCell (F := fun k => k = b1) (Kept.setCell (F := fun k => k = b1) (Kept.setCell (F := fun k => k = b1) (Kept.setCell (F := fun k => k = b1) (Kept.setCell (F := fun k => k = b1) (Kept.setCell (F := fun k => k = b1) (Kept.setCell (F := fun k => k = b1) (Kept.setCell (F := fun k => k = b1) (Kept.setCell (F := fun k => k = b1) (Kept.refl (fun k => k = b1) w3) (p := ⟨b1, 0, none⟩) (fun _ => rfl) (.int .i64 m'.kind)) (p := ⟨b1, 1, none⟩) (fun _ => rfl) (.int .i64 m'.frm)) (p := ⟨b1, 2, none⟩) (fun _ => rfl) (.int .i64 m'.to_)) (p := ⟨b1, 3, none⟩) (fun _ => rfl) (.int .i64 m'.epoch)) (p := ⟨b1, 4, none⟩) (fun _ => rfl) (.int .i64 m'.inc)) (p := ⟨b1, 5, none⟩) (fun _ => rfl) (.int .i64 m'.job)) (p := ⟨b1, 6, none⟩) (fun _ => rfl) (.int .i64 m'.tick)) (p := ⟨b1, 7, none⟩) (fun _ => rfl) (.int .i64 m'.prio)) (p := ⟨b1, 8, none⟩) (fun _ => rfl) (.int .i64 m'.code)) (p := ⟨b1, 9, none⟩) (fun _ => rfl) (.int .i64 m'.res.a)) (p := ⟨b1, 10, none⟩) (fun _ => rfl) (.int .i64 m'.res.b)) (p := ⟨b1, 11, none⟩) (fun _ => rfl) (.int .i64 m'.res.c))
  have hbz := lay12c H3.out.1 (.int .i64 m'.kind) (.int .i64 m'.frm) (.int .i64 m'.to_) (.int .i64 m'.epoch) (.int .i64 m'.inc) (.int .i64 m'.job) (.int .i64 m'.tick) (.int .i64 m'.prio) (.int .i64 m'.code) (.int .i64 m'.res.a) (.int .i64 m'.res.b) (.int .i64 m'.res.c)
  simp only [Nat.add_zero] at hbz
  clear z2 l2 y0 y1 y2 y3 y4 y5 y6 y7 y8 y9 y10 y11
  generalize ((((((((((((w3.setCell ⟨b1, 0, none⟩ (.int .i64 m'.kind)).setCell ⟨b1, 1, none⟩ (.int .i64 m'.frm)).setCell ⟨b1, 2, none⟩ (.int .i64 m'.to_)).setCell ⟨b1, 3, none⟩ (.int .i64 m'.epoch)).setCell ⟨b1, 4, none⟩ (.int .i64 m'.inc)).setCell ⟨b1, 5, none⟩ (.int .i64 m'.job)).setCell ⟨b1, 6, none⟩ (.int .i64 m'.tick)).setCell ⟨b1, 7, none⟩ (.int .i64 m'.prio)).setCell ⟨b1, 8, none⟩ (.int .i64 m'.code)).setCell ⟨b1, 9, none⟩ (.int .i64 m'.res.a)).setCell ⟨b1, 10, none⟩ (.int .i64 m'.res.b)).setCell ⟨b1, 11, none⟩ (.int .i64 m'.res.c)) = wz at hke hbz ⊢
  have HKE := Lib.hid hke
  clear hke
  have d0 := hbz.cell 0
  have d1 := hbz.cell 1
  have d2 := hbz.cell 2
  have d3 := hbz.cell 3
  have d4 := hbz.cell 4
  have d5 := hbz.cell 5
  have d6 := hbz.cell 6
  have d7 := hbz.cell 7
  have d8 := hbz.cell 8
  have d9 := hbz.cell 9
  have d10 := hbz.cell 10
  have d11 := hbz.cell 11
  simp only [List.getElem?_toArray, List.getElem?_cons_zero, List.getElem?_cons_succ] at d0 d1 d2 d3 d4 d5 d6 d7 d8 d9 d10 d11
  try go_wp2_with fail
  refine bodyPost_ret (v := .tuple #[aggMsg m', .int .i64 er]) (by simp [results, Tryd.results12, go_sem, d0, d1, d2, d3, d4, d5, d6, d7, d8, d9, d10, d11]) rfl ⟨rfl, w1, w3, by rw [HB1.out]; exact H0.out.2.1, H3.out.2, by have := H0.out.2.2; have := HB1.out; omega, by simpa [HB1.out] using HKE.out⟩
end Go.Proofs.YthhnocnkicoimaaDoor
namespace Go.Proofs.YthhnocnkicoimaaDoor
open Go.RowKit Go.Maps

set_option maxRecDepth 100000 in
set_option maxHeartbeats 3200000 in
theorem hear_nil (m : LMsg) (w : World) : Calls Tryd.prog 14 #[.pointer none, aggMsg m] w fun e w' => e = .returned (.bool false) ∧ Below w.heap.size w w' := by
  have h1 := Blk.new w 38 (boxMsg m)
  have hB : Below w.heap.size w (w.alloc (.cells (boxMsg m) 38)) := (Below.refl _ _).alloc (Nat.le_refl _) _
  have HBW := Lib.hid hB
  clear h1 hB
  go_enter Tryd.func14, Tryd.ntmps14
  go_upto_region 1 with fail
  generalize w.alloc (.cells (boxMsg m) 38) = w1 at HBW ⊢
  obtain ⟨b1, hb1⟩ : ∃ b1, w.heap.size = b1 := ⟨_, rfl⟩
  try simp only [hb1]
  clear hb1
  refine wp_region_autoD 5 [.o (eqV (.pointer none)), .b true, .b true, .u, .u, .u, .b true, .b true, .u, .u, .u, .b true, .b true, .u, .u, .u, .u, .u, .u, .u, .b true] [false, false, true, true, true, true, true, true, true, true, true, true, true, true, true, true, true, true, true, true, true] (by kernel_rfl) (by kernel_rfl) rfl (by kernel_rfl) (by kernel_rfl) ⟨?_, ?_, trivial⟩ ?fin
  · intro a w hb hoth hdep
    refine step_on (want_none rfl) ?_
    have e0 : a.tmps[0]? = some (.pointer none) := ev_other hoth 0 (by kernel_rfl) rfl
    exact step_val ((BigFrame.run_move _ rfl w).trans (by rw [ev_of e0])) rfl
  · intro a w hb hoth hdep
    refine step_on (want_none rfl) ?_
    obtain ⟨v0, e5, hv0⟩ := ev_dep hdep 0 5 (by kernel_rfl) (by kernel_rfl)
    replace hv0 : v0 = .pointer none := hv0
    subst hv0
    refine step_val (x := .bool true) ?_ rfl
    simp [go_sem, e5]
  case fin =>
    intro wz hbz
    iterate 21 (rintro _ rfl)
    refine FinC.nil ?_
    have HE := Lib.hid (HBW.out.trans (hbz.mono HBW.out.size))
    clear hbz
    go_wp2_with fail
    go_ret
    exact ⟨rfl, HE.out⟩
set_option maxRecDepth 100000 in
set_option maxHeartbeats 6400000 in
theorem hear_no (c : Nat) (v : ClV) (row opens : List Int) (reps : List LReply) (m : LMsg) (w : World) (h : ClAt w c v row opens reps) (hw : WaysAt w) (hwf : wf64 m.job) (hno : checkM m ≠ 0 ∨ m.kind ≠ 8 ∨ m.job ∉ row) :
    Calls Tryd.prog 14 #[.pointer (some ⟨c, 0, none⟩), aggMsg m] w fun e w' => e = .returned (.bool false) ∧ Below w.heap.size w w' := by
  have h1 := Blk.new w 38 (boxMsg m)
  have hB : Below w.heap.size w (w.alloc (.cells (boxMsg m) 38)) := (Below.refl _ _).alloc (Nat.le_refl _) _
  have HBW := Lib.hid hB
  obtain ⟨b1, hb1⟩ : ∃ b1, w.heap.size = b1 := ⟨_, rfl⟩
  rw [hb1] at h1
  have HI := Lib.hid (And.intro h1 (And.intro (hw.below hB) (And.intro (h.below hB) hb1)))
  have HWF := Lib.hid hwf
  obtain ⟨ck, hck0⟩ : ∃ ck, checkM m = ck := ⟨_, rfl⟩
  rw [hck0] at hno
  have HCK := Lib.hid hck0
  clear h1 hB hw h hwf hck0
  go_enter Tryd.func14, Tryd.ntmps14
  go_upto_region 1 with fail
  generalize w.alloc (.cells (boxMsg m) 38) = w1 at HBW HI ⊢
  try simp only [hb1]
  clear hb1
  by_cases hc0 : ck = 0
  · have hck : (ck != 0) = false := by simp [hc0]
    by_cases hk8 : m.kind = 8
    · have hkd : (m.kind != 8) = false := by simp [hk8]
      have hin : m.job ∉ row := by
        rcases hno with h | h | h
        · exact absurd hc0 h
        · exact absurd hk8 h
        · exact h
      clear hno hc0 hk8
      refine wp_region_autoD 5 [.o (eqV (.pointer (some ⟨c, 0, none⟩))), .b false, .b false, .o (eqV (aggMsg m)), .o (eqV (.int .i64 ck)), .b false, .b false, .b false, .o (eqV (.pointer (some ⟨b1, 0, none⟩))), .o (eqV (.int .i64 m.kind)), .b false, .b false, .b false, .o (eqV (.pointer (some ⟨c, 0, none⟩))), .o (eqV (.pointer (some ⟨c, 0, none⟩))), .o (eqV (.pointer (some ⟨c, 0, none⟩))), .o (eqV (.pointer (some ⟨b1, 5, none⟩))), .o (eqV (.int .i64 m.job)), .b false, .b true, .b true] [false, false, true, false, false, false, true, true, false, false, false, true, true, false, false, false, false, false, false, true, true] (by kernel_rfl) (by kernel_rfl) rfl (by kernel_rfl) (by kernel_rfl) ⟨?_, ?_, ?_, ?_, ?_, ?_, ?_, ?_, ?_, ?_, ?_, ?_, ?_, ?_, trivial⟩ ?fin
      · intro a w hb hoth hdep
        refine step_on (want_none rfl) ?_
        have e0 : a.tmps[0]? = some (.pointer (some ⟨c, 0, none⟩)) := ev_other hoth 0 (by kernel_rfl) rfl
        exact step_val ((BigFrame.run_move _ rfl w).trans (by rw [ev_of e0])) rfl
      · intro a w hb hoth hdep
        refine step_on (want_none rfl) ?_
        obtain ⟨v0, e5, hv0⟩ := ev_dep hdep 0 5 (by kernel_rfl) (by kernel_rfl)
        replace hv0 : v0 = .pointer (some ⟨c, 0, none⟩) := hv0
        subst hv0
        refine step_val (x := .bool false) ?_ rfl
        simp [go_sem, e5]
      · intro a w hb hoth hdep
        refine step_on ((want_dep hdep 2 7 false rfl (by kernel_rfl) (by kernel_rfl) (fun v h => h)).trans rfl) ?_
        have e3 : a.tmps[3]? = some (.pointer (some ⟨b1, 0, none⟩)) := ev_other hoth 3 (by kernel_rfl) rfl
        obtain ⟨c0, c1, c2, c3, c4, c5, c6, c7, c8, c9, c10, c11⟩ := msgCells (HI.out.1.below hb HI.out.1.lt)
        refine step_val (x := aggMsg m) ?_ rfl
        simp [go_sem, e3, c0, c1, c2, c3, c4, c5, c6, c7, c8, c9, c10, c11, aggMsg]
      · intro a w hb hoth hdep
        refine step_on ((want_dep hdep 2 7 false rfl (by kernel_rfl) (by kernel_rfl) (fun v h => h)).trans rfl) ?_
        obtain ⟨v3, e8, hv3⟩ := ev_dep hdep 3 8 (by kernel_rfl) (by kernel_rfl)
        replace hv3 : v3 = aggMsg m := hv3
        subst hv3
        refine step_call (f := 47) (args := #[aggMsg m]) ?_ ?_
        · simp [go_sem, e8]
        · have hcx := msgCheck_t m w (HI.out.2.1.below hb)
          rw [HCK.out] at hcx
          (with_reducible refine hcx.mono ?_)
          clear hcx
          rintro e w2 ⟨rfl, hB⟩
          exact ⟨_, rfl, rfl, hB⟩
      · intro a w hb hoth hdep
        refine step_on ((want_dep hdep 2 7 false rfl (by kernel_rfl) (by kernel_rfl) (fun v h => h)).trans rfl) ?_
        obtain ⟨v4, e9, hv4⟩ := ev_dep hdep 4 9 (by kernel_rfl) (by kernel_rfl)
        replace hv4 : v4 = .int .i64 ck := hv4
        subst hv4
        refine step_val (x := .bool false) ?_ rfl
        simp [go_sem, e9, hck]
      · intro a w hb hoth hdep
        refine step_on ((want_dep hdep 7 12 false rfl (by kernel_rfl) (by kernel_rfl) (fun v h => h)).trans rfl) ?_
        have e3 : a.tmps[3]? = some (.pointer (some ⟨b1, 0, none⟩)) := ev_other hoth 3 (by kernel_rfl) rfl
        refine step_val (x := .pointer (some ⟨b1, 0, none⟩)) ?_ rfl
        simp [go_sem, e3]
      · intro a w hb hoth hdep
        refine step_on ((want_dep hdep 7 12 false rfl (by kernel_rfl) (by kernel_rfl) (fun v h => h)).trans rfl) ?_
        obtain ⟨v8, e13, hv8⟩ := ev_dep hdep 8 13 (by kernel_rfl) (by kernel_rfl)
        replace hv8 : v8 = .pointer (some ⟨b1, 0, none⟩) := hv8
        subst hv8
        have c0 : w.cell? ⟨b1, 0, none⟩ = some (.int .i64 m.kind) := ((HI.out.1.below hb HI.out.1.lt).cell 0).trans rfl
        refine step_val (x := .int .i64 m.kind) ?_ rfl
        simp [go_sem, e13, c0]
      · intro a w hb hoth hdep
        refine step_on ((want_dep hdep 7 12 false rfl (by kernel_rfl) (by kernel_rfl) (fun v h => h)).trans rfl) ?_
        obtain ⟨v9, e14, hv9⟩ := ev_dep hdep 9 14 (by kernel_rfl) (by kernel_rfl)
        replace hv9 : v9 = .int .i64 m.kind := hv9
        subst hv9
        refine step_val (x := .bool false) ?_ rfl
        simp [go_sem, e14, hkd]
      · intro a w hb hoth hdep
        refine step_on ((want_dep hdep 12 17 false rfl (by kernel_rfl) (by kernel_rfl) (fun v h => h)).trans rfl) ?_
        have e0 : a.tmps[0]? = some (.pointer (some ⟨c, 0, none⟩)) := ev_other hoth 0 (by kernel_rfl) rfl
        exact step_val ((BigFrame.run_move _ rfl w).trans (by rw [ev_of e0])) rfl
      · intro a w hb hoth hdep
        refine step_on ((want_dep hdep 12 17 false rfl (by kernel_rfl) (by kernel_rfl) (fun v h => h)).trans rfl) ?_
        obtain ⟨v13, e18, hv13⟩ := ev_dep hdep 13 18 (by kernel_rfl) (by kernel_rfl)
        replace hv13 : v13 = .pointer (some ⟨c, 0, none⟩) := hv13
        subst hv13
        refine step_val (x := .pointer (some ⟨c, 0, none⟩)) ?_ rfl
        simp [go_sem, e18]
      · intro a w hb hoth hdep
        refine step_on ((want_dep hdep 12 17 false rfl (by kernel_rfl) (by kernel_rfl) (fun v h => h)).trans rfl) ?_
        obtain ⟨v14, e19, hv14⟩ := ev_dep hdep 14 19 (by kernel_rfl) (by kernel_rfl)
        replace hv14 : v14 = .pointer (some ⟨c, 0, none⟩) := hv14
        subst hv14
        refine step_val (x := .pointer (some ⟨c, 0, none⟩)) ?_ rfl
        simp [go_sem, e19]
      · intro a w hb hoth hdep
        refine step_on ((want_dep hdep 12 17 false rfl (by kernel_rfl) (by kernel_rfl) (fun v h => h)).trans rfl) ?_
        have e3 : a.tmps[3]? = some (.pointer (some ⟨b1, 0, none⟩)) := ev_other hoth 3 (by kernel_rfl) rfl
        refine step_val (x := .pointer (some ⟨b1, 5, none⟩)) ?_ rfl
        simp [go_sem, e3]
      · intro a w hb hoth hdep
        refine step_on ((want_dep hdep 12 17 false rfl (by kernel_rfl) (by kernel_rfl) (fun v h => h)).trans rfl) ?_
        obtain ⟨v16, e21, hv16⟩ := ev_dep hdep 16 21 (by kernel_rfl) (by kernel_rfl)
        replace hv16 : v16 = .pointer (some ⟨b1, 5, none⟩) := hv16
        subst hv16
        have c5 : w.cell? ⟨b1, 5, none⟩ = some (.int .i64 m.job) := ((HI.out.1.below hb HI.out.1.lt).cell 5).trans rfl
        refine step_val (x := .int .i64 m.job) ?_ rfl
        simp [go_sem, e21, c5]
      · intro a w hb hoth hdep
        refine step_on ((want_dep hdep 12 17 false rfl (by kernel_rfl) (by kernel_rfl) (fun v h => h)).trans rfl) ?_
        obtain ⟨v15, e20, hv15⟩ := ev_dep hdep 15 20 (by kernel_rfl) (by kernel_rfl)
        replace hv15 : v15 = .pointer (some ⟨c, 0, none⟩) := hv15
        subst hv15
        obtain ⟨v17, e22, hv17⟩ := ev_dep hdep 17 22 (by kernel_rfl) (by kernel_rfl)
        replace hv17 : v17 = .int .i64 m.job := hv17
        subst hv17
        refine step_call (f := 48) (args := #[.pointer (some ⟨c, 0, none⟩), .int .i64 m.job]) ?_ ?_
        · simp [go_sem, e20, e22]
        · have hcx := dHas c 0 _ _ v.mv row m.job w (HI.out.2.2.1.below hb).blk rfl (HI.out.2.2.1.below hb).set HWF.out
          rw [decide_eq_false hin] at hcx
          (with_reducible refine hcx.mono ?_)
          clear hcx
          rintro e w2 ⟨rfl, rfl⟩
          exact ⟨_, rfl, rfl, Below.refl _ _⟩
      case fin =>
        intro wz hbz
        iterate 21 (rintro _ rfl)
        refine FinC.nil ?_
        have HE := Lib.hid (HBW.out.trans (hbz.mono HBW.out.size))
        clear hbz
        go_wp2_with fail
        go_ret
        exact ⟨rfl, HE.out⟩
    · have hkd : (m.kind != 8) = true := by simp [hk8]
      clear hno hc0 hk8
      refine wp_region_autoD 5 [.o (eqV (.pointer (some ⟨c, 0, none⟩))), .b false, .b false, .o (eqV (aggMsg m)), .o (eqV (.int .i64 ck)), .b false, .b false, .b false, .o (eqV (.pointer (some ⟨b1, 0, none⟩))), .o (eqV (.int .i64 m.kind)), .b true, .b true, .b true, .u, .u, .u, .u, .u, .u, .u, .b true] [false, false, true, false, false, false, true, true, false, false, false, true, true, true, true, true, true, true, true, true, true] (by kernel_rfl) (by kernel_rfl) rfl (by kernel_rfl) (by kernel_rfl) ⟨?_, ?_, ?_, ?_, ?_, ?_, ?_, ?_, trivial⟩ ?fin
      · intro a w hb hoth hdep
        refine step_on (want_none rfl) ?_
        have e0 : a.tmps[0]? = some (.pointer (some ⟨c, 0, none⟩)) := ev_other hoth 0 (by kernel_rfl) rfl
        exact step_val ((BigFrame.run_move _ rfl w).trans (by rw [ev_of e0])) rfl
      · intro a w hb hoth hdep
        refine step_on (want_none rfl) ?_
        obtain ⟨v0, e5, hv0⟩ := ev_dep hdep 0 5 (by kernel_rfl) (by kernel_rfl)
        replace hv0 : v0 = .pointer (some ⟨c, 0, none⟩) := hv0
        subst hv0
        refine step_val (x := .bool false) ?_ rfl
        simp [go_sem, e5]
      · intro a w hb hoth hdep
        refine step_on ((want_dep hdep 2 7 false rfl (by kernel_rfl) (by kernel_rfl) (fun v h => h)).trans rfl) ?_
        have e3 : a.tmps[3]? = some (.pointer (some ⟨b1, 0, none⟩)) := ev_other hoth 3 (by kernel_rfl) rfl
        obtain ⟨c0, c1, c2, c3, c4, c5, c6, c7, c8, c9, c10, c11⟩ := msgCells (HI.out.1.below hb HI.out.1.lt)
        refine step_val (x := aggMsg m) ?_ rfl
        simp [go_sem, e3, c0, c1, c2, c3, c4, c5, c6, c7, c8, c9, c10, c11, aggMsg]
      · intro a w hb hoth hdep
        refine step_on ((want_dep hdep 2 7 false rfl (by kernel_rfl) (by kernel_rfl) (fun v h => h)).trans rfl) ?_
        obtain ⟨v3, e8, hv3⟩ := ev_dep hdep 3 8 (by kernel_rfl) (by kernel_rfl)
        replace hv3 : v3 = aggMsg m := hv3
        subst hv3
        refine step_call (f := 47) (args := #[aggMsg m]) ?_ ?_
        · simp [go_sem, e8]
        · have hcx := msgCheck_t m w (HI.out.2.1.below hb)
          rw [HCK.out] at hcx
          (with_reducible refine hcx.mono ?_)
          clear hcx
          rintro e w2 ⟨rfl, hB⟩
          exact ⟨_, rfl, rfl, hB⟩
      · intro a w hb hoth hdep
        refine step_on ((want_dep hdep 2 7 false rfl (by kernel_rfl) (by kernel_rfl) (fun v h => h)).trans rfl) ?_
        obtain ⟨v4, e9, hv4⟩ := ev_dep hdep 4 9 (by kernel_rfl) (by kernel_rfl)
        replace hv4 : v4 = .int .i64 ck := hv4
        subst hv4
        refine step_val (x := .bool false) ?_ rfl
        simp [go_sem, e9, hck]
      · intro a w hb hoth hdep
        refine step_on ((want_dep hdep 7 12 false rfl (by kernel_rfl) (by kernel_rfl) (fun v h => h)).trans rfl) ?_
        have e3 : a.tmps[3]? = some (.pointer (some ⟨b1, 0, none⟩)) := ev_other hoth 3 (by kernel_rfl) rfl
        refine step_val (x := .pointer (some ⟨b1, 0, none⟩)) ?_ rfl
        simp [go_sem, e3]
      · intro a w hb hoth hdep
        refine step_on ((want_dep hdep 7 12 false rfl (by kernel_rfl) (by kernel_rfl) (fun v h => h)).trans rfl) ?_
        obtain ⟨v8, e13, hv8⟩ := ev_dep hdep 8 13 (by kernel_rfl) (by kernel_rfl)
        replace hv8 : v8 = .pointer (some ⟨b1, 0, none⟩) := hv8
        subst hv8
        have c0 : w.cell? ⟨b1, 0, none⟩ = some (.int .i64 m.kind) := ((HI.out.1.below hb HI.out.1.lt).cell 0).trans rfl
        refine step_val (x := .int .i64 m.kind) ?_ rfl
        simp [go_sem, e13, c0]
      · intro a w hb hoth hdep
        refine step_on ((want_dep hdep 7 12 false rfl (by kernel_rfl) (by kernel_rfl) (fun v h => h)).trans rfl) ?_
        obtain ⟨v9, e14, hv9⟩ := ev_dep hdep 9 14 (by kernel_rfl) (by kernel_rfl)
        replace hv9 : v9 = .int .i64 m.kind := hv9
        subst hv9
        refine step_val (x := .bool true) ?_ rfl
        simp [go_sem, e14, hkd]
      case fin =>
        intro wz hbz
        iterate 21 (rintro _ rfl)
        refine FinC.nil ?_
        have HE := Lib.hid (HBW.out.trans (hbz.mono HBW.out.size))
        clear hbz
        go_wp2_with fail
        go_ret
        exact ⟨rfl, HE.out⟩
  · have hck : (ck != 0) = true := by simp [hc0]
    clear hno hc0
    refine wp_region_autoD 5 [.o (eqV (.pointer (some ⟨c, 0, none⟩))), .b false, .b false, .o (eqV (aggMsg m)), .o (eqV (.int .i64 ck)), .b true, .b true, .b true, .u, .u, .u, .b true, .b true, .u, .u, .u, .u, .u, .u, .u, .b true] [false, false, true, false, false, false, true, true, true, true, true, true, true, true, true, true, true, true, true, true, true] (by kernel_rfl) (by kernel_rfl) rfl (by kernel_rfl) (by kernel_rfl) ⟨?_, ?_, ?_, ?_, ?_, trivial⟩ ?fin
    · intro a w hb hoth hdep
      refine step_on (want_none rfl) ?_
      have e0 : a.tmps[0]? = some (.pointer (some ⟨c, 0, none⟩)) := ev_other hoth 0 (by kernel_rfl) rfl
      exact step_val ((BigFrame.run_move _ rfl w).trans (by rw [ev_of e0])) rfl
    · intro a w hb hoth hdep
      refine step_on (want_none rfl) ?_
      obtain ⟨v0, e5, hv0⟩ := ev_dep hdep 0 5 (by kernel_rfl) (by kernel_rfl)
      replace hv0 : v0 = .pointer (some ⟨c, 0, none⟩) := hv0
      subst hv0
      refine step_val (x := .bool false) ?_ rfl
      simp [go_sem, e5]
    · intro a w hb hoth hdep
      refine step_on ((want_dep hdep 2 7 false rfl (by kernel_rfl) (by kernel_rfl) (fun v h => h)).trans rfl) ?_
      have e3 : a.tmps[3]? = some (.pointer (some ⟨b1, 0, none⟩)) := ev_other hoth 3 (by kernel_rfl) rfl
      obtain ⟨c0, c1, c2, c3, c4, c5, c6, c7, c8, c9, c10, c11⟩ := msgCells (HI.out.1.below hb HI.out.1.lt)
      refine step_val (x := aggMsg m) ?_ rfl
      simp [go_sem, e3, c0, c1, c2, c3, c4, c5, c6, c7, c8, c9, c10, c11, aggMsg]
    · intro a w hb hoth hdep
      refine step_on ((want_dep hdep 2 7 false rfl (by kernel_rfl) (by kernel_rfl) (fun v h => h)).trans rfl) ?_
      obtain ⟨v3, e8, hv3⟩ := ev_dep hdep 3 8 (by kernel_rfl) (by kernel_rfl)
      replace hv3 : v3 = aggMsg m := hv3
      subst hv3
      refine step_call (f := 47) (args := #[aggMsg m]) ?_ ?_
      · simp [go_sem, e8]
      · have hcx := msgCheck_t m w (HI.out.2.1.below hb)
        rw [HCK.out] at hcx
        (with_reducible refine hcx.mono ?_)
        clear hcx
        rintro e w2 ⟨rfl, hB⟩
        exact ⟨_, rfl, rfl, hB⟩
    · intro a w hb hoth hdep
      refine step_on ((want_dep hdep 2 7 false rfl (by kernel_rfl) (by kernel_rfl) (fun v h => h)).trans rfl) ?_
      obtain ⟨v4, e9, hv4⟩ := ev_dep hdep 4 9 (by kernel_rfl) (by kernel_rfl)
      replace hv4 : v4 = .int .i64 ck := hv4
      subst hv4
      refine step_val (x := .bool true) ?_ rfl
      simp [go_sem, e9, hck]
    case fin =>
      intro wz hbz
      iterate 21 (rintro _ rfl)
      refine FinC.nil ?_
      have HE := Lib.hid (HBW.out.trans (hbz.mono HBW.out.size))
      clear hbz
      go_wp2_with fail
      go_ret
      exact ⟨rfl, HE.out⟩
end Go.Proofs.YthhnocnkicoimaaDoor
namespace Go.Proofs.YthhnocnkicoimaaDoor
open Go.RowKit Go.Maps

/-- While Hear goes on: the object, the message's box. -/
structure HJ (w0 wr : World) (c b1 : Nat) (v0 v : ClV) (row opens : List Int) (reps : List LReply) (m : LMsg) : Prop where
  cl : ClAt wr c v row opens reps
  msg : Blk wr b1 38 (boxMsg m)
  n1 : ¬ clS c v b1
  tu : Turned (clS c v0) (clS c v) w0 wr
section
variable {w0 wr w' : World} {c b1 : Nat} {v0 v v' : ClV} {row opens row' opens' : List Int} {reps reps' : List LReply} {m : LMsg}
theorem HJ.below (h : HJ w0 wr c b1 v0 v row opens reps m) (hb : Below wr.heap.size wr w') : HJ w0 w' c b1 v0 v row opens reps m :=
  ⟨h.cl.below hb, h.msg.below hb h.msg.lt, h.n1, h.tu.then_below hb⟩
theorem HJ.turn (h : HJ w0 wr c b1 v0 v row opens reps m) (hc : ClAt w' c v' row' opens' reps') (ht : Turned (clS c v) (clS c v') wr w') : HJ w0 w' c b1 v0 v' row' opens' reps' m :=
  ⟨hc, h.msg.kept ht.kept h.n1, fun e => (ht.new _ e).elim h.n1 (fun hg => by have := h.msg.lt; omega), h.tu.trans ht⟩
end
set_option maxRecDepth 100000 in
set_option maxHeartbeats 6400000 in
theorem hear_yes (c : Nat) (v : ClV) (row opens : List Int) (reps : List LReply) (m : LMsg) (w : World) (h : ClAt w c v row opens reps) (hw : WaysAt w) (hwf : wf64 m.job) (hc0 : checkM m = 0) (hk8 : m.kind = 8) (hin : m.job ∈ row) (hon : v.on ≤ 1000) (hrn : v.rn ≤ 1000) :
    Calls Tryd.prog 14 #[.pointer (some ⟨c, 0, none⟩), aggMsg m] w fun e w' => e = .returned (.bool true) ∧ ∃ v', ClAt w' c v' row (opens.filter (· != m.job)) (reps ++ [⟨m.job, m.code⟩]) ∧ Turned (clS c v) (clS c v') w w' := by
  have h1 := Blk.new w 38 (boxMsg m)
  have hB : Below w.heap.size w (w.alloc (.cells (boxMsg m) 38)) := (Below.refl _ _).alloc (Nat.le_refl _) _
  have HBW := Lib.hid hB
  obtain ⟨b1, hb1⟩ : ∃ b1, w.heap.size = b1 := ⟨_, rfl⟩
  rw [hb1] at h1
  have HI := Lib.hid (And.intro h1 (And.intro (hw.below hB) (And.intro (h.below hB) hb1)))
  have HN1 : Hid (¬ clS c v b1) := Lib.hid (fun e => by have := h.lt _ e; omega)
  have HWF := Lib.hid hwf
  obtain ⟨ck, hck0⟩ : ∃ ck, checkM m = ck := ⟨_, rfl⟩
  rw [hck0] at hc0
  have hck : (ck != 0) = false := by simp [hc0]
  have HCK := Lib.hid hck0
  have hkd : (m.kind != 8) = false := by simp [hk8]
  have HON := Lib.hid (And.intro hon hrn)
  clear h1 hB hw h hwf hck0 hc0 hk8 hon hrn
  go_enter Tryd.func14, Tryd.ntmps14
  go_upto_region 1 with fail
  generalize w.alloc (.cells (boxMsg m) 38) = w1 at HBW HI ⊢
  try simp only [hb1]
  clear hb1
  refine wp_region_autoD 5 [.o (eqV (.pointer (some ⟨c, 0, none⟩))), .b false, .b false, .o (eqV (aggMsg m)), .o (eqV (.int .i64 ck)), .b false, .b false, .b false, .o (eqV (.pointer (some ⟨b1, 0, none⟩))), .o (eqV (.int .i64 m.kind)), .b false, .b false, .b false, .o (eqV (.pointer (some ⟨c, 0, none⟩))), .o (eqV (.pointer (some ⟨c, 0, none⟩))), .o (eqV (.pointer (some ⟨c, 0, none⟩))), .o (eqV (.pointer (some ⟨b1, 5, none⟩))), .o (eqV (.int .i64 m.job)), .b true, .b false, .b false] [false, false, true, false, false, false, true, true, false, false, false, true, true, false, false, false, false, false, false, true, true] (by kernel_rfl) (by kernel_rfl) rfl (by kernel_rfl) (by kernel_rfl) ⟨?_, ?_, ?_, ?_, ?_, ?_, ?_, ?_, ?_, ?_, ?_, ?_, ?_, ?_, trivial⟩ ?fin
  · intro a w hb hoth hdep
    refine step_on (want_none rfl) ?_
    have e0 : a.tmps[0]? = some (.pointer (some ⟨c, 0, none⟩)) := ev_other hoth 0 (by kernel_rfl) rfl
    exact step_val ((BigFrame.run_move _ rfl w).trans (by rw [ev_of e0])) rfl
  · intro a w hb hoth hdep
    refine step_on (want_none rfl) ?_
    obtain ⟨v0, e5, hv0⟩ := ev_dep hdep 0 5 (by kernel_rfl) (by kernel_rfl)
    replace hv0 : v0 = .pointer (some ⟨c, 0, none⟩) := hv0
    subst hv0
    refine step_val (x := .bool false) ?_ rfl
    simp [go_sem, e5]
  · intro a w hb hoth hdep
    refine step_on ((want_dep hdep 2 7 false rfl (by kernel_rfl) (by kernel_rfl) (fun v h => h)).trans rfl) ?_
    have e3 : a.tmps[3]? = some (.pointer (some ⟨b1, 0, none⟩)) := ev_other hoth 3 (by kernel_rfl) rfl
    obtain ⟨c0, c1, c2, c3, c4, c5, c6, c7, c8, c9, c10, c11⟩ := msgCells (HI.out.1.below hb HI.out.1.lt)
    refine step_val (x := aggMsg m) ?_ rfl
    simp [go_sem, e3, c0, c1, c2, c3, c4, c5, c6, c7, c8, c9, c10, c11, aggMsg]
  · intro a w hb hoth hdep
    refine step_on ((want_dep hdep 2 7 false rfl (by kernel_rfl) (by kernel_rfl) (fun v h => h)).trans rfl) ?_
    obtain ⟨v3, e8, hv3⟩ := ev_dep hdep 3 8 (by kernel_rfl) (by kernel_rfl)
    replace hv3 : v3 = aggMsg m := hv3
    subst hv3
    refine step_call (f := 47) (args := #[aggMsg m]) ?_ ?_
    · simp [go_sem, e8]
    · have hcx := msgCheck_t m w (HI.out.2.1.below hb)
      rw [HCK.out] at hcx
      (with_reducible refine hcx.mono ?_)
      clear hcx
      rintro e w2 ⟨rfl, hB⟩
      exact ⟨_, rfl, rfl, hB⟩
  · intro a w hb hoth hdep
    refine step_on ((want_dep hdep 2 7 false rfl (by kernel_rfl) (by kernel_rfl) (fun v h => h)).trans rfl) ?_
    obtain ⟨v4, e9, hv4⟩ := ev_dep hdep 4 9 (by kernel_rfl) (by kernel_rfl)
    replace hv4 : v4 = .int .i64 ck := hv4
    subst hv4
    refine step_val (x := .bool false) ?_ rfl
    simp [go_sem, e9, hck]
  · intro a w hb hoth hdep
    refine step_on ((want_dep hdep 7 12 false rfl (by kernel_rfl) (by kernel_rfl) (fun v h => h)).trans rfl) ?_
    have e3 : a.tmps[3]? = some (.pointer (some ⟨b1, 0, none⟩)) := ev_other hoth 3 (by kernel_rfl) rfl
    refine step_val (x := .pointer (some ⟨b1, 0, none⟩)) ?_ rfl
    simp [go_sem, e3]
  · intro a w hb hoth hdep
    refine step_on ((want_dep hdep 7 12 false rfl (by kernel_rfl) (by kernel_rfl) (fun v h => h)).trans rfl) ?_
    obtain ⟨v8, e13, hv8⟩ := ev_dep hdep 8 13 (by kernel_rfl) (by kernel_rfl)
    replace hv8 : v8 = .pointer (some ⟨b1, 0, none⟩) := hv8
    subst hv8
    have c0 : w.cell? ⟨b1, 0, none⟩ = some (.int .i64 m.kind) := ((HI.out.1.below hb HI.out.1.lt).cell 0).trans rfl
    refine step_val (x := .int .i64 m.kind) ?_ rfl
    simp [go_sem, e13, c0]
  · intro a w hb hoth hdep
    refine step_on ((want_dep hdep 7 12 false rfl (by kernel_rfl) (by kernel_rfl) (fun v h => h)).trans rfl) ?_
    obtain ⟨v9, e14, hv9⟩ := ev_dep hdep 9 14 (by kernel_rfl) (by kernel_rfl)
    replace hv9 : v9 = .int .i64 m.kind := hv9
    subst hv9
    refine step_val (x := .bool false) ?_ rfl
    simp [go_sem, e14, hkd]
  · intro a w hb hoth hdep
    refine step_on ((want_dep hdep 12 17 false rfl (by kernel_rfl) (by kernel_rfl) (fun v h => h)).trans rfl) ?_
    have e0 : a.tmps[0]? = some (.pointer (some ⟨c, 0, none⟩)) := ev_other hoth 0 (by kernel_rfl) rfl
    exact step_val ((BigFrame.run_move _ rfl w).trans (by rw [ev_of e0])) rfl
  · intro a w hb hoth hdep
    refine step_on ((want_dep hdep 12 17 false rfl (by kernel_rfl) (by kernel_rfl) (fun v h => h)).trans rfl) ?_
    obtain ⟨v13, e18, hv13⟩ := ev_dep hdep 13 18 (by kernel_rfl) (by kernel_rfl)
    replace hv13 : v13 = .pointer (some ⟨c, 0, none⟩) := hv13
    subst hv13
    refine step_val (x := .pointer (some ⟨c, 0, none⟩)) ?_ rfl
    simp [go_sem, e18]
  · intro a w hb hoth hdep
    refine step_on ((want_dep hdep 12 17 false rfl (by kernel_rfl) (by kernel_rfl) (fun v h => h)).trans rfl) ?_
    obtain ⟨v14, e19, hv14⟩ := ev_dep hdep 14 19 (by kernel_rfl) (by kernel_rfl)
    replace hv14 : v14 = .pointer (some ⟨c, 0, none⟩) := hv14
    subst hv14
    refine step_val (x := .pointer (some ⟨c, 0, none⟩)) ?_ rfl
    simp [go_sem, e19]
  · intro a w hb hoth hdep
    refine step_on ((want_dep hdep 12 17 false rfl (by kernel_rfl) (by kernel_rfl) (fun v h => h)).trans rfl) ?_
    have e3 : a.tmps[3]? = some (.pointer (some ⟨b1, 0, none⟩)) := ev_other hoth 3 (by kernel_rfl) rfl
    refine step_val (x := .pointer (some ⟨b1, 5, none⟩)) ?_ rfl
    simp [go_sem, e3]
  · intro a w hb hoth hdep
    refine step_on ((want_dep hdep 12 17 false rfl (by kernel_rfl) (by kernel_rfl) (fun v h => h)).trans rfl) ?_
    obtain ⟨v16, e21, hv16⟩ := ev_dep hdep 16 21 (by kernel_rfl) (by kernel_rfl)
    replace hv16 : v16 = .pointer (some ⟨b1, 5, none⟩) := hv16
    subst hv16
    have c5 : w.cell? ⟨b1, 5, none⟩ = some (.int .i64 m.job) := ((HI.out.1.below hb HI.out.1.lt).cell 5).trans rfl
    refine step_val (x := .int .i64 m.job) ?_ rfl
    simp [go_sem, e21, c5]
  · intro a w hb hoth hdep
    refine step_on ((want_dep hdep 12 17 false rfl (by kernel_rfl) (by kernel_rfl) (fun v h => h)).trans rfl) ?_
    obtain ⟨v15, e20, hv15⟩ := ev_dep hdep 15 20 (by kernel_rfl) (by kernel_rfl)
    replace hv15 : v15 = .pointer (some ⟨c, 0, none⟩) := hv15
    subst hv15
    obtain ⟨v17, e22, hv17⟩ := ev_dep hdep 17 22 (by kernel_rfl) (by kernel_rfl)
    replace hv17 : v17 = .int .i64 m.job := hv17
    subst hv17
    refine step_call (f := 48) (args := #[.pointer (some ⟨c, 0, none⟩), .int .i64 m.job]) ?_ ?_
    · simp [go_sem, e20, e22]
    · have hcx := dHas c 0 _ _ v.mv row m.job w (HI.out.2.2.1.below hb).blk rfl (HI.out.2.2.1.below hb).set HWF.out
      rw [decide_eq_true hin] at hcx
      (with_reducible refine hcx.mono ?_)
      clear hcx
      rintro e w2 ⟨rfl, rfl⟩
      exact ⟨_, rfl, rfl, Below.refl _ _⟩
  case fin =>
    intro wz hbz
    iterate 21 (rintro _ rfl)
    refine FinC.nil ?_
    have HZ := Lib.hid (show HJ w wz c b1 v v row opens reps m from ⟨HI.out.2.2.1.below hbz, HI.out.1.below hbz HI.out.1.lt, HN1.out, Turned.of_below (HBW.out.trans (hbz.mono HBW.out.size))⟩)
    clear hbz hck hkd hin HI HBW HN1 HCK HWF
    obtain ⟨i0, hi0, hz0, hz1, hz2⟩ : ∃ i0, Tryd.prog.info? 98 = some i0 ∧ i0.zero = some (.agg #[.int .i64 0, .int .i64 0]) ∧ i0.size = 2 ∧ i0.bytes = 16 := by
      obtain ⟨i, hi, hz⟩ := Option.map_eq_some_iff.1 Tryd.infoReply
      simp only [Prod.mk.injEq] at hz
      exact ⟨i, hi, hz.1, hz.2.1, hz.2.2⟩
    obtain ⟨x2, xl, g5, g8, gl⟩ : wz.cell? ⟨c, 2, none⟩ = some (.slice v.ra v.rn v.rc) ∧ c < wz.heap.size ∧ wz.cell? ⟨b1, 5, none⟩ = some (.int .i64 m.job) ∧ wz.cell? ⟨b1, 8, none⟩ = some (.int .i64 m.code) ∧ b1 < wz.heap.size := ⟨(HZ.out.cl.blk.cell 2).trans rfl, HZ.out.cl.blk.lt, (HZ.out.msg.cell 5).trans rfl, (HZ.out.msg.cell 8).trans rfl, HZ.out.msg.lt⟩
    have f2 := HZ.out.cl.blk.frozen 2
    have hrn := HON.out.2
    have HNC : Hid ((Value.slice v.ra v.rn v.rc).ownBlock ≠ some c) := Lib.hid (fun e => by
      cases ho : v.ra with
      | none => rw [ho] at e; simp [Value.ownBlock] at e
      | some ad => rw [ho] at e; exact HZ.out.cl.rc_ne ad ho (by simpa [Value.ownBlock] using e))
    go_wp2_with fail
    go_region_law
      ((refine step_append_lies _ (by rfl) _ _ _ (by rfl) 0 98 i0 _ 2 16 Tryd.underlying30 hi0 hz0 hz1 hz2 rfl (by omega) (.slice v.ra v.rn v.rc) v.rn (reps.flatMap encReply) (by rfl) ((HZ.out.cl.rep.own.alloc _).drew)
          ⟨wz.heap.size, 0, none⟩ 1 1 (encReply ⟨m.job, m.code⟩) (by rfl) (by rfl) (World.news_of_block (cs := #[.int .i64 m.job, .int .i64 m.code]) (t := 98) (fr := (0, 0)) (heap_alloc_new wz _)) (Reply_one _)
          (by omega) (by simp only [maxLen]; omega) (by omega) (Nat.zero_le _) (wz.heap.size + 1) (by simp) ?_; intro gg cap w5 hown5 hgrow hat hlt5; have c5 : w5.cell? ⟨c, 2, none⟩ = some (.slice v.ra v.rn v.rc) := (hgrow.cell_far ⟨c, 2, none⟩ (by show c < _; simp; omega) (Ne.symm HNC.out)).trans ((HZ.out.cl.blk.alloc _).cell 2); have f5 : w5.frozen? ⟨c, 2, none⟩ = false := (hgrow.frozen_far ⟨c, 2, none⟩ (by show c < _; simp; omega) (Ne.symm HNC.out)).trans ((HZ.out.cl.blk.alloc _).frozen 2)))
    all_goals (
      have hA5 : ClAt ((wz.alloc (.cells #[.int .i64 m.job, .int .i64 m.code] 98)).drew) c v row opens reps := HZ.out.cl.below ((Below.refl _ _).alloc (Nat.le_refl _) _).drew
      have hgc : gg ≠ c := by
        rintro rfl
        rcases hat with h | h
        · exact HNC.out h
        · omega
      have hb5 : Blk w5 c 32 #[v.mv, .slice v.oa v.on v.oc, .slice v.ra v.rn v.rc] := hA5.blk.grown hgrow (Ne.symm HNC.out)
      have hb6 : Blk (w5.setCell ⟨c, 2, none⟩ (.slice (some ⟨gg, 0, none⟩) (v.rn + 1) cap)) c 32 #[v.mv, .slice v.oa v.on v.oc, .slice (some ⟨gg, 0, none⟩) (v.rn + 1) cap] := hb5.set_ 2 _
      have ho5 : OwnL encReply 98 2 w5 0 (some ⟨gg, 0, none⟩) (v.rn + 1) cap (reps ++ [⟨m.job, m.code⟩]) := ⟨by rw [List.flatMap_append]; simpa using hown5, by rw [List.length_append, HZ.out.cl.rep.len]; rfl⟩
      have ho6 : OwnL encReply 98 2 (w5.setCell ⟨c, 2, none⟩ (.slice (some ⟨gg, 0, none⟩) (v.rn + 1) cap)) 0 (some ⟨gg, 0, none⟩) (v.rn + 1) cap (reps ++ [⟨m.job, m.code⟩]) := ho5.step fun ad ha _ _ => by cases ha; exact Below.heap_setCell w5 _ _ gg hgc
      have hk6 : Kept (fun k => k = c ∨ ∃ ad, v.ra = some ad ∧ ad.block = k) wz (w5.setCell ⟨c, 2, none⟩ (.slice (some ⟨gg, 0, none⟩) (v.rn + 1) cap)) :=
        ((((Kept.refl _ wz).alloc _).drew).trans (Kept.of_grown (F := fun k => k = c ∨ ∃ ad, v.ra = some ad ∧ ad.block = k) hgrow (fun k e _ => by
          cases ho : v.ra with
          | none => rw [ho] at e; simp [Value.ownBlock] at e
          | some ad => rw [ho] at e; exact .inr ⟨ad, rfl, by simpa [Value.ownBlock] using e⟩)) (fun _ _ h => h)).setCell (fun _ => .inl rfl) _
      obtain ⟨hc6, ht6⟩ := HZ.out.cl.replied ho6 hb6 hk6 (fun ad ha => by
        cases ha
        rcases hat with h | h
        · left
          cases ho : v.ra with
          | none => rw [ho] at h; simp [Value.ownBlock] at h
          | some ad => rw [ho] at h; have h1 : ad.block = gg := by simpa [Value.ownBlock] using h
                       rcases HZ.out.cl.rep.own.2 with ⟨hv, _⟩ | ⟨g, cp, cur, hv, _⟩
                       · rw [ho] at hv; cases hv
                       · rw [ho] at hv; cases hv; simp only at h1; rw [← h1]
        · exact .inr (by show wz.heap.size ≤ gg; omega))
      have HA6 := Lib.hid (HZ.out.turn hc6 ht6)
      clear hA5 hb5 hb6 ho5 ho6 hk6 hc6 ht6 hgc hat hgrow hown5 c5 f5 x2 xl g5 g8 gl f2 HZ HNC
      generalize w5.setCell ⟨c, 2, none⟩ (.slice (some ⟨gg, 0, none⟩) (v.rn + 1) cap) = w6 at HA6 ⊢
      obtain ⟨v6, hv6⟩ : ∃ v6 : ClV, { v with ra := some ⟨gg, 0, none⟩, rn := v.rn + 1, rc := cap } = v6 := ⟨_, rfl⟩
      rw [hv6] at HA6
      have HON6 : Hid (v6.on ≤ 1000) := Lib.hid (by rw [← hv6]; exact HON.out.1)
      clear hv6
      obtain ⟨x1, xl, f1⟩ : w6.cell? ⟨c, 1, none⟩ = some (.slice v6.oa v6.on v6.oc) ∧ c < w6.heap.size ∧ w6.frozen? ⟨c, 1, none⟩ = false := ⟨(HA6.out.cl.blk.cell 1).trans rfl, HA6.out.cl.blk.lt, HA6.out.cl.blk.frozen 1⟩
      have HNC : Hid ((Value.slice v6.oa v6.on v6.oc).ownBlock ≠ some c) := Lib.hid (fun e => by
        cases ho : v6.oa with
        | none => rw [ho] at e; simp [Value.ownBlock] at e
        | some ad => rw [ho] at e; exact HA6.out.cl.oc_ne ad ho (by simpa [Value.ownBlock] using e))
      have hcx := deleteF_own 0 v6.oa v6.on v6.oc b1 opens m.job w6 HA6.out.cl.own (by have := HON6.out; omega) ((HA6.out.msg.cell 5).trans rfl) (fun ad ha e => HA6.out.n1 (.inr (.inr (.inl ⟨ad, ha, e⟩))))
      go_wp2_with fail
      (with_reducible refine hcx.mono ?_)
      clear hcx
      rintro e w7 ⟨k7, rfl, ho7, hg7⟩
      have c7 : w7.cell? ⟨c, 1, none⟩ = some (.slice v6.oa v6.on v6.oc) := (hg7.cell_far ⟨c, 1, none⟩ xl (Ne.symm HNC.out)).trans x1
      have f7 : w7.frozen? ⟨c, 1, none⟩ = false := (hg7.frozen_far ⟨c, 1, none⟩ xl (Ne.symm HNC.out)).trans f1
      have hb7 : Blk (w7.setCell ⟨c, 1, none⟩ (.slice v6.oa k7 v6.oc)) c 32 #[v6.mv, .slice v6.oa k7 v6.oc, .slice v6.ra v6.rn v6.rc] := (HA6.out.cl.blk.grown hg7 (Ne.symm HNC.out)).set_ 1 _
      have ho8 : OwnL encI 3 1 (w7.setCell ⟨c, 1, none⟩ (.slice v6.oa k7 v6.oc)) 0 v6.oa k7 v6.oc (opens.filter (· != m.job)) := ho7.step fun ad ha _ _ => Below.heap_setCell w7 _ _ ad.block (HA6.out.cl.oc_ne ad ha)
      have hk8 : Kept (fun k => k = c ∨ ∃ ad, v6.oa = some ad ∧ ad.block = k) w6 (w7.setCell ⟨c, 1, none⟩ (.slice v6.oa k7 v6.oc)) :=
        (Kept.of_grown (F := fun k => k = c ∨ ∃ ad, v6.oa = some ad ∧ ad.block = k) hg7 (fun k e _ => by
          cases ho : v6.oa with
          | none => rw [ho] at e; simp [Value.ownBlock] at e
          | some ad => rw [ho] at e; exact .inr ⟨ad, rfl, by simpa [Value.ownBlock] using e⟩)).setCell (fun _ => .inl rfl) _
      obtain ⟨hc8, ht8⟩ := HA6.out.cl.opened ho8 hb7 hk8 (fun ad ha => .inl ha)
      have HA8 := Lib.hid (HA6.out.turn hc8 ht8)
      clear hb7 ho7 ho8 hk8 hc8 ht8 hg7 HNC x1 xl f1 HA6
      go_wp2_with fail
      go_ret
      exact ⟨rfl, _, HA8.out.cl, HA8.out.tu⟩)
end Go.Proofs.YthhnocnkicoimaaDoor
