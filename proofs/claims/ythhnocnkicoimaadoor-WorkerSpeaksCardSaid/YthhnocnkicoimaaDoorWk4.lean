/-
  LAYER 39 (worker): anew, Crash, Boot, Resize, Finish.
-/
import Derived.Test.YthhnocnkicoimaaDoorWk3
set_option linter.unusedVariables false
set_option linter.unusedSimpArgs false
namespace Go.Proofs.YthhnocnkicoimaaDoor
open Go.RowKit Go.Maps

section
variable {w w' : World} {c : Nat} {v : WV} {s : WS}
set_option maxRecDepth 100000 in
set_option maxHeartbeats 1600000 in
theorem wkAnew (h : WkAt w c v s) (hi : 0 ≤ s.inc ∧ s.inc ≤ 2147483647) : Calls Tryd.prog 61 #[.pointer (some ⟨c, 0, none⟩)] w fun e w' => e = .returned (.tuple #[]) ∧ ∃ v', WkAt w' c v' s.anew ∧ Turned (wkS c v) (wkS c v') w w' := by
  have h1 := wkEmpty h
  clear h
  go_enter Tryd.func61, Tryd.ntmps61
  go_wp2_with fail
  (with_reducible refine h1.mono ?_)
  clear h1
  rintro r w1 ⟨rfl, v1, hw1, ht1⟩
  have H1 := Lib.hid hw1
  have HT := Lib.hid ht1
  clear ht1
  obtain ⟨c0, c1, c2, c3, c4, c5, c6, c7, c8, c9, c10, c11, c12, c13, c14⟩ := wkCells hw1.blk
  have cl := hw1.blk.lt
  have cf := hw1.blk.frozen
  clear hw1
  have hwr : IntKind.i64.wrap (s.empty.inc + 1) = s.empty.inc + 1 := IntWalk.i64_in _ (by show -9223372036854775808 ≤ s.inc + 1 ∧ s.inc + 1 ≤ 9223372036854775807; omega)
  go_wp2
  clear c0 c1 c2 c3 c4 c5 c6 c7 c8 c9 c10 c11 c12 c13 c14 cl cf
  have hk := (Kept.setCell (F := fun k => k = c) (Kept.refl (fun k => k = c) w1) (p := ⟨c, 5, none⟩) (fun _ => rfl) (.int .i64 (min (s.empty.inc + 1) 2147483647)))
  have hb : Blk (w1.setCell ⟨c, 5, none⟩ (.int .i64 (min (s.empty.inc + 1) 2147483647))) c 94 (wkBox v1 s.anew) := by
    have h2 := (H1.out.blk.set_ 5 (.int .i64 (min (s.empty.inc + 1) 2147483647)))
    simp only [List.setIfInBounds_toArray, List.set_cons_zero, List.set_cons_succ] at h2
    exact h2
  have hWT := H1.out.cells_ (s' := s.anew) hk hb rfl rfl rfl rfl rfl rfl
  have HF := Lib.hid (And.intro hWT.1 (HT.out.trans hWT.2))
  clear hk hb hWT
  generalize (w1.setCell ⟨c, 5, none⟩ (.int .i64 (min (s.empty.inc + 1) 2147483647))) = w9 at HF ⊢
  go_end0
  exact ⟨rfl, _, HF.out.1, HF.out.2⟩
def WS.crash (s : WS) : WS := { s.empty with up := false }
set_option maxRecDepth 100000 in
set_option maxHeartbeats 1600000 in
theorem wkCrash (h : WkAt w c v s) : Calls Tryd.prog 31 #[.pointer (some ⟨c, 0, none⟩)] w fun e w' => e = .returned (.bool s.up) ∧ ∃ v', WkAt w' c v' (if s.up then s.crash else s) ∧ Turned (wkS c v) (wkS c v') w w' := by
  have hU := wkUp h
  rcases Bool.eq_false_or_eq_true s.up with hu | hu
  · rw [hu] at hU ⊢
    have h1 := wkEmpty h
    clear h
    go_enter Tryd.func31, Tryd.ntmps31
    go_wp2_with (go_at_call 33; (with_reducible refine hU.mono ?_); rintro r w2 ⟨rfl, hw⟩; replace hw := hw.symm; subst hw)
    (with_reducible refine h1.mono ?_)
    clear h1 hU
    rintro r w1 ⟨rfl, v1, hw1, ht1⟩
    have H1 := Lib.hid hw1
    have HT := Lib.hid ht1
    clear ht1
    obtain ⟨c0, c1, c2, c3, c4, c5, c6, c7, c8, c9, c10, c11, c12, c13, c14⟩ := wkCells hw1.blk
    have cl := hw1.blk.lt
    have cf := hw1.blk.frozen
    clear hw1
    go_wp2
    clear c0 c1 c2 c3 c4 c5 c6 c7 c8 c9 c10 c11 c12 c13 c14 cl cf
    have hk := (Kept.setCell (F := fun k => k = c) (Kept.refl (fun k => k = c) w1) (p := ⟨c, 11, none⟩) (fun _ => rfl) (.bool false))
    have hb : Blk (w1.setCell ⟨c, 11, none⟩ (.bool false)) c 94 (wkBox v1 s.crash) := by
      have h2 := (H1.out.blk.set_ 11 (.bool false))
      simp only [List.setIfInBounds_toArray, List.set_cons_zero, List.set_cons_succ] at h2
      exact h2
    have hWT := H1.out.cells_ (s' := s.crash) hk hb rfl rfl rfl rfl rfl rfl
    have HF := Lib.hid (And.intro hWT.1 (HT.out.trans hWT.2))
    clear hk hb hWT
    generalize (w1.setCell ⟨c, 11, none⟩ (.bool false)) = w9 at HF ⊢
    go_ret
    exact ⟨rfl, _, HF.out.1, HF.out.2⟩
  · rw [hu] at hU ⊢
    have HX := Lib.hid h
    clear h
    go_enter Tryd.func31, Tryd.ntmps31
    go_wp2_with (go_at_call 33; (with_reducible refine hU.mono ?_); rintro r w2 ⟨rfl, hw⟩; replace hw := hw.symm; subst hw)
    go_ret
    exact ⟨rfl, v, HX.out, Turned.refl _ _⟩
def WS.boot (s : WS) : WS := { s with up := true }.anew
set_option maxRecDepth 100000 in
set_option maxHeartbeats 1600000 in
theorem wkBoot (h : WkAt w c v s) (hs : 0 < s.span) (hi : 0 ≤ s.inc ∧ s.inc ≤ 2147483647) : Calls Tryd.prog 32 #[.pointer (some ⟨c, 0, none⟩)] w fun e w' => e = .returned (.bool (!s.up)) ∧ ∃ v', WkAt w' c v' (if s.up then s else s.boot) ∧ Turned (wkS c v) (wkS c v') w w' := by
  have hM := wkMade h hs
  obtain ⟨c0, c1, c2, c3, c4, c5, c6, c7, c8, c9, c10, c11, c12, c13, c14⟩ := wkCells h.blk
  have cl := h.blk.lt
  have cf := h.blk.frozen
  have HX := Lib.hid h
  rcases Bool.eq_false_or_eq_true s.up with hu | hu
  · rw [hu] at c11 ⊢
    clear h hi
    go_enter Tryd.func32, Tryd.ntmps32
    go_wp2_with (go_at_call 58; (with_reducible refine hM.mono ?_); rintro r w2 ⟨rfl, hw⟩; replace hw := hw.symm; subst hw)
    go_ret
    exact ⟨rfl, v, HX.out, Turned.refl _ _⟩
  · rw [hu] at c11 ⊢
    have hk := (Kept.setCell (F := fun k => k = c) (Kept.refl (fun k => k = c) w) (p := ⟨c, 11, none⟩) (fun _ => rfl) (.bool true))
    have hb : Blk (w.setCell ⟨c, 11, none⟩ (.bool true)) c 94 (wkBox v { s with up := true }) := by
      have h2 := (HX.out.blk.set_ 11 (.bool true))
      simp only [List.setIfInBounds_toArray, List.set_cons_zero, List.set_cons_succ] at h2
      exact h2
    have hWT := HX.out.cells_ (s' := { s with up := true }) hk hb rfl rfl rfl rfl rfl rfl
    have h1 := wkAnew hWT.1 hi
    have HT := Lib.hid hWT.2
    clear h hk hb hWT
    go_enter Tryd.func32, Tryd.ntmps32
    go_wp2_with (go_at_call 58; (with_reducible refine hM.mono ?_); rintro r w2 ⟨rfl, hw⟩; replace hw := hw.symm; subst hw)
    (with_reducible refine h1.mono ?_)
    clear h1
    rintro r w1 ⟨rfl, v1, hw1, ht1⟩
    have HF := Lib.hid (And.intro hw1 (HT.out.trans ht1))
    clear hw1 ht1 hM cl cf c0 c1 c2 c3 c4 c5 c6 c7 c8 c9 c10 c11 c12 c13 c14
    go_wp2
    go_ret
    exact ⟨rfl, _, HF.out.1, HF.out.2⟩
def WS.size_ (s : WS) (r : LRes) : WS := { s with cap := r }
set_option maxRecDepth 100000 in
set_option maxHeartbeats 1600000 in
theorem wkResize_yes (h : WkAt w c v s) (hs : 0 < s.span) (r : LRes) (hr : rightR r = true) : Calls Tryd.prog 39 #[.pointer (some ⟨c, 0, none⟩), aggRes r] w fun e w' => e = .returned (.int .i64 0) ∧ ∃ v', WkAt w' c v' (s.size_ r) ∧ Turned (wkS c v) (wkS c v') w w' := by
  have hB : Below w.heap.size w (w.alloc (.cells (boxRes r) 36)) := (Below.refl _ _).alloc (Nat.le_refl _) _
  have h1 := h.below hB
  have hM := wkMade h1 hs
  have hbr := Blk.new w 36 (boxRes r)
  have HB := Lib.hid (And.intro (Turned.of_below (S := wkS c v) hB) (And.intro h1 hbr))
  clear h hB h1 hbr
  go_enter Tryd.func39, Tryd.ntmps39
  go_upto_region 1 with fail
  generalize w.alloc (.cells (boxRes r) 36) = w1 at hM HB ⊢
  obtain ⟨b, hb⟩ : ∃ b, w.heap.size = b := ⟨_, rfl⟩
  rw [hb] at HB
  try rw [hb]
  clear hb
  go_upto_region 3 with (go_at_call 58; (with_reducible refine hM.mono ?_); rintro rr w2 ⟨rfl, hw⟩; replace hw := hw.symm; subst hw)
  clear hM
  obtain ⟨r0, r1, r2⟩ : w1.cell? ⟨b, 0, none⟩ = some (.int .i64 r.a) ∧ w1.cell? ⟨b, 1, none⟩ = some (.int .i64 r.b) ∧ w1.cell? ⟨b, 2, none⟩ = some (.int .i64 r.c) := ⟨(HB.out.2.2.cell 0).trans rfl, (HB.out.2.2.cell 1).trans rfl, (HB.out.2.2.cell 2).trans rfl⟩
  have rl := HB.out.2.2.lt
  have hR := resRight_t r w1
  rw [hr] at hR
  go_wp2_with fail
  (with_reducible refine hR.mono ?_)
  clear hR r0 r1 r2 rl
  rintro rr w2 ⟨rfl, hb2⟩
  have H2 := Lib.hid (And.intro (HB.out.1.then_below hb2) (And.intro (HB.out.2.1.below hb2) (HB.out.2.2.below hb2 HB.out.2.2.lt)))
  clear hb2
  obtain ⟨r0, r1, r2⟩ : w2.cell? ⟨b, 0, none⟩ = some (.int .i64 r.a) ∧ w2.cell? ⟨b, 1, none⟩ = some (.int .i64 r.b) ∧ w2.cell? ⟨b, 2, none⟩ = some (.int .i64 r.c) := ⟨(H2.out.2.2.cell 0).trans rfl, (H2.out.2.2.cell 1).trans rfl, (H2.out.2.2.cell 2).trans rfl⟩
  have rl := H2.out.2.2.lt
  obtain ⟨c0, c1, c2, c3, c4, c5, c6, c7, c8, c9, c10, c11, c12, c13, c14⟩ := wkCells H2.out.2.1.blk
  have cl := H2.out.2.1.blk.lt
  have cf := H2.out.2.1.blk.frozen
  go_wp2
  clear cl cf r0 r1 r2 rl c0 c1 c2 c3 c4 c5 c6 c7 c8 c9 c10 c11 c12 c13 c14
  have hk := (Kept.setCell (F := fun k => k = c) (Kept.setCell (F := fun k => k = c) (Kept.setCell (F := fun k => k = c) (Kept.refl (fun k => k = c) w2) (p := ⟨c, 8, none⟩) (fun _ => rfl) (.int .i64 r.a)) (p := ⟨c, 9, none⟩) (fun _ => rfl) (.int .i64 r.b)) (p := ⟨c, 10, none⟩) (fun _ => rfl) (.int .i64 r.c))
  have hb : Blk (((w2.setCell ⟨c, 8, none⟩ (.int .i64 r.a)).setCell ⟨c, 9, none⟩ (.int .i64 r.b)).setCell ⟨c, 10, none⟩ (.int .i64 r.c)) c 94 (wkBox v (s.size_ r)) := by
    have h2 := (((H2.out.2.1.blk.set_ 8 (.int .i64 r.a)).set_ 9 (.int .i64 r.b)).set_ 10 (.int .i64 r.c))
    simp only [List.setIfInBounds_toArray, List.set_cons_zero, List.set_cons_succ] at h2
    exact h2
  have hWT := H2.out.2.1.cells_ (s' := (s.size_ r)) hk hb rfl rfl rfl rfl rfl rfl
  have HF := Lib.hid (And.intro hWT.1 (H2.out.1.trans hWT.2))
  clear hk hb hWT
  generalize (((w2.setCell ⟨c, 8, none⟩ (.int .i64 r.a)).setCell ⟨c, 9, none⟩ (.int .i64 r.b)).setCell ⟨c, 10, none⟩ (.int .i64 r.c)) = w9 at HF ⊢
  go_ret
  exact ⟨rfl, _, HF.out.1, HF.out.2⟩
set_option maxRecDepth 100000 in
set_option maxHeartbeats 1600000 in
theorem wkResize_no (h : WkAt w c v s) (hs : 0 < s.span) (r : LRes) (hr : rightR r = false) : Calls Tryd.prog 39 #[.pointer (some ⟨c, 0, none⟩), aggRes r] w fun e w' => e = .returned (.int .i64 1) ∧ ∃ v', WkAt w' c v' s ∧ Turned (wkS c v) (wkS c v') w w' := by
  have hB : Below w.heap.size w (w.alloc (.cells (boxRes r) 36)) := (Below.refl _ _).alloc (Nat.le_refl _) _
  have h1 := h.below hB
  have hM := wkMade h1 hs
  have hbr := Blk.new w 36 (boxRes r)
  have HB := Lib.hid (And.intro (Turned.of_below (S := wkS c v) hB) (And.intro h1 hbr))
  clear h hB h1 hbr
  go_enter Tryd.func39, Tryd.ntmps39
  go_upto_region 1 with fail
  generalize w.alloc (.cells (boxRes r) 36) = w1 at hM HB ⊢
  obtain ⟨b, hb⟩ : ∃ b, w.heap.size = b := ⟨_, rfl⟩
  rw [hb] at HB
  try rw [hb]
  clear hb
  go_upto_region 3 with (go_at_call 58; (with_reducible refine hM.mono ?_); rintro rr w2 ⟨rfl, hw⟩; replace hw := hw.symm; subst hw)
  clear hM
  obtain ⟨r0, r1, r2⟩ : w1.cell? ⟨b, 0, none⟩ = some (.int .i64 r.a) ∧ w1.cell? ⟨b, 1, none⟩ = some (.int .i64 r.b) ∧ w1.cell? ⟨b, 2, none⟩ = some (.int .i64 r.c) := ⟨(HB.out.2.2.cell 0).trans rfl, (HB.out.2.2.cell 1).trans rfl, (HB.out.2.2.cell 2).trans rfl⟩
  have rl := HB.out.2.2.lt
  have hR := resRight_t r w1
  rw [hr] at hR
  go_wp2_with fail
  (with_reducible refine hR.mono ?_)
  clear hR r0 r1 r2 rl
  rintro rr w2 ⟨rfl, hb2⟩
  have HF := Lib.hid (And.intro (HB.out.1.then_below hb2) (HB.out.2.1.below hb2))
  clear hb2
  go_wp2
  go_ret
  exact ⟨rfl, v, HF.out.2, HF.out.1⟩
end
end Go.Proofs.YthhnocnkicoimaaDoor
