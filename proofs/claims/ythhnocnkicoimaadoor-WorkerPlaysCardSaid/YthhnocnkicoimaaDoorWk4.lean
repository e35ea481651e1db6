/-
 LAYER 39 (worker): what is asked of it; empty, anew, Crash, Boot, Resize.
 LAYER 39 (worker): anew, Crash, Boot, Resize, Finish.
-/
import Derived.Test.YthhnocnkicoimaaDoorWk2
import Derived.Test.YthhnocnkicoimaaDoorKeysN
import Derived.Test.YthhnocnkicoimaaDoorAnySeg
set_option linter.unusedVariables false
set_option linter.unusedSimpArgs false
namespace Go.Proofs.YthhnocnkicoimaaDoor
open Go.RowKit Go.Maps

def WS.empty (s : WS) : WS := { s with held := [], done := [], told := [], until_ := 0, first := 0 }
def WS.anew (s : WS) : WS := { s.empty with inc := min (s.inc + 1) 2147483647 }
section
variable {w w' : World} {c : Nat} {v : WV} {s : WS}
set_option maxRecDepth 100000 in
set_option maxHeartbeats 1600000 in
theorem wkInfo (h : WkAt w c v s) (hs : 0 < s.span) : Calls Tryd.prog 24 #[.pointer (some ⟨c, 0, none⟩)] w fun e w' => e = .returned (.tuple #[.int .i64 s.inc, .int .i64 s.until_, .int .i64 s.epoch]) ∧ Below w.heap.size w w' := by
 have hM := wkMade h hs
 have HX := Lib.hid h
 clear h
 go_enter Tryd.func24, Tryd.ntmps24
 go_upto_region 3 with (go_at_call 58; (with_reducible refine hM.mono ?_); rintro r w2 ⟨rfl, hw⟩; replace hw := hw.symm; subst hw)
 refine Cont.start (by kernel_rfl) ?_
 have HD := Lib.hid (HX.out.below (Below.refl _ _).drew)
 have HB := Lib.hid (Below.refl w.heap.size w).drew
 generalize w.drew = wd at HD HB ⊢
 refine cont_free2 0 15 8 [] [.o (eqV (.pointer (some ⟨c, 0, none⟩))), .o (eqV (.pointer (some ⟨c, 0, none⟩))), .o (eqV (.pointer (some ⟨c, 5, none⟩))), .o (eqV (.int .i64 s.inc)), .o (eqV (.pointer (some ⟨c, 0, none⟩))), .o (eqV (.pointer (some ⟨c, 0, none⟩))), .o (eqV (.pointer (some ⟨c, 6, none⟩))), .o (eqV (.int .i64 s.until_)), .o (eqV (.pointer (some ⟨c, 0, none⟩))), .o (eqV (.pointer (some ⟨c, 0, none⟩))), .o (eqV (.pointer (some ⟨c, 0, none⟩))), .o (eqV (.int .i64 s.epoch))] [2, 3, 4] [.o (eqV (.int .i64 s.inc)), .o (eqV (.int .i64 s.until_)), .o (eqV (.int .i64 s.epoch))] [false, false, false, false, false, false, false, false, false, false, false, false, false, false, false] (by kernel_rfl) (by kernel_rfl) (by kernel_rfl) (by kernel_rfl) (by kernel_rfl) (by kernel_rfl) (by kernel_rfl) rfl (by kernel_rfl) (by kernel_rfl) ⟨?_, ?_, ?_, ?_, ?_, ?_, ?_, ?_, ?_, ?_, ?_, ?_, ?_, ?_, ?_, trivial⟩ ?fin
 ·intro a w hb hoth hdep
  refine step_on (want_none rfl) ?_
  have e0 : a.tmps[0]? = some (.pointer (some ⟨c, 0, none⟩)) := ev_seg hoth 0 (by kernel_rfl) rfl
  exact step_val ((BigFrame.run_move _ rfl w).trans (by rw [ev_of e0])) rfl
 ·intro a w hb hoth hdep
  refine step_on (want_none rfl) ?_
  obtain ⟨v0, e8, hv0⟩ := ev_dep hdep 0 8 (by kernel_rfl) (by kernel_rfl)
  replace hv0 : v0 = .pointer (some ⟨c, 0, none⟩) := hv0
  subst hv0
  refine step_val (x := .pointer (some ⟨c, 0, none⟩)) ?_ rfl
  simp [go_sem, e8]
 ·intro a w hb hoth hdep
  refine step_on (want_none rfl) ?_
  obtain ⟨v1, e9, hv1⟩ := ev_dep hdep 1 9 (by kernel_rfl) (by kernel_rfl)
  replace hv1 : v1 = .pointer (some ⟨c, 0, none⟩) := hv1
  subst hv1
  refine step_val (x := .pointer (some ⟨c, 5, none⟩)) ?_ rfl
  simp [go_sem, e9]
 ·intro a w hb hoth hdep
  refine step_on (want_none rfl) ?_
  obtain ⟨v2, e10, hv2⟩ := ev_dep hdep 2 10 (by kernel_rfl) (by kernel_rfl)
  replace hv2 : v2 = .pointer (some ⟨c, 5, none⟩) := hv2
  subst hv2
  obtain ⟨c0, c1, c2, c3, c4, c5, c6, c7, c8, c9, c10, c11, c12, c13, c14⟩ := wkCells (HD.out.below hb).blk
  refine step_val (x := .int .i64 s.inc) ?_ rfl
  simp [go_sem, e10, c5]
 ·intro a w hb hoth hdep
  refine step_on (want_none rfl) ?_
  have e0 : a.tmps[0]? = some (.pointer (some ⟨c, 0, none⟩)) := ev_seg hoth 0 (by kernel_rfl) rfl
  exact step_val ((BigFrame.run_move _ rfl w).trans (by rw [ev_of e0])) rfl
 ·intro a w hb hoth hdep
  refine step_on (want_none rfl) ?_
  obtain ⟨v4, e12, hv4⟩ := ev_dep hdep 4 12 (by kernel_rfl) (by kernel_rfl)
  replace hv4 : v4 = .pointer (some ⟨c, 0, none⟩) := hv4
  subst hv4
  refine step_val (x := .pointer (some ⟨c, 0, none⟩)) ?_ rfl
  simp [go_sem, e12]
 ·intro a w hb hoth hdep
  refine step_on (want_none rfl) ?_
  obtain ⟨v5, e13, hv5⟩ := ev_dep hdep 5 13 (by kernel_rfl) (by kernel_rfl)
  replace hv5 : v5 = .pointer (some ⟨c, 0, none⟩) := hv5
  subst hv5
  refine step_val (x := .pointer (some ⟨c, 6, none⟩)) ?_ rfl
  simp [go_sem, e13]
 ·intro a w hb hoth hdep
  refine step_on (want_none rfl) ?_
  obtain ⟨v6, e14, hv6⟩ := ev_dep hdep 6 14 (by kernel_rfl) (by kernel_rfl)
  replace hv6 : v6 = .pointer (some ⟨c, 6, none⟩) := hv6
  subst hv6
  obtain ⟨c0, c1, c2, c3, c4, c5, c6, c7, c8, c9, c10, c11, c12, c13, c14⟩ := wkCells (HD.out.below hb).blk
  refine step_val (x := .int .i64 s.until_) ?_ rfl
  simp [go_sem, e14, c6]
 ·intro a w hb hoth hdep
  refine step_on (want_none rfl) ?_
  have e0 : a.tmps[0]? = some (.pointer (some ⟨c, 0, none⟩)) := ev_seg hoth 0 (by kernel_rfl) rfl
  exact step_val ((BigFrame.run_move _ rfl w).trans (by rw [ev_of e0])) rfl
 ·intro a w hb hoth hdep
  refine step_on (want_none rfl) ?_
  obtain ⟨v8, e16, hv8⟩ := ev_dep hdep 8 16 (by kernel_rfl) (by kernel_rfl)
  replace hv8 : v8 = .pointer (some ⟨c, 0, none⟩) := hv8
  subst hv8
  refine step_val (x := .pointer (some ⟨c, 0, none⟩)) ?_ rfl
  simp [go_sem, e16]
 ·intro a w hb hoth hdep
  refine step_on (want_none rfl) ?_
  obtain ⟨v9, e17, hv9⟩ := ev_dep hdep 9 17 (by kernel_rfl) (by kernel_rfl)
  replace hv9 : v9 = .pointer (some ⟨c, 0, none⟩) := hv9
  subst hv9
  refine step_val (x := .pointer (some ⟨c, 0, none⟩)) ?_ rfl
  simp [go_sem, e17]
 ·intro a w hb hoth hdep
  refine step_on (want_none rfl) ?_
  obtain ⟨v10, e18, hv10⟩ := ev_dep hdep 10 18 (by kernel_rfl) (by kernel_rfl)
  replace hv10 : v10 = .pointer (some ⟨c, 0, none⟩) := hv10
  subst hv10
  refine step_call (f := 59) (args := #[.pointer (some ⟨c, 0, none⟩)]) ?_ ?_
  ·simp [go_sem, e18]
  ·obtain ⟨c0, c1, c2, c3, c4, c5, c6, c7, c8, c9, c10, c11, c12, c13, c14⟩ := wkCells (HD.out.below hb).blk
   have hcx := epoch_t c s.epoch w c0
   (with_reducible refine hcx.mono ?_)
   clear hcx
   rintro e w2 ⟨rfl, hw⟩
   subst hw
   exact ⟨_, rfl, rfl, Below.refl _ _⟩
 ·intro a w hb hoth hdep
  refine step_on (want_none rfl) ?_
  obtain ⟨v3, e11, hv3⟩ := ev_dep hdep 3 11 (by kernel_rfl) (by kernel_rfl)
  replace hv3 : v3 = .int .i64 s.inc := hv3
  subst hv3
  exact step_val ((BigFrame.run_assign _ rfl w).trans (by rw [ev_of e11])) rfl
 ·intro a w hb hoth hdep
  refine step_on (want_none rfl) ?_
  obtain ⟨v7, e15, hv7⟩ := ev_dep hdep 7 15 (by kernel_rfl) (by kernel_rfl)
  replace hv7 : v7 = .int .i64 s.until_ := hv7
  subst hv7
  exact step_val ((BigFrame.run_assign _ rfl w).trans (by rw [ev_of e15])) rfl
 ·intro a w hb hoth hdep
  refine step_on (want_none rfl) ?_
  obtain ⟨v11, e19, hv11⟩ := ev_dep hdep 11 19 (by kernel_rfl) (by kernel_rfl)
  replace hv11 : v11 = .int .i64 s.epoch := hv11
  subst hv11
  exact step_val ((BigFrame.run_assign _ rfl w).trans (by rw [ev_of e19])) rfl
 case fin =>
  intro wz hbz
  iterate 12 (rintro _ rfl)
  refine FinC.nil ?_
  iterate 3 (rintro _ rfl)
  refine FinL.nil ?_
  refine cont_end (by kernel_rfl) ?_
  have HF := Lib.hid (HB.out.trans (hbz.mono HB.out.size))
  clear hM HX hbz HB HD
  go_wp2_with fail
  refine bodyPost_ret (v := .tuple #[.int .i64 s.inc, .int .i64 s.until_, .int .i64 s.epoch]) (by simp [results, Tryd.results24, go_sem]) rfl ⟨rfl, HF.out⟩
set_option maxRecDepth 100000 in
set_option maxHeartbeats 1600000 in
theorem rising_t (b : Nat) (row : List Int) (f : Int → Int) (h : MapKV w (.map (some b)) row f) (hn : row.length ≤ 1000000) : Calls Tryd.prog 60 #[.map (some b)] w fun e w' => ∃ A nn cc, e = .returned (.slice A nn cc) ∧ OwnL encI 3 1 w' w.heap.size A nn cc row ∧ Below w.heap.size w w' := by
 have h1 := mapKeys_t (.map (some b)) ⟨_, rfl⟩ w
 have hB : Below w.heap.size w (w.alloc (.cells #[.map (some b)] 26)) := (Below.refl _ _).alloc (Nat.le_refl _) _
 have h2 := sortedKeys_t w.heap.size b row _ (Blk.new w 26 #[.map (some b)]) (h.set_.below hB) hn
 have HB := Lib.hid hB
 clear h hB
 go_enter Tryd.func60, Tryd.ntmps60
 go_wp2_with (first
   | (go_at_call 92; (with_reducible refine h1.mono ?_); rintro r w2 ⟨rfl, hw⟩; replace hw := hw.symm; subst hw)
   | (go_at_call 91; (with_reducible refine h2.mono ?_); rintro r w2 ⟨A, nn, cc, rfl, ho, hb⟩))
 go_ret
 exact ⟨A, nn, cc, rfl, ho.lower HB.out.size, HB.out.trans (hb.mono HB.out.size)⟩
set_option maxRecDepth 100000 in
set_option maxHeartbeats 1600000 in
theorem wkHeld (h : WkAt w c v s) (hn : s.held.length ≤ 1000000) : Calls Tryd.prog 28 #[.pointer (some ⟨c, 0, none⟩)] w fun e w' => ∃ A nn cc, e = .returned (.slice A nn cc) ∧ OwnL encI 3 1 w' w.heap.size A nn cc s.held ∧ Below w.heap.size w w' := by
 obtain ⟨f, hf⟩ := h.h
 have h1 := rising_t v.h s.held f hf hn
 obtain ⟨c0, c1, c2, c3, c4, c5, c6, c7, c8, c9, c10, c11, c12, c13, c14⟩ := wkCells h.blk
 have cl := h.blk.lt
 have cf := h.blk.frozen
 clear h hf
 go_enter Tryd.func28, Tryd.ntmps28
 go_wp2_with (first
   | (go_at_call 60; (with_reducible refine h1.mono ?_); rintro r w2 ⟨A, nn, cc, rfl, ho, hb⟩))
 go_ret
 exact ⟨A, nn, cc, rfl, ho, hb⟩
set_option maxRecDepth 100000 in
set_option maxHeartbeats 1600000 in
theorem wkDone (h : WkAt w c v s) (hn : s.done.length ≤ 1000000) : Calls Tryd.prog 25 #[.pointer (some ⟨c, 0, none⟩)] w fun e w' => ∃ A nn cc, e = .returned (.slice A nn cc) ∧ OwnL encI 3 1 w' w.heap.size A nn cc s.done ∧ Below w.heap.size w w' := by
 obtain ⟨f, hf⟩ := h.d
 have h1 := rising_t v.d s.done f hf hn
 obtain ⟨c0, c1, c2, c3, c4, c5, c6, c7, c8, c9, c10, c11, c12, c13, c14⟩ := wkCells h.blk
 have cl := h.blk.lt
 have cf := h.blk.frozen
 clear h hf
 go_enter Tryd.func25, Tryd.ntmps25
 go_wp2_with (first
   | (go_at_call 60; (with_reducible refine h1.mono ?_); rintro r w2 ⟨A, nn, cc, rfl, ho, hb⟩))
 go_ret
 exact ⟨A, nn, cc, rfl, ho, hb⟩
set_option maxRecDepth 100000 in
set_option maxHeartbeats 1600000 in
theorem wkEmpty (h : WkAt w c v s) : Calls Tryd.prog 57 #[.pointer (some ⟨c, 0, none⟩)] w fun e w' => e = .returned (.tuple #[]) ∧ ∃ v', WkAt w' c v' s.empty ∧ Turned (wkS c v) (wkS c v') w w' := by
 have hlt := h.blk.lt
 have hB := (((Below.refl w.heap.size w).alloc (Nat.le_refl _) (.map #[] 0)).alloc (by simp) (.map #[] 0)).alloc (by simp; omega) (.map #[] 0)
 have h3 := h.below hB
 have m1 := ((MapKV.made w (fun _ => 0)).alloc (.map #[] 0)).alloc (.map #[] 0)
 have m2 := (MapKV.made (w.alloc (.map #[] 0)) (fun _ => 0)).alloc (.map #[] 0)
 have m3 := MapKV.made ((w.alloc (.map #[] 0)).alloc (.map #[] 0)) (fun _ => 0)
 rw [show (w.alloc (.map #[] 0)).heap.size = w.heap.size + 1 by simp] at m2
 rw [show ((w.alloc (.map #[] 0)).alloc (.map #[] 0)).heap.size = w.heap.size + 1 + 1 by simp] at m3
 obtain ⟨c0, c1, c2, c3, c4, c5, c6, c7, c8, c9, c10, c11, c12, c13, c14⟩ := wkCells h3.blk
 have cl := h3.blk.lt
 have cf := h3.blk.frozen
 have HA := Lib.hid (And.intro h3 (And.intro m1 (And.intro m2 (And.intro m3 (And.intro hlt hB)))))
 clear h hB h3 m1 m2 m3 hlt
 clear c0 c1 c2 c3 c4 c5 c8 c9 c10 c11
 have hmm := @run_makeMap Tryd.prog
 go_enter Tryd.func57, Tryd.ntmps57
 go_upto_region 1 with fail
 clear hmm
 generalize (((w.alloc (.map #[] 0)).alloc (.map #[] 0)).alloc (.map #[] 0)) = w3 at *
 go_wp2
 clear c6 c7 c12 c13 c14 cl cf
 have hk : Kept (fun k => k = c) w3 (((((w3.setCell ⟨c, 12, none⟩ (.map (some w.heap.size))).setCell ⟨c, 13, none⟩ (.map (some (w.heap.size + 1)))).setCell ⟨c, 14, none⟩ (.map (some (w.heap.size + 1 + 1)))).setCell ⟨c, 6, none⟩ (.int .i64 0)).setCell ⟨c, 7, none⟩ (.int .i64 0)) := Kept.setCell (p := ⟨c, 7, none⟩) (Kept.setCell (p := ⟨c, 6, none⟩) (Kept.setCell (p := ⟨c, 14, none⟩) (Kept.setCell (p := ⟨c, 13, none⟩) (Kept.setCell (p := ⟨c, 12, none⟩) (Kept.refl (fun k => k = c) w3) (fun _ => rfl) _) (fun _ => rfl) _) (fun _ => rfl) _) (fun _ => rfl) _) (fun _ => rfl) _
 have hb : Blk (((((w3.setCell ⟨c, 12, none⟩ (.map (some w.heap.size))).setCell ⟨c, 13, none⟩ (.map (some (w.heap.size + 1)))).setCell ⟨c, 14, none⟩ (.map (some (w.heap.size + 1 + 1)))).setCell ⟨c, 6, none⟩ (.int .i64 0)).setCell ⟨c, 7, none⟩ (.int .i64 0)) c 94 (wkBox { v with h := w.heap.size, d := w.heap.size + 1, t := w.heap.size + 1 + 1 } s.empty) := by
  have h2 := ((((HA.out.1.blk.set_ 12 (.map (some w.heap.size))).set_ 13 (.map (some (w.heap.size + 1)))).set_ 14 (.map (some (w.heap.size + 1 + 1)))).set_ 6 (.int .i64 0)).set_ 7 (.int .i64 0)
  simp only [List.setIfInBounds_toArray, List.set_cons_zero, List.set_cons_succ] at h2
  exact h2
 have hlt := HA.out.2.2.2.2.1
 have hW : WkAt (((((w3.setCell ⟨c, 12, none⟩ (.map (some w.heap.size))).setCell ⟨c, 13, none⟩ (.map (some (w.heap.size + 1)))).setCell ⟨c, 14, none⟩ (.map (some (w.heap.size + 1 + 1)))).setCell ⟨c, 6, none⟩ (.int .i64 0)).setCell ⟨c, 7, none⟩ (.int .i64 0)) c { v with h := w.heap.size, d := w.heap.size + 1, t := w.heap.size + 1 + 1 } s.empty := ⟨hb, ⟨_, HA.out.2.1.kept hk (fun b e => by cases e; omega)⟩, ⟨_, HA.out.2.2.1.kept hk (fun b e => by cases e; omega)⟩, ⟨_, HA.out.2.2.2.1.kept hk (fun b e => by cases e; omega)⟩, by simp, by simp; omega, by simp⟩
 have hT : Turned (wkS c v) (wkS c { v with h := w.heap.size, d := w.heap.size + 1, t := w.heap.size + 1 + 1 }) w (((((w3.setCell ⟨c, 12, none⟩ (.map (some w.heap.size))).setCell ⟨c, 13, none⟩ (.map (some (w.heap.size + 1)))).setCell ⟨c, 14, none⟩ (.map (some (w.heap.size + 1 + 1)))).setCell ⟨c, 6, none⟩ (.int .i64 0)).setCell ⟨c, 7, none⟩ (.int .i64 0)) := by
  refine ⟨(Kept.of_below (F := wkS c v) HA.out.2.2.2.2.2).trans hk (fun i _ e => .inl e), ?_⟩
  rintro k (rfl | rfl | rfl | rfl)
  ·exact .inl (.inl rfl)
  ·exact .inr (Nat.le_refl _)
  ·exact .inr (by show w.heap.size ≤ w.heap.size + 1; omega)
  ·exact .inr (by show w.heap.size ≤ w.heap.size + 1 + 1; omega)
 have HF := Lib.hid (And.intro hW hT)
 clear hk hb hlt hW hT
 generalize (((((w3.setCell ⟨c, 12, none⟩ (.map (some w.heap.size))).setCell ⟨c, 13, none⟩ (.map (some (w.heap.size + 1)))).setCell ⟨c, 14, none⟩ (.map (some (w.heap.size + 1 + 1)))).setCell ⟨c, 6, none⟩ (.int .i64 0)).setCell ⟨c, 7, none⟩ (.int .i64 0)) = w9 at HF ⊢
 go_end0
 exact ⟨rfl, _, HF.out.1, HF.out.2⟩
end
end Go.Proofs.YthhnocnkicoimaaDoor
namespace Go.Proofs.YthhnocnkicoimaaDoor
open Go.RowKit Go.Maps

section
variable {w w' : World} {c : Nat} {v : WV} {s : WS}
set_option maxRecDepth 100000 in
set_option maxHeartbeats 1600000 in
theorem wkAnew (h : WkAt w c v s) (hi : 0 ≤ s.inc ∧ s.inc ≤ 2147483647) : Calls Tryd.prog 61 #[.pointer (some ⟨c, 0, none⟩)] w fun e w' => e = .returned (.tuple #[]) ∧ ∃ v', WkAt w' c v' s.anew ∧ Turned (wkS c v) (wkS c v') w w' := by
 have h1 := wkEmpty h
 clear h
 go_enter Tryd.func61, Tryd.ntmps61
 go_wp2_with fail
 (with_reducible refine h1.mono ?_)
 clear h1
 rintro r w1 ⟨rfl, v1, hw1, ht1⟩
 have H1 := Lib.hid hw1
 have HT := Lib.hid ht1
 clear ht1
 obtain ⟨c0, c1, c2, c3, c4, c5, c6, c7, c8, c9, c10, c11, c12, c13, c14⟩ := wkCells hw1.blk
 have cl := hw1.blk.lt
 have cf := hw1.blk.frozen
 clear hw1
 have hwr : IntKind.i64.wrap (s.empty.inc + 1) = s.empty.inc + 1 := IntWalk.i64_in _ (by show -9223372036854775808 ≤ s.inc + 1 ∧ s.inc + 1 ≤ 9223372036854775807; omega)
 go_wp2
 clear c0 c1 c2 c3 c4 c5 c6 c7 c8 c9 c10 c11 c12 c13 c14 cl cf
 have hk := (Kept.setCell (F := fun k => k = c) (Kept.refl (fun k => k = c) w1) (p := ⟨c, 5, none⟩) (fun _ => rfl) (.int .i64 (min (s.empty.inc + 1) 2147483647)))
 have hb : Blk (w1.setCell ⟨c, 5, none⟩ (.int .i64 (min (s.empty.inc + 1) 2147483647))) c 94 (wkBox v1 s.anew) := by
  have h2 := (H1.out.blk.set_ 5 (.int .i64 (min (s.empty.inc + 1) 2147483647)))
  simp only [List.setIfInBounds_toArray, List.set_cons_zero, List.set_cons_succ] at h2
  exact h2
 have hWT := H1.out.cells_ (s' := s.anew) hk hb rfl rfl rfl rfl rfl rfl
 have HF := Lib.hid (And.intro hWT.1 (HT.out.trans hWT.2))
 clear hk hb hWT
 generalize (w1.setCell ⟨c, 5, none⟩ (.int .i64 (min (s.empty.inc + 1) 2147483647))) = w9 at HF ⊢
 go_end0
 exact ⟨rfl, _, HF.out.1, HF.out.2⟩
def WS.crash (s : WS) : WS := { s.empty with up := false }
set_option maxRecDepth 100000 in
set_option maxHeartbeats 1600000 in
theorem wkCrash (h : WkAt w c v s) : Calls Tryd.prog 31 #[.pointer (some ⟨c, 0, none⟩)] w fun e w' => e = .returned (.bool s.up) ∧ ∃ v', WkAt w' c v' (if s.up then s.crash else s) ∧ Turned (wkS c v) (wkS c v') w w' := by
 have hU := wkUp h
 rcases Bool.eq_false_or_eq_true s.up with hu | hu
 ·rw [hu] at hU ⊢
  have h1 := wkEmpty h
  clear h
  go_enter Tryd.func31, Tryd.ntmps31
  go_wp2_with (go_at_call 33; (with_reducible refine hU.mono ?_); rintro r w2 ⟨rfl, hw⟩; replace hw := hw.symm; subst hw)
  (with_reducible refine h1.mono ?_)
  clear h1 hU
  rintro r w1 ⟨rfl, v1, hw1, ht1⟩
  have H1 := Lib.hid hw1
  have HT := Lib.hid ht1
  clear ht1
  obtain ⟨c0, c1, c2, c3, c4, c5, c6, c7, c8, c9, c10, c11, c12, c13, c14⟩ := wkCells hw1.blk
  have cl := hw1.blk.lt
  have cf := hw1.blk.frozen
  clear hw1
  go_wp2
  clear c0 c1 c2 c3 c4 c5 c6 c7 c8 c9 c10 c11 c12 c13 c14 cl cf
  have hk := (Kept.setCell (F := fun k => k = c) (Kept.refl (fun k => k = c) w1) (p := ⟨c, 11, none⟩) (fun _ => rfl) (.bool false))
  have hb : Blk (w1.setCell ⟨c, 11, none⟩ (.bool false)) c 94 (wkBox v1 s.crash) := by
   have h2 := (H1.out.blk.set_ 11 (.bool false))
   simp only [List.setIfInBounds_toArray, List.set_cons_zero, List.set_cons_succ] at h2
   exact h2
  have hWT := H1.out.cells_ (s' := s.crash) hk hb rfl rfl rfl rfl rfl rfl
  have HF := Lib.hid (And.intro hWT.1 (HT.out.trans hWT.2))
  clear hk hb hWT
  generalize (w1.setCell ⟨c, 11, none⟩ (.bool false)) = w9 at HF ⊢
  go_ret
  exact ⟨rfl, _, HF.out.1, HF.out.2⟩
 ·rw [hu] at hU ⊢
  have HX := Lib.hid h
  clear h
  go_enter Tryd.func31, Tryd.ntmps31
  go_wp2_with (go_at_call 33; (with_reducible refine hU.mono ?_); rintro r w2 ⟨rfl, hw⟩; replace hw := hw.symm; subst hw)
  go_ret
  exact ⟨rfl, v, HX.out, Turned.refl _ _⟩
def WS.boot (s : WS) : WS := { s with up := true }.anew
set_option maxRecDepth 100000 in
set_option maxHeartbeats 1600000 in
theorem wkBoot (h : WkAt w c v s) (hs : 0 < s.span) (hi : 0 ≤ s.inc ∧ s.inc ≤ 2147483647) : Calls Tryd.prog 32 #[.pointer (some ⟨c, 0, none⟩)] w fun e w' => e = .returned (.bool (!s.up)) ∧ ∃ v', WkAt w' c v' (if s.up then s else s.boot) ∧ Turned (wkS c v) (wkS c v') w w' := by
 have hM := wkMade h hs
 obtain ⟨c0, c1, c2, c3, c4, c5, c6, c7, c8, c9, c10, c11, c12, c13, c14⟩ := wkCells h.blk
 have cl := h.blk.lt
 have cf := h.blk.frozen
 have HX := Lib.hid h
 rcases Bool.eq_false_or_eq_true s.up with hu | hu
 ·rw [hu] at c11 ⊢
  clear h hi
  go_enter Tryd.func32, Tryd.ntmps32
  go_wp2_with (go_at_call 58; (with_reducible refine hM.mono ?_); rintro r w2 ⟨rfl, hw⟩; replace hw := hw.symm; subst hw)
  go_ret
  exact ⟨rfl, v, HX.out, Turned.refl _ _⟩
 ·rw [hu] at c11 ⊢
  have hk := (Kept.setCell (F := fun k => k = c) (Kept.refl (fun k => k = c) w) (p := ⟨c, 11, none⟩) (fun _ => rfl) (.bool true))
  have hb : Blk (w.setCell ⟨c, 11, none⟩ (.bool true)) c 94 (wkBox v { s with up := true }) := by
   have h2 := (HX.out.blk.set_ 11 (.bool true))
   simp only [List.setIfInBounds_toArray, List.set_cons_zero, List.set_cons_succ] at h2
   exact h2
  have hWT := HX.out.cells_ (s' := { s with up := true }) hk hb rfl rfl rfl rfl rfl rfl
  have h1 := wkAnew hWT.1 hi
  have HT := Lib.hid hWT.2
  clear h hk hb hWT
  go_enter Tryd.func32, Tryd.ntmps32
  go_wp2_with (go_at_call 58; (with_reducible refine hM.mono ?_); rintro r w2 ⟨rfl, hw⟩; replace hw := hw.symm; subst hw)
  (with_reducible refine h1.mono ?_)
  clear h1
  rintro r w1 ⟨rfl, v1, hw1, ht1⟩
  have HF := Lib.hid (And.intro hw1 (HT.out.trans ht1))
  clear hw1 ht1 hM cl cf c0 c1 c2 c3 c4 c5 c6 c7 c8 c9 c10 c11 c12 c13 c14
  go_wp2
  go_ret
  exact ⟨rfl, _, HF.out.1, HF.out.2⟩
def WS.size_ (s : WS) (r : LRes) : WS := { s with cap := r }
set_option maxRecDepth 100000 in
set_option maxHeartbeats 1600000 in
theorem wkResize_yes (h : WkAt w c v s) (hs : 0 < s.span) (r : LRes) (hr : rightR r = true) : Calls Tryd.prog 39 #[.pointer (some ⟨c, 0, none⟩), aggRes r] w fun e w' => e = .returned (.int .i64 0) ∧ ∃ v', WkAt w' c v' (s.size_ r) ∧ Turned (wkS c v) (wkS c v') w w' := by
 have hB : Below w.heap.size w (w.alloc (.cells (boxRes r) 36)) := (Below.refl _ _).alloc (Nat.le_refl _) _
 have h1 := h.below hB
 have hM := wkMade h1 hs
 have hbr := Blk.new w 36 (boxRes r)
 have HB := Lib.hid (And.intro (Turned.of_below (S := wkS c v) hB) (And.intro h1 hbr))
 clear h hB h1 hbr
 go_enter Tryd.func39, Tryd.ntmps39
 go_upto_region 1 with fail
 generalize w.alloc (.cells (boxRes r) 36) = w1 at hM HB ⊢
 obtain ⟨b, hb⟩ : ∃ b, w.heap.size = b := ⟨_, rfl⟩
 rw [hb] at HB
 try rw [hb]
 clear hb
 go_upto_region 3 with (go_at_call 58; (with_reducible refine hM.mono ?_); rintro rr w2 ⟨rfl, hw⟩; replace hw := hw.symm; subst hw)
 clear hM
 obtain ⟨r0, r1, r2⟩ : w1.cell? ⟨b, 0, none⟩ = some (.int .i64 r.a) ∧ w1.cell? ⟨b, 1, none⟩ = some (.int .i64 r.b) ∧ w1.cell? ⟨b, 2, none⟩ = some (.int .i64 r.c) := ⟨(HB.out.2.2.cell 0).trans rfl, (HB.out.2.2.cell 1).trans rfl, (HB.out.2.2.cell 2).trans rfl⟩
 have rl := HB.out.2.2.lt
 have hR := resRight_t r w1
 rw [hr] at hR
 go_wp2_with fail
 (with_reducible refine hR.mono ?_)
 clear hR r0 r1 r2 rl
 rintro rr w2 ⟨rfl, hb2⟩
 have H2 := Lib.hid (And.intro (HB.out.1.then_below hb2) (And.intro (HB.out.2.1.below hb2) (HB.out.2.2.below hb2 HB.out.2.2.lt)))
 clear hb2
 obtain ⟨r0, r1, r2⟩ : w2.cell? ⟨b, 0, none⟩ = some (.int .i64 r.a) ∧ w2.cell? ⟨b, 1, none⟩ = some (.int .i64 r.b) ∧ w2.cell? ⟨b, 2, none⟩ = some (.int .i64 r.c) := ⟨(H2.out.2.2.cell 0).trans rfl, (H2.out.2.2.cell 1).trans rfl, (H2.out.2.2.cell 2).trans rfl⟩
 have rl := H2.out.2.2.lt
 obtain ⟨c0, c1, c2, c3, c4, c5, c6, c7, c8, c9, c10, c11, c12, c13, c14⟩ := wkCells H2.out.2.1.blk
 have cl := H2.out.2.1.blk.lt
 have cf := H2.out.2.1.blk.frozen
 go_wp2
 clear cl cf r0 r1 r2 rl c0 c1 c2 c3 c4 c5 c6 c7 c8 c9 c10 c11 c12 c13 c14
 have hk := (Kept.setCell (F := fun k => k = c) (Kept.setCell (F := fun k => k = c) (Kept.setCell (F := fun k => k = c) (Kept.refl (fun k => k = c) w2) (p := ⟨c, 8, none⟩) (fun _ => rfl) (.int .i64 r.a)) (p := ⟨c, 9, none⟩) (fun _ => rfl) (.int .i64 r.b)) (p := ⟨c, 10, none⟩) (fun _ => rfl) (.int .i64 r.c))
 have hb : Blk (((w2.setCell ⟨c, 8, none⟩ (.int .i64 r.a)).setCell ⟨c, 9, none⟩ (.int .i64 r.b)).setCell ⟨c, 10, none⟩ (.int .i64 r.c)) c 94 (wkBox v (s.size_ r)) := by
  have h2 := (((H2.out.2.1.blk.set_ 8 (.int .i64 r.a)).set_ 9 (.int .i64 r.b)).set_ 10 (.int .i64 r.c))
  simp only [List.setIfInBounds_toArray, List.set_cons_zero, List.set_cons_succ] at h2
  exact h2
 have hWT := H2.out.2.1.cells_ (s' := (s.size_ r)) hk hb rfl rfl rfl rfl rfl rfl
 have HF := Lib.hid (And.intro hWT.1 (H2.out.1.trans hWT.2))
 clear hk hb hWT
 generalize (((w2.setCell ⟨c, 8, none⟩ (.int .i64 r.a)).setCell ⟨c, 9, none⟩ (.int .i64 r.b)).setCell ⟨c, 10, none⟩ (.int .i64 r.c)) = w9 at HF ⊢
 go_ret
 exact ⟨rfl, _, HF.out.1, HF.out.2⟩
set_option maxRecDepth 100000 in
set_option maxHeartbeats 1600000 in
theorem wkResize_no (h : WkAt w c v s) (hs : 0 < s.span) (r : LRes) (hr : rightR r = false) : Calls Tryd.prog 39 #[.pointer (some ⟨c, 0, none⟩), aggRes r] w fun e w' => e = .returned (.int .i64 1) ∧ ∃ v', WkAt w' c v' s ∧ Turned (wkS c v) (wkS c v') w w' := by
 have hB : Below w.heap.size w (w.alloc (.cells (boxRes r) 36)) := (Below.refl _ _).alloc (Nat.le_refl _) _
 have h1 := h.below hB
 have hM := wkMade h1 hs
 have hbr := Blk.new w 36 (boxRes r)
 have HB := Lib.hid (And.intro (Turned.of_below (S := wkS c v) hB) (And.intro h1 hbr))
 clear h hB h1 hbr
 go_enter Tryd.func39, Tryd.ntmps39
 go_upto_region 1 with fail
 generalize w.alloc (.cells (boxRes r) 36) = w1 at hM HB ⊢
 obtain ⟨b, hb⟩ : ∃ b, w.heap.size = b := ⟨_, rfl⟩
 rw [hb] at HB
 try rw [hb]
 clear hb
 go_upto_region 3 with (go_at_call 58; (with_reducible refine hM.mono ?_); rintro rr w2 ⟨rfl, hw⟩; replace hw := hw.symm; subst hw)
 clear hM
 obtain ⟨r0, r1, r2⟩ : w1.cell? ⟨b, 0, none⟩ = some (.int .i64 r.a) ∧ w1.cell? ⟨b, 1, none⟩ = some (.int .i64 r.b) ∧ w1.cell? ⟨b, 2, none⟩ = some (.int .i64 r.c) := ⟨(HB.out.2.2.cell 0).trans rfl, (HB.out.2.2.cell 1).trans rfl, (HB.out.2.2.cell 2).trans rfl⟩
 have rl := HB.out.2.2.lt
 have hR := resRight_t r w1
 rw [hr] at hR
 go_wp2_with fail
 (with_reducible refine hR.mono ?_)
 clear hR r0 r1 r2 rl
 rintro rr w2 ⟨rfl, hb2⟩
 have HF := Lib.hid (And.intro (HB.out.1.then_below hb2) (HB.out.2.1.below hb2))
 clear hb2
 go_wp2
 go_ret
 exact ⟨rfl, v, HF.out.2, HF.out.1⟩
end
end Go.Proofs.YthhnocnkicoimaaDoor
