/-
  LAYER 39 (worker): what is asked of it; empty, anew, Crash, Boot, Resize.
-/
import Derived.Test.YthhnocnkicoimaaDoorWk2
import Derived.Test.YthhnocnkicoimaaDoorKeys
import Derived.Test.YthhnocnkicoimaaDoorAnySeg
set_option linter.unusedVariables false
set_option linter.unusedSimpArgs false
namespace Go.Proofs.YthhnocnkicoimaaDoor
open Go.RowKit Go.Maps

def WS.empty (s : WS) : WS := { s with held := [], done := [], told := [], until_ := 0, first := 0 }
def WS.anew (s : WS) : WS := { s.empty with inc := min (s.inc + 1) 2147483647 }
section
variable {w w' : World} {c : Nat} {v : WV} {s : WS}
set_option maxRecDepth 100000 in
set_option maxHeartbeats 1600000 in
theorem wkInfo (h : WkAt w c v s) (hs : 0 < s.span) : Calls Tryd.prog 24 #[.pointer (some ⟨c, 0, none⟩)] w fun e w' => e = .returned (.tuple #[.int .i64 s.inc, .int .i64 s.until_, .int .i64 s.epoch]) ∧ Below w.heap.size w w' := by
  have hM := wkMade h hs
  have HX := Lib.hid h
  clear h
  go_enter Tryd.func24, Tryd.ntmps24
  go_upto_region 3 with (go_at_call 58; (with_reducible refine hM.mono ?_); rintro r w2 ⟨rfl, hw⟩; replace hw := hw.symm; subst hw)
  refine Cont.start (by kernel_rfl) ?_
  have HD := Lib.hid (HX.out.below (Below.refl _ _).drew)
  have HB := Lib.hid (Below.refl w.heap.size w).drew
  generalize w.drew = wd at HD HB ⊢
  refine cont_free2 0 15 8 [] [.o (eqV (.pointer (some ⟨c, 0, none⟩))), .o (eqV (.pointer (some ⟨c, 0, none⟩))), .o (eqV (.pointer (some ⟨c, 5, none⟩))), .o (eqV (.int .i64 s.inc)), .o (eqV (.pointer (some ⟨c, 0, none⟩))), .o (eqV (.pointer (some ⟨c, 0, none⟩))), .o (eqV (.pointer (some ⟨c, 6, none⟩))), .o (eqV (.int .i64 s.until_)), .o (eqV (.pointer (some ⟨c, 0, none⟩))), .o (eqV (.pointer (some ⟨c, 0, none⟩))), .o (eqV (.pointer (some ⟨c, 0, none⟩))), .o (eqV (.int .i64 s.epoch))] [2, 3, 4] [.o (eqV (.int .i64 s.inc)), .o (eqV (.int .i64 s.until_)), .o (eqV (.int .i64 s.epoch))] [false, false, false, false, false, false, false, false, false, false, false, false, false, false, false] (by kernel_rfl) (by kernel_rfl) (by kernel_rfl) (by kernel_rfl) (by kernel_rfl) (by kernel_rfl) (by kernel_rfl) rfl (by kernel_rfl) (by kernel_rfl) ⟨?_, ?_, ?_, ?_, ?_, ?_, ?_, ?_, ?_, ?_, ?_, ?_, ?_, ?_, ?_, trivial⟩ ?fin
  · intro a w hb hoth hdep
    refine step_on (want_none rfl) ?_
    have e0 : a.tmps[0]? = some (.pointer (some ⟨c, 0, none⟩)) := ev_seg hoth 0 (by kernel_rfl) rfl
    exact step_val ((BigFrame.run_move _ rfl w).trans (by rw [ev_of e0])) rfl
  · intro a w hb hoth hdep
    refine step_on (want_none rfl) ?_
    obtain ⟨v0, e8, hv0⟩ := ev_dep hdep 0 8 (by kernel_rfl) (by kernel_rfl)
    replace hv0 : v0 = .pointer (some ⟨c, 0, none⟩) := hv0
    subst hv0
    refine step_val (x := .pointer (some ⟨c, 0, none⟩)) ?_ rfl
    simp [go_sem, e8]
  · intro a w hb hoth hdep
    refine step_on (want_none rfl) ?_
    obtain ⟨v1, e9, hv1⟩ := ev_dep hdep 1 9 (by kernel_rfl) (by kernel_rfl)
    replace hv1 : v1 = .pointer (some ⟨c, 0, none⟩) := hv1
    subst hv1
    refine step_val (x := .pointer (some ⟨c, 5, none⟩)) ?_ rfl
    simp [go_sem, e9]
  · intro a w hb hoth hdep
    refine step_on (want_none rfl) ?_
    obtain ⟨v2, e10, hv2⟩ := ev_dep hdep 2 10 (by kernel_rfl) (by kernel_rfl)
    replace hv2 : v2 = .pointer (some ⟨c, 5, none⟩) := hv2
    subst hv2
    obtain ⟨c0, c1, c2, c3, c4, c5, c6, c7, c8, c9, c10, c11, c12, c13, c14⟩ := wkCells (HD.out.below hb).blk
    refine step_val (x := .int .i64 s.inc) ?_ rfl
    simp [go_sem, e10, c5]
  · intro a w hb hoth hdep
    refine step_on (want_none rfl) ?_
    have e0 : a.tmps[0]? = some (.pointer (some ⟨c, 0, none⟩)) := ev_seg hoth 0 (by kernel_rfl) rfl
    exact step_val ((BigFrame.run_move _ rfl w).trans (by rw [ev_of e0])) rfl
  · intro a w hb hoth hdep
    refine step_on (want_none rfl) ?_
    obtain ⟨v4, e12, hv4⟩ := ev_dep hdep 4 12 (by kernel_rfl) (by kernel_rfl)
    replace hv4 : v4 = .pointer (some ⟨c, 0, none⟩) := hv4
    subst hv4
    refine step_val (x := .pointer (some ⟨c, 0, none⟩)) ?_ rfl
    simp [go_sem, e12]
  · intro a w hb hoth hdep
    refine step_on (want_none rfl) ?_
    obtain ⟨v5, e13, hv5⟩ := ev_dep hdep 5 13 (by kernel_rfl) (by kernel_rfl)
    replace hv5 : v5 = .pointer (some ⟨c, 0, none⟩) := hv5
    subst hv5
    refine step_val (x := .pointer (some ⟨c, 6, none⟩)) ?_ rfl
    simp [go_sem, e13]
  · intro a w hb hoth hdep
    refine step_on (want_none rfl) ?_
    obtain ⟨v6, e14, hv6⟩ := ev_dep hdep 6 14 (by kernel_rfl) (by kernel_rfl)
    replace hv6 : v6 = .pointer (some ⟨c, 6, none⟩) := hv6
    subst hv6
    obtain ⟨c0, c1, c2, c3, c4, c5, c6, c7, c8, c9, c10, c11, c12, c13, c14⟩ := wkCells (HD.out.below hb).blk
    refine step_val (x := .int .i64 s.until_) ?_ rfl
    simp [go_sem, e14, c6]
  · intro a w hb hoth hdep
    refine step_on (want_none rfl) ?_
    have e0 : a.tmps[0]? = some (.pointer (some ⟨c, 0, none⟩)) := ev_seg hoth 0 (by kernel_rfl) rfl
    exact step_val ((BigFrame.run_move _ rfl w).trans (by rw [ev_of e0])) rfl
  · intro a w hb hoth hdep
    refine step_on (want_none rfl) ?_
    obtain ⟨v8, e16, hv8⟩ := ev_dep hdep 8 16 (by kernel_rfl) (by kernel_rfl)
    replace hv8 : v8 = .pointer (some ⟨c, 0, none⟩) := hv8
    subst hv8
    refine step_val (x := .pointer (some ⟨c, 0, none⟩)) ?_ rfl
    simp [go_sem, e16]
  · intro a w hb hoth hdep
    refine step_on (want_none rfl) ?_
    obtain ⟨v9, e17, hv9⟩ := ev_dep hdep 9 17 (by kernel_rfl) (by kernel_rfl)
    replace hv9 : v9 = .pointer (some ⟨c, 0, none⟩) := hv9
    subst hv9
    refine step_val (x := .pointer (some ⟨c, 0, none⟩)) ?_ rfl
    simp [go_sem, e17]
  · intro a w hb hoth hdep
    refine step_on (want_none rfl) ?_
    obtain ⟨v10, e18, hv10⟩ := ev_dep hdep 10 18 (by kernel_rfl) (by kernel_rfl)
    replace hv10 : v10 = .pointer (some ⟨c, 0, none⟩) := hv10
    subst hv10
    refine step_call (f := 59) (args := #[.pointer (some ⟨c, 0, none⟩)]) ?_ ?_
    · simp [go_sem, e18]
    · obtain ⟨c0, c1, c2, c3, c4, c5, c6, c7, c8, c9, c10, c11, c12, c13, c14⟩ := wkCells (HD.out.below hb).blk
      have hcx := epoch_t c s.epoch w c0
      (with_reducible refine hcx.mono ?_)
      clear hcx
      rintro e w2 ⟨rfl, hw⟩
      subst hw
      exact ⟨_, rfl, rfl, Below.refl _ _⟩
  · intro a w hb hoth hdep
    refine step_on (want_none rfl) ?_
    obtain ⟨v3, e11, hv3⟩ := ev_dep hdep 3 11 (by kernel_rfl) (by kernel_rfl)
    replace hv3 : v3 = .int .i64 s.inc := hv3
    subst hv3
    exact step_val ((BigFrame.run_assign _ rfl w).trans (by rw [ev_of e11])) rfl
  · intro a w hb hoth hdep
    refine step_on (want_none rfl) ?_
    obtain ⟨v7, e15, hv7⟩ := ev_dep hdep 7 15 (by kernel_rfl) (by kernel_rfl)
    replace hv7 : v7 = .int .i64 s.until_ := hv7
    subst hv7
    exact step_val ((BigFrame.run_assign _ rfl w).trans (by rw [ev_of e15])) rfl
  · intro a w hb hoth hdep
    refine step_on (want_none rfl) ?_
    obtain ⟨v11, e19, hv11⟩ := ev_dep hdep 11 19 (by kernel_rfl) (by kernel_rfl)
    replace hv11 : v11 = .int .i64 s.epoch := hv11
    subst hv11
    exact step_val ((BigFrame.run_assign _ rfl w).trans (by rw [ev_of e19])) rfl
  case fin =>
    intro wz hbz
    iterate 12 (rintro _ rfl)
    refine FinC.nil ?_
    iterate 3 (rintro _ rfl)
    refine FinL.nil ?_
    refine cont_end (by kernel_rfl) ?_
    have HF := Lib.hid (HB.out.trans (hbz.mono HB.out.size))
    clear hM HX hbz HB HD
    go_wp2_with fail
    refine bodyPost_ret (v := .tuple #[.int .i64 s.inc, .int .i64 s.until_, .int .i64 s.epoch]) (by simp [results, Tryd.results24, go_sem]) rfl ⟨rfl, HF.out⟩
set_option maxRecDepth 100000 in
set_option maxHeartbeats 1600000 in
theorem rising_t (b : Nat) (row : List Int) (f : Int → Int) (h : MapKV w (.map (some b)) row f) (hn : row.length ≤ 1000000) : Calls Tryd.prog 60 #[.map (some b)] w fun e w' => ∃ A nn cc, e = .returned (.slice A nn cc) ∧ OwnL encI 3 1 w' w.heap.size A nn cc row ∧ Below w.heap.size w w' := by
  have h1 := mapKeys_t (.map (some b)) ⟨_, rfl⟩ w
  have hB : Below w.heap.size w (w.alloc (.cells #[.map (some b)] 26)) := (Below.refl _ _).alloc (Nat.le_refl _) _
  have h2 := sortedKeys_t w.heap.size b row _ (Blk.new w 26 #[.map (some b)]) (h.set_.below hB) hn
  have HB := Lib.hid hB
  clear h hB
  go_enter Tryd.func60, Tryd.ntmps60
  go_wp2_with (first
      | (go_at_call 92; (with_reducible refine h1.mono ?_); rintro r w2 ⟨rfl, hw⟩; replace hw := hw.symm; subst hw)
      | (go_at_call 91; (with_reducible refine h2.mono ?_); rintro r w2 ⟨A, nn, cc, rfl, ho, hb⟩))
  go_ret
  exact ⟨A, nn, cc, rfl, ho.lower HB.out.size, HB.out.trans (hb.mono HB.out.size)⟩
set_option maxRecDepth 100000 in
set_option maxHeartbeats 1600000 in
theorem wkHeld (h : WkAt w c v s) (hn : s.held.length ≤ 1000000) : Calls Tryd.prog 28 #[.pointer (some ⟨c, 0, none⟩)] w fun e w' => ∃ A nn cc, e = .returned (.slice A nn cc) ∧ OwnL encI 3 1 w' w.heap.size A nn cc s.held ∧ Below w.heap.size w w' := by
  obtain ⟨f, hf⟩ := h.h
  have h1 := rising_t v.h s.held f hf hn
  obtain ⟨c0, c1, c2, c3, c4, c5, c6, c7, c8, c9, c10, c11, c12, c13, c14⟩ := wkCells h.blk
  have cl := h.blk.lt
  have cf := h.blk.frozen
  clear h hf
  go_enter Tryd.func28, Tryd.ntmps28
  go_wp2_with (first
      | (go_at_call 60; (with_reducible refine h1.mono ?_); rintro r w2 ⟨A, nn, cc, rfl, ho, hb⟩))
  go_ret
  exact ⟨A, nn, cc, rfl, ho, hb⟩
set_option maxRecDepth 100000 in
set_option maxHeartbeats 1600000 in
theorem wkDone (h : WkAt w c v s) (hn : s.done.length ≤ 1000000) : Calls Tryd.prog 25 #[.pointer (some ⟨c, 0, none⟩)] w fun e w' => ∃ A nn cc, e = .returned (.slice A nn cc) ∧ OwnL encI 3 1 w' w.heap.size A nn cc s.done ∧ Below w.heap.size w w' := by
  obtain ⟨f, hf⟩ := h.d
  have h1 := rising_t v.d s.done f hf hn
  obtain ⟨c0, c1, c2, c3, c4, c5, c6, c7, c8, c9, c10, c11, c12, c13, c14⟩ := wkCells h.blk
  have cl := h.blk.lt
  have cf := h.blk.frozen
  clear h hf
  go_enter Tryd.func25, Tryd.ntmps25
  go_wp2_with (first
      | (go_at_call 60; (with_reducible refine h1.mono ?_); rintro r w2 ⟨A, nn, cc, rfl, ho, hb⟩))
  go_ret
  exact ⟨A, nn, cc, rfl, ho, hb⟩
set_option maxRecDepth 100000 in
set_option maxHeartbeats 1600000 in
theorem wkEmpty (h : WkAt w c v s) : Calls Tryd.prog 57 #[.pointer (some ⟨c, 0, none⟩)] w fun e w' => e = .returned (.tuple #[]) ∧ ∃ v', WkAt w' c v' s.empty ∧ Turned (wkS c v) (wkS c v') w w' := by
  have hlt := h.blk.lt
  have hB := (((Below.refl w.heap.size w).alloc (Nat.le_refl _) (.map #[] 0)).alloc (by simp) (.map #[] 0)).alloc (by simp; omega) (.map #[] 0)
  have h3 := h.below hB
  have m1 := ((MapKV.made w (fun _ => 0)).alloc (.map #[] 0)).alloc (.map #[] 0)
  have m2 := (MapKV.made (w.alloc (.map #[] 0)) (fun _ => 0)).alloc (.map #[] 0)
  have m3 := MapKV.made ((w.alloc (.map #[] 0)).alloc (.map #[] 0)) (fun _ => 0)
  rw [show (w.alloc (.map #[] 0)).heap.size = w.heap.size + 1 by simp] at m2
  rw [show ((w.alloc (.map #[] 0)).alloc (.map #[] 0)).heap.size = w.heap.size + 1 + 1 by simp] at m3
  obtain ⟨c0, c1, c2, c3, c4, c5, c6, c7, c8, c9, c10, c11, c12, c13, c14⟩ := wkCells h3.blk
  have cl := h3.blk.lt
  have cf := h3.blk.frozen
  have HA := Lib.hid (And.intro h3 (And.intro m1 (And.intro m2 (And.intro m3 (And.intro hlt hB)))))
  clear h hB h3 m1 m2 m3 hlt
  clear c0 c1 c2 c3 c4 c5 c8 c9 c10 c11
  have hmm := @run_makeMap Tryd.prog
  go_enter Tryd.func57, Tryd.ntmps57
  go_upto_region 1 with fail
  clear hmm
  generalize (((w.alloc (.map #[] 0)).alloc (.map #[] 0)).alloc (.map #[] 0)) = w3 at *
  go_wp2
  clear c6 c7 c12 c13 c14 cl cf
  have hk : Kept (fun k => k = c) w3 (((((w3.setCell ⟨c, 12, none⟩ (.map (some w.heap.size))).setCell ⟨c, 13, none⟩ (.map (some (w.heap.size + 1)))).setCell ⟨c, 14, none⟩ (.map (some (w.heap.size + 1 + 1)))).setCell ⟨c, 6, none⟩ (.int .i64 0)).setCell ⟨c, 7, none⟩ (.int .i64 0)) := Kept.setCell (p := ⟨c, 7, none⟩) (Kept.setCell (p := ⟨c, 6, none⟩) (Kept.setCell (p := ⟨c, 14, none⟩) (Kept.setCell (p := ⟨c, 13, none⟩) (Kept.setCell (p := ⟨c, 12, none⟩) (Kept.refl (fun k => k = c) w3) (fun _ => rfl) _) (fun _ => rfl) _) (fun _ => rfl) _) (fun _ => rfl) _) (fun _ => rfl) _
  have hb : Blk (((((w3.setCell ⟨c, 12, none⟩ (.map (some w.heap.size))).setCell ⟨c, 13, none⟩ (.map (some (w.heap.size + 1)))).setCell ⟨c, 14, none⟩ (.map (some (w.heap.size + 1 + 1)))).setCell ⟨c, 6, none⟩ (.int .i64 0)).setCell ⟨c, 7, none⟩ (.int .i64 0)) c 94 (wkBox { v with h := w.heap.size, d := w.heap.size + 1, t := w.heap.size + 1 + 1 } s.empty) := by
    have h2 := ((((HA.out.1.blk.set_ 12 (.map (some w.heap.size))).set_ 13 (.map (some (w.heap.size + 1)))).set_ 14 (.map (some (w.heap.size + 1 + 1)))).set_ 6 (.int .i64 0)).set_ 7 (.int .i64 0)
    simp only [List.setIfInBounds_toArray, List.set_cons_zero, List.set_cons_succ] at h2
    exact h2
  have hlt := HA.out.2.2.2.2.1
  have hW : WkAt (((((w3.setCell ⟨c, 12, none⟩ (.map (some w.heap.size))).setCell ⟨c, 13, none⟩ (.map (some (w.heap.size + 1)))).setCell ⟨c, 14, none⟩ (.map (some (w.heap.size + 1 + 1)))).setCell ⟨c, 6, none⟩ (.int .i64 0)).setCell ⟨c, 7, none⟩ (.int .i64 0)) c { v with h := w.heap.size, d := w.heap.size + 1, t := w.heap.size + 1 + 1 } s.empty := ⟨hb, ⟨_, HA.out.2.1.kept hk (fun b e => by cases e; omega)⟩, ⟨_, HA.out.2.2.1.kept hk (fun b e => by cases e; omega)⟩, ⟨_, HA.out.2.2.2.1.kept hk (fun b e => by cases e; omega)⟩, by simp, by simp; omega, by simp⟩
  have hT : Turned (wkS c v) (wkS c { v with h := w.heap.size, d := w.heap.size + 1, t := w.heap.size + 1 + 1 }) w (((((w3.setCell ⟨c, 12, none⟩ (.map (some w.heap.size))).setCell ⟨c, 13, none⟩ (.map (some (w.heap.size + 1)))).setCell ⟨c, 14, none⟩ (.map (some (w.heap.size + 1 + 1)))).setCell ⟨c, 6, none⟩ (.int .i64 0)).setCell ⟨c, 7, none⟩ (.int .i64 0)) := by
    refine ⟨(Kept.of_below (F := wkS c v) HA.out.2.2.2.2.2).trans hk (fun i _ e => .inl e), ?_⟩
    rintro k (rfl | rfl | rfl | rfl)
    · exact .inl (.inl rfl)
    · exact .inr (Nat.le_refl _)
    · exact .inr (by show w.heap.size ≤ w.heap.size + 1; omega)
    · exact .inr (by show w.heap.size ≤ w.heap.size + 1 + 1; omega)
  have HF := Lib.hid (And.intro hW hT)
  clear hk hb hlt hW hT
  generalize (((((w3.setCell ⟨c, 12, none⟩ (.map (some w.heap.size))).setCell ⟨c, 13, none⟩ (.map (some (w.heap.size + 1)))).setCell ⟨c, 14, none⟩ (.map (some (w.heap.size + 1 + 1)))).setCell ⟨c, 6, none⟩ (.int .i64 0)).setCell ⟨c, 7, none⟩ (.int .i64 0)) = w9 at HF ⊢
  go_end0
  exact ⟨rfl, _, HF.out.1, HF.out.2⟩
end
end Go.Proofs.YthhnocnkicoimaaDoor
