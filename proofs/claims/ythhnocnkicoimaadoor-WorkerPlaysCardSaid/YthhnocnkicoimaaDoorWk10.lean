/-
 LAYER 39 (worker): New.
-/
import Derived.Test.YthhnocnkicoimaaDoorWk6
set_option linter.unusedVariables false
set_option linter.unusedSimpArgs false
namespace Go.Proofs.YthhnocnkicoimaaDoor
open Go.RowKit Go.Maps

abbrev wkBox0 (s : WS) : Array Value := #[.int .i64 s.epoch, .int .i64 0, .int .i64 0, .int .i64 s.node, .int .i64 s.span, .int .i64 s.inc, .int .i64 s.until_, .int .i64 s.first, .int .i64 s.cap.a, .int .i64 s.cap.b, .int .i64 s.cap.c, .bool s.up, .map none, .map none, .map none]
abbrev WS.made (node span : Int) (r : LRes) : WS := ⟨0, node, span, 1, 0, 0, r, true, [], [], []⟩
section
variable {w w' : World} {c : Nat} {v : WV} {s : WS}
set_option maxRecDepth 100000 in
set_option maxHeartbeats 1600000 in
theorem wkEmpty0 (h : Blk w c 94 (wkBox0 s)) : Calls Tryd.prog 57 #[.pointer (some ⟨c, 0, none⟩)] w fun e w' => e = .returned (.tuple #[]) ∧ ∃ v', WkAt w' c v' s.empty ∧ Kept (fun k => k = c) w w' ∧ ∀ k, wkS c v' k → k = c ∨ w.heap.size ≤ k := by
 have hlt := h.lt
 have hB := (((Below.refl w.heap.size w).alloc (Nat.le_refl _) (.map #[] 0)).alloc (by simp) (.map #[] 0)).alloc (by simp; omega) (.map #[] 0)
 have h3 := h.below hB hlt
 have m1 := ((MapKV.made w (fun _ => 0)).alloc (.map #[] 0)).alloc (.map #[] 0)
 have m2 := (MapKV.made (w.alloc (.map #[] 0)) (fun _ => 0)).alloc (.map #[] 0)
 have m3 := MapKV.made ((w.alloc (.map #[] 0)).alloc (.map #[] 0)) (fun _ => 0)
 rw [show (w.alloc (.map #[] 0)).heap.size = w.heap.size + 1 by simp] at m2
 rw [show ((w.alloc (.map #[] 0)).alloc (.map #[] 0)).heap.size = w.heap.size + 1 + 1 by simp] at m3
 have c6 : (((w.alloc (.map #[] 0)).alloc (.map #[] 0)).alloc (.map #[] 0)).cell? ⟨c, 6, none⟩ = some (.int .i64 s.until_) := (h3.cell 6).trans rfl
 have c7 : (((w.alloc (.map #[] 0)).alloc (.map #[] 0)).alloc (.map #[] 0)).cell? ⟨c, 7, none⟩ = some (.int .i64 s.first) := (h3.cell 7).trans rfl
 have c12 : (((w.alloc (.map #[] 0)).alloc (.map #[] 0)).alloc (.map #[] 0)).cell? ⟨c, 12, none⟩ = some (.map none) := (h3.cell 12).trans rfl
 have c13 : (((w.alloc (.map #[] 0)).alloc (.map #[] 0)).alloc (.map #[] 0)).cell? ⟨c, 13, none⟩ = some (.map none) := (h3.cell 13).trans rfl
 have c14 : (((w.alloc (.map #[] 0)).alloc (.map #[] 0)).alloc (.map #[] 0)).cell? ⟨c, 14, none⟩ = some (.map none) := (h3.cell 14).trans rfl
 have cl := h3.lt
 have cf := h3.frozen
 have HA := Lib.hid (And.intro h3 (And.intro m1 (And.intro m2 (And.intro m3 (And.intro hlt hB)))))
 clear h hB h3 m1 m2 m3 hlt
 have hmm := @run_makeMap Tryd.prog
 go_enter Tryd.func57, Tryd.ntmps57
 go_upto_region 1 with fail
 clear hmm
 generalize (((w.alloc (.map #[] 0)).alloc (.map #[] 0)).alloc (.map #[] 0)) = w3 at *
 go_wp2
 clear c6 c7 c12 c13 c14 cl cf
 have hk : Kept (fun k => k = c) w3 (((((w3.setCell ⟨c, 12, none⟩ (.map (some w.heap.size))).setCell ⟨c, 13, none⟩ (.map (some (w.heap.size + 1)))).setCell ⟨c, 14, none⟩ (.map (some (w.heap.size + 1 + 1)))).setCell ⟨c, 6, none⟩ (.int .i64 0)).setCell ⟨c, 7, none⟩ (.int .i64 0)) := Kept.setCell (p := ⟨c, 7, none⟩) (Kept.setCell (p := ⟨c, 6, none⟩) (Kept.setCell (p := ⟨c, 14, none⟩) (Kept.setCell (p := ⟨c, 13, none⟩) (Kept.setCell (p := ⟨c, 12, none⟩) (Kept.refl (fun k => k = c) w3) (fun _ => rfl) _) (fun _ => rfl) _) (fun _ => rfl) _) (fun _ => rfl) _) (fun _ => rfl) _
 have hb : Blk (((((w3.setCell ⟨c, 12, none⟩ (.map (some w.heap.size))).setCell ⟨c, 13, none⟩ (.map (some (w.heap.size + 1)))).setCell ⟨c, 14, none⟩ (.map (some (w.heap.size + 1 + 1)))).setCell ⟨c, 6, none⟩ (.int .i64 0)).setCell ⟨c, 7, none⟩ (.int .i64 0)) c 94 (wkBox ⟨0, 0, w.heap.size, w.heap.size + 1, w.heap.size + 1 + 1⟩ s.empty) := by
  have h2 := ((((HA.out.1.set_ 12 (.map (some w.heap.size))).set_ 13 (.map (some (w.heap.size + 1)))).set_ 14 (.map (some (w.heap.size + 1 + 1)))).set_ 6 (.int .i64 0)).set_ 7 (.int .i64 0)
  simp only [List.setIfInBounds_toArray, List.set_cons_zero, List.set_cons_succ] at h2
  exact h2
 have hlt := HA.out.2.2.2.2.1
 have hW : WkAt (((((w3.setCell ⟨c, 12, none⟩ (.map (some w.heap.size))).setCell ⟨c, 13, none⟩ (.map (some (w.heap.size + 1)))).setCell ⟨c, 14, none⟩ (.map (some (w.heap.size + 1 + 1)))).setCell ⟨c, 6, none⟩ (.int .i64 0)).setCell ⟨c, 7, none⟩ (.int .i64 0)) c ⟨0, 0, w.heap.size, w.heap.size + 1, w.heap.size + 1 + 1⟩ s.empty := ⟨hb, ⟨_, HA.out.2.1.kept hk (fun b e => by cases e; omega)⟩, ⟨_, HA.out.2.2.1.kept hk (fun b e => by cases e; omega)⟩, ⟨_, HA.out.2.2.2.1.kept hk (fun b e => by cases e; omega)⟩, by simp, by simp; omega, by simp⟩
 have hT : Kept (fun k => k = c) w (((((w3.setCell ⟨c, 12, none⟩ (.map (some w.heap.size))).setCell ⟨c, 13, none⟩ (.map (some (w.heap.size + 1)))).setCell ⟨c, 14, none⟩ (.map (some (w.heap.size + 1 + 1)))).setCell ⟨c, 6, none⟩ (.int .i64 0)).setCell ⟨c, 7, none⟩ (.int .i64 0)) := (Kept.of_below (F := fun k => k = c) HA.out.2.2.2.2.2).trans hk (fun i _ e => e)
 have hS : ∀ k, wkS c ⟨0, 0, w.heap.size, w.heap.size + 1, w.heap.size + 1 + 1⟩ k → k = c ∨ w.heap.size ≤ k := by
  rintro k (rfl | rfl | rfl | rfl)
  ·exact .inl rfl
  ·exact .inr (Nat.le_refl _)
  ·exact .inr (by show w.heap.size ≤ w.heap.size + 1; omega)
  ·exact .inr (by show w.heap.size ≤ w.heap.size + 1 + 1; omega)
 have HF := Lib.hid (And.intro hW (And.intro hT hS))
 clear hk hb hlt hW hT hS
 generalize (((((w3.setCell ⟨c, 12, none⟩ (.map (some w.heap.size))).setCell ⟨c, 13, none⟩ (.map (some (w.heap.size + 1)))).setCell ⟨c, 14, none⟩ (.map (some (w.heap.size + 1 + 1)))).setCell ⟨c, 6, none⟩ (.int .i64 0)).setCell ⟨c, 7, none⟩ (.int .i64 0)) = w9 at HF ⊢
 go_end0
 exact ⟨rfl, _, HF.out.1, HF.out.2.1, HF.out.2.2⟩
set_option maxRecDepth 100000 in
set_option maxHeartbeats 1600000 in
theorem wkNew (node span : Int) (r : LRes) (hn : inM node 0 15 = true) (hr : rightR r = true) (hs : inM span 1 64 = true) : Calls Tryd.prog 23 #[.int .i64 node, aggRes r, .int .i64 span] w fun e w' => ∃ c v, e = .returned (.tuple #[.pointer (some ⟨c, 0, none⟩), .int .i64 0]) ∧ WkAt w' c v (WS.made node span r) ∧ (∀ k, wkS c v k → w.heap.size ≤ k) ∧ Below w.heap.size w w' := by
 have hN := numRightM_t node 0 15 (w.alloc (.cells (boxRes r) 36))
 rw [hn] at hN
 have hR := resRight_t r (w.alloc (.cells (boxRes r) 36))
 rw [hr] at hR
 have hB : Below w.heap.size w (w.alloc (.cells (boxRes r) 36)) := (Below.refl _ _).alloc (Nat.le_refl _) _
 have hbr := Blk.new w 36 (boxRes r)
 have H0 := Lib.hid (And.intro hbr hB)
 obtain ⟨r0, r1, r2⟩ : (w.alloc (.cells (boxRes r) 36)).cell? ⟨w.heap.size, 0, none⟩ = some (.int .i64 r.a) ∧ (w.alloc (.cells (boxRes r) 36)).cell? ⟨w.heap.size, 1, none⟩ = some (.int .i64 r.b) ∧ (w.alloc (.cells (boxRes r) 36)).cell? ⟨w.heap.size, 2, none⟩ = some (.int .i64 r.c) := ⟨(hbr.cell 0).trans rfl, (hbr.cell 1).trans rfl, (hbr.cell 2).trans rfl⟩
 have rl := hbr.lt
 clear hbr hB hn hr
 go_enter Tryd.func23, Tryd.ntmps23
 go_upto_region 1 with fail
 generalize (w.alloc (.cells (boxRes r) 36)) = w1 at *
 obtain ⟨b, hb⟩ : ∃ b, w.heap.size = b := ⟨_, rfl⟩
 have H1 : Hid (Blk w1 b 36 (boxRes r) ∧ Below w.heap.size w w1) := Lib.hid (by rw [← hb]; exact H0.out)
 rw [hb] at r0 r1 r2 rl
 try simp only [hb]
 clear H0
 go_wp2_with (go_at_call 55; (with_reducible refine hN.mono ?_); rintro rr w9 ⟨rfl, hw⟩; replace hw := hw.symm; subst hw)
 (with_reducible refine hR.mono ?_)
 clear hN hR r0 r1 r2 rl
 rintro rr w2 ⟨rfl, hb2⟩
 have H2 := Lib.hid (And.intro (H1.out.1.below hb2 H1.out.1.lt) (H1.out.2.trans (hb2.mono H1.out.2.size)))
 clear hb2 H1
 have hS := numRightM_t span 1 64 w2
 rw [hs] at hS
 obtain ⟨r0, r1, r2⟩ : w2.cell? ⟨b, 0, none⟩ = some (.int .i64 r.a) ∧ w2.cell? ⟨b, 1, none⟩ = some (.int .i64 r.b) ∧ w2.cell? ⟨b, 2, none⟩ = some (.int .i64 r.c) := ⟨(H2.out.1.cell 0).trans rfl, (H2.out.1.cell 1).trans rfl, (H2.out.1.cell 2).trans rfl⟩
 have rl := H2.out.1.lt
 go_upto_region 4 with (go_at_call 55; (with_reducible refine hS.mono ?_); rintro rr w9 ⟨rfl, hw⟩; replace hw := hw.symm; subst hw)
 have hz := Blk.new w2 94 (wkBox0 (WS.made node span r))
 have hB3 : Below w.heap.size w (w2.alloc (.cells (wkBox0 (WS.made node span r)) 94)) := H2.out.2.alloc H2.out.2.size _
 have h1 := wkEmpty0 hz
 have HB3 := Lib.hid (And.intro hB3 H2.out.2.size)
 clear hS hs r0 r1 r2 rl hz hB3
 go_wp2_with fail
 (with_reducible refine h1.mono ?_)
 clear h1
 rintro rr w5 ⟨rfl, v5, hw5, hk5, hs5⟩
 have hsz : (w2.alloc (.cells (wkBox0 (WS.made node span r)) 94)).heap.size = w2.heap.size + 1 := by simp
 have hge := HB3.out.2
 have hS5 : ∀ k, wkS w2.heap.size v5 k → w.heap.size ≤ k := fun k hk => (hs5 k hk).elim (fun e => by omega) (fun hg => by omega)
 have hge2 := HB3.out.2
 have hS5 : ∀ k, wkS w2.heap.size v5 k → w.heap.size ≤ k := fun k hk => (hs5 k hk).elim (fun e => by omega) (fun hg => by omega)
 have hBF : Below w.heap.size w w5 := HB3.out.1.trans (hk5.below HB3.out.1.size (fun b hb e => by omega))
 have HF := Lib.hid (And.intro hw5 (And.intro hS5 hBF))
 clear hw5 hk5 hs5 hsz hge2 hS5 hBF
 go_wp2
 refine bodyPost_ret (v := .tuple #[.pointer (some ⟨w2.heap.size, 0, none⟩), .int .i64 0]) (by simp [results, Tryd.results23, go_sem]) rfl ⟨w2.heap.size, v5, rfl, HF.out.1, HF.out.2.1, HF.out.2.2⟩
end
end Go.Proofs.YthhnocnkicoimaaDoor
