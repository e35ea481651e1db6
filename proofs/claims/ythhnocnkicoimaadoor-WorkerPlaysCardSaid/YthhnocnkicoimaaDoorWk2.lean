/-
 LAYER 17 (fence), over three cells: the atomic numbers' methods; raise, Pass, Epoch; num.Later.
 LAYER 39 (worker): the object.
-/
import Derived.Test.YthhnocnkicoimaaDoorMsg4
import Derived.Test.YthhnocnkicoimaaDoorRes
import Derived.Laws.LoneSync
import Derived.Test.YthhnocnkicoimaaDoorMapKV
set_option linter.unusedVariables false
set_option linter.unusedSimpArgs false
namespace Go.Proofs.YthhnocnkicoimaaDoor
open Go.RowKit

theorem load64 (b o : Nat) (x : Int) (w : World) (hc : w.cell? ⟨b, o, none⟩ = some (.int .i64 x)) : Calls Tryd.prog 90 #[.pointer (some ⟨b, o, none⟩)] w fun e w' => e = .returned (.int .i64 x) ∧ w' = w := by
 have h := run_call_load (P := Tryd.prog) Tryd.func103 (by kernel_rfl) (by kernel_rfl) (by kernel_rfl) .i64 (by kernel_rfl) hc
 go_enter Tryd.func90, Tryd.ntmps90
 go_wp2
 go_ret
 exact ⟨rfl, rfl⟩
theorem cas64 (b o : Nat) (x y : Int) (w : World) (hc : w.cell? ⟨b, o, none⟩ = some (.int .i64 x)) (hf : w.frozen? ⟨b, o, none⟩ = false) : Calls Tryd.prog 107 #[.pointer (some ⟨b, o, none⟩), .int .i64 x, .int .i64 y] w fun e w' => e = .returned (.bool true) ∧ w' = w.setCell ⟨b, o, none⟩ (.int .i64 y) := by
 have h := run_call_cas_hit (P := Tryd.prog) Tryd.func122 (by kernel_rfl) (by kernel_rfl) (by kernel_rfl) .i64 (by kernel_rfl) (y := y) hc hf
 go_enter Tryd.func107, Tryd.ntmps107
 go_wp2
 go_ret
 exact ⟨rfl, rfl⟩
theorem add64 (b o : Nat) (x y : Int) (w : World) (hc : w.cell? ⟨b, o, none⟩ = some (.int .i64 x)) (hf : w.frozen? ⟨b, o, none⟩ = false) : Calls Tryd.prog 95 #[.pointer (some ⟨b, o, none⟩), .int .i64 y] w fun e w' => e = .returned (.int .i64 (wrap64 (x + y))) ∧ w' = w.setCell ⟨b, o, none⟩ (.int .i64 (wrap64 (x + y))) := by
 have h := run_call_add (P := Tryd.prog) Tryd.func108 (by kernel_rfl) (by kernel_rfl) (by kernel_rfl) .i64 (by kernel_rfl) (x := x) (y := y) (s := wrap64 (x + y)) hc hf (by simp [go_sem, wrap64, IntKind.wrap_i64])
 go_enter Tryd.func95, Tryd.ntmps95
 go_wp2
 go_ret
 exact ⟨rfl, rfl⟩
theorem raise_t (b : Nat) (v e : Int) (w : World) (hc : w.cell? ⟨b, 0, none⟩ = some (.int .i64 v)) (hf : w.frozen? ⟨b, 0, none⟩ = false) : Calls Tryd.prog 94 #[.pointer (some ⟨b, 0, none⟩), .int .i64 e] w fun r w' => r = .returned (.bool (decide (v ≤ e))) ∧ w' = if v ≤ e then w.setCell ⟨b, 0, none⟩ (.int .i64 e) else w := by
 go_enter Tryd.func94, Tryd.ntmps94
 go_wp2
 go_loopw [] (fun wr => wr = w) (fun _ => 0)
 case atStart => rfl
 case round =>
  have hrel := hrel
  subst hrel
  have hL := load64 b 0 v _ hc
  by_cases h : v ≤ e
  ·have hlt : (decide (e < v)) = false := decide_eq_false (by omega)
   have hC := cas64 b 0 v e _ hc hf
   go_wp2_with (first | (go_at_call 90; (with_reducible refine hL.mono ?_); rintro r w' ⟨rfl, hw⟩; subst hw) | (go_at_call 107; (with_reducible refine hC.mono ?_); rintro r w' ⟨rfl, hw⟩; subst hw))
   go_ret
   exact ⟨rfl, rfl⟩
  ·have hlt : (decide (e < v)) = true := decide_eq_true (by omega)
   go_wp2_with (go_at_call 90; (with_reducible refine hL.mono ?_); rintro r w' ⟨rfl, hw⟩; subst hw)
   go_ret
   exact ⟨rfl, rfl⟩
/-- Does a fence let an epoch pass? -/
def passB (v e : Int) : Bool := inM e 1 4294967295 && decide (v ≤ e)
theorem pass_t (b : Nat) (v y n e : Int) (w : World) (h0 : w.cell? ⟨b, 0, none⟩ = some (.int .i64 v)) (h1 : w.cell? ⟨b, 1, none⟩ = some (.int .i64 y)) (h2 : w.cell? ⟨b, 2, none⟩ = some (.int .i64 n)) (hf : ∀ j, w.frozen? ⟨b, j, none⟩ = false) (hlt : b < w.heap.size) :
  Calls Tryd.prog 67 #[.pointer (some ⟨b, 0, none⟩), .int .i64 e] w fun r w' => r = .returned (.bool (passB v e)) ∧ w' = if passB v e then (w.setCell ⟨b, 0, none⟩ (.int .i64 e)).setCell ⟨b, 1, none⟩ (.int .i64 (wrap64 (y + 1))) else w.setCell ⟨b, 2, none⟩ (.int .i64 (wrap64 (n + 1))) := by
 have hR := numRightM_t e 1 4294967295 w
 have hr := raise_t b v e w h0 (hf 0)
 have hN := add64 b 2 n 1 w h2 (hf 2)
 have hY := add64 b 1 y 1 (w.setCell ⟨b, 0, none⟩ (.int .i64 e)) ((World.cell?_setCell_other w ⟨b, 0, none⟩ ⟨b, 1, none⟩ _ (by intro h; cases h)).trans h1) (by rw [World.frozen?_setCell]; exact hf 1)
 unfold passB
 rcases Bool.eq_false_or_eq_true (inM e 1 4294967295) with hi | hi
 ·rw [hi] at hR
  by_cases h : v ≤ e
  ·rw [decide_eq_true h, if_pos h] at hr
   rw [hi, decide_eq_true h, if_pos (by rfl)]
   clear h h0 h1 h2 hi hN
   go_enter Tryd.func67, Tryd.ntmps67
   go_wp2_with (first | (go_at_call 55; (with_reducible refine hR.mono ?_); rintro r w' ⟨rfl, hw⟩; subst hw) | (go_at_call 94; (with_reducible refine hr.mono ?_); rintro r w' ⟨rfl, hw⟩; subst hw) | (go_at_call 95; (with_reducible refine hY.mono ?_); rintro r w' ⟨rfl, hw⟩; subst hw))
   go_ret
   exact ⟨rfl, rfl⟩
  ·rw [decide_eq_false h, if_neg h] at hr
   rw [hi, decide_eq_false h, if_neg (by decide)]
   clear h h0 h1 h2 hi hY
   go_enter Tryd.func67, Tryd.ntmps67
   go_wp2_with (first | (go_at_call 55; (with_reducible refine hR.mono ?_); rintro r w' ⟨rfl, hw⟩; subst hw) | (go_at_call 94; (with_reducible refine hr.mono ?_); rintro r w' ⟨rfl, hw⟩; subst hw) | (go_at_call 95; (with_reducible refine hN.mono ?_); rintro r w' ⟨rfl, hw⟩; subst hw))
   go_ret
   exact ⟨rfl, rfl⟩
 ·rw [hi] at hR
  rw [hi, if_neg (by simp)]
  clear h0 h1 h2 hY hr
  go_enter Tryd.func67, Tryd.ntmps67
  go_wp2_with (first | (go_at_call 55; (with_reducible refine hR.mono ?_); rintro r w' ⟨rfl, hw⟩; subst hw) | (go_at_call 95; (with_reducible refine hN.mono ?_); rintro r w' ⟨rfl, hw⟩; subst hw))
  go_ret
  exact ⟨by simp [hi], rfl⟩
theorem epoch_t (b : Nat) (v : Int) (w : World) (h0 : w.cell? ⟨b, 0, none⟩ = some (.int .i64 v)) : Calls Tryd.prog 59 #[.pointer (some ⟨b, 0, none⟩)] w fun r w' => r = .returned (.int .i64 v) ∧ w' = w := by
 have hL := load64 b 0 v w h0
 go_enter Tryd.func59, Tryd.ntmps59
 go_wp2_with (go_at_call 90; (with_reducible refine hL.mono ?_); rintro r w' ⟨rfl, hw⟩; subst hw)
 go_ret
 exact ⟨rfl, rfl⟩
def laterI (n m : Int) : Int := spanI (spanI n 0 1099511627776 + spanI m 0 1099511627776) 0 1099511627776
theorem later1_t (n : Int) (w : World) : Calls Tryd.prog 106 #[.int .i64 n] w fun e w' => e = .returned (.int .i64 (spanI n 0 1099511627776)) ∧ w' = w := by
 go_enter Tryd.func106, Tryd.ntmps106
 go_wp2_with (go_at_call 62; with_reducible refine (span_t _ _ _ _).mono ?_; rintro e w' ⟨rfl, rfl⟩)
 go_ret
 exact ⟨rfl, rfl⟩
theorem later_t (n m : Int) (w : World) : Calls Tryd.prog 93 #[.int .i64 n, .int .i64 m] w fun e w' => e = .returned (.int .i64 (laterI n m)) ∧ w' = w := by
 have hw : IntKind.i64.wrap (spanI n 0 1099511627776 + spanI m 0 1099511627776) = spanI n 0 1099511627776 + spanI m 0 1099511627776 := IntWalk.i64_in _ (by unfold spanI; omega)
 go_enter Tryd.func93, Tryd.ntmps93
 go_wp2_with (go_at_call 106; with_reducible refine (later1_t _ _).mono ?_; rintro e w' ⟨rfl, hw'⟩; subst hw')
 go_ret
 exact ⟨rfl, rfl⟩
end Go.Proofs.YthhnocnkicoimaaDoor
namespace Go.Proofs.YthhnocnkicoimaaDoor
open Go.RowKit Go.Maps

structure WS where
 epoch : Int
 node : Int
 span : Int
 inc : Int
 until_ : Int
 first : Int
 cap : LRes
 up : Bool
 held : List Int
 done : List Int
 told : List Int
 deriving DecidableEq
structure WV where
 y : Int
 n : Int
 h : Nat
 d : Nat
 t : Nat
abbrev wkBox (v : WV) (s : WS) : Array Value := #[.int .i64 s.epoch, .int .i64 v.y, .int .i64 v.n, .int .i64 s.node, .int .i64 s.span, .int .i64 s.inc, .int .i64 s.until_, .int .i64 s.first, .int .i64 s.cap.a, .int .i64 s.cap.b, .int .i64 s.cap.c, .bool s.up, .map (some v.h), .map (some v.d), .map (some v.t)]
structure WkAt (w : World) (c : Nat) (v : WV) (s : WS) : Prop where
 blk : Blk w c 94 (wkBox v s)
 h : ∃ f, MapKV w (.map (some v.h)) s.held f
 d : ∃ f, MapKV w (.map (some v.d)) s.done f
 t : ∃ f, MapKV w (.map (some v.t)) s.told f
 hd : v.h ≠ v.d
 ht : v.h ≠ v.t
 dt : v.d ≠ v.t
def wkS (c : Nat) (v : WV) (k : Nat) : Prop := k = c ∨ k = v.h ∨ k = v.d ∨ k = v.t
section
variable {w w' : World} {c : Nat} {v : WV} {s : WS}
theorem WkAt.ne (h : WkAt w c v s) : v.h ≠ c ∧ v.d ≠ c ∧ v.t ≠ c := by
 obtain ⟨f, h1⟩ := h.h
 obtain ⟨g, h2⟩ := h.d
 obtain ⟨k, h3⟩ := h.t
 exact ⟨fun e => h1.ne_blk h.blk (by rw [e]), fun e => h2.ne_blk h.blk (by rw [e]), fun e => h3.ne_blk h.blk (by rw [e])⟩
theorem WkAt.lt (h : WkAt w c v s) : ∀ k, wkS c v k → k < w.heap.size := by
 obtain ⟨f, h1⟩ := h.h
 obtain ⟨g, h2⟩ := h.d
 obtain ⟨k', h3⟩ := h.t
 rintro k (rfl | rfl | rfl | rfl)
 ·exact h.blk.lt
 ·exact h1.lt _ rfl
 ·exact h2.lt _ rfl
 ·exact h3.lt _ rfl
theorem WkAt.kept {F : Nat → Prop} (h : WkAt w c v s) (hk : Kept F w w') (hF : ∀ k, wkS c v k → ¬ F k) : WkAt w' c v s := by
 obtain ⟨f, h1⟩ := h.h
 obtain ⟨g, h2⟩ := h.d
 obtain ⟨k', h3⟩ := h.t
 exact ⟨h.blk.kept hk (hF c (.inl rfl)), ⟨f, h1.kept hk (fun b hb => by cases hb; exact hF _ (.inr (.inl rfl)))⟩, ⟨g, h2.kept hk (fun b hb => by cases hb; exact hF _ (.inr (.inr (.inl rfl))))⟩, ⟨k', h3.kept hk (fun b hb => by cases hb; exact hF _ (.inr (.inr (.inr rfl))))⟩, h.hd, h.ht, h.dt⟩
theorem WkAt.below (h : WkAt w c v s) (hb : Below w.heap.size w w') : WkAt w' c v s := by
 obtain ⟨f, h1⟩ := h.h
 obtain ⟨g, h2⟩ := h.d
 obtain ⟨k', h3⟩ := h.t
 exact ⟨h.blk.below hb h.blk.lt, ⟨f, h1.below hb⟩, ⟨g, h2.below hb⟩, ⟨k', h3.below hb⟩, h.hd, h.ht, h.dt⟩
theorem WkAt.turn_below (h : WkAt w c v s) (hb : Below w.heap.size w w') : ∃ v', WkAt w' c v' s ∧ Turned (wkS c v) (wkS c v') w w' := ⟨v, h.below hb, .of_below hb⟩
theorem WkAt.not_blk (h : WkAt w c v s) {b : Nat} {t : TypeId} {cs : Array Value} (hb : Blk w b t cs) (h1 : t ≠ 94) : ¬ wkS c v b := by
 obtain ⟨f, hh⟩ := h.h
 obtain ⟨g, hd⟩ := h.d
 obtain ⟨k', ht⟩ := h.t
 rintro (rfl | rfl | rfl | rfl)
 ·exact h1 (by have := hb.symm.trans h.blk; cases this; rfl)
 ·exact hh.ne_blk hb rfl
 ·exact hd.ne_blk hb rfl
 ·exact ht.ne_blk hb rfl
/-- The object's own cells have turned, nothing else. -/
theorem WkAt.cells_ {s' : WS} {v' : WV} (h : WkAt w c v s) (hk : Kept (fun k => k = c) w w') (hb : Blk w' c 94 (wkBox v' s')) (e1 : v'.h = v.h) (e2 : v'.d = v.d) (e3 : v'.t = v.t) (f1 : s'.held = s.held) (f2 : s'.done = s.done) (f3 : s'.told = s.told) :
  WkAt w' c v' s' ∧ Turned (wkS c v) (wkS c v') w w' := by
 obtain ⟨f, h1⟩ := h.h
 obtain ⟨g, h2⟩ := h.d
 obtain ⟨k', h3⟩ := h.t
 have hne := h.ne
 have e : wkS c v' = wkS c v := by funext k; simp only [wkS, e1, e2, e3]
 refine ⟨⟨hb, ?_, ?_, ?_, by rw [e1, e2]; exact h.hd, by rw [e1, e3]; exact h.ht, by rw [e2, e3]; exact h.dt⟩, ?_⟩
 ·rw [e1, f1]; exact ⟨f, h1.kept hk (fun b hb => by cases hb; exact hne.1)⟩
 ·rw [e2, f2]; exact ⟨g, h2.kept hk (fun b hb => by cases hb; exact hne.2.1)⟩
 ·rw [e3, f3]; exact ⟨k', h3.kept hk (fun b hb => by cases hb; exact hne.2.2)⟩
 ·rw [e]; exact ⟨hk.mono (fun i _ e => .inl e), fun k hk => .inl hk⟩
end
theorem wkCells {w : World} {c : Nat} {v : WV} {s : WS} (h : Blk w c 94 (wkBox v s)) : w.cell? ⟨c, 0, none⟩ = some (.int .i64 s.epoch) ∧ w.cell? ⟨c, 1, none⟩ = some (.int .i64 v.y) ∧ w.cell? ⟨c, 2, none⟩ = some (.int .i64 v.n) ∧ w.cell? ⟨c, 3, none⟩ = some (.int .i64 s.node) ∧ w.cell? ⟨c, 4, none⟩ = some (.int .i64 s.span) ∧ w.cell? ⟨c, 5, none⟩ = some (.int .i64 s.inc) ∧ w.cell? ⟨c, 6, none⟩ = some (.int .i64 s.until_) ∧ w.cell? ⟨c, 7, none⟩ = some (.int .i64 s.first) ∧ w.cell? ⟨c, 8, none⟩ = some (.int .i64 s.cap.a) ∧ w.cell? ⟨c, 9, none⟩ = some (.int .i64 s.cap.b) ∧ w.cell? ⟨c, 10, none⟩ = some (.int .i64 s.cap.c) ∧ w.cell? ⟨c, 11, none⟩ = some (.bool s.up) ∧ w.cell? ⟨c, 12, none⟩ = some (.map (some v.h)) ∧ w.cell? ⟨c, 13, none⟩ = some (.map (some v.d)) ∧ w.cell? ⟨c, 14, none⟩ = some (.map (some v.t)) :=
 ⟨(h.cell 0).trans rfl, (h.cell 1).trans rfl, (h.cell 2).trans rfl, (h.cell 3).trans rfl, (h.cell 4).trans rfl, (h.cell 5).trans rfl, (h.cell 6).trans rfl, (h.cell 7).trans rfl, (h.cell 8).trans rfl, (h.cell 9).trans rfl, (h.cell 10).trans rfl, (h.cell 11).trans rfl, (h.cell 12).trans rfl, (h.cell 13).trans rfl, (h.cell 14).trans rfl⟩
theorem Tryd.cellsWorker : Tryd.prog.cellsOf 94 = 15 := by kernel_rfl
section
variable {w w' : World} {c : Nat} {v : WV} {s : WS}
theorem wkUp (h : WkAt w c v s) : Calls Tryd.prog 33 #[.pointer (some ⟨c, 0, none⟩)] w fun e w' => e = .returned (.bool s.up) ∧ w' = w := by
 obtain ⟨c0, c1, c2, c3, c4, c5, c6, c7, c8, c9, c10, c11, c12, c13, c14⟩ := wkCells h.blk
 have cl := h.blk.lt
 clear h
 go_enter Tryd.func33, Tryd.ntmps33
 go_wp2
 go_ret
 exact ⟨rfl, rfl⟩
theorem wkMade (h : WkAt w c v s) (hs : 0 < s.span) : Calls Tryd.prog 58 #[.pointer (some ⟨c, 0, none⟩)] w fun e w' => e = .returned (.bool true) ∧ w' = w := by
 obtain ⟨c0, c1, c2, c3, c4, c5, c6, c7, c8, c9, c10, c11, c12, c13, c14⟩ := wkCells h.blk
 have cl := h.blk.lt
 have hd : decide (0 < s.span) = true := decide_eq_true hs
 clear h
 go_enter Tryd.func58, Tryd.ntmps58
 go_wp2
 go_ret
 exact ⟨rfl, rfl⟩
theorem wkPlace (h : WkAt w c v s) (hn : 0 ≤ s.node ∧ s.node ≤ 15) : Calls Tryd.prog 63 #[.pointer (some ⟨c, 0, none⟩)] w fun e w' => e = .returned (.int .i64 (100 + s.node)) ∧ w' = w := by
 obtain ⟨c0, c1, c2, c3, c4, c5, c6, c7, c8, c9, c10, c11, c12, c13, c14⟩ := wkCells h.blk
 have cl := h.blk.lt
 clear h
 go_enter Tryd.func63, Tryd.ntmps63
 go_wp2
 go_ret
 exact ⟨rfl, rfl⟩
def WS.live (s : WS) (now : Int) : Bool := s.up && decide (now < s.until_)
theorem wkLive (h : WkAt w c v s) (now : Int) : Calls Tryd.prog 27 #[.pointer (some ⟨c, 0, none⟩), .int .i64 now] w fun e w' => e = .returned (.bool (s.live now)) ∧ w' = w := by
 have hU := wkUp h
 obtain ⟨c0, c1, c2, c3, c4, c5, c6, c7, c8, c9, c10, c11, c12, c13, c14⟩ := wkCells h.blk
 have cl := h.blk.lt
 clear h
 unfold WS.live
 rcases Bool.eq_false_or_eq_true s.up with hu | hu
 ·rw [hu] at hU ⊢
  clear c11
  go_enter Tryd.func27, Tryd.ntmps27
  go_wp2_with (go_at_call 33; (with_reducible refine hU.mono ?_); rintro r w' ⟨rfl, hw⟩; subst hw)
  go_ret
  exact ⟨by simp, rfl⟩
 ·rw [hu] at hU ⊢
  clear c11
  go_enter Tryd.func27, Tryd.ntmps27
  go_wp2_with (go_at_call 33; (with_reducible refine hU.mono ?_); rintro r w' ⟨rfl, hw⟩; subst hw)
  go_ret
  exact ⟨by simp, rfl⟩
end
end Go.Proofs.YthhnocnkicoimaaDoor
