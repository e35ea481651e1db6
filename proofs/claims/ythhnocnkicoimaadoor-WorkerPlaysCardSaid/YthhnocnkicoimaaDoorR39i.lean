/-
 LAYER 39 (worker): a worker that nobody made (none, a zero one); the law's own 'same'.
 LAYER 39 (worker): a worker, made or not, and the document's: what each call does to both.
 LAYER 39 (worker): what the law WorkerPlays keeps from call to call; New.
-/
import Derived.Test.YthhnocnkicoimaaDoorR39f
import Derived.Test.YthhnocnkicoimaaDoorKeysN
import Derived.Test.YthhnocnkicoimaaDoorWk13
import Derived.Test.YthhnocnkicoimaaDoorLd39
import Derived.Deep.CutRange
import Derived.Deep.CutBlock
set_option linter.unusedVariables false
set_option linter.unusedSimpArgs false
namespace Go.Proofs.YthhnocnkicoimaaDoor
open Go.RowKit Go.Maps

/-- A worker that nobody made. -/
structure Dead (w : World) (p : Value) : Prop where
 made : ∀ W, Below w.heap.size w W → Calls Tryd.prog 58 #[p] W fun e w' => e = .returned (.bool false) ∧ w' = W
 up : ∀ W, Below w.heap.size w W → Calls Tryd.prog 33 #[p] W fun e w' => e = .returned (.bool false) ∧ w' = W
 held : ∀ W, Below w.heap.size w W → Calls Tryd.prog 28 #[p] W fun e w' => ∃ A nn cc, e = .returned (.slice A nn cc) ∧ OwnL encI 3 1 w' W.heap.size A nn cc [] ∧ Below W.heap.size W w'
 done : ∀ W, Below w.heap.size w W → Calls Tryd.prog 25 #[p] W fun e w' => ∃ A nn cc, e = .returned (.slice A nn cc) ∧ OwnL encI 3 1 w' W.heap.size A nn cc [] ∧ Below W.heap.size W w'
theorem Dead.below {w w' : World} {p : Value} (h : Dead w p) (hb : Below w.heap.size w w') : Dead w' p :=
 ⟨fun W hW => h.made W (hb.trans (hW.mono hb.size)), fun W hW => h.up W (hb.trans (hW.mono hb.size)), fun W hW => h.held W (hb.trans (hW.mono hb.size)), fun W hW => h.done W (hb.trans (hW.mono hb.size))⟩
/-- What is asked of a worker. -/
structure PW (w : World) (p : Value) (s : WS) : Prop where
 info : ∀ W, Below w.heap.size w W → Calls Tryd.prog 24 #[p] W fun e w' => e = .returned (.tuple #[.int .i64 s.inc, .int .i64 s.until_, .int .i64 s.epoch]) ∧ Below W.heap.size W w'
 up : ∀ W, Below w.heap.size w W → Calls Tryd.prog 33 #[p] W fun e w' => e = .returned (.bool s.up) ∧ w' = W
 live : ∀ W now, Below w.heap.size w W → Calls Tryd.prog 27 #[p, .int .i64 now] W fun e w' => e = .returned (.bool (s.live now)) ∧ w' = W
 held : ∀ W, Below w.heap.size w W → Calls Tryd.prog 28 #[p] W fun e w' => ∃ A nn cc, e = .returned (.slice A nn cc) ∧ OwnL encI 3 1 w' W.heap.size A nn cc s.held ∧ Below W.heap.size W w'
 done : ∀ W, Below w.heap.size w W → Calls Tryd.prog 25 #[p] W fun e w' => ∃ A nn cc, e = .returned (.slice A nn cc) ∧ OwnL encI 3 1 w' W.heap.size A nn cc s.done ∧ Below W.heap.size W w'
theorem PW.of_made {w : World} {c : Nat} {v : WV} {s : WS} (h : WkAt w c v s) (hs : 0 < s.span) (h1 : s.held.length ≤ 1000000) (h2 : s.done.length ≤ 1000000) : PW w (.pointer (some ⟨c, 0, none⟩)) s :=
 ⟨fun W hW => wkInfo (h.below hW) hs, fun W hW => wkUp (h.below hW), fun W now hW => wkLive (h.below hW) now, fun W hW => wkHeld (h.below hW) h1, fun W hW => wkDone (h.below hW) h2⟩
set_option maxRecDepth 100000 in
set_option maxHeartbeats 1600000 in
theorem nonemade (w : World) : Calls Tryd.prog 58 #[.pointer none] w fun e w' => e = .returned (.bool false) ∧ w' = w := by
 go_enter Tryd.func58, Tryd.ntmps58
 go_wp2
 go_ret
 exact ⟨rfl, rfl⟩
set_option maxRecDepth 100000 in
set_option maxHeartbeats 1600000 in
theorem noneUp (w : World) : Calls Tryd.prog 33 #[.pointer none] w fun e w' => e = .returned (.bool false) ∧ w' = w := by
 go_enter Tryd.func33, Tryd.ntmps33
 go_wp2
 go_ret
 exact ⟨rfl, rfl⟩
set_option maxRecDepth 100000 in
set_option maxHeartbeats 1600000 in
theorem noneHeld (w : World) : Calls Tryd.prog 28 #[.pointer none] w fun e w' => ∃ A nn cc, e = .returned (.slice A nn cc) ∧ OwnL encI 3 1 w' w.heap.size A nn cc [] ∧ Below w.heap.size w w' := by
 go_enter Tryd.func28, Tryd.ntmps28
 go_wp2
 go_ret
 exact ⟨none, 0, 0, rfl, OwnL.nil _ _, Below.refl _ _⟩
set_option maxRecDepth 100000 in
set_option maxHeartbeats 1600000 in
theorem noneDone (w : World) : Calls Tryd.prog 25 #[.pointer none] w fun e w' => ∃ A nn cc, e = .returned (.slice A nn cc) ∧ OwnL encI 3 1 w' w.heap.size A nn cc [] ∧ Below w.heap.size w w' := by
 go_enter Tryd.func25, Tryd.ntmps25
 go_wp2
 go_ret
 exact ⟨none, 0, 0, rfl, OwnL.nil _ _, Below.refl _ _⟩
theorem Dead.none (w : World) : Dead w (.pointer Option.none) := ⟨fun W _ => nonemade W, fun W _ => noneUp W, fun W _ => noneHeld W, fun W _ => noneDone W⟩
set_option maxRecDepth 100000 in
set_option maxHeartbeats 1600000 in
theorem zeromade (c : Nat) (w : World) (h : Blk w c 94 (wkBox0 WS.zero)) : Calls Tryd.prog 58 #[.pointer (some ⟨c, 0, none⟩)] w fun e w' => e = .returned (.bool false) ∧ w' = w := by
 have z4 : w.cell? ⟨c, 4, none⟩ = some (.int .i64 0) := (h.cell 4).trans rfl
 have zl := h.lt
 clear h
 go_enter Tryd.func58, Tryd.ntmps58
 go_wp2
 go_ret
 exact ⟨rfl, rfl⟩
set_option maxRecDepth 100000 in
set_option maxHeartbeats 1600000 in
theorem zeroUp (c : Nat) (w : World) (h : Blk w c 94 (wkBox0 WS.zero)) : Calls Tryd.prog 33 #[.pointer (some ⟨c, 0, none⟩)] w fun e w' => e = .returned (.bool false) ∧ w' = w := by
 have z11 : w.cell? ⟨c, 11, none⟩ = some (.bool false) := (h.cell 11).trans rfl
 have zl := h.lt
 clear h
 go_enter Tryd.func33, Tryd.ntmps33
 go_wp2
 go_ret
 exact ⟨rfl, rfl⟩
set_option maxRecDepth 100000 in
set_option maxHeartbeats 1600000 in
theorem zeroHeld (c : Nat) (w : World) (h : Blk w c 94 (wkBox0 WS.zero)) : Calls Tryd.prog 28 #[.pointer (some ⟨c, 0, none⟩)] w fun e w' => ∃ A nn cc, e = .returned (.slice A nn cc) ∧ OwnL encI 3 1 w' w.heap.size A nn cc [] ∧ Below w.heap.size w w' := by
 have z12 : w.cell? ⟨c, 12, none⟩ = some (.map none) := (h.cell 12).trans rfl
 have zl := h.lt
 clear h
 have hcx := risingNone_t w
 go_enter Tryd.func28, Tryd.ntmps28
 go_wp2_with fail
 (with_reducible refine hcx.mono ?_)
 clear hcx
 rintro e w2 ⟨A, nn, cc, rfl, ho, hb⟩
 go_wp2
 go_ret
 exact ⟨A, nn, cc, rfl, ho, hb⟩
set_option maxRecDepth 100000 in
set_option maxHeartbeats 1600000 in
theorem zeroDone (c : Nat) (w : World) (h : Blk w c 94 (wkBox0 WS.zero)) : Calls Tryd.prog 25 #[.pointer (some ⟨c, 0, none⟩)] w fun e w' => ∃ A nn cc, e = .returned (.slice A nn cc) ∧ OwnL encI 3 1 w' w.heap.size A nn cc [] ∧ Below w.heap.size w w' := by
 have z13 : w.cell? ⟨c, 13, none⟩ = some (.map none) := (h.cell 13).trans rfl
 have zl := h.lt
 clear h
 have hcx := risingNone_t w
 go_enter Tryd.func25, Tryd.ntmps25
 go_wp2_with fail
 (with_reducible refine hcx.mono ?_)
 clear hcx
 rintro e w2 ⟨A, nn, cc, rfl, ho, hb⟩
 go_wp2
 go_ret
 exact ⟨A, nn, cc, rfl, ho, hb⟩
theorem Dead.zero {c : Nat} {w : World} (h : Blk w c 94 (wkBox0 WS.zero)) : Dead w (.pointer (some ⟨c, 0, Option.none⟩)) :=
 ⟨fun W hW => zeromade c W (h.below hW h.lt), fun W hW => zeroUp c W (h.below hW h.lt), fun W hW => zeroHeld c W (h.below hW h.lt), fun W hW => zeroDone c W (h.below hW h.lt)⟩
set_option maxRecDepth 100000 in
set_option maxHeartbeats 1600000 in
theorem deadCrash {p : Value} {w : World} (h : Dead w p) : Calls Tryd.prog 31 #[p] w fun e w' => e = .returned (.bool false) ∧ w' = w := by
 have hcx := h.up w (Below.refl _ _)
 clear h
 go_enter Tryd.func31, Tryd.ntmps31
 go_wp2_with (go_at_call 33; (with_reducible refine hcx.mono ?_); rintro e w2 ⟨rfl, hw2⟩; subst hw2)
 go_ret
 exact ⟨rfl, rfl⟩
set_option maxRecDepth 100000 in
set_option maxHeartbeats 1600000 in
theorem deadBoot {p : Value} {w : World} (h : Dead w p) : Calls Tryd.prog 32 #[p] w fun e w' => e = .returned (.bool false) ∧ w' = w := by
 have hcx := h.made w (Below.refl _ _)
 clear h
 go_enter Tryd.func32, Tryd.ntmps32
 go_wp2_with (go_at_call 58; (with_reducible refine hcx.mono ?_); rintro e w2 ⟨rfl, hw2⟩; subst hw2)
 go_ret
 exact ⟨rfl, rfl⟩
set_option maxRecDepth 100000 in
set_option maxHeartbeats 1600000 in
theorem deadLive {p : Value} {w : World} (h : Dead w p) (now : Int) : Calls Tryd.prog 27 #[p, .int .i64 now] w fun e w' => e = .returned (.bool false) ∧ w' = w := by
 have hcx := h.up w (Below.refl _ _)
 clear h
 go_enter Tryd.func27, Tryd.ntmps27
 go_wp2_with (go_at_call 33; (with_reducible refine hcx.mono ?_); rintro e w2 ⟨rfl, hw2⟩; subst hw2)
 go_ret
 exact ⟨rfl, rfl⟩
set_option maxRecDepth 100000 in
set_option maxHeartbeats 1600000 in
theorem deadTick {p : Value} {w : World} (h : Dead w p) (now n : Int) : Calls Tryd.prog 26 #[p, .int .i64 now, .int .i64 n] w fun e w' => e = .returned (.slice none 0 0) ∧ w' = w := by
 have hcx := h.up w (Below.refl _ _)
 clear h
 go_enter Tryd.func26, Tryd.ntmps26
 go_wp2_with (go_at_call 33; (with_reducible refine hcx.mono ?_); rintro e w2 ⟨rfl, hw2⟩; subst hw2)
 go_ret
 exact ⟨rfl, rfl⟩
set_option maxRecDepth 100000 in
set_option maxHeartbeats 1600000 in
theorem deadFinish {p : Value} {w : World} (h : Dead w p) (now job : Int) : Calls Tryd.prog 30 #[p, .int .i64 now, .int .i64 job] w fun e w' => e = .returned (.bool false) ∧ w' = w := by
 have hcx := deadLive h now
 clear h
 go_enter Tryd.func30, Tryd.ntmps30
 go_wp2_with (go_at_call 27; (with_reducible refine hcx.mono ?_); rintro e w2 ⟨rfl, hw2⟩; subst hw2)
 go_ret
 exact ⟨rfl, rfl⟩
set_option maxRecDepth 100000 in
set_option maxHeartbeats 1600000 in
theorem deadInfo {p : Value} {w : World} (h : Dead w p) : Calls Tryd.prog 24 #[p] w fun e w' => e = .returned (.tuple #[.int .i64 0, .int .i64 0, .int .i64 0]) ∧ w' = w := by
 have hcx := h.made w (Below.refl _ _)
 clear h
 go_enter Tryd.func24, Tryd.ntmps24
 go_wp2_with (go_at_call 58; (with_reducible refine hcx.mono ?_); rintro e w2 ⟨rfl, hw2⟩; subst hw2)
 refine bodyPost_ret (v := .tuple #[.int .i64 0, .int .i64 0, .int .i64 0]) (by simp [results, Tryd.results24, go_sem]) rfl ⟨rfl, rfl⟩
set_option maxRecDepth 100000 in
set_option maxHeartbeats 1600000 in
theorem deadResize {p : Value} {w : World} (h : Dead w p) (r : LRes) : Calls Tryd.prog 39 #[p, aggRes r] w fun e w' => e = .returned (.int .i64 7) ∧ Below w.heap.size w w' := by
 have hB : Below w.heap.size w (w.alloc (.cells (boxRes r) 36)) := (Below.refl _ _).alloc (Nat.le_refl _) _
 have hcx := h.made _ hB
 have HB := Lib.hid hB
 clear h hB
 go_enter Tryd.func39, Tryd.ntmps39
 go_wp2_with (go_at_call 58; (with_reducible refine hcx.mono ?_); rintro e w2 ⟨rfl, hw2⟩; subst hw2)
 go_ret
 exact ⟨rfl, HB.out⟩
set_option maxRecDepth 100000 in
set_option maxHeartbeats 1600000 in
theorem deadHear {q : Option Addr} {w : World} (h : Dead w (.pointer q)) (now : Int) (m : LMsg) : Calls Tryd.prog 29 #[.pointer q, .int .i64 now, aggMsg m] w fun e w' => e = .returned (.bool false) ∧ Below w.heap.size w w' := by
 have hB : Below w.heap.size w (w.alloc (.cells (boxMsg m) 38)) := (Below.refl _ _).alloc (Nat.le_refl _) _
 have HDD := Lib.hid h
 have HB0 := Lib.hid hB
 clear h hB
 go_enter Tryd.func29, Tryd.ntmps29
 go_upto_region 1 with fail
 obtain ⟨b, hb0⟩ : ∃ b, w.heap.size = b := ⟨_, rfl⟩
 generalize (w.alloc (.cells (boxMsg m) 38)) = w1 at HB0 ⊢
 try rw [hb0]
 clear hb0
 refine Cont.start (by kernel_rfl) ?_
 have HB := Lib.hid (HB0.out.trans ((Below.refl w1.heap.size w1).drew.mono HB0.out.size))
 generalize w1.drew = wd at HB ⊢
 refine cont_free 0 15 8 [] [.o (eqV (.pointer q)), .b false, .b true, .b true, .u, .u, .u, .b true, .b true, .u, .u, .u, .u, .u, .b true] [false, false, true, true, true, true, true, true, true, true, true, true, true, true, true] (by kernel_rfl) (by kernel_rfl) (by kernel_rfl) (by kernel_rfl) (by kernel_rfl) (by kernel_rfl) (by kernel_rfl) rfl (by kernel_rfl) (by kernel_rfl) ⟨?_, ?_, trivial⟩ ?fin
 ·intro a w hb hoth hdep
  refine step_on (want_none rfl) ?_
  have e0 : a.tmps[0]? = some (.pointer q) := ev_seg hoth 0 (by kernel_rfl) rfl
  exact step_val ((BigFrame.run_move _ rfl w).trans (by rw [ev_of e0])) rfl
 ·intro a w hb hoth hdep
  refine step_on (want_none rfl) ?_
  obtain ⟨v0, e8, hv0⟩ := ev_dep hdep 0 8 (by kernel_rfl) (by kernel_rfl)
  replace hv0 : v0 = .pointer q := hv0
  subst hv0
  refine step_call (f := 33) (args := #[.pointer q]) ?_ ?_
  ·simp [go_sem, e8]
  ·have hcx := HDD.out.up w (HB.out.trans (hb.mono HB.out.size))
   (with_reducible refine hcx.mono ?_)
   clear hcx
   rintro e w9 ⟨rfl, hw⟩
   subst hw
   exact ⟨_, rfl, rfl, Below.refl _ _⟩
 case fin =>
  intro wz hbz
  iterate 15 (rintro _ rfl)
  refine FinC.nil ?_
  refine cont_end (by kernel_rfl) ?_
  have HE := Lib.hid (HB.out.trans (hbz.mono HB.out.size))
  clear hbz
  go_wp2_with fail
  go_ret
  exact ⟨rfl, HE.out⟩
theorem PW.of_dead {w : World} {p : Value} (h : Dead w p) : PW w p WS.zero :=
 ⟨fun W hW => (deadInfo (h.below hW)).mono (fun e w' hh => ⟨hh.1, by rw [hh.2]; exact Below.refl _ _⟩), fun W hW => h.up W hW, fun W now hW => deadLive (h.below hW) now, fun W hW => h.held W hW, fun W hW => h.done W hW⟩
set_option maxRecDepth 100000 in
set_option maxHeartbeats 6400000 in
theorem same_t (q : Option Addr) (s : WS) (v : RV) (now : Int) (w : World) (hp : PW w (.pointer q) s) (hR : RdR w v s) (hl : s.held.length ≤ 1000000 ∧ s.done.length ≤ 1000000) : Calls Tryd.prog 42 #[.pointer q, aggR s v, .int .i64 now] w fun e w' => e = .returned (.bool true) ∧ Below w.heap.size w w' := by
 have HP := Lib.hid hp
 have HRR := Lib.hid hR
 have HL := Lib.hid hl
 clear hp hR hl
 go_enter Tryd.func42, Tryd.ntmps42
 go_upto_region 1 with fail
 have hb := Blk.new w 74 (boxR s v)
 have hB : Below w.heap.size w (w.alloc (.cells (boxR s v) 74)) := (Below.refl _ _).alloc (Nat.le_refl _) _
 have H1 := Lib.hid (And.intro hb hB)
 clear hb hB
 obtain ⟨b, hb0⟩ : ∃ b, w.heap.size = b := ⟨_, rfl⟩
 have H2 : Hid (Blk (w.alloc (.cells (boxR s v) 74)) b 74 (boxR s v)) := Lib.hid (by rw [← hb0]; exact H1.out.1)
 have HB := Lib.hid H1.out.2
 clear H1
 generalize w.alloc (.cells (boxR s v) 74) = w1 at H2 HB ⊢
 rw [hb0]
 clear hb0
 have hcx := HP.out.info w1 HB.out
 go_wp2_with fail
 (with_reducible refine hcx.mono ?_)
 clear hcx
 rintro e w2 ⟨rfl, hb2⟩
 have H3 := Lib.hid (And.intro (H2.out.below hb2 H2.out.lt) (HB.out.trans (hb2.mono HB.out.size)))
 clear hb2 H2 HB
 go_upto_region 2 with fail
 refine Cont.start (by kernel_rfl) ?_
 have HD := Lib.hid (And.intro (H3.out.1.below (Below.refl w2.heap.size w2).drew H3.out.1.lt) (H3.out.2.trans ((Below.refl w2.heap.size w2).drew.mono H3.out.2.size)))
 generalize w2.drew = wd at HD ⊢
 refine cont_free2 0 48 16 [] [.o (eqV (.int .i64 s.inc)), .o (eqV (.pointer (some ⟨b, 2, none⟩))), .o (eqV (.int .i64 s.inc)), .b true, .b true, .o (eqV (.int .i64 s.until_)), .o (eqV (.pointer (some ⟨b, 3, none⟩))), .o (eqV (.int .i64 s.until_)), .b true, .b true, .b true, .o (eqV (.int .i64 s.epoch)), .o (eqV (.pointer (some ⟨b, 9, none⟩))), .o (eqV (.pointer (some ⟨b, 9, none⟩))), .o (eqV (.int .i64 s.epoch)), .b true, .b true, .b true, .o (eqV (.pointer q)), .o (eqV (.bool s.up)), .o (eqV (.pointer (some ⟨b, 8, none⟩))), .o (eqV (.bool s.up)), .b true, .b true, .b true, .o (eqV (.pointer q)), .o (eqV (.int .i64 now)), .o (eqV (.bool (s.live now))), .o (eqV (aggR s v)), .o (eqV (.int .i64 now)), .o (eqV (.bool (s.live now))), .b true, .b true, .b true, .o (eqV (.pointer q)), .o (rdV encI 1 s.held 1000000), .o (eqV (.pointer (some ⟨b, 12, none⟩))), .o (eqV (.slice v.ha v.hn v.hc)), .b true, .b true, .b true, .o (eqV (.pointer q)), .o (rdV encI 1 s.done 1000000), .o (eqV (.pointer (some ⟨b, 13, none⟩))), .o (eqV (.slice v.da v.dn v.dc)), .b true, .b true] [6] [.b true] [false, false, false, false, true, false, false, false, false, true, true, false, false, false, false, false, true, true, false, false, false, false, false, true, true, false, false, false, false, false, false, false, true, true, false, false, false, false, false, true, true, false, false, false, false, false, true, true] (by kernel_rfl) (by kernel_rfl) (by kernel_rfl) (by kernel_rfl) (by kernel_rfl) (by kernel_rfl) (by kernel_rfl) rfl (by kernel_rfl) (by kernel_rfl) ⟨?_, ?_, ?_, ?_, ?_, ?_, ?_, ?_, ?_, ?_, ?_, ?_, ?_, ?_, ?_, ?_, ?_, ?_, ?_, ?_, ?_, ?_, ?_, ?_, ?_, ?_, ?_, ?_, ?_, ?_, ?_, ?_, ?_, ?_, ?_, trivial⟩ ?fin
 ·intro a w hb hoth hdep
  refine step_on (want_none rfl) ?_
  have e7 : a.tmps[7]? = some (.int .i64 s.inc) := ev_seg hoth 7 (by kernel_rfl) rfl
  exact step_val ((BigFrame.run_move _ rfl w).trans (by rw [ev_of e7])) rfl
 ·intro a w hb hoth hdep
  refine step_on (want_none rfl) ?_
  have e4 : a.tmps[4]? = some (.pointer (some ⟨b, 0, none⟩)) := ev_seg hoth 4 (by kernel_rfl) rfl
  refine step_val (x := .pointer (some ⟨b, 2, none⟩)) ?_ rfl
  simp [go_sem, e4]
 ·intro a w hb hoth hdep
  refine step_on (want_none rfl) ?_
  obtain ⟨v1, e17, hv1⟩ := ev_dep hdep 1 17 (by kernel_rfl) (by kernel_rfl)
  replace hv1 : v1 = .pointer (some ⟨b, 2, none⟩) := hv1
  subst hv1
  have x2 : w.cell? ⟨b, 2, none⟩ = some (.int .i64 s.inc) := ((HD.out.1.below hb HD.out.1.lt).cell 2).trans rfl
  refine step_val (x := .int .i64 s.inc) ?_ rfl
  simp [go_sem, e17, x2]
 ·intro a w hb hoth hdep
  refine step_on (want_none rfl) ?_
  obtain ⟨v0, e16, hv0⟩ := ev_dep hdep 0 16 (by kernel_rfl) (by kernel_rfl)
  replace hv0 : v0 = .int .i64 s.inc := hv0
  subst hv0
  obtain ⟨v2, e18, hv2⟩ := ev_dep hdep 2 18 (by kernel_rfl) (by kernel_rfl)
  replace hv2 : v2 = .int .i64 s.inc := hv2
  subst hv2
  refine step_val (x := .bool true) ?_ rfl
  simp [go_sem, e16, e18]
 ·intro a w hb hoth hdep
  refine step_on ((want_dep hdep 4 20 true rfl (by kernel_rfl) (by kernel_rfl) (fun v h => h)).trans rfl) ?_
  have e8 : a.tmps[8]? = some (.int .i64 s.until_) := ev_seg hoth 8 (by kernel_rfl) rfl
  exact step_val ((BigFrame.run_move _ rfl w).trans (by rw [ev_of e8])) rfl
 ·intro a w hb hoth hdep
  refine step_on ((want_dep hdep 4 20 true rfl (by kernel_rfl) (by kernel_rfl) (fun v h => h)).trans rfl) ?_
  have e4 : a.tmps[4]? = some (.pointer (some ⟨b, 0, none⟩)) := ev_seg hoth 4 (by kernel_rfl) rfl
  refine step_val (x := .pointer (some ⟨b, 3, none⟩)) ?_ rfl
  simp [go_sem, e4]
 ·intro a w hb hoth hdep
  refine step_on ((want_dep hdep 4 20 true rfl (by kernel_rfl) (by kernel_rfl) (fun v h => h)).trans rfl) ?_
  obtain ⟨v6, e22, hv6⟩ := ev_dep hdep 6 22 (by kernel_rfl) (by kernel_rfl)
  replace hv6 : v6 = .pointer (some ⟨b, 3, none⟩) := hv6
  subst hv6
  have x3 : w.cell? ⟨b, 3, none⟩ = some (.int .i64 s.until_) := ((HD.out.1.below hb HD.out.1.lt).cell 3).trans rfl
  refine step_val (x := .int .i64 s.until_) ?_ rfl
  simp [go_sem, e22, x3]
 ·intro a w hb hoth hdep
  refine step_on ((want_dep hdep 4 20 true rfl (by kernel_rfl) (by kernel_rfl) (fun v h => h)).trans rfl) ?_
  obtain ⟨v5, e21, hv5⟩ := ev_dep hdep 5 21 (by kernel_rfl) (by kernel_rfl)
  replace hv5 : v5 = .int .i64 s.until_ := hv5
  subst hv5
  obtain ⟨v7, e23, hv7⟩ := ev_dep hdep 7 23 (by kernel_rfl) (by kernel_rfl)
  replace hv7 : v7 = .int .i64 s.until_ := hv7
  subst hv7
  refine step_val (x := .bool true) ?_ rfl
  simp [go_sem, e21, e23]
 ·intro a w hb hoth hdep
  refine step_on ((want_dep hdep 10 26 true rfl (by kernel_rfl) (by kernel_rfl) (fun v h => h)).trans rfl) ?_
  have e9 : a.tmps[9]? = some (.int .i64 s.epoch) := ev_seg hoth 9 (by kernel_rfl) rfl
  exact step_val ((BigFrame.run_move _ rfl w).trans (by rw [ev_of e9])) rfl
 ·intro a w hb hoth hdep
  refine step_on ((want_dep hdep 10 26 true rfl (by kernel_rfl) (by kernel_rfl) (fun v h => h)).trans rfl) ?_
  have e4 : a.tmps[4]? = some (.pointer (some ⟨b, 0, none⟩)) := ev_seg hoth 4 (by kernel_rfl) rfl
  refine step_val (x := .pointer (some ⟨b, 9, none⟩)) ?_ rfl
  simp [go_sem, e4]
 ·intro a w hb hoth hdep
  refine step_on ((want_dep hdep 10 26 true rfl (by kernel_rfl) (by kernel_rfl) (fun v h => h)).trans rfl) ?_
  obtain ⟨v12, e28, hv12⟩ := ev_dep hdep 12 28 (by kernel_rfl) (by kernel_rfl)
  replace hv12 : v12 = .pointer (some ⟨b, 9, none⟩) := hv12
  subst hv12
  refine step_val (x := .pointer (some ⟨b, 9, none⟩)) ?_ rfl
  simp [go_sem, e28]
 ·intro a w hb hoth hdep
  refine step_on ((want_dep hdep 10 26 true rfl (by kernel_rfl) (by kernel_rfl) (fun v h => h)).trans rfl) ?_
  obtain ⟨v13, e29, hv13⟩ := ev_dep hdep 13 29 (by kernel_rfl) (by kernel_rfl)
  replace hv13 : v13 = .pointer (some ⟨b, 9, none⟩) := hv13
  subst hv13
  have x9 : w.cell? ⟨b, 9, none⟩ = some (.int .i64 s.epoch) := ((HD.out.1.below hb HD.out.1.lt).cell 9).trans rfl
  refine step_val (x := .int .i64 s.epoch) ?_ rfl
  simp [go_sem, e29, x9]
 ·intro a w hb hoth hdep
  refine step_on ((want_dep hdep 10 26 true rfl (by kernel_rfl) (by kernel_rfl) (fun v h => h)).trans rfl) ?_
  obtain ⟨v11, e27, hv11⟩ := ev_dep hdep 11 27 (by kernel_rfl) (by kernel_rfl)
  replace hv11 : v11 = .int .i64 s.epoch := hv11
  subst hv11
  obtain ⟨v14, e30, hv14⟩ := ev_dep hdep 14 30 (by kernel_rfl) (by kernel_rfl)
  replace hv14 : v14 = .int .i64 s.epoch := hv14
  subst hv14
  refine step_val (x := .bool true) ?_ rfl
  simp [go_sem, e27, e30]
 ·intro a w hb hoth hdep
  refine step_on ((want_dep hdep 17 33 true rfl (by kernel_rfl) (by kernel_rfl) (fun v h => h)).trans rfl) ?_
  have e0 : a.tmps[0]? = some (.pointer q) := ev_seg hoth 0 (by kernel_rfl) rfl
  exact step_val ((BigFrame.run_move _ rfl w).trans (by rw [ev_of e0])) rfl
 ·intro a w hb hoth hdep
  refine step_on ((want_dep hdep 17 33 true rfl (by kernel_rfl) (by kernel_rfl) (fun v h => h)).trans rfl) ?_
  obtain ⟨v18, e34, hv18⟩ := ev_dep hdep 18 34 (by kernel_rfl) (by kernel_rfl)
  replace hv18 : v18 = .pointer q := hv18
  subst hv18
  refine step_call (f := 33) (args := #[.pointer q]) ?_ ?_
  ·simp [go_sem, e34]
  ·have hcx := HP.out.up w (HD.out.2.trans (hb.mono HD.out.2.size))
   (with_reducible refine hcx.mono ?_)
   clear hcx
   rintro e w9 ⟨rfl, hw⟩; subst hw
   exact ⟨_, rfl, rfl, Below.refl _ _⟩
 ·intro a w hb hoth hdep
  refine step_on ((want_dep hdep 17 33 true rfl (by kernel_rfl) (by kernel_rfl) (fun v h => h)).trans rfl) ?_
  have e4 : a.tmps[4]? = some (.pointer (some ⟨b, 0, none⟩)) := ev_seg hoth 4 (by kernel_rfl) rfl
  refine step_val (x := .pointer (some ⟨b, 8, none⟩)) ?_ rfl
  simp [go_sem, e4]
 ·intro a w hb hoth hdep
  refine step_on ((want_dep hdep 17 33 true rfl (by kernel_rfl) (by kernel_rfl) (fun v h => h)).trans rfl) ?_
  obtain ⟨v20, e36, hv20⟩ := ev_dep hdep 20 36 (by kernel_rfl) (by kernel_rfl)
  replace hv20 : v20 = .pointer (some ⟨b, 8, none⟩) := hv20
  subst hv20
  have x8 : w.cell? ⟨b, 8, none⟩ = some (.bool s.up) := ((HD.out.1.below hb HD.out.1.lt).cell 8).trans rfl
  refine step_val (x := .bool s.up) ?_ rfl
  simp [go_sem, e36, x8]
 ·intro a w hb hoth hdep
  refine step_on ((want_dep hdep 17 33 true rfl (by kernel_rfl) (by kernel_rfl) (fun v h => h)).trans rfl) ?_
  obtain ⟨v19, e35, hv19⟩ := ev_dep hdep 19 35 (by kernel_rfl) (by kernel_rfl)
  replace hv19 : v19 = .bool s.up := hv19
  subst hv19
  obtain ⟨v21, e37, hv21⟩ := ev_dep hdep 21 37 (by kernel_rfl) (by kernel_rfl)
  replace hv21 : v21 = .bool s.up := hv21
  subst hv21
  refine step_val (x := .bool true) ?_ rfl
  simp [go_sem, e35, e37]
 ·intro a w hb hoth hdep
  refine step_on ((want_dep hdep 24 40 true rfl (by kernel_rfl) (by kernel_rfl) (fun v h => h)).trans rfl) ?_
  have e0 : a.tmps[0]? = some (.pointer q) := ev_seg hoth 0 (by kernel_rfl) rfl
  exact step_val ((BigFrame.run_move _ rfl w).trans (by rw [ev_of e0])) rfl
 ·intro a w hb hoth hdep
  refine step_on ((want_dep hdep 24 40 true rfl (by kernel_rfl) (by kernel_rfl) (fun v h => h)).trans rfl) ?_
  have e2 : a.tmps[2]? = some (.int .i64 now) := ev_seg hoth 2 (by kernel_rfl) rfl
  exact step_val ((BigFrame.run_move _ rfl w).trans (by rw [ev_of e2])) rfl
 ·intro a w hb hoth hdep
  refine step_on ((want_dep hdep 24 40 true rfl (by kernel_rfl) (by kernel_rfl) (fun v h => h)).trans rfl) ?_
  obtain ⟨v25, e41, hv25⟩ := ev_dep hdep 25 41 (by kernel_rfl) (by kernel_rfl)
  replace hv25 : v25 = .pointer q := hv25
  subst hv25
  obtain ⟨v26, e42, hv26⟩ := ev_dep hdep 26 42 (by kernel_rfl) (by kernel_rfl)
  replace hv26 : v26 = .int .i64 now := hv26
  subst hv26
  refine step_call (f := 27) (args := #[.pointer q, .int .i64 now]) ?_ ?_
  ·simp [go_sem, e41, e42]
  ·have hcx := HP.out.live w now (HD.out.2.trans (hb.mono HD.out.2.size))
   (with_reducible refine hcx.mono ?_)
   clear hcx
   rintro e w9 ⟨rfl, hw⟩; subst hw
   exact ⟨_, rfl, rfl, Below.refl _ _⟩
 ·intro a w hb hoth hdep
  refine step_on ((want_dep hdep 24 40 true rfl (by kernel_rfl) (by kernel_rfl) (fun v h => h)).trans rfl) ?_
  have e4 : a.tmps[4]? = some (.pointer (some ⟨b, 0, none⟩)) := ev_seg hoth 4 (by kernel_rfl) rfl
  obtain ⟨x0, x1, x2, x3, x4, x5, x6, x7, x8, x9, x10, x11, x12, x13, x14⟩ := rCells (HD.out.1.below hb HD.out.1.lt)
  refine step_val (x := aggR s v) ?_ rfl
  simp [go_sem, e4, x0, x1, x2, x3, x4, x5, x6, x7, x8, x9, x10, x11, x12, x13, x14, aggR]
 ·intro a w hb hoth hdep
  refine step_on ((want_dep hdep 24 40 true rfl (by kernel_rfl) (by kernel_rfl) (fun v h => h)).trans rfl) ?_
  have e2 : a.tmps[2]? = some (.int .i64 now) := ev_seg hoth 2 (by kernel_rfl) rfl
  exact step_val ((BigFrame.run_move _ rfl w).trans (by rw [ev_of e2])) rfl
 ·intro a w hb hoth hdep
  refine step_on ((want_dep hdep 24 40 true rfl (by kernel_rfl) (by kernel_rfl) (fun v h => h)).trans rfl) ?_
  obtain ⟨v28, e44, hv28⟩ := ev_dep hdep 28 44 (by kernel_rfl) (by kernel_rfl)
  replace hv28 : v28 = aggR s v := hv28
  subst hv28
  obtain ⟨v29, e45, hv29⟩ := ev_dep hdep 29 45 (by kernel_rfl) (by kernel_rfl)
  replace hv29 : v29 = .int .i64 now := hv29
  subst hv29
  refine step_call (f := 73) (args := #[aggR s v, .int .i64 now]) ?_ ?_
  ·simp [go_sem, e44, e45]
  ·have hcx := rLive_t s v now w
   (with_reducible refine hcx.mono ?_)
   clear hcx
   rintro e w9 ⟨rfl, hb9⟩
   exact ⟨_, rfl, rfl, hb9⟩
 ·intro a w hb hoth hdep
  refine step_on ((want_dep hdep 24 40 true rfl (by kernel_rfl) (by kernel_rfl) (fun v h => h)).trans rfl) ?_
  obtain ⟨v27, e43, hv27⟩ := ev_dep hdep 27 43 (by kernel_rfl) (by kernel_rfl)
  replace hv27 : v27 = .bool (s.live now) := hv27
  subst hv27
  obtain ⟨v30, e46, hv30⟩ := ev_dep hdep 30 46 (by kernel_rfl) (by kernel_rfl)
  replace hv30 : v30 = .bool (s.live now) := hv30
  subst hv30
  refine step_val (x := .bool true) ?_ rfl
  simp [go_sem, e43, e46]
 ·intro a w hb hoth hdep
  refine step_on ((want_dep hdep 33 49 true rfl (by kernel_rfl) (by kernel_rfl) (fun v h => h)).trans rfl) ?_
  have e0 : a.tmps[0]? = some (.pointer q) := ev_seg hoth 0 (by kernel_rfl) rfl
  exact step_val ((BigFrame.run_move _ rfl w).trans (by rw [ev_of e0])) rfl
 ·intro a w hb hoth hdep
  refine step_on ((want_dep hdep 33 49 true rfl (by kernel_rfl) (by kernel_rfl) (fun v h => h)).trans rfl) ?_
  obtain ⟨v34, e50, hv34⟩ := ev_dep hdep 34 50 (by kernel_rfl) (by kernel_rfl)
  replace hv34 : v34 = .pointer q := hv34
  subst hv34
  refine step_call (f := 28) (args := #[.pointer q]) ?_ ?_
  ·simp [go_sem, e50]
  ·have hcx := HP.out.held w (HD.out.2.trans (hb.mono HD.out.2.size))
   (with_reducible refine hcx.mono ?_)
   clear hcx
   rintro e w9 ⟨A9, n9, c9, rfl, ho9, hb9⟩
   exact ⟨_, rfl, ⟨A9, n9, c9, rfl, ho9.rd (enc := encI) (sz := 1) (fun _ => rfl), by have h8 := ho9.len; have := HL.out; omega⟩, hb9⟩
 ·intro a w hb hoth hdep
  refine step_on ((want_dep hdep 33 49 true rfl (by kernel_rfl) (by kernel_rfl) (fun v h => h)).trans rfl) ?_
  have e4 : a.tmps[4]? = some (.pointer (some ⟨b, 0, none⟩)) := ev_seg hoth 4 (by kernel_rfl) rfl
  refine step_val (x := .pointer (some ⟨b, 12, none⟩)) ?_ rfl
  simp [go_sem, e4]
 ·intro a w hb hoth hdep
  refine step_on ((want_dep hdep 33 49 true rfl (by kernel_rfl) (by kernel_rfl) (fun v h => h)).trans rfl) ?_
  obtain ⟨v36, e52, hv36⟩ := ev_dep hdep 36 52 (by kernel_rfl) (by kernel_rfl)
  replace hv36 : v36 = .pointer (some ⟨b, 12, none⟩) := hv36
  subst hv36
  have x12 : w.cell? ⟨b, 12, none⟩ = some (.slice v.ha v.hn v.hc) := ((HD.out.1.below hb HD.out.1.lt).cell 12).trans rfl
  refine step_val (x := .slice v.ha v.hn v.hc) ?_ rfl
  simp [go_sem, e52, x12]
 ·intro a w hb hoth hdep
  refine step_on ((want_dep hdep 33 49 true rfl (by kernel_rfl) (by kernel_rfl) (fun v h => h)).trans rfl) ?_
  obtain ⟨v35, e51, hv35⟩ := ev_dep hdep 35 51 (by kernel_rfl) (by kernel_rfl)
  obtain ⟨A5, n5, c5, hs5, hr5, hn5⟩ := hv35
  subst hs5
  obtain ⟨v37, e53, hv37⟩ := ev_dep hdep 37 53 (by kernel_rfl) (by kernel_rfl)
  replace hv37 : v37 = .slice v.ha v.hn v.hc := hv37
  subst hv37
  refine step_call (f := 17) (args := #[.slice A5 n5 c5, .slice v.ha v.hn v.hc]) ?_ ?_
  ·simp [go_sem, e51, e53]
  ·have hcx := same01 A5 v.ha n5 c5 v.hn v.hc s.held s.held w hr5 (HRR.out.h.below (HD.out.2.trans (hb.mono HD.out.2.size))) (by have := hr5.len; have := HL.out; omega) (by have := HRR.out.h.len; have := HL.out; omega)
   rw [show decide (s.held = s.held) = true from decide_eq_true rfl] at hcx
   (with_reducible refine hcx.mono ?_)
   clear hcx
   rintro e w9 ⟨rfl, dq, hw⟩; subst hw
   exact ⟨_, rfl, rfl, below_dN39 dq⟩
 ·intro a w hb hoth hdep
  refine step_on ((want_dep hdep 40 56 true rfl (by kernel_rfl) (by kernel_rfl) (fun v h => h)).trans rfl) ?_
  have e0 : a.tmps[0]? = some (.pointer q) := ev_seg hoth 0 (by kernel_rfl) rfl
  exact step_val ((BigFrame.run_move _ rfl w).trans (by rw [ev_of e0])) rfl
 ·intro a w hb hoth hdep
  refine step_on ((want_dep hdep 40 56 true rfl (by kernel_rfl) (by kernel_rfl) (fun v h => h)).trans rfl) ?_
  obtain ⟨v41, e57, hv41⟩ := ev_dep hdep 41 57 (by kernel_rfl) (by kernel_rfl)
  replace hv41 : v41 = .pointer q := hv41
  subst hv41
  refine step_call (f := 25) (args := #[.pointer q]) ?_ ?_
  ·simp [go_sem, e57]
  ·have hcx := HP.out.done w (HD.out.2.trans (hb.mono HD.out.2.size))
   (with_reducible refine hcx.mono ?_)
   clear hcx
   rintro e w9 ⟨A9, n9, c9, rfl, ho9, hb9⟩
   exact ⟨_, rfl, ⟨A9, n9, c9, rfl, ho9.rd (enc := encI) (sz := 1) (fun _ => rfl), by have h8 := ho9.len; have := HL.out; omega⟩, hb9⟩
 ·intro a w hb hoth hdep
  refine step_on ((want_dep hdep 40 56 true rfl (by kernel_rfl) (by kernel_rfl) (fun v h => h)).trans rfl) ?_
  have e4 : a.tmps[4]? = some (.pointer (some ⟨b, 0, none⟩)) := ev_seg hoth 4 (by kernel_rfl) rfl
  refine step_val (x := .pointer (some ⟨b, 13, none⟩)) ?_ rfl
  simp [go_sem, e4]
 ·intro a w hb hoth hdep
  refine step_on ((want_dep hdep 40 56 true rfl (by kernel_rfl) (by kernel_rfl) (fun v h => h)).trans rfl) ?_
  obtain ⟨v43, e59, hv43⟩ := ev_dep hdep 43 59 (by kernel_rfl) (by kernel_rfl)
  replace hv43 : v43 = .pointer (some ⟨b, 13, none⟩) := hv43
  subst hv43
  have x13 : w.cell? ⟨b, 13, none⟩ = some (.slice v.da v.dn v.dc) := ((HD.out.1.below hb HD.out.1.lt).cell 13).trans rfl
  refine step_val (x := .slice v.da v.dn v.dc) ?_ rfl
  simp [go_sem, e59, x13]
 ·intro a w hb hoth hdep
  refine step_on ((want_dep hdep 40 56 true rfl (by kernel_rfl) (by kernel_rfl) (fun v h => h)).trans rfl) ?_
  obtain ⟨v42, e58, hv42⟩ := ev_dep hdep 42 58 (by kernel_rfl) (by kernel_rfl)
  obtain ⟨A6, n6, c6, hs6, hr6, hn6⟩ := hv42
  subst hs6
  obtain ⟨v44, e60, hv44⟩ := ev_dep hdep 44 60 (by kernel_rfl) (by kernel_rfl)
  replace hv44 : v44 = .slice v.da v.dn v.dc := hv44
  subst hv44
  refine step_call (f := 17) (args := #[.slice A6 n6 c6, .slice v.da v.dn v.dc]) ?_ ?_
  ·simp [go_sem, e58, e60]
  ·have hcx := same01 A6 v.da n6 c6 v.dn v.dc s.done s.done w hr6 (HRR.out.d.below (HD.out.2.trans (hb.mono HD.out.2.size))) (by have := hr6.len; have := HL.out; omega) (by have := HRR.out.d.len; have := HL.out; omega)
   rw [show decide (s.done = s.done) = true from decide_eq_true rfl] at hcx
   (with_reducible refine hcx.mono ?_)
   clear hcx
   rintro e w9 ⟨rfl, dq, hw⟩; subst hw
   exact ⟨_, rfl, rfl, below_dN39 dq⟩
 case fin =>
  intro wz hbz
  iterate 35 (rintro _ rfl)
  rintro _ ⟨_, _, _, rfl, _, _⟩
  iterate 6 (rintro _ rfl)
  rintro _ ⟨_, _, _, rfl, _, _⟩
  iterate 4 (rintro _ rfl)
  refine FinC.nil ?_
  iterate 1 (rintro _ rfl)
  refine FinL.nil ?_
  refine cont_end (by kernel_rfl) ?_
  have HE := Lib.hid (HD.out.2.trans (hbz.mono HD.out.2.size))
  clear hbz
  go_wp2_with fail
  go_ret
  exact ⟨rfl, HE.out⟩
end Go.Proofs.YthhnocnkicoimaaDoor
namespace Go.Proofs.YthhnocnkicoimaaDoor
open Go.RowKit Go.Maps

def WS.tickT (s : WS) (now n : Int) : WS × List LMsg := if s.up = true then (s.tick now, (s.tick now).out now (min n 5).toNat) else (s, [])
def WS.finT (s : WS) (now job : Int) : WS × Bool := if s.live now = true ∧ job ∈ s.held then (s.fin job, true) else (s, false)
def WS.sizeT (s : WS) (r : LRes) : WS × Int := if s.span = 0 then (s, 7) else if rightR r = true then (s.size_ r, 0) else (s, 1)
def WS.crashT (s : WS) : WS × Bool := if s.up = true then (s.crash, true) else (s, false)
def WS.bootT (s : WS) : WS × Bool := if s.up = true ∨ s.span = 0 then (s, false) else (s.boot, true)
structure SB (s : WS) (k : Nat) : Prop where
 node : 0 ≤ s.node ∧ s.node ≤ 15
 span : 0 ≤ s.span ∧ s.span ≤ 64
 inc : 0 ≤ s.inc ∧ s.inc ≤ 2147483647
 un : 0 ≤ s.until_
 fi : 0 ≤ s.first ∧ s.first ≤ 1099511627777
 hl : s.held.length ≤ k
 dl : s.done.length ≤ k
 tl : s.told.length ≤ k
 us : s.up = true → 0 < s.span
theorem SB.zero : SB WS.zero 0 := ⟨by decide, by decide, by decide, by decide, by decide, by decide, by decide, by decide, fun h => by cases h⟩
theorem SB.made {node span : Int} {r : LRes} (hn : inM node 0 15 = true) (hs : inM span 1 64 = true) : SB (WS.made node span r) 0 := by
 have hn2 : 0 ≤ node ∧ node ≤ 15 := by simpa [inM] using hn
 have hs2 : 1 ≤ span ∧ span ≤ 64 := by simpa [inM] using hs
 exact ⟨hn2, ⟨by show 0 ≤ span; omega, hs2.2⟩, ⟨(by show (0 : Int) ≤ 1; omega), (by show (1 : Int) ≤ _; omega)⟩, Int.le_refl 0, ⟨Int.le_refl 0, (by show (0 : Int) ≤ _; omega)⟩, by simp, by simp, by simp, fun _ => by show 0 < span; omega⟩
section
variable {s s' : WS} {k : Nat}
theorem SB.same (h : SB s k) : SB s (k + 1) := ⟨h.node, h.span, h.inc, h.un, h.fi, Nat.le_succ_of_le h.hl, Nat.le_succ_of_le h.dl, Nat.le_succ_of_le h.tl, h.us⟩
theorem SB.gone (h : SB s k) (h1 : s'.node = s.node) (h2 : s'.span = s.span) (h3 : 0 ≤ s'.inc ∧ s'.inc ≤ 2147483647) (h4 : 0 ≤ s'.first ∧ s'.first ≤ 1099511627777) (hun : 0 ≤ s'.until_) (e1 : s'.held = []) (e2 : s'.done = []) (e3 : s'.told = []) (hu : s'.up = true → 0 < s'.span) : SB s' (k + 1) :=
 ⟨by rw [h1]; exact h.node, by rw [h2]; exact h.span, h3, hun, h4, by rw [e1]; simp, by rw [e2]; simp, by rw [e3]; simp, hu⟩
theorem SB.size (h : SB s k) (r : LRes) : SB (s.sizeT r).1 (k + 1) := by
 unfold WS.sizeT
 split
 ·exact h.same
 ·split
  ·exact ⟨h.node, h.span, h.inc, h.un, h.fi, Nat.le_succ_of_le h.hl, Nat.le_succ_of_le h.dl, Nat.le_succ_of_le h.tl, h.us⟩
  ·exact h.same
theorem SB.crash (h : SB s k) : SB s.crashT.1 (k + 1) := by
 unfold WS.crashT
 split
 ·exact h.gone rfl rfl h.inc ⟨Int.le_refl 0, by show (0 : Int) ≤ _; omega⟩ (Int.le_refl 0) rfl rfl rfl (fun hu => by cases hu)
 ·exact h.same
theorem SB.boot (h : SB s k) : SB s.bootT.1 (k + 1) := by
 unfold WS.bootT
 split
 ·exact h.same
 ·rename_i hn
  exact h.gone rfl rfl ⟨by show 0 ≤ min (s.inc + 1) 2147483647; have := h.inc; omega, by show min (s.inc + 1) 2147483647 ≤ _; omega⟩ ⟨Int.le_refl 0, by show (0 : Int) ≤ _; omega⟩ (Int.le_refl 0) rfl rfl rfl (fun _ => by have := h.span; have h2 : ¬ s.span = 0 := fun e => hn (.inr e); show 0 < s.span; omega)
theorem SB.tick (h : SB s k) (now n : Int) : SB (s.tickT now n).1 (k + 1) := by
 unfold WS.tickT
 split
 ·rename_i hu
  have ht := tickI_le now
  show SB (s.tick now) _
  unfold WS.tick WS.tick1
  split
  ·have hi : 0 ≤ min (s.inc + 1) 2147483647 ∧ min (s.inc + 1) 2147483647 ≤ 2147483647 := by have := h.inc; omega
   unfold WS.tick2
   split
   ·exact h.gone rfl rfl hi ⟨by show 0 ≤ tickI now + 1; omega, by show tickI now + 1 ≤ _; omega⟩ (Int.le_refl 0) rfl rfl rfl (fun _ => h.us hu)
   ·exact h.gone rfl rfl hi ⟨Int.le_refl 0, by show (0 : Int) ≤ _; omega⟩ (Int.le_refl 0) rfl rfl rfl (fun _ => h.us hu)
  ·unfold WS.tick2
   split
   ·exact ⟨h.node, h.span, h.inc, h.un, ⟨by show 0 ≤ tickI now + 1; omega, by show tickI now + 1 ≤ _; omega⟩, Nat.le_succ_of_le h.hl, Nat.le_succ_of_le h.dl, Nat.le_succ_of_le h.tl, h.us⟩
   ·exact h.same
 ·exact h.same
theorem SB.fin (h : SB s k) (now job : Int) : SB (s.finT now job).1 (k + 1) := by
 unfold WS.finT
 split
 ·exact ⟨h.node, h.span, h.inc, h.un, h.fi, Nat.le_trans (List.length_filter_le _ _) (Nat.le_succ_of_le h.hl), Nat.le_trans (putR_len39 _ _) (Nat.succ_le_succ h.dl), Nat.le_succ_of_le h.tl, h.us⟩
 ·exact h.same
theorem SB.pass (h : SB s k) (e : Int) : SB (s.pass e) k := by
 unfold WS.pass
 split
 ·exact ⟨h.node, h.span, h.inc, h.un, h.fi, h.hl, h.dl, h.tl, h.us⟩
 ·exact h
theorem SB.hear (h : SB s k) (now : Int) (m : LMsg) : SB (s.hear now m).1 (k + 1) := by
 unfold WS.hear
 split
 ·have h1 := h.pass m.epoch
  split
  ·unfold WS.heed
   split
   ·show SB (if _ then _ else _) _
    split
    ·exact ⟨h1.node, h1.span, h1.inc, by show 0 ≤ max _ _; have := h1.un; omega, h1.fi, Nat.le_succ_of_le h1.hl, Nat.le_succ_of_le h1.dl, Nat.le_succ_of_le h1.tl, h1.us⟩
    ·exact h1.same
   ·split
    ·show SB (if _ then _ else _) _
     split
     ·exact ⟨h1.node, h1.span, h1.inc, h1.un, h1.fi, Nat.le_trans (putR_len39 _ _) (Nat.succ_le_succ h1.hl), Nat.le_succ_of_le h1.dl, Nat.le_succ_of_le h1.tl, h1.us⟩
     ·exact h1.same
    ·show SB ((s.pass m.epoch).stop m) _
     have hl : ((s.pass m.epoch).held.filter (· != m.job)).length ≤ k + 1 := Nat.le_trans (List.length_filter_le _ _) (Nat.le_succ_of_le h1.hl)
     unfold WS.stop
     split
     ·exact ⟨h1.node, h1.span, h1.inc, h1.un, h1.fi, hl, Nat.le_succ_of_le h1.dl, Nat.le_trans (putR_len39 _ _) (Nat.succ_le_succ h1.tl), h1.us⟩
     ·exact ⟨h1.node, h1.span, h1.inc, h1.un, h1.fi, hl, Nat.le_succ_of_le h1.dl, Nat.le_succ_of_le h1.tl, h1.us⟩
  ·exact h1.same
 ·exact h.same
end
/-- A worker, made or not; S: its blocks. -/
def OW (w0 w : World) (q : Option Addr) (s : WS) (S : Nat → Prop) : Prop :=
 (∃ c wv, q = some ⟨c, 0, none⟩ ∧ S = wkS c wv ∧ WkAt w c wv s ∧ (∀ k, S k → w0.heap.size ≤ k) ∧ 0 < s.span) ∨ (s = WS.zero ∧ S = (fun _ => False) ∧ q = none)
section
variable {w0 w w' : World} {q : Option Addr} {s s' : WS} {S : Nat → Prop} {k : Nat}
theorem OW.below (h : OW w0 w q s S) (hb : Below w.heap.size w w') : OW w0 w' q s S := by
 rcases h with ⟨c, wv, e1, e2, h1, h2, h3⟩ | ⟨e1, e2, h1⟩
 ·exact .inl ⟨c, wv, e1, e2, h1.below hb, h2, h3⟩
 ·exact .inr ⟨e1, e2, h1⟩
theorem OW.not_blk (h : OW w0 w q s S) {b : Nat} {t : TypeId} {cs : Array Value} (hb : Blk w b t cs) (h1 : t ≠ 94) : ¬ S b := by
 rcases h with ⟨c, wv, rfl, rfl, h2, _⟩ | ⟨_, rfl, _⟩
 ·exact h2.not_blk hb h1
 ·exact fun h => h
theorem OW.ge (h : OW w0 w q s S) : ∀ k, S k → w0.heap.size ≤ k := by
 rcases h with ⟨c, wv, rfl, rfl, h2, h3, _⟩ | ⟨_, rfl, _⟩
 ·exact h3
 ·exact fun _ h => h.elim
theorem OW.lt (h : OW w0 w q s S) : ∀ k, S k → k < w.heap.size := by
 rcases h with ⟨c, wv, rfl, rfl, h2, h3, _⟩ | ⟨_, rfl, _⟩
 ·exact h2.lt
 ·exact fun _ h => h.elim
theorem OW.pw (h : OW w0 w q s S) (hB : SB s k) (hk : k ≤ 1000) : PW w (.pointer q) s := by
 rcases h with ⟨c, wv, rfl, rfl, h2, h3, h4⟩ | ⟨rfl, rfl, rfl⟩
 ·exact PW.of_made h2 h4 (by have := hB.hl; omega) (by have := hB.dl; omega)
 ·exact PW.of_dead (Dead.none w)
/-- The worker has been turned. -/
def UT (w0 w w' : World) (q : Option Addr) (s' : WS) (S : Nat → Prop) : Prop := ∃ S', OW w0 w' q s' S' ∧ Turned S S' w w'
theorem UT.made {c : Nat} {wv : WV} (hge : ∀ k, wkS c wv k → w0.heap.size ≤ k) (hw : w0.heap.size ≤ w.heap.size) (h : ∃ v', WkAt w' c v' s' ∧ Turned (wkS c wv) (wkS c v') w w') (hs : 0 < s'.span) : UT w0 w w' (some ⟨c, 0, none⟩) s' (wkS c wv) := by
 obtain ⟨v', h1, h2⟩ := h
 exact ⟨_, .inl ⟨c, v', rfl, rfl, h1, h2.ge hw hge, hs⟩, h2⟩
theorem UT.still (h : OW w0 w q s S) (hb : Below w.heap.size w w') : UT w0 w w' q s S := ⟨S, h.below hb, .of_below hb⟩
theorem uTick (h : OW w0 w q s S) (hw : w0.heap.size ≤ w.heap.size) (hB : SB s k) (hk : k ≤ 900) (now n : Int) : Calls Tryd.prog 26 #[.pointer q, .int .i64 now, .int .i64 n] w fun e w' =>
  ∃ A nn cc, e = .returned (.slice A nn cc) ∧ OwnL encMsg 38 12 w' w.heap.size A nn cc (s.tickT now n).2 ∧ UT w0 w w' q (s.tickT now n).1 S := by
 rcases Bool.eq_false_or_eq_true s.up with hu | hu
 ·have hT : s.tickT now n = (s.tick now, (s.tick now).out now (min n 5).toNat) := by unfold WS.tickT; rw [if_pos hu]
  rw [hT]
  rcases h with ⟨c, wv, rfl, rfl, h2, h3, h4⟩ | ⟨rfl, _, _⟩
  ·refine (wkTick h2 now n hu hB.inc (by have := hB.un; have := hB.fi; have := hB.span; omega) hB.node (by have := hB.dl; omega)).mono ?_
   rintro e w' ⟨⟨A, nn, cc, rfl, ho⟩, hv⟩
   refine ⟨A, nn, cc, rfl, ho, UT.made h3 hw hv ?_⟩
   have : (s.tick now).span = s.span := by unfold WS.tick WS.tick1 WS.tick2; split <;> split <;> rfl
   show 0 < (s.tick now).span
   rw [this]; exact h4
  ·cases hu
 ·have hT : s.tickT now n = (s, []) := by unfold WS.tickT; rw [if_neg (by rw [hu]; decide)]
  rw [hT]
  rcases h with ⟨c, wv, rfl, rfl, h2, h3, h4⟩ | ⟨rfl, rfl, rfl⟩
  ·refine (wkTick_down h2 now n hu).mono ?_
   rintro e w' ⟨rfl, rfl⟩
   exact ⟨none, 0, 0, rfl, OwnL.nil _ _, UT.still (.inl ⟨c, wv, rfl, rfl, h2, h3, h4⟩) (Below.refl _ _)⟩
  ·refine (deadTick (Dead.none w) now n).mono ?_
   rintro e w' ⟨rfl, rfl⟩
   exact ⟨none, 0, 0, rfl, OwnL.nil _ _, UT.still (.inr ⟨rfl, rfl, rfl⟩) (Below.refl _ _)⟩
theorem hear_span (s : WS) (now : Int) (m : LMsg) : (s.hear now m).1.span = s.span := by
 have hp : (s.pass m.epoch).span = s.span := by unfold WS.pass; split <;> rfl
 unfold WS.hear
 split
 ·split
  ·unfold WS.heed
   split
   ·show (if _ then _ else _ : WS).span = _
    split
    ·exact hp
    ·exact hp
   ·split
    ·show (if _ then _ else _ : WS).span = _
     split
     ·exact hp
     ·exact hp
    ·show ((s.pass m.epoch).stop m).span = _
     unfold WS.stop
     split <;> exact hp
  ·exact hp
 ·rfl
theorem uHear (h : OW w0 w q s S) (hw : w0.heap.size ≤ w.heap.size) (hy : WaysAt w) (hB : SB s k) (hk : k ≤ 900) (now : Int) (m : LMsg) (hj : wf64 m.job) (hnw : wf64 now) : Calls Tryd.prog 29 #[.pointer q, .int .i64 now, aggMsg m] w fun e w' =>
  e = .returned (.bool (s.hear now m).2) ∧ UT w0 w w' q (s.hear now m).1 S := by
 rcases h with ⟨c, wv, rfl, rfl, h2, h3, h4⟩ | ⟨rfl, rfl, rfl⟩
 ·refine (wkHear h2 hy hB.node now m hj hnw (by have := hB.hl; omega) (by have := hB.tl; omega)).mono ?_
  rintro e w' ⟨rfl, hv⟩
  exact ⟨rfl, UT.made h3 hw hv (by rw [hear_span]; exact h4)⟩
 ·refine (deadHear (Dead.none w) now m).mono ?_
  rintro e w' ⟨rfl, hb⟩
  exact ⟨rfl, UT.still (.inr ⟨rfl, rfl, rfl⟩) hb⟩
theorem uFinish (h : OW w0 w q s S) (hw : w0.heap.size ≤ w.heap.size) (hB : SB s k) (hk : k ≤ 900) (now job : Int) (hj : wf64 job) (hnw : wf64 now) : Calls Tryd.prog 30 #[.pointer q, .int .i64 now, .int .i64 job] w fun e w' =>
  e = .returned (.bool (s.finT now job).2) ∧ UT w0 w w' q (s.finT now job).1 S := by
 rcases h with ⟨c, wv, rfl, rfl, h2, h3, h4⟩ | ⟨rfl, rfl, rfl⟩
 ·rcases Bool.eq_false_or_eq_true (s.live now) with hl | hl
  ·by_cases hin : job ∈ s.held
   ·have hT : s.finT now job = (s.fin job, true) := by unfold WS.finT; rw [if_pos ⟨hl, hin⟩]
    rw [hT]
    refine (wkFinish_yes h2 now job hl hj hnw hin (by have := hB.dl; omega)).mono ?_
    rintro e w' ⟨rfl, hv⟩
    exact ⟨rfl, UT.made h3 hw hv h4⟩
   ·have hT : s.finT now job = (s, false) := by unfold WS.finT; rw [if_neg (fun e => hin e.2)]
    rw [hT]
    refine (wkFinish_no h2 now job hl hj hin).mono ?_
    rintro e w' ⟨rfl, rfl⟩
    exact ⟨rfl, UT.still (.inl ⟨c, wv, rfl, rfl, h2, h3, h4⟩) (Below.refl _ _)⟩
  ·have hT : s.finT now job = (s, false) := by unfold WS.finT; rw [if_neg (fun e => by rw [hl] at e; cases e.1)]
   rw [hT]
   refine (wkFinish_dead h2 now job hl).mono ?_
   rintro e w' ⟨rfl, rfl⟩
   exact ⟨rfl, UT.still (.inl ⟨c, wv, rfl, rfl, h2, h3, h4⟩) (Below.refl _ _)⟩
 ·have hT : WS.zero.finT now job = (WS.zero, false) := by unfold WS.finT; rw [if_neg (fun e => by cases e.1)]
  rw [hT]
  refine (deadFinish (Dead.none w) now job).mono ?_
  rintro e w' ⟨rfl, rfl⟩
  exact ⟨rfl, UT.still (.inr ⟨rfl, rfl, rfl⟩) (Below.refl _ _)⟩
theorem uResize (h : OW w0 w q s S) (hw : w0.heap.size ≤ w.heap.size) (r : LRes) : Calls Tryd.prog 39 #[.pointer q, aggRes r] w fun e w' =>
  e = .returned (.int .i64 (s.sizeT r).2) ∧ UT w0 w w' q (s.sizeT r).1 S := by
 rcases h with ⟨c, wv, rfl, rfl, h2, h3, h4⟩ | ⟨rfl, rfl, rfl⟩
 ·have hs : ¬ s.span = 0 := by omega
  rcases Bool.eq_false_or_eq_true (rightR r) with hr | hr
  ·have hT : s.sizeT r = (s.size_ r, 0) := by unfold WS.sizeT; rw [if_neg hs, if_pos hr]
   rw [hT]
   refine (wkResize_yes h2 h4 r hr).mono ?_
   rintro e w' ⟨rfl, hv⟩
   exact ⟨rfl, UT.made h3 hw hv h4⟩
  ·have hT : s.sizeT r = (s, 1) := by unfold WS.sizeT; rw [if_neg hs, if_neg (by rw [hr]; decide)]
   rw [hT]
   refine (wkResize_no h2 h4 r hr).mono ?_
   rintro e w' ⟨rfl, hv⟩
   exact ⟨rfl, UT.made h3 hw hv h4⟩
 ·have hT : WS.zero.sizeT r = (WS.zero, 7) := by unfold WS.sizeT; exact if_pos rfl
  rw [hT]
  refine (deadResize (Dead.none w) r).mono ?_
  rintro e w' ⟨rfl, hb⟩
  exact ⟨rfl, UT.still (.inr ⟨rfl, rfl, rfl⟩) hb⟩
theorem uCrash (h : OW w0 w q s S) (hw : w0.heap.size ≤ w.heap.size) : Calls Tryd.prog 31 #[.pointer q] w fun e w' =>
  e = .returned (.bool s.crashT.2) ∧ UT w0 w w' q s.crashT.1 S := by
 rcases h with ⟨c, wv, rfl, rfl, h2, h3, h4⟩ | ⟨rfl, rfl, rfl⟩
 ·refine (wkCrash h2).mono ?_
  rintro e w' ⟨rfl, hv⟩
  rcases Bool.eq_false_or_eq_true s.up with hu | hu
  ·have hT : s.crashT = (s.crash, true) := by unfold WS.crashT; rw [if_pos hu]
   rw [hT, hu]
   rw [hu] at hv
   exact ⟨rfl, UT.made h3 hw hv h4⟩
  ·have hT : s.crashT = (s, false) := by unfold WS.crashT; rw [if_neg (by rw [hu]; decide)]
   rw [hT, hu]
   rw [hu] at hv
   exact ⟨rfl, UT.made h3 hw hv h4⟩
 ·refine (deadCrash (Dead.none w)).mono ?_
  rintro e w' ⟨rfl, rfl⟩
  exact ⟨rfl, UT.still (.inr ⟨rfl, rfl, rfl⟩) (Below.refl _ _)⟩
theorem uBoot (h : OW w0 w q s S) (hw : w0.heap.size ≤ w.heap.size) (hB : SB s k) : Calls Tryd.prog 32 #[.pointer q] w fun e w' =>
  e = .returned (.bool s.bootT.2) ∧ UT w0 w w' q s.bootT.1 S := by
 rcases h with ⟨c, wv, rfl, rfl, h2, h3, h4⟩ | ⟨rfl, rfl, rfl⟩
 ·refine (wkBoot h2 h4 hB.inc).mono ?_
  rintro e w' ⟨rfl, hv⟩
  rcases Bool.eq_false_or_eq_true s.up with hu | hu
  ·have hT : s.bootT = (s, false) := by unfold WS.bootT; rw [if_pos (.inl hu)]
   rw [hT, hu]
   rw [hu] at hv
   exact ⟨rfl, UT.made h3 hw hv h4⟩
  ·have hT : s.bootT = (s.boot, true) := by unfold WS.bootT; rw [if_neg (fun e => e.elim (fun e => by rw [hu] at e; cases e) (fun e => by omega))]
   rw [hT, hu]
   rw [hu] at hv
   exact ⟨rfl, UT.made h3 hw hv h4⟩
 ·refine (deadBoot (Dead.none w)).mono ?_
  rintro e w' ⟨rfl, rfl⟩
  exact ⟨rfl, UT.still (.inr ⟨rfl, rfl, rfl⟩) (Below.refl _ _)⟩
end
/-! The document's. -/
section
variable {w : World} {s : WS} {v : RV} {k : Nat}
def UR (w w' : World) (v v' : RV) (s' : WS) : Prop := RdR w' v' s' ∧ RT w w' v v'
theorem rTick (hR : RdR w v s) (hB : SB s k) (hk : k ≤ 900) (now n : Int) : Calls Tryd.prog 35 #[aggR s v, .int .i64 now, .int .i64 n] w fun e w' =>
  ∃ v' A nn cc, e = .returned (.tuple #[aggR (s.tickT now n).1 v', .slice A nn cc]) ∧ OwnL encMsg 38 12 w' w.heap.size A nn cc (s.tickT now n).2 ∧ UR w w' v v' (s.tickT now n).1 ∧ Below w.heap.size w w' := by
 rcases Bool.eq_false_or_eq_true s.up with hu | hu
 ·have hT : s.tickT now n = (s.tick now, (s.tick now).out now (min n 5).toNat) := by unfold WS.tickT; rw [if_pos hu]
  rw [hT]
  refine (rTick_up s v now n w hR hu hB.inc (by have := hB.un; have := hB.fi; have := hB.span; have := hB.us hu; omega) hB.node (by have := hB.hl; have := hB.dl; have := hB.tl; omega)).mono ?_
  rintro e w' ⟨v', A, nn, cc, rfl, ho, h1, h2, hb⟩
  exact ⟨v', A, nn, cc, rfl, ho, ⟨h1, h2⟩, hb⟩
 ·have hT : s.tickT now n = (s, []) := by unfold WS.tickT; rw [if_neg (by rw [hu]; decide)]
  rw [hT]
  refine (rTick_down s v now n w hu).mono ?_
  rintro e w' ⟨rfl, hb⟩
  exact ⟨v, none, 0, 0, rfl, OwnL.nil _ _, ⟨hR.below hb, .refl _ _ _⟩, hb⟩
theorem rHear (hR : RdR w v s) (hB : SB s k) (hk : k ≤ 900) (now : Int) (m : LMsg) : Calls Tryd.prog 37 #[aggR s v, .int .i64 now, aggMsg m] w fun e w' =>
  ∃ v', e = .returned (.tuple #[aggR (s.hear now m).1 v', .bool (s.hear now m).2]) ∧ UR w w' v v' (s.hear now m).1 ∧ Below w.heap.size w w' := by
 refine (rHear_t s v now m w hR hB.node (by have := hB.hl; have := hB.dl; have := hB.tl; omega)).mono ?_
 rintro e w' ⟨v', rfl, h1, h2, hb⟩
 exact ⟨v', rfl, ⟨h1, h2⟩, hb⟩
theorem rFinish (hR : RdR w v s) (hB : SB s k) (hk : k ≤ 900) (now job : Int) : Calls Tryd.prog 38 #[aggR s v, .int .i64 now, .int .i64 job] w fun e w' =>
  ∃ v', e = .returned (.tuple #[aggR (s.finT now job).1 v', .bool (s.finT now job).2]) ∧ UR w w' v v' (s.finT now job).1 ∧ Below w.heap.size w w' := by
 rcases Bool.eq_false_or_eq_true (s.live now) with hl | hl
 ·by_cases hin : job ∈ s.held
  ·have hT : s.finT now job = (s.fin job, true) := by unfold WS.finT; rw [if_pos ⟨hl, hin⟩]
   rw [hT]
   refine (rFinish_yes s v now job w hl hin hR (by have := hB.hl; omega) (by have := hB.dl; omega)).mono ?_
   rintro e w' ⟨v', rfl, h1, h2, hb⟩
   exact ⟨v', rfl, ⟨h1, h2⟩, hb⟩
  ·have hT : s.finT now job = (s, false) := by unfold WS.finT; rw [if_neg (fun e => hin e.2)]
   rw [hT]
   refine (rFinish_no s v now job w hl hin hR (by have := hB.hl; omega)).mono ?_
   rintro e w' ⟨rfl, hb⟩
   exact ⟨v, rfl, ⟨hR.below hb, .refl _ _ _⟩, hb⟩
 ·have hT : s.finT now job = (s, false) := by unfold WS.finT; rw [if_neg (fun e => by rw [hl] at e; cases e.1)]
  rw [hT]
  refine (rFinish_dead s v now job w hl).mono ?_
  rintro e w' ⟨rfl, hb⟩
  exact ⟨v, rfl, ⟨hR.below hb, .refl _ _ _⟩, hb⟩
theorem rCrash (hR : RdR w v s) : Calls Tryd.prog 40 #[aggR s v] w fun e w' =>
  ∃ v', e = .returned (.tuple #[aggR s.crashT.1 v', .bool s.crashT.2]) ∧ UR w w' v v' s.crashT.1 ∧ Below w.heap.size w w' := by
 rcases Bool.eq_false_or_eq_true s.up with hu | hu
 ·have hT : s.crashT = (s.crash, true) := by unfold WS.crashT; rw [if_pos hu]
  rw [hT]
  refine (rCrash_yes s v w hu).mono ?_
  rintro e w' ⟨rfl, hb⟩
  exact ⟨v.nil, rfl, ⟨RdR.nil _ _ _ rfl rfl rfl, RT.nil _ _ _⟩, hb⟩
 ·have hT : s.crashT = (s, false) := by unfold WS.crashT; rw [if_neg (by rw [hu]; decide)]
  rw [hT]
  refine (rCrash_no s v w hu).mono ?_
  rintro e w' ⟨rfl, hb⟩
  exact ⟨v, rfl, ⟨hR.below hb, .refl _ _ _⟩, hb⟩
theorem rBoot (hR : RdR w v s) (hB : SB s k) : Calls Tryd.prog 41 #[aggR s v] w fun e w' =>
  ∃ v', e = .returned (.tuple #[aggR s.bootT.1 v', .bool s.bootT.2]) ∧ UR w w' v v' s.bootT.1 ∧ Below w.heap.size w w' := by
 rcases Bool.eq_false_or_eq_true s.up with hu | hu
 ·have hT : s.bootT = (s, false) := by unfold WS.bootT; rw [if_pos (.inl hu)]
  rw [hT]
  refine (rBoot_up s v w hu).mono ?_
  rintro e w' ⟨rfl, hb⟩
  exact ⟨v, rfl, ⟨hR.below hb, .refl _ _ _⟩, hb⟩
 ·by_cases h0 : s.span = 0
  ·have hT : s.bootT = (s, false) := by unfold WS.bootT; rw [if_pos (.inr h0)]
   rw [hT]
   refine (rBoot_none s v w hu h0).mono ?_
   rintro e w' ⟨rfl, hb⟩
   exact ⟨v, rfl, ⟨hR.below hb, .refl _ _ _⟩, hb⟩
  ·have hT : s.bootT = (s.boot, true) := by unfold WS.bootT; rw [if_neg (fun e => e.elim (fun e => by rw [hu] at e; cases e) h0)]
   rw [hT]
   refine (rBoot_yes s v w hu (by have := hB.span; omega) hB.inc).mono ?_
   rintro e w' ⟨rfl, hb⟩
   exact ⟨v.nil, rfl, ⟨RdR.nil _ _ _ rfl rfl rfl, RT.nil _ _ _⟩, hb⟩
end
/-- What New would give. -/
def newB (node span : Int) (r : LRes) : Bool := inM node 0 15 && (rightR r && inM span 1 64)
def newS (node span : Int) (r : LRes) : WS := if newB node span r = true then WS.made node span r else WS.zero
def newE (node span : Int) (r : LRes) : Int := if newB node span r = true then 0 else 1
theorem rNew (node span : Int) (r : LRes) (w : World) : Calls Tryd.prog 34 #[.int .i64 node, aggRes r, .int .i64 span] w fun e w' => e = .returned (.tuple #[aggR (newS node span r) RV.zero, .int .i64 (newE node span r)]) ∧ Below w.heap.size w w' := by
 rcases Bool.eq_false_or_eq_true (newB node span r) with hb | hb
 ·have h1 : newS node span r = WS.made node span r := by unfold newS; rw [if_pos hb]
  have h2 : newE node span r = 0 := by unfold newE; rw [if_pos hb]
  rw [h1, h2]
  unfold newB at hb
  simp only [Bool.and_eq_true] at hb
  exact rNew_yes node span r w hb.1 hb.2.1 hb.2.2
 ·have h1 : newS node span r = WS.zero := by unfold newS; rw [if_neg (by rw [hb]; decide)]
  have h2 : newE node span r = 1 := by unfold newE; rw [if_neg (by rw [hb]; decide)]
  rw [h1, h2]
  unfold newB at hb
  by_cases ha : node < 0
  ·exact rNew_n1 node span r w ha
  ·by_cases hc : 15 < node
   ·exact rNew_n2 node span r w hc
   ·rcases Bool.eq_false_or_eq_true (rightR r) with hr | hr
    ·by_cases hd : span < 1
     ·exact rNew_n4 node span r w (by omega) hr hd
     ·by_cases he : 64 < span
      ·exact rNew_n5 node span r w (by omega) hr he
      ·exfalso
       have i1 : inM node 0 15 = true := by simp [inM]; omega
       have i2 : inM span 1 64 = true := by simp [inM]; omega
       rw [i1, hr, i2] at hb
       cases hb
    ·exact rNew_n3 node span r w (by omega) hr
end Go.Proofs.YthhnocnkicoimaaDoor
namespace Go.Proofs.YthhnocnkicoimaaDoor
open Go.RowKit Go.Maps

/-- A row that is neither in the worker's blocks nor in the value's box. -/
def Off (S : Nat → Prop) (bx : Nat) (A : Option Addr) (n : Nat) : Prop := 0 < n → ∀ ad, A = some ad → ¬ S ad.block ∧ ad.block ≠ bx
structure LI (w0 w : World) (q : Option Addr) (sw : WS) (S : Nat → Prop) (bx : Nat) (sx : WS) (v : RV) : Prop where
 ow : OW w0 w q sw S
 x : Blk w bx 74 (boxR sx v)
 rd : RdR w v sx
 oh : Off S bx v.ha v.hn
 od : Off S bx v.da v.dn
 ot : Off S bx v.ta v.tn
 ge : w0.heap.size ≤ bx
 bel : Below w0.heap.size w0 w
section
variable {w0 w w1 w2 w' : World} {q : Option Addr} {sw sx s' : WS} {S S' : Nat → Prop} {bx : Nat} {v v' : RV}
theorem LI.below (h : LI w0 w q sw S bx sx v) (hb : Below w.heap.size w w') : LI w0 w' q sw S bx sx v :=
 ⟨h.ow.below hb, h.x.below hb h.x.lt, h.rd.below hb, h.oh, h.od, h.ot, h.ge, h.bel.trans (hb.mono h.bel.size)⟩
theorem Blk.ne_ty {w : World} {a b : Nat} {t u : TypeId} {cs ds : Array Value} (h : Blk w a t cs) (k : Blk w b u ds) (hn : t ≠ u) : a ≠ b := by
 rintro rfl
 have h3 := h.symm.trans k
 injection h3 with h3
 injection h3 with _ h4
 exact hn h4
theorem OW.kept {F : Nat → Prop} (h : OW w0 w q sw S) (hk : Kept F w w') (hF : ∀ k, S k → ¬ F k) : OW w0 w' q sw S := by
 rcases h with ⟨c, wv, e1, e2, h1, h2, h3⟩ | ⟨e1, e2, h1⟩
 ·exact .inl ⟨c, wv, e1, e2, h1.kept hk (fun k hk2 => hF k (by rw [e2]; exact hk2)), h2, h3⟩
 ·exact .inr ⟨e1, e2, h1⟩
theorem Off.from {A A' : Option Addr} {n n' : Nat} (h : Off S bx A n) (hf : From w w1 A n A' n') (hS : ∀ k, S k → k < w.heap.size) (hx : bx < w.heap.size) : Off S bx A' n' := by
 rcases hf with ⟨rfl, rfl⟩ | hf
 ·exact h
 ·intro _ ad ha
  have := hf ad ha
  exact ⟨fun hs => by have := hS _ hs; omega, fun e => by omega⟩
/-- The value is laid anew. -/
theorem LI.xset (h : LI w0 w q sw S bx sx v) (hb : Below w.heap.size w w1) (hu : UR w w1 v v' s') (hbx : Blk w2 bx 74 (boxR s' v')) (hk : Kept (fun k => k = bx) w1 w2) : LI w0 w2 q sw S bx s' v' := by
 have o1 := h.oh.from hu.2.h h.ow.lt h.x.lt
 have o2 := h.od.from hu.2.d h.ow.lt h.x.lt
 have o3 := h.ot.from hu.2.t h.ow.lt h.x.lt
 have hn : ¬ S bx := h.ow.not_blk h.x (by decide)
 refine ⟨(h.ow.below hb).kept hk (fun k hs e => hn (by rw [← e]; exact hs)), hbx, ⟨hu.1.h.kept hk (fun hp ad ha => (o1 hp ad ha).2), hu.1.d.kept hk (fun hp ad ha => (o2 hp ad ha).2), hu.1.t.kept hk (fun hp ad ha => (o3 hp ad ha).2), hu.1.hc, hu.1.dc, hu.1.tc⟩, o1, o2, o3, h.ge, ?_⟩
 exact (h.bel.trans (hb.mono h.bel.size)).trans (hk.below (Nat.le_trans h.bel.size hb.size) (fun i hi e => by have := h.ge; omega))
theorem Off.turn {A : Option Addr} {n : Nat} {l : List Int} (h : Off S bx A n) (hr : RdI w A n l) (ht : Turned S S' w w') : Off S' bx A n := by
 intro hp ad ha
 refine ⟨fun hs => ?_, (h hp ad ha).2⟩
 rcases ht.new _ hs with h1 | h1
 ·exact (h hp ad ha).1 h1
 ·have := hr.lt_ hp ad ha; omega
/-- The worker is turned. -/
theorem LI.turn (h : LI w0 w q sw S bx sx v) (ho : OW w0 w' q s' S') (ht : Turned S S' w w') : LI w0 w' q s' S' bx sx v :=
 ⟨ho, h.x.kept ht.kept (h.ow.not_blk h.x (by decide)), ⟨h.rd.h.kept ht.kept (fun hp ad ha => (h.oh hp ad ha).1), h.rd.d.kept ht.kept (fun hp ad ha => (h.od hp ad ha).1), h.rd.t.kept ht.kept (fun hp ad ha => (h.ot hp ad ha).1), h.rd.hc, h.rd.dc, h.rd.tc⟩, h.oh.turn h.rd.h ht, h.od.turn h.rd.d ht, h.ot.turn h.rd.t ht, h.ge, h.bel.trans (ht.below h.bel.size h.ow.ge)⟩
theorem LI.keepW (h : LI w0 w q sw S bx sx v) (ht : Turned S S' w w') {b : Nat} {t : TypeId} {cs : Array Value} (hb : Blk w b t cs) (h1 : t ≠ 94) : Blk w' b t cs := hb.kept ht.kept (h.ow.not_blk hb h1)
theorem LI.ownW {base n c : Nat} {A : Option Addr} {l : List LMsg} (h : LI w0 w q sw S bx sx v) (ht : Turned S S' w w') (ho : OwnL encMsg 38 12 w base A n c l) : OwnL encMsg 38 12 w' base A n c l :=
 ho.kept ht.kept (fun ad hA => by obtain ⟨cs, hb⟩ := ho.blkw hA; exact h.ow.not_blk hb (by decide))
theorem Blk.keepX (hx : Blk w bx 74 (boxR sx v)) (hk : Kept (fun k => k = bx) w w') {b : Nat} {t : TypeId} {cs : Array Value} (hb : Blk w b t cs) (h1 : t ≠ 74) : Blk w' b t cs := hb.kept hk (fun e => Blk.ne_ty hb hx h1 e)
end
set_option maxRecDepth 100000 in
set_option maxHeartbeats 1600000 in
theorem wkNew_no (node span : Int) (r : LRes) (hn : newB node span r = false) (w : World) : Calls Tryd.prog 23 #[.int .i64 node, aggRes r, .int .i64 span] w fun e w' => e = .returned (.tuple #[.pointer none, .int .i64 1]) ∧ Below w.heap.size w w' := by
 have hN := numRightM_t node 0 15 (w.alloc (.cells (boxRes r) 36))
 have hR := resRight_t r (w.alloc (.cells (boxRes r) 36))
 have hB : Below w.heap.size w (w.alloc (.cells (boxRes r) 36)) := (Below.refl _ _).alloc (Nat.le_refl _) _
 have hbr := Blk.new w 36 (boxRes r)
 have H0 := Lib.hid (And.intro hbr hB)
 obtain ⟨r0, r1, r2⟩ : (w.alloc (.cells (boxRes r) 36)).cell? ⟨w.heap.size, 0, none⟩ = some (.int .i64 r.a) ∧ (w.alloc (.cells (boxRes r) 36)).cell? ⟨w.heap.size, 1, none⟩ = some (.int .i64 r.b) ∧ (w.alloc (.cells (boxRes r) 36)).cell? ⟨w.heap.size, 2, none⟩ = some (.int .i64 r.c) := ⟨(hbr.cell 0).trans rfl, (hbr.cell 1).trans rfl, (hbr.cell 2).trans rfl⟩
 have rl := hbr.lt
 have HN := Lib.hid hn
 clear hbr hB hn
 go_enter Tryd.func23, Tryd.ntmps23
 go_upto_region 1 with fail
 generalize (w.alloc (.cells (boxRes r) 36)) = w1 at *
 obtain ⟨b, hb⟩ : ∃ b, w.heap.size = b := ⟨_, rfl⟩
 have H1 : Hid (Blk w1 b 36 (boxRes r) ∧ Below w.heap.size w w1) := Lib.hid (by rw [← hb]; exact H0.out)
 rw [hb] at r0 r1 r2 rl
 try simp only [hb]
 clear H0
 rcases Bool.eq_false_or_eq_true (inM node 0 15) with h1 | h1
 ·rw [h1] at hN
  have HN1 : Hid ((rightR r && inM span 1 64) = false) := Lib.hid (by have := HN.out; unfold newB at this; rw [h1] at this; simpa using this)
  clear h1
  go_wp2_with (go_at_call 55; (with_reducible refine hN.mono ?_); rintro rr w9 ⟨rfl, hw⟩; replace hw := hw.symm; subst hw)
  rcases Bool.eq_false_or_eq_true (rightR r) with h2 | h2
  ·rw [h2] at hR
   have HN2 : Hid (inM span 1 64 = false) := Lib.hid (by have := HN1.out; rw [h2] at this; simpa using this)
   clear h2
   (with_reducible refine hR.mono ?_)
   clear hN hR r0 r1 r2 rl
   rintro rr w2 ⟨rfl, hb2⟩
   have H2 := Lib.hid (H1.out.2.trans (hb2.mono H1.out.2.size))
   clear hb2 H1
   have hS := numRightM_t span 1 64 w2
   rw [HN2.out] at hS
   go_wp2_with (go_at_call 55; (with_reducible refine hS.mono ?_); rintro rr w9 ⟨rfl, hw⟩; replace hw := hw.symm; subst hw)
   refine bodyPost_ret (v := .tuple #[.pointer none, .int .i64 1]) (by simp [results, Tryd.results23, go_sem]) rfl ⟨rfl, H2.out⟩
  ·rw [h2] at hR
   clear h2
   (with_reducible refine hR.mono ?_)
   clear hN hR r0 r1 r2 rl
   rintro rr w2 ⟨rfl, hb2⟩
   have H2 := Lib.hid (H1.out.2.trans (hb2.mono H1.out.2.size))
   clear hb2 H1
   go_wp2_with fail
   refine bodyPost_ret (v := .tuple #[.pointer none, .int .i64 1]) (by simp [results, Tryd.results23, go_sem]) rfl ⟨rfl, H2.out⟩
 ·rw [h1] at hN
  clear h1
  go_wp2_with (go_at_call 55; (with_reducible refine hN.mono ?_); rintro rr w9 ⟨rfl, hw⟩; replace hw := hw.symm; subst hw)
  refine bodyPost_ret (v := .tuple #[.pointer none, .int .i64 1]) (by simp [results, Tryd.results23, go_sem]) rfl ⟨rfl, H1.out.2⟩
theorem uNew (node span : Int) (r : LRes) (w : World) : Calls Tryd.prog 23 #[.int .i64 node, aggRes r, .int .i64 span] w fun e w' => ∃ q S, e = .returned (.tuple #[.pointer q, .int .i64 (newE node span r)]) ∧ OW w w' q (newS node span r) S ∧ ((newB node span r = true ∧ ∃ c, q = some ⟨c, 0, none⟩) ∨ (newB node span r = false ∧ q = none)) ∧ Below w.heap.size w w' := by
 rcases Bool.eq_false_or_eq_true (newB node span r) with hb | hb
 ·have h1 : newS node span r = WS.made node span r := by unfold newS; rw [if_pos hb]
  have h2 : newE node span r = 0 := by unfold newE; rw [if_pos hb]
  rw [h1, h2]
  have hb2 := hb
  unfold newB at hb2
  simp only [Bool.and_eq_true] at hb2
  refine (wkNew (w := w) node span r hb2.1 hb2.2.1 hb2.2.2).mono ?_
  rintro e w' ⟨c, v, rfl, hw, hs, hbl⟩
  have hsp : 0 < (WS.made node span r).span := by
   have : 1 ≤ span ∧ span ≤ 64 := by simpa [inM] using hb2.2.2
   show 0 < span
   omega
  exact ⟨some ⟨c, 0, none⟩, wkS c v, rfl, .inl ⟨c, v, rfl, rfl, hw, hs, hsp⟩, .inl ⟨hb, c, rfl⟩, hbl⟩
 ·have h1 : newS node span r = WS.zero := by unfold newS; rw [if_neg (by rw [hb]; decide)]
  have h2 : newE node span r = 1 := by unfold newE; rw [if_neg (by rw [hb]; decide)]
  rw [h1, h2]
  refine (wkNew_no node span r hb w).mono ?_
  rintro e w' ⟨rfl, hbl⟩
  exact ⟨none, fun _ => False, rfl, .inr ⟨rfl, rfl, rfl⟩, .inr ⟨hb, rfl⟩, hbl⟩
theorem SB.new (node span : Int) (r : LRes) : SB (newS node span r) 0 := by
 rcases Bool.eq_false_or_eq_true (newB node span r) with hb | hb
 ·have h1 : newS node span r = WS.made node span r := by unfold newS; rw [if_pos hb]
  rw [h1]
  unfold newB at hb
  simp only [Bool.and_eq_true] at hb
  exact SB.made hb.1 hb.2.2
 ·have h1 : newS node span r = WS.zero := by unfold newS; rw [if_neg (by rw [hb]; decide)]
  rw [h1]
  exact SB.zero
theorem newE_resize (r : LRes) : newE 0 1 r = if rightR r = true then 0 else 1 := by
 unfold newE newB
 have : inM 0 0 15 = true ∧ inM 1 1 64 = true := by decide
 rw [this.1, this.2]
 cases rightR r <;> rfl
theorem newS_cap {r : LRes} (h : rightR r = true) : newS 0 1 r = WS.made 0 1 r := by
 unfold newS newB
 have : inM 0 0 15 = true ∧ inM 1 1 64 = true := by decide
 rw [this.1, this.2, h]
 rfl
theorem RdR.new (node span : Int) (r : LRes) (w : World) : RdR w RV.zero (newS node span r) := by
 have h : (newS node span r).held = [] ∧ (newS node span r).done = [] ∧ (newS node span r).told = [] := by
  unfold newS
  split <;> exact ⟨rfl, rfl, rfl⟩
 exact RdR.nil w RV.zero _ h.1 h.2.1 h.2.2
end Go.Proofs.YthhnocnkicoimaaDoor
