/-
 LAYER 39 (worker): Tick.
-/
import Derived.Test.YthhnocnkicoimaaDoorWk6
import Derived.Deep.CutRange
set_option linter.unusedVariables false
set_option linter.unusedSimpArgs false
namespace Go.Proofs.YthhnocnkicoimaaDoor
open Go.RowKit Go.Maps

theorem step_new {P : Program} {Q : Exit → Act → World → Prop} {a : Act} {w w' : World} {o : Oper} {Vs : List MV} {i : Nat} {x : Value} (hr : (execOp a.eval o).run P w = .ok (.value x) w') (hx : Vof Vs i x w') (hb : Below w.heap.size w w') :
  Oper.wp P o a w (fun a' w' => ∃ v, a' = a.put o.dst v ∧ Vof Vs i v w' ∧ Below w.heap.size w w') Q := by
 unfold Oper.wp
 rw [hr]
 exact ⟨x, rfl, hx, hb⟩
def tickI (now : Int) : Int := spanI now 0 1099511627776
/-- Does it begin anew at that tick? -/
def WS.late (s : WS) (now : Int) : Bool := (decide (0 < s.until_) && decide (s.until_ ≤ now)) || (decide (s.until_ = 0) && (decide (0 < s.first) && decide (s.first - 1 + s.span ≤ now)))
def WS.tick1 (s : WS) (now : Int) : WS := if s.late now then s.anew else s
def WS.tick2 (s : WS) (now : Int) : WS := if s.first = 0 then { s with first := tickI now + 1 } else s
def WS.tick (s : WS) (now : Int) : WS := (s.tick1 now).tick2 now
def WS.hello (s : WS) (now k : Int) : LMsg := ⟨1, 100 + s.node, k, 0, s.inc, 0, tickI now, 0, 0, s.cap⟩
def WS.fins (s : WS) (k id : Int) : LMsg := ⟨5, 100 + s.node, k, 0, s.inc, id, 0, 0, 0, ⟨0, 0, 0⟩⟩
def WS.says (s : WS) (now k : Int) : List LMsg := s.hello now k :: (s.done.filter (· ∉ s.told)).map (s.fins k)
def WS.out (s : WS) (now : Int) (n : Nat) : List LMsg := (List.range n).flatMap fun (k : Nat) => s.says now k
theorem WS.out_succ (s : WS) (now : Int) (n : Nat) : s.out now (n + 1) = s.out now n ++ s.says now n := by
 unfold WS.out
 rw [List.range_succ, List.flatMap_append]
 simp
theorem tick_node (s : WS) (now : Int) : (s.tick now).node = s.node := by
 unfold WS.tick WS.tick1 WS.tick2
 split <;> split <;> rfl
theorem tick_done (s : WS) (now : Int) : (s.tick now).done.length ≤ s.done.length := by
 unfold WS.tick WS.tick1 WS.tick2
 split <;> split <;> simp [WS.anew, WS.empty]
theorem own_at_ {A : Option Addr} {n c k : Nat} (h : (Value.slice A n c).ownBlock = some k) : ∃ ad, A = some ad ∧ ad.block = k := by
 cases A with
 | none => simp [Value.ownBlock] at h
 | some ad => exact ⟨ad, rfl, by simpa [Value.ownBlock] using h⟩
theorem OwnL.blkw {α : Type} {enc : α → List Value} {e sz base n c : Nat} {w : World} {A : Option Addr} {l : List α} (h : OwnL enc e sz w base A n c l) {ad : Addr} (ha : A = some ad) : ∃ cs, Blk w ad.block e cs := by
 rcases h.own.2 with ⟨hv, _⟩ | ⟨g, cap, cur, hv, _, hgb, _⟩
 ·rw [ha] at hv; cases hv
 ·rw [ha] at hv; cases hv; exact ⟨cur, hgb⟩
theorem own_apart {w : World} {base base' n c m d : Nat} {A B : Option Addr} {l : List Int} {l' : List LMsg} (h : OwnL encI 3 1 w base A n c l) (h' : OwnL encMsg 38 12 w base' B m d l') {ad ad2 : Addr} (ha : A = some ad) (hb : B = some ad2) : ad2.block = ad.block → False := by
 intro e
 obtain ⟨cs, h1⟩ := h.blkw ha
 obtain ⟨cs', h2⟩ := h'.blkw hb
 rw [e] at h2
 have h3 := h1.symm.trans h2
 injection h3 with h3
 injection h3 with _ h4
 exact absurd h4 (by decide)
section
variable {w w' : World} {c : Nat} {v : WV} {s : WS}
set_option maxRecDepth 100000 in
set_option maxHeartbeats 1600000 in
theorem wkTick_down (h : WkAt w c v s) (now n : Int) (hu : s.up = false) : Calls Tryd.prog 26 #[.pointer (some ⟨c, 0, none⟩), .int .i64 now, .int .i64 n] w fun e w' => e = .returned (.slice none 0 0) ∧ w' = w := by
 have hU := wkUp h
 rw [hu] at hU
 clear h hu
 go_enter Tryd.func26, Tryd.ntmps26
 go_wp2_with (go_at_call 33; (with_reducible refine hU.mono ?_); rintro r w9 ⟨rfl, hw⟩; replace hw := hw.symm; subst hw)
 go_ret
 exact ⟨rfl, rfl⟩
set_option maxRecDepth 100000 in
set_option maxHeartbeats 6400000 in
theorem wkTick (h : WkAt w c v s) (now n : Int) (hu : s.up = true) (hi : 0 ≤ s.inc ∧ s.inc ≤ 2147483647) (hk : 0 ≤ s.until_ ∧ 0 ≤ s.first ∧ s.first ≤ 2199023255552 ∧ 0 < s.span ∧ s.span ≤ 64) (hnd : 0 ≤ s.node ∧ s.node ≤ 15) (hdl : s.done.length ≤ 1000) : Calls Tryd.prog 26 #[.pointer (some ⟨c, 0, none⟩), .int .i64 now, .int .i64 n] w fun e w' => (∃ A nn cc, e = .returned (.slice A nn cc) ∧ OwnL encMsg 38 12 w' w.heap.size A nn cc ((s.tick now).out now (min n 5).toNat)) ∧ ∃ v', WkAt w' c v' (s.tick now) ∧ Turned (wkS c v) (wkS c v') w w' := by
 have hU := wkUp h
 rw [hu] at hU
 have HX := Lib.hid h
 have HI := Lib.hid hi
 have HK := Lib.hid hk
 have HK2 := Lib.hid hnd
 have HDL := Lib.hid hdl
 clear h hu hi hk hnd hdl
 go_enter Tryd.func26, Tryd.ntmps26
 go_upto_region 3 with (go_at_call 33; (with_reducible refine hU.mono ?_); rintro r w9 ⟨rfl, hw⟩; replace hw := hw.symm; subst hw)
 clear hU
 go_cut [56] from 16 to 55 (fun v56 wx => v56 = .bool (s.late now) ∧ Below w.heap.size w wx)
 case first =>
  rename_i Jc Kc hRJ hMK
  by_cases h1 : 0 < s.until_
  ·have t1 : decide (0 < s.until_) = true := decide_eq_true h1
   have t3 : (s.until_ == 0) = false := by simp; omega
   have h3 : ¬ s.until_ = 0 := by omega
   by_cases h2 : s.until_ ≤ now
   ·have t2 : decide (s.until_ ≤ now) = true := decide_eq_true h2
    have HL : Hid (s.late now = true) := Lib.hid (by unfold WS.late; simp [h1, h2])
    clear h1 h2 h3
    refine Cont.start (by kernel_rfl) ?_
    have HD := Lib.hid (HX.out.below (Below.refl w.heap.size w).drew)
    have HB := Lib.hid (Below.refl w.heap.size w).drew
    generalize w.drew = wd at HD HB ⊢
    refine cont_free 0 41 16 [] [.o (eqV (.pointer (some ⟨c, 0, none⟩))), .o (eqV (.pointer (some ⟨c, 0, none⟩))), .o (eqV (.pointer (some ⟨c, 6, none⟩))), .o (eqV (.int .i64 s.until_)), .b true, .b true, .o (eqV (.pointer (some ⟨c, 0, none⟩))), .o (eqV (.pointer (some ⟨c, 0, none⟩))), .o (eqV (.pointer (some ⟨c, 6, none⟩))), .o (eqV (.int .i64 s.until_)), .o (eqV (.int .i64 now)), .b true, .b true, .b true, .u, .u, .u, .u, .u, .u, .u, .u, .u, .u, .u, .u, .u, .u, .u, .u, .u, .u, .u, .u, .u, .u, .u, .u, .u, .u, .b true] [false, false, false, false, false, true, false, false, false, false, false, false, true, true, true, true, true, true, true, true, true, true, true, true, true, true, true, true, true, true, true, true, true, true, true, true, true, true, true, true, true] (by kernel_rfl) (by kernel_rfl) (by kernel_rfl) (by kernel_rfl) (by kernel_rfl) (by kernel_rfl) (by kernel_rfl) rfl (by kernel_rfl) (by kernel_rfl) ⟨?_, ?_, ?_, ?_, ?_, ?_, ?_, ?_, ?_, ?_, ?_, trivial⟩ ?fin
    ·intro a w hb hoth hdep
     refine step_on (want_none rfl) ?_
     have e0 : a.tmps[0]? = some (.pointer (some ⟨c, 0, none⟩)) := ev_seg hoth 0 (by kernel_rfl) rfl
     exact step_val ((BigFrame.run_move _ rfl w).trans (by rw [ev_of e0])) rfl
    ·intro a w hb hoth hdep
     refine step_on (want_none rfl) ?_
     obtain ⟨v0, e16, hv0⟩ := ev_dep hdep 0 16 (by kernel_rfl) (by kernel_rfl)
     replace hv0 : v0 = .pointer (some ⟨c, 0, none⟩) := hv0
     subst hv0
     refine step_val (x := .pointer (some ⟨c, 0, none⟩)) ?_ rfl
     simp [go_sem, e16]
    ·intro a w hb hoth hdep
     refine step_on (want_none rfl) ?_
     obtain ⟨v1, e17, hv1⟩ := ev_dep hdep 1 17 (by kernel_rfl) (by kernel_rfl)
     replace hv1 : v1 = .pointer (some ⟨c, 0, none⟩) := hv1
     subst hv1
     refine step_val (x := .pointer (some ⟨c, 6, none⟩)) ?_ rfl
     simp [go_sem, e17]
    ·intro a w hb hoth hdep
     refine step_on (want_none rfl) ?_
     obtain ⟨v2, e18, hv2⟩ := ev_dep hdep 2 18 (by kernel_rfl) (by kernel_rfl)
     replace hv2 : v2 = .pointer (some ⟨c, 6, none⟩) := hv2
     subst hv2
     obtain ⟨c0, c1, c2, c3, c4, c5, c6, c7, c8, c9, c10, c11, c12, c13, c14⟩ := wkCells (HD.out.below hb).blk
     refine step_val (x := .int .i64 s.until_) ?_ rfl
     simp [go_sem, e18, c6]
    ·intro a w hb hoth hdep
     refine step_on (want_none rfl) ?_
     obtain ⟨v3, e19, hv3⟩ := ev_dep hdep 3 19 (by kernel_rfl) (by kernel_rfl)
     replace hv3 : v3 = .int .i64 s.until_ := hv3
     subst hv3
     refine step_val (x := .bool true) ?_ rfl
     simp [go_sem, e19, t1]
    ·intro a w hb hoth hdep
     refine step_on ((want_dep hdep 5 21 true rfl (by kernel_rfl) (by kernel_rfl) (fun v h => h)).trans rfl) ?_
     have e0 : a.tmps[0]? = some (.pointer (some ⟨c, 0, none⟩)) := ev_seg hoth 0 (by kernel_rfl) rfl
     exact step_val ((BigFrame.run_move _ rfl w).trans (by rw [ev_of e0])) rfl
    ·intro a w hb hoth hdep
     refine step_on ((want_dep hdep 5 21 true rfl (by kernel_rfl) (by kernel_rfl) (fun v h => h)).trans rfl) ?_
     obtain ⟨v6, e22, hv6⟩ := ev_dep hdep 6 22 (by kernel_rfl) (by kernel_rfl)
     replace hv6 : v6 = .pointer (some ⟨c, 0, none⟩) := hv6
     subst hv6
     refine step_val (x := .pointer (some ⟨c, 0, none⟩)) ?_ rfl
     simp [go_sem, e22]
    ·intro a w hb hoth hdep
     refine step_on ((want_dep hdep 5 21 true rfl (by kernel_rfl) (by kernel_rfl) (fun v h => h)).trans rfl) ?_
     obtain ⟨v7, e23, hv7⟩ := ev_dep hdep 7 23 (by kernel_rfl) (by kernel_rfl)
     replace hv7 : v7 = .pointer (some ⟨c, 0, none⟩) := hv7
     subst hv7
     refine step_val (x := .pointer (some ⟨c, 6, none⟩)) ?_ rfl
     simp [go_sem, e23]
    ·intro a w hb hoth hdep
     refine step_on ((want_dep hdep 5 21 true rfl (by kernel_rfl) (by kernel_rfl) (fun v h => h)).trans rfl) ?_
     obtain ⟨v8, e24, hv8⟩ := ev_dep hdep 8 24 (by kernel_rfl) (by kernel_rfl)
     replace hv8 : v8 = .pointer (some ⟨c, 6, none⟩) := hv8
     subst hv8
     obtain ⟨c0, c1, c2, c3, c4, c5, c6, c7, c8, c9, c10, c11, c12, c13, c14⟩ := wkCells (HD.out.below hb).blk
     refine step_val (x := .int .i64 s.until_) ?_ rfl
     simp [go_sem, e24, c6]
    ·intro a w hb hoth hdep
     refine step_on ((want_dep hdep 5 21 true rfl (by kernel_rfl) (by kernel_rfl) (fun v h => h)).trans rfl) ?_
     have e1 : a.tmps[1]? = some (.int .i64 now) := ev_seg hoth 1 (by kernel_rfl) rfl
     exact step_val ((BigFrame.run_move _ rfl w).trans (by rw [ev_of e1])) rfl
    ·intro a w hb hoth hdep
     refine step_on ((want_dep hdep 5 21 true rfl (by kernel_rfl) (by kernel_rfl) (fun v h => h)).trans rfl) ?_
     obtain ⟨v9, e25, hv9⟩ := ev_dep hdep 9 25 (by kernel_rfl) (by kernel_rfl)
     replace hv9 : v9 = .int .i64 s.until_ := hv9
     subst hv9
     obtain ⟨v10, e26, hv10⟩ := ev_dep hdep 10 26 (by kernel_rfl) (by kernel_rfl)
     replace hv10 : v10 = .int .i64 now := hv10
     subst hv10
     refine step_val (x := .bool true) ?_ rfl
     simp [go_sem, e25, e26, t2]
    case fin =>
     intro wz hbz
     iterate 41 (rintro _ rfl)
     refine FinC.nil ?_
     refine cont_end (by kernel_rfl) ?_
     have HZ := Lib.hid (HB.out.trans (hbz.mono HB.out.size))
     clear hbz
     refine Met.intro (hMK _ _ (Met.intro (hRJ _ _ ?_)))
     (repeat apply Exists.intro)
     refine ⟨?rel, rfl⟩
     case rel => exact ⟨by rw [HL.out], HZ.out⟩
   ·have t2 : decide (s.until_ ≤ now) = false := decide_eq_false h2
    have HL : Hid (s.late now = false) := Lib.hid (by unfold WS.late; simp [h1, h2, h3])
    clear h1 h2 h3
    refine Cont.start (by kernel_rfl) ?_
    have HD := Lib.hid (HX.out.below (Below.refl w.heap.size w).drew)
    have HB := Lib.hid (Below.refl w.heap.size w).drew
    generalize w.drew = wd at HD HB ⊢
    refine cont_free 0 41 16 [] [.o (eqV (.pointer (some ⟨c, 0, none⟩))), .o (eqV (.pointer (some ⟨c, 0, none⟩))), .o (eqV (.pointer (some ⟨c, 6, none⟩))), .o (eqV (.int .i64 s.until_)), .b true, .b true, .o (eqV (.pointer (some ⟨c, 0, none⟩))), .o (eqV (.pointer (some ⟨c, 0, none⟩))), .o (eqV (.pointer (some ⟨c, 6, none⟩))), .o (eqV (.int .i64 s.until_)), .o (eqV (.int .i64 now)), .b false, .b false, .b false, .o (eqV (.pointer (some ⟨c, 0, none⟩))), .o (eqV (.pointer (some ⟨c, 0, none⟩))), .o (eqV (.pointer (some ⟨c, 6, none⟩))), .o (eqV (.int .i64 s.until_)), .b false, .b false, .u, .u, .u, .u, .u, .b false, .b false, .u, .u, .u, .u, .u, .u, .u, .u, .u, .u, .u, .u, .b false, .b false] [false, false, false, false, false, true, false, false, false, false, false, false, true, true, false, false, false, false, false, true, true, true, true, true, true, true, true, true, true, true, true, true, true, true, true, true, true, true, true, true, true] (by kernel_rfl) (by kernel_rfl) (by kernel_rfl) (by kernel_rfl) (by kernel_rfl) (by kernel_rfl) (by kernel_rfl) rfl (by kernel_rfl) (by kernel_rfl) ⟨?_, ?_, ?_, ?_, ?_, ?_, ?_, ?_, ?_, ?_, ?_, ?_, ?_, ?_, ?_, ?_, trivial⟩ ?fin
    ·intro a w hb hoth hdep
     refine step_on (want_none rfl) ?_
     have e0 : a.tmps[0]? = some (.pointer (some ⟨c, 0, none⟩)) := ev_seg hoth 0 (by kernel_rfl) rfl
     exact step_val ((BigFrame.run_move _ rfl w).trans (by rw [ev_of e0])) rfl
    ·intro a w hb hoth hdep
     refine step_on (want_none rfl) ?_
     obtain ⟨v0, e16, hv0⟩ := ev_dep hdep 0 16 (by kernel_rfl) (by kernel_rfl)
     replace hv0 : v0 = .pointer (some ⟨c, 0, none⟩) := hv0
     subst hv0
     refine step_val (x := .pointer (some ⟨c, 0, none⟩)) ?_ rfl
     simp [go_sem, e16]
    ·intro a w hb hoth hdep
     refine step_on (want_none rfl) ?_
     obtain ⟨v1, e17, hv1⟩ := ev_dep hdep 1 17 (by kernel_rfl) (by kernel_rfl)
     replace hv1 : v1 = .pointer (some ⟨c, 0, none⟩) := hv1
     subst hv1
     refine step_val (x := .pointer (some ⟨c, 6, none⟩)) ?_ rfl
     simp [go_sem, e17]
    ·intro a w hb hoth hdep
     refine step_on (want_none rfl) ?_
     obtain ⟨v2, e18, hv2⟩ := ev_dep hdep 2 18 (by kernel_rfl) (by kernel_rfl)
     replace hv2 : v2 = .pointer (some ⟨c, 6, none⟩) := hv2
     subst hv2
     obtain ⟨c0, c1, c2, c3, c4, c5, c6, c7, c8, c9, c10, c11, c12, c13, c14⟩ := wkCells (HD.out.below hb).blk
     refine step_val (x := .int .i64 s.until_) ?_ rfl
     simp [go_sem, e18, c6]
    ·intro a w hb hoth hdep
     refine step_on (want_none rfl) ?_
     obtain ⟨v3, e19, hv3⟩ := ev_dep hdep 3 19 (by kernel_rfl) (by kernel_rfl)
     replace hv3 : v3 = .int .i64 s.until_ := hv3
     subst hv3
     refine step_val (x := .bool true) ?_ rfl
     simp [go_sem, e19, t1]
    ·intro a w hb hoth hdep
     refine step_on ((want_dep hdep 5 21 true rfl (by kernel_rfl) (by kernel_rfl) (fun v h => h)).trans rfl) ?_
     have e0 : a.tmps[0]? = some (.pointer (some ⟨c, 0, none⟩)) := ev_seg hoth 0 (by kernel_rfl) rfl
     exact step_val ((BigFrame.run_move _ rfl w).trans (by rw [ev_of e0])) rfl
    ·intro a w hb hoth hdep
     refine step_on ((want_dep hdep 5 21 true rfl (by kernel_rfl) (by kernel_rfl) (fun v h => h)).trans rfl) ?_
     obtain ⟨v6, e22, hv6⟩ := ev_dep hdep 6 22 (by kernel_rfl) (by kernel_rfl)
     replace hv6 : v6 = .pointer (some ⟨c, 0, none⟩) := hv6
     subst hv6
     refine step_val (x := .pointer (some ⟨c, 0, none⟩)) ?_ rfl
     simp [go_sem, e22]
    ·intro a w hb hoth hdep
     refine step_on ((want_dep hdep 5 21 true rfl (by kernel_rfl) (by kernel_rfl) (fun v h => h)).trans rfl) ?_
     obtain ⟨v7, e23, hv7⟩ := ev_dep hdep 7 23 (by kernel_rfl) (by kernel_rfl)
     replace hv7 : v7 = .pointer (some ⟨c, 0, none⟩) := hv7
     subst hv7
     refine step_val (x := .pointer (some ⟨c, 6, none⟩)) ?_ rfl
     simp [go_sem, e23]
    ·intro a w hb hoth hdep
     refine step_on ((want_dep hdep 5 21 true rfl (by kernel_rfl) (by kernel_rfl) (fun v h => h)).trans rfl) ?_
     obtain ⟨v8, e24, hv8⟩ := ev_dep hdep 8 24 (by kernel_rfl) (by kernel_rfl)
     replace hv8 : v8 = .pointer (some ⟨c, 6, none⟩) := hv8
     subst hv8
     obtain ⟨c0, c1, c2, c3, c4, c5, c6, c7, c8, c9, c10, c11, c12, c13, c14⟩ := wkCells (HD.out.below hb).blk
     refine step_val (x := .int .i64 s.until_) ?_ rfl
     simp [go_sem, e24, c6]
    ·intro a w hb hoth hdep
     refine step_on ((want_dep hdep 5 21 true rfl (by kernel_rfl) (by kernel_rfl) (fun v h => h)).trans rfl) ?_
     have e1 : a.tmps[1]? = some (.int .i64 now) := ev_seg hoth 1 (by kernel_rfl) rfl
     exact step_val ((BigFrame.run_move _ rfl w).trans (by rw [ev_of e1])) rfl
    ·intro a w hb hoth hdep
     refine step_on ((want_dep hdep 5 21 true rfl (by kernel_rfl) (by kernel_rfl) (fun v h => h)).trans rfl) ?_
     obtain ⟨v9, e25, hv9⟩ := ev_dep hdep 9 25 (by kernel_rfl) (by kernel_rfl)
     replace hv9 : v9 = .int .i64 s.until_ := hv9
     subst hv9
     obtain ⟨v10, e26, hv10⟩ := ev_dep hdep 10 26 (by kernel_rfl) (by kernel_rfl)
     replace hv10 : v10 = .int .i64 now := hv10
     subst hv10
     refine step_val (x := .bool false) ?_ rfl
     simp [go_sem, e25, e26, t2]
    ·intro a w hb hoth hdep
     refine step_on ((want_dep hdep 13 29 false rfl (by kernel_rfl) (by kernel_rfl) (fun v h => h)).trans rfl) ?_
     have e0 : a.tmps[0]? = some (.pointer (some ⟨c, 0, none⟩)) := ev_seg hoth 0 (by kernel_rfl) rfl
     exact step_val ((BigFrame.run_move _ rfl w).trans (by rw [ev_of e0])) rfl
    ·intro a w hb hoth hdep
     refine step_on ((want_dep hdep 13 29 false rfl (by kernel_rfl) (by kernel_rfl) (fun v h => h)).trans rfl) ?_
     obtain ⟨v14, e30, hv14⟩ := ev_dep hdep 14 30 (by kernel_rfl) (by kernel_rfl)
     replace hv14 : v14 = .pointer (some ⟨c, 0, none⟩) := hv14
     subst hv14
     refine step_val (x := .pointer (some ⟨c, 0, none⟩)) ?_ rfl
     simp [go_sem, e30]
    ·intro a w hb hoth hdep
     refine step_on ((want_dep hdep 13 29 false rfl (by kernel_rfl) (by kernel_rfl) (fun v h => h)).trans rfl) ?_
     obtain ⟨v15, e31, hv15⟩ := ev_dep hdep 15 31 (by kernel_rfl) (by kernel_rfl)
     replace hv15 : v15 = .pointer (some ⟨c, 0, none⟩) := hv15
     subst hv15
     refine step_val (x := .pointer (some ⟨c, 6, none⟩)) ?_ rfl
     simp [go_sem, e31]
    ·intro a w hb hoth hdep
     refine step_on ((want_dep hdep 13 29 false rfl (by kernel_rfl) (by kernel_rfl) (fun v h => h)).trans rfl) ?_
     obtain ⟨v16, e32, hv16⟩ := ev_dep hdep 16 32 (by kernel_rfl) (by kernel_rfl)
     replace hv16 : v16 = .pointer (some ⟨c, 6, none⟩) := hv16
     subst hv16
     obtain ⟨c0, c1, c2, c3, c4, c5, c6, c7, c8, c9, c10, c11, c12, c13, c14⟩ := wkCells (HD.out.below hb).blk
     refine step_val (x := .int .i64 s.until_) ?_ rfl
     simp [go_sem, e32, c6]
    ·intro a w hb hoth hdep
     refine step_on ((want_dep hdep 13 29 false rfl (by kernel_rfl) (by kernel_rfl) (fun v h => h)).trans rfl) ?_
     obtain ⟨v17, e33, hv17⟩ := ev_dep hdep 17 33 (by kernel_rfl) (by kernel_rfl)
     replace hv17 : v17 = .int .i64 s.until_ := hv17
     subst hv17
     refine step_val (x := .bool false) ?_ rfl
     simp [go_sem, e33, t3]
    case fin =>
     intro wz hbz
     iterate 41 (rintro _ rfl)
     refine FinC.nil ?_
     refine cont_end (by kernel_rfl) ?_
     have HZ := Lib.hid (HB.out.trans (hbz.mono HB.out.size))
     clear hbz
     refine Met.intro (hMK _ _ (Met.intro (hRJ _ _ ?_)))
     (repeat apply Exists.intro)
     refine ⟨?rel, rfl⟩
     case rel => exact ⟨by rw [HL.out], HZ.out⟩
  ·have t1 : decide (0 < s.until_) = false := decide_eq_false h1
   have h3 : s.until_ = 0 := by have := HK.out.1; omega
   have t3 : (s.until_ == 0) = true := by simp [h3]
   by_cases h4 : 0 < s.first
   ·have t4 : decide (0 < s.first) = true := decide_eq_true h4
    have t5 : IntKind.i64.wrap (s.first - 1) = s.first - 1 := IntWalk.i64_in _ (by have := HK.out; omega)
    have t6 : IntKind.i64.wrap (s.first - 1 + s.span) = s.first - 1 + s.span := IntWalk.i64_in _ (by have := HK.out; omega)
    by_cases h5 : s.first - 1 + s.span ≤ now
    ·have t7 : decide (s.first - 1 + s.span ≤ now) = true := decide_eq_true h5
     have HL : Hid (s.late now = true) := Lib.hid (by unfold WS.late; simp [h1, h3, h4, h5])
     clear h1 h3 h4 h5
     refine Cont.start (by kernel_rfl) ?_
     have HD := Lib.hid (HX.out.below (Below.refl w.heap.size w).drew)
     have HB := Lib.hid (Below.refl w.heap.size w).drew
     generalize w.drew = wd at HD HB ⊢
     refine cont_free 0 41 16 [] [.o (eqV (.pointer (some ⟨c, 0, none⟩))), .o (eqV (.pointer (some ⟨c, 0, none⟩))), .o (eqV (.pointer (some ⟨c, 6, none⟩))), .o (eqV (.int .i64 s.until_)), .b false, .b false, .u, .u, .u, .u, .u, .u, .b false, .b false, .o (eqV (.pointer (some ⟨c, 0, none⟩))), .o (eqV (.pointer (some ⟨c, 0, none⟩))), .o (eqV (.pointer (some ⟨c, 6, none⟩))), .o (eqV (.int .i64 s.until_)), .b true, .b true, .o (eqV (.pointer (some ⟨c, 0, none⟩))), .o (eqV (.pointer (some ⟨c, 0, none⟩))), .o (eqV (.pointer (some ⟨c, 7, none⟩))), .o (eqV (.int .i64 s.first)), .b true, .b true, .b true, .o (eqV (.pointer (some ⟨c, 0, none⟩))), .o (eqV (.pointer (some ⟨c, 0, none⟩))), .o (eqV (.pointer (some ⟨c, 7, none⟩))), .o (eqV (.int .i64 s.first)), .o (eqV (.int .i64 (s.first - 1))), .o (eqV (.pointer (some ⟨c, 0, none⟩))), .o (eqV (.pointer (some ⟨c, 0, none⟩))), .o (eqV (.pointer (some ⟨c, 4, none⟩))), .o (eqV (.int .i64 s.span)), .o (eqV (.int .i64 (s.first - 1 + s.span))), .o (eqV (.int .i64 now)), .b true, .b true, .b true] [false, false, false, false, false, true, true, true, true, true, true, true, true, true, false, false, false, false, false, true, false, false, false, false, false, true, true, false, false, false, false, false, false, false, false, false, false, false, false, true, true] (by kernel_rfl) (by kernel_rfl) (by kernel_rfl) (by kernel_rfl) (by kernel_rfl) (by kernel_rfl) (by kernel_rfl) rfl (by kernel_rfl) (by kernel_rfl) ⟨?_, ?_, ?_, ?_, ?_, ?_, ?_, ?_, ?_, ?_, ?_, ?_, ?_, ?_, ?_, ?_, ?_, ?_, ?_, ?_, ?_, ?_, ?_, ?_, ?_, ?_, ?_, trivial⟩ ?fin
     ·intro a w hb hoth hdep
      refine step_on (want_none rfl) ?_
      have e0 : a.tmps[0]? = some (.pointer (some ⟨c, 0, none⟩)) := ev_seg hoth 0 (by kernel_rfl) rfl
      exact step_val ((BigFrame.run_move _ rfl w).trans (by rw [ev_of e0])) rfl
     ·intro a w hb hoth hdep
      refine step_on (want_none rfl) ?_
      obtain ⟨v0, e16, hv0⟩ := ev_dep hdep 0 16 (by kernel_rfl) (by kernel_rfl)
      replace hv0 : v0 = .pointer (some ⟨c, 0, none⟩) := hv0
      subst hv0
      refine step_val (x := .pointer (some ⟨c, 0, none⟩)) ?_ rfl
      simp [go_sem, e16]
     ·intro a w hb hoth hdep
      refine step_on (want_none rfl) ?_
      obtain ⟨v1, e17, hv1⟩ := ev_dep hdep 1 17 (by kernel_rfl) (by kernel_rfl)
      replace hv1 : v1 = .pointer (some ⟨c, 0, none⟩) := hv1
      subst hv1
      refine step_val (x := .pointer (some ⟨c, 6, none⟩)) ?_ rfl
      simp [go_sem, e17]
     ·intro a w hb hoth hdep
      refine step_on (want_none rfl) ?_
      obtain ⟨v2, e18, hv2⟩ := ev_dep hdep 2 18 (by kernel_rfl) (by kernel_rfl)
      replace hv2 : v2 = .pointer (some ⟨c, 6, none⟩) := hv2
      subst hv2
      obtain ⟨c0, c1, c2, c3, c4, c5, c6, c7, c8, c9, c10, c11, c12, c13, c14⟩ := wkCells (HD.out.below hb).blk
      refine step_val (x := .int .i64 s.until_) ?_ rfl
      simp [go_sem, e18, c6]
     ·intro a w hb hoth hdep
      refine step_on (want_none rfl) ?_
      obtain ⟨v3, e19, hv3⟩ := ev_dep hdep 3 19 (by kernel_rfl) (by kernel_rfl)
      replace hv3 : v3 = .int .i64 s.until_ := hv3
      subst hv3
      refine step_val (x := .bool false) ?_ rfl
      simp [go_sem, e19, t1]
     ·intro a w hb hoth hdep
      refine step_on ((want_dep hdep 13 29 false rfl (by kernel_rfl) (by kernel_rfl) (fun v h => h)).trans rfl) ?_
      have e0 : a.tmps[0]? = some (.pointer (some ⟨c, 0, none⟩)) := ev_seg hoth 0 (by kernel_rfl) rfl
      exact step_val ((BigFrame.run_move _ rfl w).trans (by rw [ev_of e0])) rfl
     ·intro a w hb hoth hdep
      refine step_on ((want_dep hdep 13 29 false rfl (by kernel_rfl) (by kernel_rfl) (fun v h => h)).trans rfl) ?_
      obtain ⟨v14, e30, hv14⟩ := ev_dep hdep 14 30 (by kernel_rfl) (by kernel_rfl)
      replace hv14 : v14 = .pointer (some ⟨c, 0, none⟩) := hv14
      subst hv14
      refine step_val (x := .pointer (some ⟨c, 0, none⟩)) ?_ rfl
      simp [go_sem, e30]
     ·intro a w hb hoth hdep
      refine step_on ((want_dep hdep 13 29 false rfl (by kernel_rfl) (by kernel_rfl) (fun v h => h)).trans rfl) ?_
      obtain ⟨v15, e31, hv15⟩ := ev_dep hdep 15 31 (by kernel_rfl) (by kernel_rfl)
      replace hv15 : v15 = .pointer (some ⟨c, 0, none⟩) := hv15
      subst hv15
      refine step_val (x := .pointer (some ⟨c, 6, none⟩)) ?_ rfl
      simp [go_sem, e31]
     ·intro a w hb hoth hdep
      refine step_on ((want_dep hdep 13 29 false rfl (by kernel_rfl) (by kernel_rfl) (fun v h => h)).trans rfl) ?_
      obtain ⟨v16, e32, hv16⟩ := ev_dep hdep 16 32 (by kernel_rfl) (by kernel_rfl)
      replace hv16 : v16 = .pointer (some ⟨c, 6, none⟩) := hv16
      subst hv16
      obtain ⟨c0, c1, c2, c3, c4, c5, c6, c7, c8, c9, c10, c11, c12, c13, c14⟩ := wkCells (HD.out.below hb).blk
      refine step_val (x := .int .i64 s.until_) ?_ rfl
      simp [go_sem, e32, c6]
     ·intro a w hb hoth hdep
      refine step_on ((want_dep hdep 13 29 false rfl (by kernel_rfl) (by kernel_rfl) (fun v h => h)).trans rfl) ?_
      obtain ⟨v17, e33, hv17⟩ := ev_dep hdep 17 33 (by kernel_rfl) (by kernel_rfl)
      replace hv17 : v17 = .int .i64 s.until_ := hv17
      subst hv17
      refine step_val (x := .bool true) ?_ rfl
      simp [go_sem, e33, t3]
     ·intro a w hb hoth hdep
      refine step_on ((want_dep hdep 19 35 true rfl (by kernel_rfl) (by kernel_rfl) (fun v h => h)).trans rfl) ?_
      have e0 : a.tmps[0]? = some (.pointer (some ⟨c, 0, none⟩)) := ev_seg hoth 0 (by kernel_rfl) rfl
      exact step_val ((BigFrame.run_move _ rfl w).trans (by rw [ev_of e0])) rfl
     ·intro a w hb hoth hdep
      refine step_on ((want_dep hdep 19 35 true rfl (by kernel_rfl) (by kernel_rfl) (fun v h => h)).trans rfl) ?_
      obtain ⟨v20, e36, hv20⟩ := ev_dep hdep 20 36 (by kernel_rfl) (by kernel_rfl)
      replace hv20 : v20 = .pointer (some ⟨c, 0, none⟩) := hv20
      subst hv20
      refine step_val (x := .pointer (some ⟨c, 0, none⟩)) ?_ rfl
      simp [go_sem, e36]
     ·intro a w hb hoth hdep
      refine step_on ((want_dep hdep 19 35 true rfl (by kernel_rfl) (by kernel_rfl) (fun v h => h)).trans rfl) ?_
      obtain ⟨v21, e37, hv21⟩ := ev_dep hdep 21 37 (by kernel_rfl) (by kernel_rfl)
      replace hv21 : v21 = .pointer (some ⟨c, 0, none⟩) := hv21
      subst hv21
      refine step_val (x := .pointer (some ⟨c, 7, none⟩)) ?_ rfl
      simp [go_sem, e37]
     ·intro a w hb hoth hdep
      refine step_on ((want_dep hdep 19 35 true rfl (by kernel_rfl) (by kernel_rfl) (fun v h => h)).trans rfl) ?_
      obtain ⟨v22, e38, hv22⟩ := ev_dep hdep 22 38 (by kernel_rfl) (by kernel_rfl)
      replace hv22 : v22 = .pointer (some ⟨c, 7, none⟩) := hv22
      subst hv22
      obtain ⟨c0, c1, c2, c3, c4, c5, c6, c7, c8, c9, c10, c11, c12, c13, c14⟩ := wkCells (HD.out.below hb).blk
      refine step_val (x := .int .i64 s.first) ?_ rfl
      simp [go_sem, e38, c7]
     ·intro a w hb hoth hdep
      refine step_on ((want_dep hdep 19 35 true rfl (by kernel_rfl) (by kernel_rfl) (fun v h => h)).trans rfl) ?_
      obtain ⟨v23, e39, hv23⟩ := ev_dep hdep 23 39 (by kernel_rfl) (by kernel_rfl)
      replace hv23 : v23 = .int .i64 s.first := hv23
      subst hv23
      refine step_val (x := .bool true) ?_ rfl
      simp [go_sem, e39, t4]
     ·intro a w hb hoth hdep
      refine step_on ((want_dep hdep 26 42 true rfl (by kernel_rfl) (by kernel_rfl) (fun v h => h)).trans rfl) ?_
      have e0 : a.tmps[0]? = some (.pointer (some ⟨c, 0, none⟩)) := ev_seg hoth 0 (by kernel_rfl) rfl
      exact step_val ((BigFrame.run_move _ rfl w).trans (by rw [ev_of e0])) rfl
     ·intro a w hb hoth hdep
      refine step_on ((want_dep hdep 26 42 true rfl (by kernel_rfl) (by kernel_rfl) (fun v h => h)).trans rfl) ?_
      obtain ⟨v27, e43, hv27⟩ := ev_dep hdep 27 43 (by kernel_rfl) (by kernel_rfl)
      replace hv27 : v27 = .pointer (some ⟨c, 0, none⟩) := hv27
      subst hv27
      refine step_val (x := .pointer (some ⟨c, 0, none⟩)) ?_ rfl
      simp [go_sem, e43]
     ·intro a w hb hoth hdep
      refine step_on ((want_dep hdep 26 42 true rfl (by kernel_rfl) (by kernel_rfl) (fun v h => h)).trans rfl) ?_
      obtain ⟨v28, e44, hv28⟩ := ev_dep hdep 28 44 (by kernel_rfl) (by kernel_rfl)
      replace hv28 : v28 = .pointer (some ⟨c, 0, none⟩) := hv28
      subst hv28
      refine step_val (x := .pointer (some ⟨c, 7, none⟩)) ?_ rfl
      simp [go_sem, e44]
     ·intro a w hb hoth hdep
      refine step_on ((want_dep hdep 26 42 true rfl (by kernel_rfl) (by kernel_rfl) (fun v h => h)).trans rfl) ?_
      obtain ⟨v29, e45, hv29⟩ := ev_dep hdep 29 45 (by kernel_rfl) (by kernel_rfl)
      replace hv29 : v29 = .pointer (some ⟨c, 7, none⟩) := hv29
      subst hv29
      obtain ⟨c0, c1, c2, c3, c4, c5, c6, c7, c8, c9, c10, c11, c12, c13, c14⟩ := wkCells (HD.out.below hb).blk
      refine step_val (x := .int .i64 s.first) ?_ rfl
      simp [go_sem, e45, c7]
     ·intro a w hb hoth hdep
      refine step_on ((want_dep hdep 26 42 true rfl (by kernel_rfl) (by kernel_rfl) (fun v h => h)).trans rfl) ?_
      obtain ⟨v30, e46, hv30⟩ := ev_dep hdep 30 46 (by kernel_rfl) (by kernel_rfl)
      replace hv30 : v30 = .int .i64 s.first := hv30
      subst hv30
      refine step_val (x := .int .i64 (s.first - 1)) ?_ rfl
      simp [go_sem, e46, t5]
     ·intro a w hb hoth hdep
      refine step_on ((want_dep hdep 26 42 true rfl (by kernel_rfl) (by kernel_rfl) (fun v h => h)).trans rfl) ?_
      have e0 : a.tmps[0]? = some (.pointer (some ⟨c, 0, none⟩)) := ev_seg hoth 0 (by kernel_rfl) rfl
      exact step_val ((BigFrame.run_move _ rfl w).trans (by rw [ev_of e0])) rfl
     ·intro a w hb hoth hdep
      refine step_on ((want_dep hdep 26 42 true rfl (by kernel_rfl) (by kernel_rfl) (fun v h => h)).trans rfl) ?_
      obtain ⟨v32, e48, hv32⟩ := ev_dep hdep 32 48 (by kernel_rfl) (by kernel_rfl)
      replace hv32 : v32 = .pointer (some ⟨c, 0, none⟩) := hv32
      subst hv32
      refine step_val (x := .pointer (some ⟨c, 0, none⟩)) ?_ rfl
      simp [go_sem, e48]
     ·intro a w hb hoth hdep
      refine step_on ((want_dep hdep 26 42 true rfl (by kernel_rfl) (by kernel_rfl) (fun v h => h)).trans rfl) ?_
      obtain ⟨v33, e49, hv33⟩ := ev_dep hdep 33 49 (by kernel_rfl) (by kernel_rfl)
      replace hv33 : v33 = .pointer (some ⟨c, 0, none⟩) := hv33
      subst hv33
      refine step_val (x := .pointer (some ⟨c, 4, none⟩)) ?_ rfl
      simp [go_sem, e49]
     ·intro a w hb hoth hdep
      refine step_on ((want_dep hdep 26 42 true rfl (by kernel_rfl) (by kernel_rfl) (fun v h => h)).trans rfl) ?_
      obtain ⟨v34, e50, hv34⟩ := ev_dep hdep 34 50 (by kernel_rfl) (by kernel_rfl)
      replace hv34 : v34 = .pointer (some ⟨c, 4, none⟩) := hv34
      subst hv34
      obtain ⟨c0, c1, c2, c3, c4, c5, c6, c7, c8, c9, c10, c11, c12, c13, c14⟩ := wkCells (HD.out.below hb).blk
      refine step_val (x := .int .i64 s.span) ?_ rfl
      simp [go_sem, e50, c4]
     ·intro a w hb hoth hdep
      refine step_on ((want_dep hdep 26 42 true rfl (by kernel_rfl) (by kernel_rfl) (fun v h => h)).trans rfl) ?_
      obtain ⟨v31, e47, hv31⟩ := ev_dep hdep 31 47 (by kernel_rfl) (by kernel_rfl)
      replace hv31 : v31 = .int .i64 (s.first - 1) := hv31
      subst hv31
      obtain ⟨v35, e51, hv35⟩ := ev_dep hdep 35 51 (by kernel_rfl) (by kernel_rfl)
      replace hv35 : v35 = .int .i64 s.span := hv35
      subst hv35
      refine step_val (x := .int .i64 (s.first - 1 + s.span)) ?_ rfl
      simp [go_sem, e47, e51, t6]
     ·intro a w hb hoth hdep
      refine step_on ((want_dep hdep 26 42 true rfl (by kernel_rfl) (by kernel_rfl) (fun v h => h)).trans rfl) ?_
      have e1 : a.tmps[1]? = some (.int .i64 now) := ev_seg hoth 1 (by kernel_rfl) rfl
      exact step_val ((BigFrame.run_move _ rfl w).trans (by rw [ev_of e1])) rfl
     ·intro a w hb hoth hdep
      refine step_on ((want_dep hdep 26 42 true rfl (by kernel_rfl) (by kernel_rfl) (fun v h => h)).trans rfl) ?_
      obtain ⟨v36, e52, hv36⟩ := ev_dep hdep 36 52 (by kernel_rfl) (by kernel_rfl)
      replace hv36 : v36 = .int .i64 (s.first - 1 + s.span) := hv36
      subst hv36
      obtain ⟨v37, e53, hv37⟩ := ev_dep hdep 37 53 (by kernel_rfl) (by kernel_rfl)
      replace hv37 : v37 = .int .i64 now := hv37
      subst hv37
      refine step_val (x := .bool true) ?_ rfl
      simp [go_sem, e52, e53, t7]
     case fin =>
      intro wz hbz
      iterate 41 (rintro _ rfl)
      refine FinC.nil ?_
      refine cont_end (by kernel_rfl) ?_
      have HZ := Lib.hid (HB.out.trans (hbz.mono HB.out.size))
      clear hbz
      refine Met.intro (hMK _ _ (Met.intro (hRJ _ _ ?_)))
      (repeat apply Exists.intro)
      refine ⟨?rel, rfl⟩
      case rel => exact ⟨by rw [HL.out], HZ.out⟩
    ·have t7 : decide (s.first - 1 + s.span ≤ now) = false := decide_eq_false h5
     have HL : Hid (s.late now = false) := Lib.hid (by unfold WS.late; simp [h1, h3, h4, h5])
     clear h1 h3 h4 h5
     refine Cont.start (by kernel_rfl) ?_
     have HD := Lib.hid (HX.out.below (Below.refl w.heap.size w).drew)
     have HB := Lib.hid (Below.refl w.heap.size w).drew
     generalize w.drew = wd at HD HB ⊢
     refine cont_free 0 41 16 [] [.o (eqV (.pointer (some ⟨c, 0, none⟩))), .o (eqV (.pointer (some ⟨c, 0, none⟩))), .o (eqV (.pointer (some ⟨c, 6, none⟩))), .o (eqV (.int .i64 s.until_)), .b false, .b false, .u, .u, .u, .u, .u, .u, .b false, .b false, .o (eqV (.pointer (some ⟨c, 0, none⟩))), .o (eqV (.pointer (some ⟨c, 0, none⟩))), .o (eqV (.pointer (some ⟨c, 6, none⟩))), .o (eqV (.int .i64 s.until_)), .b true, .b true, .o (eqV (.pointer (some ⟨c, 0, none⟩))), .o (eqV (.pointer (some ⟨c, 0, none⟩))), .o (eqV (.pointer (some ⟨c, 7, none⟩))), .o (eqV (.int .i64 s.first)), .b true, .b true, .b true, .o (eqV (.pointer (some ⟨c, 0, none⟩))), .o (eqV (.pointer (some ⟨c, 0, none⟩))), .o (eqV (.pointer (some ⟨c, 7, none⟩))), .o (eqV (.int .i64 s.first)), .o (eqV (.int .i64 (s.first - 1))), .o (eqV (.pointer (some ⟨c, 0, none⟩))), .o (eqV (.pointer (some ⟨c, 0, none⟩))), .o (eqV (.pointer (some ⟨c, 4, none⟩))), .o (eqV (.int .i64 s.span)), .o (eqV (.int .i64 (s.first - 1 + s.span))), .o (eqV (.int .i64 now)), .b false, .b false, .b false] [false, false, false, false, false, true, true, true, true, true, true, true, true, true, false, false, false, false, false, true, false, false, false, false, false, true, true, false, false, false, false, false, false, false, false, false, false, false, false, true, true] (by kernel_rfl) (by kernel_rfl) (by kernel_rfl) (by kernel_rfl) (by kernel_rfl) (by kernel_rfl) (by kernel_rfl) rfl (by kernel_rfl) (by kernel_rfl) ⟨?_, ?_, ?_, ?_, ?_, ?_, ?_, ?_, ?_, ?_, ?_, ?_, ?_, ?_, ?_, ?_, ?_, ?_, ?_, ?_, ?_, ?_, ?_, ?_, ?_, ?_, ?_, trivial⟩ ?fin
     ·intro a w hb hoth hdep
      refine step_on (want_none rfl) ?_
      have e0 : a.tmps[0]? = some (.pointer (some ⟨c, 0, none⟩)) := ev_seg hoth 0 (by kernel_rfl) rfl
      exact step_val ((BigFrame.run_move _ rfl w).trans (by rw [ev_of e0])) rfl
     ·intro a w hb hoth hdep
      refine step_on (want_none rfl) ?_
      obtain ⟨v0, e16, hv0⟩ := ev_dep hdep 0 16 (by kernel_rfl) (by kernel_rfl)
      replace hv0 : v0 = .pointer (some ⟨c, 0, none⟩) := hv0
      subst hv0
      refine step_val (x := .pointer (some ⟨c, 0, none⟩)) ?_ rfl
      simp [go_sem, e16]
     ·intro a w hb hoth hdep
      refine step_on (want_none rfl) ?_
      obtain ⟨v1, e17, hv1⟩ := ev_dep hdep 1 17 (by kernel_rfl) (by kernel_rfl)
      replace hv1 : v1 = .pointer (some ⟨c, 0, none⟩) := hv1
      subst hv1
      refine step_val (x := .pointer (some ⟨c, 6, none⟩)) ?_ rfl
      simp [go_sem, e17]
     ·intro a w hb hoth hdep
      refine step_on (want_none rfl) ?_
      obtain ⟨v2, e18, hv2⟩ := ev_dep hdep 2 18 (by kernel_rfl) (by kernel_rfl)
      replace hv2 : v2 = .pointer (some ⟨c, 6, none⟩) := hv2
      subst hv2
      obtain ⟨c0, c1, c2, c3, c4, c5, c6, c7, c8, c9, c10, c11, c12, c13, c14⟩ := wkCells (HD.out.below hb).blk
      refine step_val (x := .int .i64 s.until_) ?_ rfl
      simp [go_sem, e18, c6]
     ·intro a w hb hoth hdep
      refine step_on (want_none rfl) ?_
      obtain ⟨v3, e19, hv3⟩ := ev_dep hdep 3 19 (by kernel_rfl) (by kernel_rfl)
      replace hv3 : v3 = .int .i64 s.until_ := hv3
      subst hv3
      refine step_val (x := .bool false) ?_ rfl
      simp [go_sem, e19, t1]
     ·intro a w hb hoth hdep
      refine step_on ((want_dep hdep 13 29 false rfl (by kernel_rfl) (by kernel_rfl) (fun v h => h)).trans rfl) ?_
      have e0 : a.tmps[0]? = some (.pointer (some ⟨c, 0, none⟩)) := ev_seg hoth 0 (by kernel_rfl) rfl
      exact step_val ((BigFrame.run_move _ rfl w).trans (by rw [ev_of e0])) rfl
     ·intro a w hb hoth hdep
      refine step_on ((want_dep hdep 13 29 false rfl (by kernel_rfl) (by kernel_rfl) (fun v h => h)).trans rfl) ?_
      obtain ⟨v14, e30, hv14⟩ := ev_dep hdep 14 30 (by kernel_rfl) (by kernel_rfl)
      replace hv14 : v14 = .pointer (some ⟨c, 0, none⟩) := hv14
      subst hv14
      refine step_val (x := .pointer (some ⟨c, 0, none⟩)) ?_ rfl
      simp [go_sem, e30]
     ·intro a w hb hoth hdep
      refine step_on ((want_dep hdep 13 29 false rfl (by kernel_rfl) (by kernel_rfl) (fun v h => h)).trans rfl) ?_
      obtain ⟨v15, e31, hv15⟩ := ev_dep hdep 15 31 (by kernel_rfl) (by kernel_rfl)
      replace hv15 : v15 = .pointer (some ⟨c, 0, none⟩) := hv15
      subst hv15
      refine step_val (x := .pointer (some ⟨c, 6, none⟩)) ?_ rfl
      simp [go_sem, e31]
     ·intro a w hb hoth hdep
      refine step_on ((want_dep hdep 13 29 false rfl (by kernel_rfl) (by kernel_rfl) (fun v h => h)).trans rfl) ?_
      obtain ⟨v16, e32, hv16⟩ := ev_dep hdep 16 32 (by kernel_rfl) (by kernel_rfl)
      replace hv16 : v16 = .pointer (some ⟨c, 6, none⟩) := hv16
      subst hv16
      obtain ⟨c0, c1, c2, c3, c4, c5, c6, c7, c8, c9, c10, c11, c12, c13, c14⟩ := wkCells (HD.out.below hb).blk
      refine step_val (x := .int .i64 s.until_) ?_ rfl
      simp [go_sem, e32, c6]
     ·intro a w hb hoth hdep
      refine step_on ((want_dep hdep 13 29 false rfl (by kernel_rfl) (by kernel_rfl) (fun v h => h)).trans rfl) ?_
      obtain ⟨v17, e33, hv17⟩ := ev_dep hdep 17 33 (by kernel_rfl) (by kernel_rfl)
      replace hv17 : v17 = .int .i64 s.until_ := hv17
      subst hv17
      refine step_val (x := .bool true) ?_ rfl
      simp [go_sem, e33, t3]
     ·intro a w hb hoth hdep
      refine step_on ((want_dep hdep 19 35 true rfl (by kernel_rfl) (by kernel_rfl) (fun v h => h)).trans rfl) ?_
      have e0 : a.tmps[0]? = some (.pointer (some ⟨c, 0, none⟩)) := ev_seg hoth 0 (by kernel_rfl) rfl
      exact step_val ((BigFrame.run_move _ rfl w).trans (by rw [ev_of e0])) rfl
     ·intro a w hb hoth hdep
      refine step_on ((want_dep hdep 19 35 true rfl (by kernel_rfl) (by kernel_rfl) (fun v h => h)).trans rfl) ?_
      obtain ⟨v20, e36, hv20⟩ := ev_dep hdep 20 36 (by kernel_rfl) (by kernel_rfl)
      replace hv20 : v20 = .pointer (some ⟨c, 0, none⟩) := hv20
      subst hv20
      refine step_val (x := .pointer (some ⟨c, 0, none⟩)) ?_ rfl
      simp [go_sem, e36]
     ·intro a w hb hoth hdep
      refine step_on ((want_dep hdep 19 35 true rfl (by kernel_rfl) (by kernel_rfl) (fun v h => h)).trans rfl) ?_
      obtain ⟨v21, e37, hv21⟩ := ev_dep hdep 21 37 (by kernel_rfl) (by kernel_rfl)
      replace hv21 : v21 = .pointer (some ⟨c, 0, none⟩) := hv21
      subst hv21
      refine step_val (x := .pointer (some ⟨c, 7, none⟩)) ?_ rfl
      simp [go_sem, e37]
     ·intro a w hb hoth hdep
      refine step_on ((want_dep hdep 19 35 true rfl (by kernel_rfl) (by kernel_rfl) (fun v h => h)).trans rfl) ?_
      obtain ⟨v22, e38, hv22⟩ := ev_dep hdep 22 38 (by kernel_rfl) (by kernel_rfl)
      replace hv22 : v22 = .pointer (some ⟨c, 7, none⟩) := hv22
      subst hv22
      obtain ⟨c0, c1, c2, c3, c4, c5, c6, c7, c8, c9, c10, c11, c12, c13, c14⟩ := wkCells (HD.out.below hb).blk
      refine step_val (x := .int .i64 s.first) ?_ rfl
      simp [go_sem, e38, c7]
     ·intro a w hb hoth hdep
      refine step_on ((want_dep hdep 19 35 true rfl (by kernel_rfl) (by kernel_rfl) (fun v h => h)).trans rfl) ?_
      obtain ⟨v23, e39, hv23⟩ := ev_dep hdep 23 39 (by kernel_rfl) (by kernel_rfl)
      replace hv23 : v23 = .int .i64 s.first := hv23
      subst hv23
      refine step_val (x := .bool true) ?_ rfl
      simp [go_sem, e39, t4]
     ·intro a w hb hoth hdep
      refine step_on ((want_dep hdep 26 42 true rfl (by kernel_rfl) (by kernel_rfl) (fun v h => h)).trans rfl) ?_
      have e0 : a.tmps[0]? = some (.pointer (some ⟨c, 0, none⟩)) := ev_seg hoth 0 (by kernel_rfl) rfl
      exact step_val ((BigFrame.run_move _ rfl w).trans (by rw [ev_of e0])) rfl
     ·intro a w hb hoth hdep
      refine step_on ((want_dep hdep 26 42 true rfl (by kernel_rfl) (by kernel_rfl) (fun v h => h)).trans rfl) ?_
      obtain ⟨v27, e43, hv27⟩ := ev_dep hdep 27 43 (by kernel_rfl) (by kernel_rfl)
      replace hv27 : v27 = .pointer (some ⟨c, 0, none⟩) := hv27
      subst hv27
      refine step_val (x := .pointer (some ⟨c, 0, none⟩)) ?_ rfl
      simp [go_sem, e43]
     ·intro a w hb hoth hdep
      refine step_on ((want_dep hdep 26 42 true rfl (by kernel_rfl) (by kernel_rfl) (fun v h => h)).trans rfl) ?_
      obtain ⟨v28, e44, hv28⟩ := ev_dep hdep 28 44 (by kernel_rfl) (by kernel_rfl)
      replace hv28 : v28 = .pointer (some ⟨c, 0, none⟩) := hv28
      subst hv28
      refine step_val (x := .pointer (some ⟨c, 7, none⟩)) ?_ rfl
      simp [go_sem, e44]
     ·intro a w hb hoth hdep
      refine step_on ((want_dep hdep 26 42 true rfl (by kernel_rfl) (by kernel_rfl) (fun v h => h)).trans rfl) ?_
      obtain ⟨v29, e45, hv29⟩ := ev_dep hdep 29 45 (by kernel_rfl) (by kernel_rfl)
      replace hv29 : v29 = .pointer (some ⟨c, 7, none⟩) := hv29
      subst hv29
      obtain ⟨c0, c1, c2, c3, c4, c5, c6, c7, c8, c9, c10, c11, c12, c13, c14⟩ := wkCells (HD.out.below hb).blk
      refine step_val (x := .int .i64 s.first) ?_ rfl
      simp [go_sem, e45, c7]
     ·intro a w hb hoth hdep
      refine step_on ((want_dep hdep 26 42 true rfl (by kernel_rfl) (by kernel_rfl) (fun v h => h)).trans rfl) ?_
      obtain ⟨v30, e46, hv30⟩ := ev_dep hdep 30 46 (by kernel_rfl) (by kernel_rfl)
      replace hv30 : v30 = .int .i64 s.first := hv30
      subst hv30
      refine step_val (x := .int .i64 (s.first - 1)) ?_ rfl
      simp [go_sem, e46, t5]
     ·intro a w hb hoth hdep
      refine step_on ((want_dep hdep 26 42 true rfl (by kernel_rfl) (by kernel_rfl) (fun v h => h)).trans rfl) ?_
      have e0 : a.tmps[0]? = some (.pointer (some ⟨c, 0, none⟩)) := ev_seg hoth 0 (by kernel_rfl) rfl
      exact step_val ((BigFrame.run_move _ rfl w).trans (by rw [ev_of e0])) rfl
     ·intro a w hb hoth hdep
      refine step_on ((want_dep hdep 26 42 true rfl (by kernel_rfl) (by kernel_rfl) (fun v h => h)).trans rfl) ?_
      obtain ⟨v32, e48, hv32⟩ := ev_dep hdep 32 48 (by kernel_rfl) (by kernel_rfl)
      replace hv32 : v32 = .pointer (some ⟨c, 0, none⟩) := hv32
      subst hv32
      refine step_val (x := .pointer (some ⟨c, 0, none⟩)) ?_ rfl
      simp [go_sem, e48]
     ·intro a w hb hoth hdep
      refine step_on ((want_dep hdep 26 42 true rfl (by kernel_rfl) (by kernel_rfl) (fun v h => h)).trans rfl) ?_
      obtain ⟨v33, e49, hv33⟩ := ev_dep hdep 33 49 (by kernel_rfl) (by kernel_rfl)
      replace hv33 : v33 = .pointer (some ⟨c, 0, none⟩) := hv33
      subst hv33
      refine step_val (x := .pointer (some ⟨c, 4, none⟩)) ?_ rfl
      simp [go_sem, e49]
     ·intro a w hb hoth hdep
      refine step_on ((want_dep hdep 26 42 true rfl (by kernel_rfl) (by kernel_rfl) (fun v h => h)).trans rfl) ?_
      obtain ⟨v34, e50, hv34⟩ := ev_dep hdep 34 50 (by kernel_rfl) (by kernel_rfl)
      replace hv34 : v34 = .pointer (some ⟨c, 4, none⟩) := hv34
      subst hv34
      obtain ⟨c0, c1, c2, c3, c4, c5, c6, c7, c8, c9, c10, c11, c12, c13, c14⟩ := wkCells (HD.out.below hb).blk
      refine step_val (x := .int .i64 s.span) ?_ rfl
      simp [go_sem, e50, c4]
     ·intro a w hb hoth hdep
      refine step_on ((want_dep hdep 26 42 true rfl (by kernel_rfl) (by kernel_rfl) (fun v h => h)).trans rfl) ?_
      obtain ⟨v31, e47, hv31⟩ := ev_dep hdep 31 47 (by kernel_rfl) (by kernel_rfl)
      replace hv31 : v31 = .int .i64 (s.first - 1) := hv31
      subst hv31
      obtain ⟨v35, e51, hv35⟩ := ev_dep hdep 35 51 (by kernel_rfl) (by kernel_rfl)
      replace hv35 : v35 = .int .i64 s.span := hv35
      subst hv35
      refine step_val (x := .int .i64 (s.first - 1 + s.span)) ?_ rfl
      simp [go_sem, e47, e51, t6]
     ·intro a w hb hoth hdep
      refine step_on ((want_dep hdep 26 42 true rfl (by kernel_rfl) (by kernel_rfl) (fun v h => h)).trans rfl) ?_
      have e1 : a.tmps[1]? = some (.int .i64 now) := ev_seg hoth 1 (by kernel_rfl) rfl
      exact step_val ((BigFrame.run_move _ rfl w).trans (by rw [ev_of e1])) rfl
     ·intro a w hb hoth hdep
      refine step_on ((want_dep hdep 26 42 true rfl (by kernel_rfl) (by kernel_rfl) (fun v h => h)).trans rfl) ?_
      obtain ⟨v36, e52, hv36⟩ := ev_dep hdep 36 52 (by kernel_rfl) (by kernel_rfl)
      replace hv36 : v36 = .int .i64 (s.first - 1 + s.span) := hv36
      subst hv36
      obtain ⟨v37, e53, hv37⟩ := ev_dep hdep 37 53 (by kernel_rfl) (by kernel_rfl)
      replace hv37 : v37 = .int .i64 now := hv37
      subst hv37
      refine step_val (x := .bool false) ?_ rfl
      simp [go_sem, e52, e53, t7]
     case fin =>
      intro wz hbz
      iterate 41 (rintro _ rfl)
      refine FinC.nil ?_
      refine cont_end (by kernel_rfl) ?_
      have HZ := Lib.hid (HB.out.trans (hbz.mono HB.out.size))
      clear hbz
      refine Met.intro (hMK _ _ (Met.intro (hRJ _ _ ?_)))
      (repeat apply Exists.intro)
      refine ⟨?rel, rfl⟩
      case rel => exact ⟨by rw [HL.out], HZ.out⟩
   ·have t4 : decide (0 < s.first) = false := decide_eq_false h4
    have HL : Hid (s.late now = false) := Lib.hid (by unfold WS.late; simp [h1, h3, h4])
    clear h1 h3 h4
    refine Cont.start (by kernel_rfl) ?_
    have HD := Lib.hid (HX.out.below (Below.refl w.heap.size w).drew)
    have HB := Lib.hid (Below.refl w.heap.size w).drew
    generalize w.drew = wd at HD HB ⊢
    refine cont_free 0 41 16 [] [.o (eqV (.pointer (some ⟨c, 0, none⟩))), .o (eqV (.pointer (some ⟨c, 0, none⟩))), .o (eqV (.pointer (some ⟨c, 6, none⟩))), .o (eqV (.int .i64 s.until_)), .b false, .b false, .u, .u, .u, .u, .u, .u, .b false, .b false, .o (eqV (.pointer (some ⟨c, 0, none⟩))), .o (eqV (.pointer (some ⟨c, 0, none⟩))), .o (eqV (.pointer (some ⟨c, 6, none⟩))), .o (eqV (.int .i64 s.until_)), .b true, .b true, .o (eqV (.pointer (some ⟨c, 0, none⟩))), .o (eqV (.pointer (some ⟨c, 0, none⟩))), .o (eqV (.pointer (some ⟨c, 7, none⟩))), .o (eqV (.int .i64 s.first)), .b false, .b false, .b false, .u, .u, .u, .u, .u, .u, .u, .u, .u, .u, .u, .u, .b false, .b false] [false, false, false, false, false, true, true, true, true, true, true, true, true, true, false, false, false, false, false, true, false, false, false, false, false, true, true, true, true, true, true, true, true, true, true, true, true, true, true, true, true] (by kernel_rfl) (by kernel_rfl) (by kernel_rfl) (by kernel_rfl) (by kernel_rfl) (by kernel_rfl) (by kernel_rfl) rfl (by kernel_rfl) (by kernel_rfl) ⟨?_, ?_, ?_, ?_, ?_, ?_, ?_, ?_, ?_, ?_, ?_, ?_, ?_, ?_, ?_, trivial⟩ ?fin
    ·intro a w hb hoth hdep
     refine step_on (want_none rfl) ?_
     have e0 : a.tmps[0]? = some (.pointer (some ⟨c, 0, none⟩)) := ev_seg hoth 0 (by kernel_rfl) rfl
     exact step_val ((BigFrame.run_move _ rfl w).trans (by rw [ev_of e0])) rfl
    ·intro a w hb hoth hdep
     refine step_on (want_none rfl) ?_
     obtain ⟨v0, e16, hv0⟩ := ev_dep hdep 0 16 (by kernel_rfl) (by kernel_rfl)
     replace hv0 : v0 = .pointer (some ⟨c, 0, none⟩) := hv0
     subst hv0
     refine step_val (x := .pointer (some ⟨c, 0, none⟩)) ?_ rfl
     simp [go_sem, e16]
    ·intro a w hb hoth hdep
     refine step_on (want_none rfl) ?_
     obtain ⟨v1, e17, hv1⟩ := ev_dep hdep 1 17 (by kernel_rfl) (by kernel_rfl)
     replace hv1 : v1 = .pointer (some ⟨c, 0, none⟩) := hv1
     subst hv1
     refine step_val (x := .pointer (some ⟨c, 6, none⟩)) ?_ rfl
     simp [go_sem, e17]
    ·intro a w hb hoth hdep
     refine step_on (want_none rfl) ?_
     obtain ⟨v2, e18, hv2⟩ := ev_dep hdep 2 18 (by kernel_rfl) (by kernel_rfl)
     replace hv2 : v2 = .pointer (some ⟨c, 6, none⟩) := hv2
     subst hv2
     obtain ⟨c0, c1, c2, c3, c4, c5, c6, c7, c8, c9, c10, c11, c12, c13, c14⟩ := wkCells (HD.out.below hb).blk
     refine step_val (x := .int .i64 s.until_) ?_ rfl
     simp [go_sem, e18, c6]
    ·intro a w hb hoth hdep
     refine step_on (want_none rfl) ?_
     obtain ⟨v3, e19, hv3⟩ := ev_dep hdep 3 19 (by kernel_rfl) (by kernel_rfl)
     replace hv3 : v3 = .int .i64 s.until_ := hv3
     subst hv3
     refine step_val (x := .bool false) ?_ rfl
     simp [go_sem, e19, t1]
    ·intro a w hb hoth hdep
     refine step_on ((want_dep hdep 13 29 false rfl (by kernel_rfl) (by kernel_rfl) (fun v h => h)).trans rfl) ?_
     have e0 : a.tmps[0]? = some (.pointer (some ⟨c, 0, none⟩)) := ev_seg hoth 0 (by kernel_rfl) rfl
     exact step_val ((BigFrame.run_move _ rfl w).trans (by rw [ev_of e0])) rfl
    ·intro a w hb hoth hdep
     refine step_on ((want_dep hdep 13 29 false rfl (by kernel_rfl) (by kernel_rfl) (fun v h => h)).trans rfl) ?_
     obtain ⟨v14, e30, hv14⟩ := ev_dep hdep 14 30 (by kernel_rfl) (by kernel_rfl)
     replace hv14 : v14 = .pointer (some ⟨c, 0, none⟩) := hv14
     subst hv14
     refine step_val (x := .pointer (some ⟨c, 0, none⟩)) ?_ rfl
     simp [go_sem, e30]
    ·intro a w hb hoth hdep
     refine step_on ((want_dep hdep 13 29 false rfl (by kernel_rfl) (by kernel_rfl) (fun v h => h)).trans rfl) ?_
     obtain ⟨v15, e31, hv15⟩ := ev_dep hdep 15 31 (by kernel_rfl) (by kernel_rfl)
     replace hv15 : v15 = .pointer (some ⟨c, 0, none⟩) := hv15
     subst hv15
     refine step_val (x := .pointer (some ⟨c, 6, none⟩)) ?_ rfl
     simp [go_sem, e31]
    ·intro a w hb hoth hdep
     refine step_on ((want_dep hdep 13 29 false rfl (by kernel_rfl) (by kernel_rfl) (fun v h => h)).trans rfl) ?_
     obtain ⟨v16, e32, hv16⟩ := ev_dep hdep 16 32 (by kernel_rfl) (by kernel_rfl)
     replace hv16 : v16 = .pointer (some ⟨c, 6, none⟩) := hv16
     subst hv16
     obtain ⟨c0, c1, c2, c3, c4, c5, c6, c7, c8, c9, c10, c11, c12, c13, c14⟩ := wkCells (HD.out.below hb).blk
     refine step_val (x := .int .i64 s.until_) ?_ rfl
     simp [go_sem, e32, c6]
    ·intro a w hb hoth hdep
     refine step_on ((want_dep hdep 13 29 false rfl (by kernel_rfl) (by kernel_rfl) (fun v h => h)).trans rfl) ?_
     obtain ⟨v17, e33, hv17⟩ := ev_dep hdep 17 33 (by kernel_rfl) (by kernel_rfl)
     replace hv17 : v17 = .int .i64 s.until_ := hv17
     subst hv17
     refine step_val (x := .bool true) ?_ rfl
     simp [go_sem, e33, t3]
    ·intro a w hb hoth hdep
     refine step_on ((want_dep hdep 19 35 true rfl (by kernel_rfl) (by kernel_rfl) (fun v h => h)).trans rfl) ?_
     have e0 : a.tmps[0]? = some (.pointer (some ⟨c, 0, none⟩)) := ev_seg hoth 0 (by kernel_rfl) rfl
     exact step_val ((BigFrame.run_move _ rfl w).trans (by rw [ev_of e0])) rfl
    ·intro a w hb hoth hdep
     refine step_on ((want_dep hdep 19 35 true rfl (by kernel_rfl) (by kernel_rfl) (fun v h => h)).trans rfl) ?_
     obtain ⟨v20, e36, hv20⟩ := ev_dep hdep 20 36 (by kernel_rfl) (by kernel_rfl)
     replace hv20 : v20 = .pointer (some ⟨c, 0, none⟩) := hv20
     subst hv20
     refine step_val (x := .pointer (some ⟨c, 0, none⟩)) ?_ rfl
     simp [go_sem, e36]
    ·intro a w hb hoth hdep
     refine step_on ((want_dep hdep 19 35 true rfl (by kernel_rfl) (by kernel_rfl) (fun v h => h)).trans rfl) ?_
     obtain ⟨v21, e37, hv21⟩ := ev_dep hdep 21 37 (by kernel_rfl) (by kernel_rfl)
     replace hv21 : v21 = .pointer (some ⟨c, 0, none⟩) := hv21
     subst hv21
     refine step_val (x := .pointer (some ⟨c, 7, none⟩)) ?_ rfl
     simp [go_sem, e37]
    ·intro a w hb hoth hdep
     refine step_on ((want_dep hdep 19 35 true rfl (by kernel_rfl) (by kernel_rfl) (fun v h => h)).trans rfl) ?_
     obtain ⟨v22, e38, hv22⟩ := ev_dep hdep 22 38 (by kernel_rfl) (by kernel_rfl)
     replace hv22 : v22 = .pointer (some ⟨c, 7, none⟩) := hv22
     subst hv22
     obtain ⟨c0, c1, c2, c3, c4, c5, c6, c7, c8, c9, c10, c11, c12, c13, c14⟩ := wkCells (HD.out.below hb).blk
     refine step_val (x := .int .i64 s.first) ?_ rfl
     simp [go_sem, e38, c7]
    ·intro a w hb hoth hdep
     refine step_on ((want_dep hdep 19 35 true rfl (by kernel_rfl) (by kernel_rfl) (fun v h => h)).trans rfl) ?_
     obtain ⟨v23, e39, hv23⟩ := ev_dep hdep 23 39 (by kernel_rfl) (by kernel_rfl)
     replace hv23 : v23 = .int .i64 s.first := hv23
     subst hv23
     refine step_val (x := .bool false) ?_ rfl
     simp [go_sem, e39, t4]
    case fin =>
     intro wz hbz
     iterate 41 (rintro _ rfl)
     refine FinC.nil ?_
     refine cont_end (by kernel_rfl) ?_
     have HZ := Lib.hid (HB.out.trans (hbz.mono HB.out.size))
     clear hbz
     refine Met.intro (hMK _ _ (Met.intro (hRJ _ _ ?_)))
     (repeat apply Exists.intro)
     refine ⟨?rel, rfl⟩
     case rel => exact ⟨by rw [HL.out], HZ.out⟩
 case rest =>
  obtain ⟨rfl, hbc⟩ := hcut
  have HZ := Lib.hid (And.intro (HX.out.below hbc) hbc)
  clear hbc
  go_upto_if 56 with (fail)
  go_cut [] from 16 to 58 (fun wx => ∃ v1, WkAt wx c v1 (s.tick1 now) ∧ Turned (wkS c v) (wkS c v1) w wx)
  case first =>
   rcases Bool.eq_false_or_eq_true (s.late now) with hl | hl
   ·have h1 := wkAnew HZ.out.1 HI.out
    have hT1 : s.tick1 now = s.anew := by unfold WS.tick1; rw [hl, if_pos rfl]
    rw [hl]
    go_wp2_with fail
    (with_reducible refine h1.mono ?_)
    clear h1
    rintro rr w1 ⟨rfl, v1, hw1, ht1⟩
    have HF := Lib.hid (And.intro hw1 (Turned.after_below HZ.out.2 ht1))
    clear hw1 ht1
    go_wp2_with fail
    go_meet
    exact ⟨v1, by rw [hT1]; exact HF.out.1, HF.out.2⟩
   ·have hT1 : s.tick1 now = s := by unfold WS.tick1; rw [hl, if_neg (by decide)]
    rw [hl]
    go_wp2_with fail
    go_meet
    exact ⟨v, by rw [hT1]; exact HZ.out.1, .of_below HZ.out.2⟩
  case rest =>
   obtain ⟨v1, hw1, ht1⟩ := hcut
   obtain ⟨s1, hs1⟩ : ∃ s1, s.tick1 now = s1 := ⟨_, rfl⟩
   rw [hs1] at hw1
   have HS1 := Lib.hid hs1
   have H1 := Lib.hid (And.intro hw1 ht1)
   obtain ⟨c0, c1, c2, c3, c4, c5, c6, c7, c8, c9, c10, c11, c12, c13, c14⟩ := wkCells hw1.blk
   have cl := hw1.blk.lt
   have cf := hw1.blk.frozen
   clear hw1 ht1 HZ hs1
   go_upto_if 63 with (fail)
   clear cl cf c0 c1 c2 c3 c4 c5 c6 c7 c8 c9 c10 c11 c12 c13 c14
   go_cut [] from 59 to 69 (fun wx => ∃ v2, WkAt wx c v2 (s1.tick2 now) ∧ Turned (wkS c v) (wkS c v2) w wx)
   case first =>
    by_cases hf : s1.first = 0
    ·have t1 : (s1.first == 0) = true := by simp [hf]
     have hT2 : s1.tick2 now = { s1 with first := tickI now + 1 } := by unfold WS.tick2; rw [if_pos hf]
     rw [t1]
     obtain ⟨c0, c1, c2, c3, c4, c5, c6, c7, c8, c9, c10, c11, c12, c13, c14⟩ := wkCells H1.out.1.blk
     have cl := H1.out.1.blk.lt
     have cf := H1.out.1.blk.frozen
     have t2 : IntKind.i64.wrap (spanI now 0 1099511627776 + 1) = tickI now + 1 := IntWalk.i64_in _ (by unfold spanI; omega)
     go_wp2_with (go_at_call 62; with_reducible refine (span_t _ _ _ _).mono ?_; rintro e w9 ⟨rfl, rfl⟩)
     clear cl cf c0 c1 c2 c3 c4 c5 c6 c7 c8 c9 c10 c11 c12 c13 c14
     have hk := (Kept.setCell (F := fun k => k = c) (Kept.refl (fun k => k = c) wc) (p := ⟨c, 7, none⟩) (fun _ => rfl) (.int .i64 (tickI now + 1)))
     have hb : Blk (wc.setCell ⟨c, 7, none⟩ (.int .i64 (tickI now + 1))) c 94 (wkBox v1 { s1 with first := tickI now + 1 }) := by
      have h2 := (H1.out.1.blk.set_ 7 (.int .i64 (tickI now + 1)))
      simp only [List.setIfInBounds_toArray, List.set_cons_zero, List.set_cons_succ] at h2
      exact h2
     have hWT := H1.out.1.cells_ (s' := { s1 with first := tickI now + 1 }) hk hb rfl rfl rfl rfl rfl rfl
     have HF := Lib.hid (And.intro hWT.1 (H1.out.2.trans hWT.2))
     clear hk hb hWT
     go_meet
     exact ⟨v1, by rw [hT2]; exact HF.out.1, HF.out.2⟩
    ·have t1 : (s1.first == 0) = false := by simp [hf]
     have hT2 : s1.tick2 now = s1 := by unfold WS.tick2; rw [if_neg hf]
     rw [t1]
     go_wp2_with fail
     go_meet
     exact ⟨v1, by rw [hT2]; exact H1.out.1, H1.out.2⟩
   case rest =>
    obtain ⟨v2, hw2, ht2⟩ := hcut
    obtain ⟨s2, hs2⟩ : ∃ s2, s1.tick2 now = s2 := ⟨_, rfl⟩
    rw [hs2] at hw2
    have hst : s.tick now = s2 := by unfold WS.tick; rw [HS1.out, hs2]
    have hnd2 : s2.node = s.node := by rw [← hst]; exact tick_node s now
    have hdl2 : s2.done.length ≤ 1000 := by rw [← hst]; exact Nat.le_trans (tick_done s now) HDL.out
    have HST := Lib.hid hst
    have HND := Lib.hid (show 0 ≤ s2.node ∧ s2.node ≤ 15 by rw [hnd2]; exact HK2.out)
    have H5 := Lib.hid (And.intro hw2 ht2)
    clear hw2 ht2 hs2 hst hnd2 H1 HX
    obtain ⟨N, hN⟩ : ∃ N : Nat, (min n 5).toNat = N := ⟨_, rfl⟩
    have hN5 : N ≤ 5 := by omega
    go_wp2
    go_loopw [7, 72] (fun o i wr => ∃ (k : Nat) (A : Option Addr) (n0 c0_ : Nat), k ≤ N ∧ i = .int .i64 k ∧ o = .slice A n0 c0_ ∧ OwnL encMsg 38 12 wr wc.heap.size A n0 c0_ (s2.out now k) ∧ Below wc.heap.size wc wr ∧ n0 ≤ k * 1001) (fun _ i _ => N - (intOf i).toNat)
    case atStart => exact ⟨0, none, 0, 0, Nat.zero_le _, rfl, rfl, OwnL.nil _ _, Below.refl _ _, Nat.zero_le _⟩
    case round =>
     obtain ⟨k, A, n0, c0_, hk, rfl, rfl, ho, hbr, hn0⟩ := hrel
     have hn9 : n0 ≤ 5005 := by omega
     by_cases hlt : k < N
     ·have hkl : decide ((k : Int) < min n 5) = true := decide_eq_true (by omega)
      have HR := Lib.hid (And.intro ho (And.intro hn0 hbr))
      clear ho hbr
      go_upto_region 11 with fail
      refine Cont.start (by kernel_rfl) ?_
      have HD := Lib.hid (H5.out.1.below (w' := wr.drew) (HR.out.2.2.drew))
      have HOd := Lib.hid (HR.out.1.drew)
      have HBd := Lib.hid (HR.out.2.2.drew)
      generalize wr.drew = wd at HD HOd HBd ⊢
      refine cont_free 0 16 75 [] [.o (eqV (.slice A n0 c0_)), .o (eqV (.pointer (some ⟨c, 0, none⟩))), .o (eqV (.int .i64 (100 + s2.node))), .o (eqV (.int .i64 ((k : Nat) : Int))), .o (eqV (.pointer (some ⟨c, 0, none⟩))), .o (eqV (.pointer (some ⟨c, 0, none⟩))), .o (eqV (.pointer (some ⟨c, 5, none⟩))), .o (eqV (.int .i64 s2.inc)), .o (eqV (.int .i64 now)), .o (eqV (.int .i64 (tickI now))), .o (eqV (.pointer (some ⟨c, 0, none⟩))), .o (eqV (.pointer (some ⟨c, 0, none⟩))), .o (eqV (.pointer (some ⟨c, 8, none⟩))), .o (eqV (aggRes s2.cap)), .o (eqV (aggMsg (s2.hello now k))), .o (rdV encMsg 12 [s2.hello now k] 1)] [false, false, false, false, false, false, false, false, false, false, false, false, false, false, false, false] (by kernel_rfl) (by kernel_rfl) (by kernel_rfl) (by kernel_rfl) (by kernel_rfl) (by kernel_rfl) (by kernel_rfl) rfl (by kernel_rfl) (by kernel_rfl) ⟨?_, ?_, ?_, ?_, ?_, ?_, ?_, ?_, ?_, ?_, ?_, ?_, ?_, ?_, ?_, ?_, trivial⟩ ?fin
      ·intro a w hb hoth hdep
       refine step_on (want_none rfl) ?_
       have e7 : a.tmps[7]? = some (.slice A n0 c0_) := ev_seg hoth 7 (by kernel_rfl) rfl
       exact step_val ((BigFrame.run_move _ rfl w).trans (by rw [ev_of e7])) rfl
      ·intro a w hb hoth hdep
       refine step_on (want_none rfl) ?_
       have e0 : a.tmps[0]? = some (.pointer (some ⟨c, 0, none⟩)) := ev_seg hoth 0 (by kernel_rfl) rfl
       exact step_val ((BigFrame.run_move _ rfl w).trans (by rw [ev_of e0])) rfl
      ·intro a w hb hoth hdep
       refine step_on (want_none rfl) ?_
       obtain ⟨v1, e76, hv1⟩ := ev_dep hdep 1 76 (by kernel_rfl) (by kernel_rfl)
       replace hv1 : v1 = .pointer (some ⟨c, 0, none⟩) := hv1
       subst hv1
       refine step_call (f := 63) (args := #[.pointer (some ⟨c, 0, none⟩)]) ?_ ?_
       ·simp [go_sem, e76]
       ·have hcx := wkPlace (HD.out.below hb) HND.out
        (with_reducible refine hcx.mono ?_)
        clear hcx
        rintro e w2 ⟨rfl, hw⟩
        subst hw
        exact ⟨_, rfl, rfl, Below.refl _ _⟩
      ·intro a w hb hoth hdep
       refine step_on (want_none rfl) ?_
       have e8 : a.tmps[8]? = some (.int .i64 ((k : Nat) : Int)) := ev_seg hoth 8 (by kernel_rfl) rfl
       exact step_val ((BigFrame.run_move _ rfl w).trans (by rw [ev_of e8])) rfl
      ·intro a w hb hoth hdep
       refine step_on (want_none rfl) ?_
       have e0 : a.tmps[0]? = some (.pointer (some ⟨c, 0, none⟩)) := ev_seg hoth 0 (by kernel_rfl) rfl
       exact step_val ((BigFrame.run_move _ rfl w).trans (by rw [ev_of e0])) rfl
      ·intro a w hb hoth hdep
       refine step_on (want_none rfl) ?_
       obtain ⟨v4, e79, hv4⟩ := ev_dep hdep 4 79 (by kernel_rfl) (by kernel_rfl)
       replace hv4 : v4 = .pointer (some ⟨c, 0, none⟩) := hv4
       subst hv4
       refine step_val (x := .pointer (some ⟨c, 0, none⟩)) ?_ rfl
       simp [go_sem, e79]
      ·intro a w hb hoth hdep
       refine step_on (want_none rfl) ?_
       obtain ⟨v5, e80, hv5⟩ := ev_dep hdep 5 80 (by kernel_rfl) (by kernel_rfl)
       replace hv5 : v5 = .pointer (some ⟨c, 0, none⟩) := hv5
       subst hv5
       refine step_val (x := .pointer (some ⟨c, 5, none⟩)) ?_ rfl
       simp [go_sem, e80]
      ·intro a w hb hoth hdep
       refine step_on (want_none rfl) ?_
       obtain ⟨v6, e81, hv6⟩ := ev_dep hdep 6 81 (by kernel_rfl) (by kernel_rfl)
       replace hv6 : v6 = .pointer (some ⟨c, 5, none⟩) := hv6
       subst hv6
       obtain ⟨c0, c1, c2, c3, c4, c5, c6, c7, c8, c9, c10, c11, c12, c13, c14⟩ := wkCells (HD.out.below hb).blk
       refine step_val (x := .int .i64 s2.inc) ?_ rfl
       simp [go_sem, e81, c5]
      ·intro a w hb hoth hdep
       refine step_on (want_none rfl) ?_
       have e1 : a.tmps[1]? = some (.int .i64 now) := ev_seg hoth 1 (by kernel_rfl) rfl
       exact step_val ((BigFrame.run_move _ rfl w).trans (by rw [ev_of e1])) rfl
      ·intro a w hb hoth hdep
       refine step_on (want_none rfl) ?_
       obtain ⟨v8, e83, hv8⟩ := ev_dep hdep 8 83 (by kernel_rfl) (by kernel_rfl)
       replace hv8 : v8 = .int .i64 now := hv8
       subst hv8
       refine step_call (f := 62) (args := #[.int .i64 now, .int .i64 0, .int .i64 1099511627776]) ?_ ?_
       ·simp [go_sem, e83]
       ·have hcx := span_t now 0 1099511627776 w
        (with_reducible refine hcx.mono ?_)
        clear hcx
        rintro e w2 ⟨rfl, hw⟩
        subst hw
        exact ⟨_, rfl, rfl, Below.refl _ _⟩
      ·intro a w hb hoth hdep
       refine step_on (want_none rfl) ?_
       have e0 : a.tmps[0]? = some (.pointer (some ⟨c, 0, none⟩)) := ev_seg hoth 0 (by kernel_rfl) rfl
       exact step_val ((BigFrame.run_move _ rfl w).trans (by rw [ev_of e0])) rfl
      ·intro a w hb hoth hdep
       refine step_on (want_none rfl) ?_
       obtain ⟨v10, e85, hv10⟩ := ev_dep hdep 10 85 (by kernel_rfl) (by kernel_rfl)
       replace hv10 : v10 = .pointer (some ⟨c, 0, none⟩) := hv10
       subst hv10
       refine step_val (x := .pointer (some ⟨c, 0, none⟩)) ?_ rfl
       simp [go_sem, e85]
      ·intro a w hb hoth hdep
       refine step_on (want_none rfl) ?_
       obtain ⟨v11, e86, hv11⟩ := ev_dep hdep 11 86 (by kernel_rfl) (by kernel_rfl)
       replace hv11 : v11 = .pointer (some ⟨c, 0, none⟩) := hv11
       subst hv11
       refine step_val (x := .pointer (some ⟨c, 8, none⟩)) ?_ rfl
       simp [go_sem, e86]
      ·intro a w hb hoth hdep
       refine step_on (want_none rfl) ?_
       obtain ⟨v12, e87, hv12⟩ := ev_dep hdep 12 87 (by kernel_rfl) (by kernel_rfl)
       replace hv12 : v12 = .pointer (some ⟨c, 8, none⟩) := hv12
       subst hv12
       obtain ⟨c0, c1, c2, c3, c4, c5, c6, c7, c8, c9, c10, c11, c12, c13, c14⟩ := wkCells (HD.out.below hb).blk
       refine step_val (x := aggRes s2.cap) ?_ rfl
       simp [go_sem, e87, c8, c9, c10, aggRes]
      ·intro a w hb hoth hdep
       refine step_on (want_none rfl) ?_
       obtain ⟨v2, e77, hv2⟩ := ev_dep hdep 2 77 (by kernel_rfl) (by kernel_rfl)
       replace hv2 : v2 = .int .i64 (100 + s2.node) := hv2
       subst hv2
       obtain ⟨v3, e78, hv3⟩ := ev_dep hdep 3 78 (by kernel_rfl) (by kernel_rfl)
       replace hv3 : v3 = .int .i64 ((k : Nat) : Int) := hv3
       subst hv3
       obtain ⟨v7, e82, hv7⟩ := ev_dep hdep 7 82 (by kernel_rfl) (by kernel_rfl)
       replace hv7 : v7 = .int .i64 s2.inc := hv7
       subst hv7
       obtain ⟨v9, e84, hv9⟩ := ev_dep hdep 9 84 (by kernel_rfl) (by kernel_rfl)
       replace hv9 : v9 = .int .i64 (tickI now) := hv9
       subst hv9
       obtain ⟨v13, e88, hv13⟩ := ev_dep hdep 13 88 (by kernel_rfl) (by kernel_rfl)
       replace hv13 : v13 = aggRes s2.cap := hv13
       subst hv13
       refine step_val (x := aggMsg (s2.hello now k)) ?_ rfl
       simp [go_sem, e77, e78, e82, e84, e88, aggMsg, aggRes, WS.hello]
      ·intro a w hb hoth hdep
       refine step_on (want_none rfl) ?_
       obtain ⟨v14, e89, hv14⟩ := ev_dep hdep 14 89 (by kernel_rfl) (by kernel_rfl)
       replace hv14 : v14 = aggMsg (s2.hello now k) := hv14
       subst hv14
       refine step_new (x := .slice (some ⟨w.heap.size, 0, none⟩) 1 1) (w' := w.alloc (.cells (boxMsg (s2.hello now k)) 38)) ?_ ⟨_, _, _, rfl, Rd.new1 w (s2.hello now k) _ _ _ rfl, Nat.le_refl _⟩ ((Below.refl _ _).alloc (Nat.le_refl _) _)
       simp [go_sem, e89]
      case fin =>
       intro wz hbz
       iterate 15 (rintro _ rfl)
       rintro _ ⟨B7, m7, d7, rfl, hr7, hm7⟩
       refine FinC.nil ?_
       obtain rfl : m7 = 1 := by have := hr7.len; simpa using this.symm
       have HN7 := Lib.hid hr7
       have HBZ := Lib.hid (HBd.out.trans (hbz.mono HBd.out.size))
       have HO7 := Lib.hid (HOd.out.below hbz)
       clear hr7 hm7 hbz
       refine cont_line 16 2 (by kernel_rfl) (by kernel_rfl) (by kernel_rfl) ?_
       change wpList _ _ _ [_, _] _ _
       go_wp2_with (at_builtin; go_loud (refine wp_app (enc := encMsg) (fun _ => rfl) Msg_one rfl (.tmp 75) (.tmp 90) 65 rfl 38 zeroMsg 96 Tryd.underlying65 Tryd.infoMsg rfl (by decide) wc.heap.size A n0 c0_ _ rfl HO7.out B7 1 d7 [s2.hello now k] rfl HN7.out (n0 + 1) rfl _ rfl (by skip; omega) (by skip; omega) HBZ.out.size ?_; intro A8 c8 w8 ho8 hg8 _; have hb8 := HBZ.out.grown hg8 HBZ.out.size (own_block_ge HO7.out)))
       show Cont _ _ _ _ _ _
       refine cont_end (by kernel_rfl) ?_
       have HR8 := Lib.hid (And.intro ho8 hb8)
       clear ho8 hg8 hb8 HBZ HO7 HN7 HD HOd HBd
       have hcx := wkDone (H5.out.1.below HR8.out.2) (by omega)
       go_wp2_with fail
       (with_reducible refine hcx.mono ?_)
       clear hcx
       rintro rr w9 ⟨A9, nn, cc9, rfl, ho9, hb9⟩
       have hnn : nn ≤ 1000 := by rw [← ho9.len]; exact hdl2
       have HR9 := Lib.hid (And.intro (HR8.out.1.below hb9) (And.intro (HR8.out.2.trans (hb9.mono HR8.out.2.size)) (ho9.lower HR8.out.2.size)))
       clear ho9 hb9 HR8 HR
       go_wp2
       go_loopw [7, 95] (fun o j wr => ∃ (jj : Nat) (A1 : Option Addr) (n1 c1_ : Nat), jj ≤ nn ∧ j = .int .i64 jj ∧ o = .slice A1 n1 c1_ ∧ OwnL encMsg 38 12 wr wc.heap.size A1 n1 c1_ (s2.out now k ++ [s2.hello now k] ++ ((s2.done.take jj).filter (· ∉ s2.told)).map (s2.fins k)) ∧ n1 ≤ n0 + 1 + jj ∧ Below wc.heap.size wc wr ∧ OwnL encI 3 1 wr wc.heap.size A9 nn cc9 s2.done) (fun _ j _ => nn - (intOf j).toNat)
       case atStart => exact ⟨0, A8, n0 + 1, c8, Nat.zero_le _, rfl, rfl, by simpa using HR9.out.1, Nat.le_refl _, HR9.out.2.1, HR9.out.2.2⟩
       case round =>
        obtain ⟨jj, A1, n1, c1_, hjj, rfl, rfl, ho1, hn1, hb1, ho9⟩ := hrel
        have hn1b : n1 ≤ 7000 := by omega
        by_cases hj : jj < nn
        ·obtain ⟨kb, ko, id, rfl, hid, hcell⟩ := RdI.at_ (ho9.rd (enc := encI) (sz := 1) (fun _ => rfl)) hj
         have hkb := (ho9.at_base _ rfl).2
         have hft := filter_take_succ (· ∉ s2.told) s2.done jj id hid
         obtain ⟨fd, hfd⟩ := H5.out.1.d
         have hwid := (hfd.wf id (List.mem_of_getElem? hid)).1
         have h1w := H5.out.1.below hb1
         obtain ⟨ft, hft2⟩ := h1w.t
         have hlk := hft2.look hwid
         obtain ⟨c0, c1, c2, c3, c4, c5, c6, c7, c8, c9, c10, c11, c12, c13, c14⟩ := wkCells h1w.blk
         have cl := h1w.blk.lt
         have cf := h1w.blk.frozen
         have HF1 := Lib.hid (And.intro ho1 (And.intro hn1 (And.intro hb1 ho9)))
         have HFT := Lib.hid hft
         clear hfd hft2 h1w hid hft ho1 hb1 ho9
         by_cases ht : id ∈ s2.told
         ·rw [if_pos ht, decide_eq_true ht] at hlk
          have HL : Hid ((s2.done.take (jj + 1)).filter (· ∉ s2.told) = (s2.done.take jj).filter (· ∉ s2.told)) := Lib.hid (by rw [HFT.out]; simp [ht])
          clear ht
          go_wp2
          go_roundw
          case rel => exact ⟨jj + 1, A1, n1, c1_, by omega, by go_num, rfl, by rw [HL.out]; exact HF1.out.1, by omega, HF1.out.2.2.1, HF1.out.2.2.2⟩
          case measure => simp [intOf]; omega
         ·rw [if_neg ht, decide_eq_false ht] at hlk
          have HL : Hid ((s2.done.take (jj + 1)).filter (· ∉ s2.told) = (s2.done.take jj).filter (· ∉ s2.told) ++ [id]) := Lib.hid (by rw [HFT.out]; simp [ht])
          clear ht
          go_upto_region 17 with fail
          clear hlk cl cf c0 c1 c2 c3 c4 c5 c6 c7 c8 c9 c10 c11 c12 c13 c14
          refine Cont.start (by kernel_rfl) ?_
          have HD := Lib.hid (H5.out.1.below (w' := wr.drew) (HF1.out.2.2.1.drew))
          have HOd := Lib.hid (And.intro HF1.out.1.drew HF1.out.2.2.2.drew)
          have HBd := Lib.hid (HF1.out.2.2.1.drew)
          generalize wr.drew = wd at HD HOd HBd ⊢
          refine cont_free 0 11 110 [] [.o (eqV (.slice A1 n1 c1_)), .o (eqV (.pointer (some ⟨c, 0, none⟩))), .o (eqV (.int .i64 (100 + s2.node))), .o (eqV (.int .i64 ((k : Nat) : Int))), .o (eqV (.pointer (some ⟨c, 0, none⟩))), .o (eqV (.pointer (some ⟨c, 0, none⟩))), .o (eqV (.pointer (some ⟨c, 5, none⟩))), .o (eqV (.int .i64 s2.inc)), .o (eqV (.int .i64 id)), .o (eqV (aggMsg (s2.fins k id))), .o (rdV encMsg 12 [s2.fins k id] 1)] [false, false, false, false, false, false, false, false, false, false, false] (by kernel_rfl) (by kernel_rfl) (by kernel_rfl) (by kernel_rfl) (by kernel_rfl) (by kernel_rfl) (by kernel_rfl) rfl (by kernel_rfl) (by kernel_rfl) ⟨?_, ?_, ?_, ?_, ?_, ?_, ?_, ?_, ?_, ?_, ?_, trivial⟩ ?fin
          ·intro a w hb hoth hdep
           refine step_on (want_none rfl) ?_
           have e7 : a.tmps[7]? = some (.slice A1 n1 c1_) := ev_seg hoth 7 (by kernel_rfl) rfl
           exact step_val ((BigFrame.run_move _ rfl w).trans (by rw [ev_of e7])) rfl
          ·intro a w hb hoth hdep
           refine step_on (want_none rfl) ?_
           have e0 : a.tmps[0]? = some (.pointer (some ⟨c, 0, none⟩)) := ev_seg hoth 0 (by kernel_rfl) rfl
           exact step_val ((BigFrame.run_move _ rfl w).trans (by rw [ev_of e0])) rfl
          ·intro a w hb hoth hdep
           refine step_on (want_none rfl) ?_
           obtain ⟨v1, e111, hv1⟩ := ev_dep hdep 1 111 (by kernel_rfl) (by kernel_rfl)
           replace hv1 : v1 = .pointer (some ⟨c, 0, none⟩) := hv1
           subst hv1
           refine step_call (f := 63) (args := #[.pointer (some ⟨c, 0, none⟩)]) ?_ ?_
           ·simp [go_sem, e111]
           ·have hcx := wkPlace (HD.out.below hb) HND.out
            (with_reducible refine hcx.mono ?_)
            clear hcx
            rintro e w2 ⟨rfl, hw⟩
            subst hw
            exact ⟨_, rfl, rfl, Below.refl _ _⟩
          ·intro a w hb hoth hdep
           refine step_on (want_none rfl) ?_
           have e8 : a.tmps[8]? = some (.int .i64 ((k : Nat) : Int)) := ev_seg hoth 8 (by kernel_rfl) rfl
           exact step_val ((BigFrame.run_move _ rfl w).trans (by rw [ev_of e8])) rfl
          ·intro a w hb hoth hdep
           refine step_on (want_none rfl) ?_
           have e0 : a.tmps[0]? = some (.pointer (some ⟨c, 0, none⟩)) := ev_seg hoth 0 (by kernel_rfl) rfl
           exact step_val ((BigFrame.run_move _ rfl w).trans (by rw [ev_of e0])) rfl
          ·intro a w hb hoth hdep
           refine step_on (want_none rfl) ?_
           obtain ⟨v4, e114, hv4⟩ := ev_dep hdep 4 114 (by kernel_rfl) (by kernel_rfl)
           replace hv4 : v4 = .pointer (some ⟨c, 0, none⟩) := hv4
           subst hv4
           refine step_val (x := .pointer (some ⟨c, 0, none⟩)) ?_ rfl
           simp [go_sem, e114]
          ·intro a w hb hoth hdep
           refine step_on (want_none rfl) ?_
           obtain ⟨v5, e115, hv5⟩ := ev_dep hdep 5 115 (by kernel_rfl) (by kernel_rfl)
           replace hv5 : v5 = .pointer (some ⟨c, 0, none⟩) := hv5
           subst hv5
           refine step_val (x := .pointer (some ⟨c, 5, none⟩)) ?_ rfl
           simp [go_sem, e115]
          ·intro a w hb hoth hdep
           refine step_on (want_none rfl) ?_
           obtain ⟨v6, e116, hv6⟩ := ev_dep hdep 6 116 (by kernel_rfl) (by kernel_rfl)
           replace hv6 : v6 = .pointer (some ⟨c, 5, none⟩) := hv6
           subst hv6
           obtain ⟨c0, c1, c2, c3, c4, c5, c6, c7, c8, c9, c10, c11, c12, c13, c14⟩ := wkCells (HD.out.below hb).blk
           refine step_val (x := .int .i64 s2.inc) ?_ rfl
           simp [go_sem, e116, c5]
          ·intro a w hb hoth hdep
           refine step_on (want_none rfl) ?_
           have e10 : a.tmps[10]? = some (.int .i64 id) := ev_seg hoth 10 (by kernel_rfl) rfl
           exact step_val ((BigFrame.run_move _ rfl w).trans (by rw [ev_of e10])) rfl
          ·intro a w hb hoth hdep
           refine step_on (want_none rfl) ?_
           obtain ⟨v2, e112, hv2⟩ := ev_dep hdep 2 112 (by kernel_rfl) (by kernel_rfl)
           replace hv2 : v2 = .int .i64 (100 + s2.node) := hv2
           subst hv2
           obtain ⟨v3, e113, hv3⟩ := ev_dep hdep 3 113 (by kernel_rfl) (by kernel_rfl)
           replace hv3 : v3 = .int .i64 ((k : Nat) : Int) := hv3
           subst hv3
           obtain ⟨v7, e117, hv7⟩ := ev_dep hdep 7 117 (by kernel_rfl) (by kernel_rfl)
           replace hv7 : v7 = .int .i64 s2.inc := hv7
           subst hv7
           obtain ⟨v8, e118, hv8⟩ := ev_dep hdep 8 118 (by kernel_rfl) (by kernel_rfl)
           replace hv8 : v8 = .int .i64 id := hv8
           subst hv8
           refine step_val (x := aggMsg (s2.fins k id)) ?_ rfl
           simp [go_sem, e112, e113, e117, e118, aggMsg, WS.fins]
          ·intro a w hb hoth hdep
           refine step_on (want_none rfl) ?_
           obtain ⟨v9, e119, hv9⟩ := ev_dep hdep 9 119 (by kernel_rfl) (by kernel_rfl)
           replace hv9 : v9 = aggMsg (s2.fins k id) := hv9
           subst hv9
           refine step_new (x := .slice (some ⟨w.heap.size, 0, none⟩) 1 1) (w' := w.alloc (.cells (boxMsg (s2.fins k id)) 38)) ?_ ⟨_, _, _, rfl, Rd.new1 w (s2.fins k id) _ _ _ rfl, Nat.le_refl _⟩ ((Below.refl _ _).alloc (Nat.le_refl _) _)
           simp [go_sem, e119]
          case fin =>
           intro wz hbz
           iterate 10 (rintro _ rfl)
           rintro _ ⟨B7, m7, d7, rfl, hr7, hm7⟩
           refine FinC.nil ?_
           obtain rfl : m7 = 1 := by have := hr7.len; simpa using this.symm
           have HN7 := Lib.hid hr7
           have HBZ := Lib.hid (HBd.out.trans (hbz.mono HBd.out.size))
           have HO7 := Lib.hid (HOd.out.1.below hbz)
           have HO9 := Lib.hid (HOd.out.2.below hbz)
           clear hr7 hm7 hbz
           refine cont_line 11 2 (by kernel_rfl) (by kernel_rfl) (by kernel_rfl) ?_
           change wpList _ _ _ [_, _] _ _
           go_wp2_with (at_builtin; go_loud (refine wp_app (enc := encMsg) (fun _ => rfl) Msg_one rfl (.tmp 110) (.tmp 120) 65 rfl 38 zeroMsg 96 Tryd.underlying65 Tryd.infoMsg rfl (by decide) wc.heap.size A1 n1 c1_ _ rfl HO7.out B7 1 d7 [s2.fins k id] rfl HN7.out (n1 + 1) rfl _ rfl (by skip; omega) (by skip; omega) HBZ.out.size ?_; intro A8 c8 w8 ho8 hg8 _; have hb8 := HBZ.out.grown hg8 HBZ.out.size (own_block_ge HO7.out)))
           show Cont _ _ _ _ _ _
           refine cont_end (by kernel_rfl) ?_
           have hap : OwnL encI 3 1 w8 wc.heap.size (some ⟨kb, ko, none⟩) nn cc9 s2.done := HO9.out.kept (F := fun q => ∃ ad, A1 = some ad ∧ ad.block = q) (Kept.of_grown hg8 (fun q hq _ => own_at_ hq)) (fun ad hA ⟨ad2, hA2, e2⟩ => own_apart HO9.out HO7.out hA hA2 e2)
           have HR8 := Lib.hid (And.intro ho8 (And.intro hb8 hap))
           clear ho8 hg8 hb8 hap HBZ HO7 HO9 HN7 HD HOd HBd HF1
           go_wp2
           go_roundw
           case rel => exact ⟨jj + 1, A8, n1 + 1, c8, by omega, by go_num, rfl, by rw [HL.out, List.map_append, ← List.append_assoc]; exact HR8.out.1, by omega, HR8.out.2.1, HR8.out.2.2⟩
           case measure => simp [intOf]; omega
        ·have hjn : jj = nn := by omega
         subst hjn
         have hta : s2.done.take jj = s2.done := List.take_of_length_le (by rw [← ho9.len]; exact Nat.le_refl _)
         rw [hta] at ho1
         have HF1 := Lib.hid (And.intro ho1 hb1)
         clear ho1 hb1 ho9 hta
         go_wp2
         go_roundw
         case rel => exact ⟨k + 1, A1, n1, c1_, by omega, by go_num, rfl, by rw [WS.out_succ]; unfold WS.says; simpa using HF1.out.1, HF1.out.2, by omega⟩
         case measure => simp [intOf]; omega
     ·have hkn : k = N := by omega
      subst hkn
      have hkl : decide ((k : Int) < min n 5) = false := decide_eq_false (by omega)
      have HF := Lib.hid (And.intro ho hbr)
      clear ho hbr
      go_wp2
      go_ret
      exact ⟨⟨A, n0, c0_, rfl, by rw [HST.out, hN]; exact HF.out.1.lower H5.out.2.size⟩, v2, by rw [HST.out]; exact H5.out.1.below HF.out.2, H5.out.2.then_below HF.out.2⟩
end
end Go.Proofs.YthhnocnkicoimaaDoor
