/-
 LAYER 39 (worker): Hear.
-/
import Derived.Test.YthhnocnkicoimaaDoorWk7
set_option linter.unusedVariables false
set_option linter.unusedSimpArgs false
namespace Go.Proofs.YthhnocnkicoimaaDoor
open Go.RowKit Go.Maps

section
variable {w w' : World} {c : Nat} {v : WV} {s : WS}
theorem wkAck (h : WkAt w c v s) (now : Int) (m : LMsg) : Calls Tryd.prog 64 #[.pointer (some ⟨c, 0, none⟩), .int .i64 now, aggMsg m] w fun e w' => e = .returned (.bool (s.ackB now m)) ∧ ∃ v', WkAt w' c v' (if s.ackB now m then s.ack m else s) ∧ Turned (wkS c v) (wkS c v') w w' := by
 unfold WS.ackB
 by_cases h1 : m.tick ≤ now
 ·by_cases h2 : now < laterI m.tick s.span
  ·rw [decide_eq_true h1, decide_eq_true h2]; exact wkAck_yes h now m h1 h2
  ·rw [decide_eq_true h1, decide_eq_false h2]; exact wkAck_early h now m h1 (by omega)
 ·rw [decide_eq_false h1]; exact wkAck_late h now m (by omega)
theorem wkDo (h : WkAt w c v s) (now : Int) (m : LMsg) (hj : wf64 m.job) (hnw : wf64 now) (hn : s.held.length ≤ 1000000) : Calls Tryd.prog 65 #[.pointer (some ⟨c, 0, none⟩), .int .i64 now, aggMsg m] w fun e w' => e = .returned (.bool (s.doB now m)) ∧ ∃ v', WkAt w' c v' (if s.doB now m then s.do_ m else s) ∧ Turned (wkS c v) (wkS c v') w w' := by
 unfold WS.doB
 by_cases h1 : m.job ∈ s.done
 ·rw [decide_eq_true h1]; exact wkDo_over h now m hj h1
 ·rw [decide_eq_false h1]
  cases hl : s.live now
  ·exact wkDo_dead h now m hj h1 hl
  ·exact wkDo_yes h now m hj hnw hn h1 hl
def WS.stopB (s : WS) (m : LMsg) : Bool := decide (m.job ∈ s.held) || decide (m.job ∈ s.done)
def WS.stop (s : WS) (m : LMsg) : WS := if m.job ∈ s.done then { s with held := s.held.filter (· != m.job), told := putR s.told m.job } else { s with held := s.held.filter (· != m.job) }
theorem wkStop (h : WkAt w c v s) (now : Int) (m : LMsg) (hj : wf64 m.job) (hnw : wf64 now) (hn : s.told.length ≤ 1000000) : Calls Tryd.prog 66 #[.pointer (some ⟨c, 0, none⟩), .int .i64 now, aggMsg m] w fun e w' => e = .returned (.bool (s.stopB m)) ∧ ∃ v', WkAt w' c v' (s.stop m) ∧ Turned (wkS c v) (wkS c v') w w' := by
 unfold WS.stopB WS.stop
 by_cases h1 : m.job ∈ s.held
 ·by_cases h2 : m.job ∈ s.done
  ·rw [decide_eq_true h1, decide_eq_true h2, if_pos h2]; exact wkStop_tt h now m hj h1 h2 hnw hn
  ·rw [decide_eq_true h1, decide_eq_false h2, if_neg h2]; exact wkStop_tf h now m hj h1 h2
 ·by_cases h2 : m.job ∈ s.done
  ·rw [decide_eq_false h1, decide_eq_true h2, if_pos h2]; exact wkStop_ft h now m hj h1 h2 hnw hn
  ·rw [decide_eq_false h1, decide_eq_false h2, if_neg h2]; exact wkStop_ff h now m hj h1 h2
set_option maxRecDepth 100000 in
set_option maxHeartbeats 1600000 in
theorem wkHear_down (h : WkAt w c v s) (hw : WaysAt w) (hn : 0 ≤ s.node ∧ s.node ≤ 15) (now : Int) (m : LMsg) (hu : s.up = false) : Calls Tryd.prog 29 #[.pointer (some ⟨c, 0, none⟩), .int .i64 now, aggMsg m] w fun e w' => e = .returned (.bool false) ∧ ∃ v', WkAt w' c v' s ∧ Turned (wkS c v) (wkS c v') w w' := by
 have HU := Lib.hid hu
 clear hu
 have hB : Below w.heap.size w (w.alloc (.cells (boxMsg m) 38)) := (Below.refl _ _).alloc (Nat.le_refl _) _
 have hbm := Blk.new w 38 (boxMsg m)
 have H0 := Lib.hid (And.intro (h.below hB) (And.intro hbm (Turned.of_below (S := wkS c v) hB)))
 have HW0 := Lib.hid (And.intro (hw.below hB) hn)
 clear h hB hbm hw hn
 go_enter Tryd.func29, Tryd.ntmps29
 go_upto_region 1 with fail
 generalize (w.alloc (.cells (boxMsg m) 38)) = w1 at H0 HW0 ⊢
 obtain ⟨b, hb⟩ : ∃ b, w.heap.size = b := ⟨_, rfl⟩
 have H1 : Hid (WkAt w1 c v s ∧ Blk w1 b 38 (boxMsg m) ∧ Turned (wkS c v) (wkS c v) w w1) := Lib.hid (by rw [← hb]; exact H0.out)
 try simp only [hb]
 clear hb H0
 refine Cont.start (by kernel_rfl) ?_
 have HD := Lib.hid (And.intro (H1.out.1.below (Below.refl _ _).drew) (And.intro (H1.out.2.1.below (Below.refl _ _).drew H1.out.2.1.lt) (H1.out.2.2.then_below (Below.refl _ _).drew)))
 have HW := Lib.hid (And.intro (HW0.out.1.below (Below.refl w1.heap.size w1).drew) HW0.out.2)
 generalize w1.drew = wd at HD HW ⊢
 refine cont_free 0 15 8 [] [.o (eqV (.pointer (some ⟨c, 0, none⟩))), .b false, .b true, .b true, .u, .u, .u, .b true, .b true, .u, .u, .u, .u, .u, .b true] [false, false, true, true, true, true, true, true, true, true, true, true, true, true, true] (by kernel_rfl) (by kernel_rfl) (by kernel_rfl) (by kernel_rfl) (by kernel_rfl) (by kernel_rfl) (by kernel_rfl) rfl (by kernel_rfl) (by kernel_rfl) ⟨?_, ?_, trivial⟩ ?fin
 ·intro a w hb hoth hdep
  refine step_on (want_none rfl) ?_
  have e0 : a.tmps[0]? = some (.pointer (some ⟨c, 0, none⟩)) := ev_seg hoth 0 (by kernel_rfl) rfl
  exact step_val ((BigFrame.run_move _ rfl w).trans (by rw [ev_of e0])) rfl
 ·intro a w hb hoth hdep
  refine step_on (want_none rfl) ?_
  obtain ⟨v0, e8, hv0⟩ := ev_dep hdep 0 8 (by kernel_rfl) (by kernel_rfl)
  replace hv0 : v0 = .pointer (some ⟨c, 0, none⟩) := hv0
  subst hv0
  refine step_call (f := 33) (args := #[.pointer (some ⟨c, 0, none⟩)]) ?_ ?_
  ·simp [go_sem, e8]
  ·have hcx := wkUp (HD.out.1.below hb)
   rw [HU.out] at hcx
   (with_reducible refine hcx.mono ?_)
   clear hcx
   rintro e w2 ⟨rfl, hw⟩
   subst hw
   exact ⟨_, rfl, rfl, Below.refl _ _⟩
 case fin =>
  intro wz hbz
  iterate 15 (rintro _ rfl)
  refine FinC.nil ?_
  refine cont_end (by kernel_rfl) ?_
  have HZ := Lib.hid (And.intro (HD.out.1.below hbz) (And.intro (HD.out.2.1.below hbz HD.out.2.1.lt) (HD.out.2.2.then_below hbz)))
  clear hbz HD
  clear H1
  go_wp2
  go_ret
  exact ⟨rfl, v, HZ.out.1, HZ.out.2.2⟩
set_option maxRecDepth 100000 in
set_option maxHeartbeats 1600000 in
theorem wkHear_bad (h : WkAt w c v s) (hw : WaysAt w) (hn : 0 ≤ s.node ∧ s.node ≤ 15) (now : Int) (m : LMsg) (hu : s.up = true) (hk : checkM m ≠ 0) : Calls Tryd.prog 29 #[.pointer (some ⟨c, 0, none⟩), .int .i64 now, aggMsg m] w fun e w' => e = .returned (.bool false) ∧ ∃ v', WkAt w' c v' s ∧ Turned (wkS c v) (wkS c v') w w' := by
 have HU := Lib.hid hu
 clear hu
 obtain ⟨ck, hck0⟩ : ∃ ck, checkM m = ck := ⟨_, rfl⟩
 have hck : (ck != 0) = true := by rw [← hck0]; simp [hk]
 have HC := Lib.hid hck0
 clear hk hck0
 have hB : Below w.heap.size w (w.alloc (.cells (boxMsg m) 38)) := (Below.refl _ _).alloc (Nat.le_refl _) _
 have hbm := Blk.new w 38 (boxMsg m)
 have H0 := Lib.hid (And.intro (h.below hB) (And.intro hbm (Turned.of_below (S := wkS c v) hB)))
 have HW0 := Lib.hid (And.intro (hw.below hB) hn)
 clear h hB hbm hw hn
 go_enter Tryd.func29, Tryd.ntmps29
 go_upto_region 1 with fail
 generalize (w.alloc (.cells (boxMsg m) 38)) = w1 at H0 HW0 ⊢
 obtain ⟨b, hb⟩ : ∃ b, w.heap.size = b := ⟨_, rfl⟩
 have H1 : Hid (WkAt w1 c v s ∧ Blk w1 b 38 (boxMsg m) ∧ Turned (wkS c v) (wkS c v) w w1) := Lib.hid (by rw [← hb]; exact H0.out)
 try simp only [hb]
 clear hb H0
 refine Cont.start (by kernel_rfl) ?_
 have HD := Lib.hid (And.intro (H1.out.1.below (Below.refl _ _).drew) (And.intro (H1.out.2.1.below (Below.refl _ _).drew H1.out.2.1.lt) (H1.out.2.2.then_below (Below.refl _ _).drew)))
 have HW := Lib.hid (And.intro (HW0.out.1.below (Below.refl w1.heap.size w1).drew) HW0.out.2)
 generalize w1.drew = wd at HD HW ⊢
 refine cont_free 0 15 8 [] [.o (eqV (.pointer (some ⟨c, 0, none⟩))), .b true, .b false, .b false, .o (eqV (aggMsg m)), .o (eqV (.int .i64 ck)), .b true, .b true, .b true, .u, .u, .u, .u, .u, .b true] [false, false, true, true, false, false, false, true, true, true, true, true, true, true, true] (by kernel_rfl) (by kernel_rfl) (by kernel_rfl) (by kernel_rfl) (by kernel_rfl) (by kernel_rfl) (by kernel_rfl) rfl (by kernel_rfl) (by kernel_rfl) ⟨?_, ?_, ?_, ?_, ?_, trivial⟩ ?fin
 ·intro a w hb hoth hdep
  refine step_on (want_none rfl) ?_
  have e0 : a.tmps[0]? = some (.pointer (some ⟨c, 0, none⟩)) := ev_seg hoth 0 (by kernel_rfl) rfl
  exact step_val ((BigFrame.run_move _ rfl w).trans (by rw [ev_of e0])) rfl
 ·intro a w hb hoth hdep
  refine step_on (want_none rfl) ?_
  obtain ⟨v0, e8, hv0⟩ := ev_dep hdep 0 8 (by kernel_rfl) (by kernel_rfl)
  replace hv0 : v0 = .pointer (some ⟨c, 0, none⟩) := hv0
  subst hv0
  refine step_call (f := 33) (args := #[.pointer (some ⟨c, 0, none⟩)]) ?_ ?_
  ·simp [go_sem, e8]
  ·have hcx := wkUp (HD.out.1.below hb)
   rw [HU.out] at hcx
   (with_reducible refine hcx.mono ?_)
   clear hcx
   rintro e w2 ⟨rfl, hw⟩
   subst hw
   exact ⟨_, rfl, rfl, Below.refl _ _⟩
 ·intro a w hb hoth hdep
  refine step_on ((want_dep hdep 3 11 false rfl (by kernel_rfl) (by kernel_rfl) (fun v h => h)).trans rfl) ?_
  have e5 : a.tmps[5]? = some (.pointer (some ⟨b, 0, none⟩)) := ev_seg hoth 5 (by kernel_rfl) rfl
  obtain ⟨m0, m1, m2, m3, m4, m5, m6, m7, m8, m9, m10, m11⟩ := msgCells (HD.out.2.1.below hb HD.out.2.1.lt)
  refine step_val (x := aggMsg m) ?_ rfl
  simp [go_sem, e5, m0, m1, m2, m3, m4, m5, m6, m7, m8, m9, m10, m11, aggMsg]
 ·intro a w hb hoth hdep
  refine step_on ((want_dep hdep 3 11 false rfl (by kernel_rfl) (by kernel_rfl) (fun v h => h)).trans rfl) ?_
  obtain ⟨v4, e12, hv4⟩ := ev_dep hdep 4 12 (by kernel_rfl) (by kernel_rfl)
  replace hv4 : v4 = aggMsg m := hv4
  subst hv4
  refine step_call (f := 47) (args := #[aggMsg m]) ?_ ?_
  ·simp [go_sem, e12]
  ·have hcx := msgCheck_t m w (HW.out.1.below hb)
   rw [HC.out] at hcx
   (with_reducible refine hcx.mono ?_)
   clear hcx
   rintro e w2 ⟨rfl, hB⟩
   exact ⟨_, rfl, rfl, hB⟩
 ·intro a w hb hoth hdep
  refine step_on ((want_dep hdep 3 11 false rfl (by kernel_rfl) (by kernel_rfl) (fun v h => h)).trans rfl) ?_
  obtain ⟨v5, e13, hv5⟩ := ev_dep hdep 5 13 (by kernel_rfl) (by kernel_rfl)
  replace hv5 : v5 = .int .i64 ck := hv5
  subst hv5
  refine step_val (x := .bool true) ?_ rfl
  simp [go_sem, e13, hck]
 case fin =>
  intro wz hbz
  iterate 15 (rintro _ rfl)
  refine FinC.nil ?_
  refine cont_end (by kernel_rfl) ?_
  have HZ := Lib.hid (And.intro (HD.out.1.below hbz) (And.intro (HD.out.2.1.below hbz HD.out.2.1.lt) (HD.out.2.2.then_below hbz)))
  clear hbz HD
  clear H1
  go_wp2
  go_ret
  exact ⟨rfl, v, HZ.out.1, HZ.out.2.2⟩
set_option maxRecDepth 100000 in
set_option maxHeartbeats 1600000 in
theorem wkHear_far (h : WkAt w c v s) (hw : WaysAt w) (hn : 0 ≤ s.node ∧ s.node ≤ 15) (now : Int) (m : LMsg) (hu : s.up = true) (hk : checkM m = 0) (ht : m.to_ ≠ 100 + s.node) : Calls Tryd.prog 29 #[.pointer (some ⟨c, 0, none⟩), .int .i64 now, aggMsg m] w fun e w' => e = .returned (.bool false) ∧ ∃ v', WkAt w' c v' s ∧ Turned (wkS c v) (wkS c v') w w' := by
 have HU := Lib.hid hu
 clear hu
 obtain ⟨ck, hck0⟩ : ∃ ck, checkM m = ck := ⟨_, rfl⟩
 have hck : (ck != 0) = false := by rw [← hck0]; simp [hk]
 have HC := Lib.hid hck0
 have hto : (m.to_ != 100 + s.node) = true := by simp [ht]
 clear hk hck0 ht
 have hB : Below w.heap.size w (w.alloc (.cells (boxMsg m) 38)) := (Below.refl _ _).alloc (Nat.le_refl _) _
 have hbm := Blk.new w 38 (boxMsg m)
 have H0 := Lib.hid (And.intro (h.below hB) (And.intro hbm (Turned.of_below (S := wkS c v) hB)))
 have HW0 := Lib.hid (And.intro (hw.below hB) hn)
 clear h hB hbm hw hn
 go_enter Tryd.func29, Tryd.ntmps29
 go_upto_region 1 with fail
 generalize (w.alloc (.cells (boxMsg m) 38)) = w1 at H0 HW0 ⊢
 obtain ⟨b, hb⟩ : ∃ b, w.heap.size = b := ⟨_, rfl⟩
 have H1 : Hid (WkAt w1 c v s ∧ Blk w1 b 38 (boxMsg m) ∧ Turned (wkS c v) (wkS c v) w w1) := Lib.hid (by rw [← hb]; exact H0.out)
 try simp only [hb]
 clear hb H0
 refine Cont.start (by kernel_rfl) ?_
 have HD := Lib.hid (And.intro (H1.out.1.below (Below.refl _ _).drew) (And.intro (H1.out.2.1.below (Below.refl _ _).drew H1.out.2.1.lt) (H1.out.2.2.then_below (Below.refl _ _).drew)))
 have HW := Lib.hid (And.intro (HW0.out.1.below (Below.refl w1.heap.size w1).drew) HW0.out.2)
 generalize w1.drew = wd at HD HW ⊢
 refine cont_free 0 15 8 [] [.o (eqV (.pointer (some ⟨c, 0, none⟩))), .b true, .b false, .b false, .o (eqV (aggMsg m)), .o (eqV (.int .i64 ck)), .b false, .b false, .b false, .o (eqV (.pointer (some ⟨b, 2, none⟩))), .o (eqV (.int .i64 m.to_)), .o (eqV (.pointer (some ⟨c, 0, none⟩))), .o (eqV (.int .i64 (100 + s.node))), .b true, .b true] [false, false, true, true, false, false, false, true, true, false, false, false, false, false, true] (by kernel_rfl) (by kernel_rfl) (by kernel_rfl) (by kernel_rfl) (by kernel_rfl) (by kernel_rfl) (by kernel_rfl) rfl (by kernel_rfl) (by kernel_rfl) ⟨?_, ?_, ?_, ?_, ?_, ?_, ?_, ?_, ?_, ?_, trivial⟩ ?fin
 ·intro a w hb hoth hdep
  refine step_on (want_none rfl) ?_
  have e0 : a.tmps[0]? = some (.pointer (some ⟨c, 0, none⟩)) := ev_seg hoth 0 (by kernel_rfl) rfl
  exact step_val ((BigFrame.run_move _ rfl w).trans (by rw [ev_of e0])) rfl
 ·intro a w hb hoth hdep
  refine step_on (want_none rfl) ?_
  obtain ⟨v0, e8, hv0⟩ := ev_dep hdep 0 8 (by kernel_rfl) (by kernel_rfl)
  replace hv0 : v0 = .pointer (some ⟨c, 0, none⟩) := hv0
  subst hv0
  refine step_call (f := 33) (args := #[.pointer (some ⟨c, 0, none⟩)]) ?_ ?_
  ·simp [go_sem, e8]
  ·have hcx := wkUp (HD.out.1.below hb)
   rw [HU.out] at hcx
   (with_reducible refine hcx.mono ?_)
   clear hcx
   rintro e w2 ⟨rfl, hw⟩
   subst hw
   exact ⟨_, rfl, rfl, Below.refl _ _⟩
 ·intro a w hb hoth hdep
  refine step_on ((want_dep hdep 3 11 false rfl (by kernel_rfl) (by kernel_rfl) (fun v h => h)).trans rfl) ?_
  have e5 : a.tmps[5]? = some (.pointer (some ⟨b, 0, none⟩)) := ev_seg hoth 5 (by kernel_rfl) rfl
  obtain ⟨m0, m1, m2, m3, m4, m5, m6, m7, m8, m9, m10, m11⟩ := msgCells (HD.out.2.1.below hb HD.out.2.1.lt)
  refine step_val (x := aggMsg m) ?_ rfl
  simp [go_sem, e5, m0, m1, m2, m3, m4, m5, m6, m7, m8, m9, m10, m11, aggMsg]
 ·intro a w hb hoth hdep
  refine step_on ((want_dep hdep 3 11 false rfl (by kernel_rfl) (by kernel_rfl) (fun v h => h)).trans rfl) ?_
  obtain ⟨v4, e12, hv4⟩ := ev_dep hdep 4 12 (by kernel_rfl) (by kernel_rfl)
  replace hv4 : v4 = aggMsg m := hv4
  subst hv4
  refine step_call (f := 47) (args := #[aggMsg m]) ?_ ?_
  ·simp [go_sem, e12]
  ·have hcx := msgCheck_t m w (HW.out.1.below hb)
   rw [HC.out] at hcx
   (with_reducible refine hcx.mono ?_)
   clear hcx
   rintro e w2 ⟨rfl, hB⟩
   exact ⟨_, rfl, rfl, hB⟩
 ·intro a w hb hoth hdep
  refine step_on ((want_dep hdep 3 11 false rfl (by kernel_rfl) (by kernel_rfl) (fun v h => h)).trans rfl) ?_
  obtain ⟨v5, e13, hv5⟩ := ev_dep hdep 5 13 (by kernel_rfl) (by kernel_rfl)
  replace hv5 : v5 = .int .i64 ck := hv5
  subst hv5
  refine step_val (x := .bool false) ?_ rfl
  simp [go_sem, e13, hck]
 ·intro a w hb hoth hdep
  refine step_on ((want_dep hdep 8 16 false rfl (by kernel_rfl) (by kernel_rfl) (fun v h => h)).trans rfl) ?_
  have e5 : a.tmps[5]? = some (.pointer (some ⟨b, 0, none⟩)) := ev_seg hoth 5 (by kernel_rfl) rfl
  refine step_val (x := .pointer (some ⟨b, 2, none⟩)) ?_ rfl
  simp [go_sem, e5]
 ·intro a w hb hoth hdep
  refine step_on ((want_dep hdep 8 16 false rfl (by kernel_rfl) (by kernel_rfl) (fun v h => h)).trans rfl) ?_
  obtain ⟨v9, e17, hv9⟩ := ev_dep hdep 9 17 (by kernel_rfl) (by kernel_rfl)
  replace hv9 : v9 = .pointer (some ⟨b, 2, none⟩) := hv9
  subst hv9
  have m2 : w.cell? ⟨b, 2, none⟩ = some (.int .i64 m.to_) := ((HD.out.2.1.below hb HD.out.2.1.lt).cell 2).trans rfl
  refine step_val (x := .int .i64 m.to_) ?_ rfl
  simp [go_sem, e17, m2]
 ·intro a w hb hoth hdep
  refine step_on ((want_dep hdep 8 16 false rfl (by kernel_rfl) (by kernel_rfl) (fun v h => h)).trans rfl) ?_
  have e0 : a.tmps[0]? = some (.pointer (some ⟨c, 0, none⟩)) := ev_seg hoth 0 (by kernel_rfl) rfl
  exact step_val ((BigFrame.run_move _ rfl w).trans (by rw [ev_of e0])) rfl
 ·intro a w hb hoth hdep
  refine step_on ((want_dep hdep 8 16 false rfl (by kernel_rfl) (by kernel_rfl) (fun v h => h)).trans rfl) ?_
  obtain ⟨v11, e19, hv11⟩ := ev_dep hdep 11 19 (by kernel_rfl) (by kernel_rfl)
  replace hv11 : v11 = .pointer (some ⟨c, 0, none⟩) := hv11
  subst hv11
  refine step_call (f := 63) (args := #[.pointer (some ⟨c, 0, none⟩)]) ?_ ?_
  ·simp [go_sem, e19]
  ·have hcx := wkPlace (HD.out.1.below hb) HW.out.2
   (with_reducible refine hcx.mono ?_)
   clear hcx
   rintro e w2 ⟨rfl, hw⟩
   subst hw
   exact ⟨_, rfl, rfl, Below.refl _ _⟩
 ·intro a w hb hoth hdep
  refine step_on ((want_dep hdep 8 16 false rfl (by kernel_rfl) (by kernel_rfl) (fun v h => h)).trans rfl) ?_
  obtain ⟨v10, e18, hv10⟩ := ev_dep hdep 10 18 (by kernel_rfl) (by kernel_rfl)
  replace hv10 : v10 = .int .i64 m.to_ := hv10
  subst hv10
  obtain ⟨v12, e20, hv12⟩ := ev_dep hdep 12 20 (by kernel_rfl) (by kernel_rfl)
  replace hv12 : v12 = .int .i64 (100 + s.node) := hv12
  subst hv12
  refine step_val (x := .bool true) ?_ rfl
  simp [go_sem, e18, e20, hto]
 case fin =>
  intro wz hbz
  iterate 15 (rintro _ rfl)
  refine FinC.nil ?_
  refine cont_end (by kernel_rfl) ?_
  have HZ := Lib.hid (And.intro (HD.out.1.below hbz) (And.intro (HD.out.2.1.below hbz HD.out.2.1.lt) (HD.out.2.2.then_below hbz)))
  clear hbz HD
  clear H1
  go_wp2
  go_ret
  exact ⟨rfl, v, HZ.out.1, HZ.out.2.2⟩
set_option maxRecDepth 100000 in
set_option maxHeartbeats 1600000 in
theorem wkHear_other (h : WkAt w c v s) (hw : WaysAt w) (hn : 0 ≤ s.node ∧ s.node ≤ 15) (now : Int) (m : LMsg) (hu : s.up = true) (hk : checkM m = 0) (ht : m.to_ = 100 + s.node) (hk2 : m.kind ≠ 2) (hk3 : m.kind ≠ 3) (hk4 : m.kind ≠ 4) : Calls Tryd.prog 29 #[.pointer (some ⟨c, 0, none⟩), .int .i64 now, aggMsg m] w fun e w' => e = .returned (.bool false) ∧ ∃ v', WkAt w' c v' s ∧ Turned (wkS c v) (wkS c v') w w' := by
 have HU := Lib.hid hu
 clear hu
 obtain ⟨ck, hck0⟩ : ∃ ck, checkM m = ck := ⟨_, rfl⟩
 have hck : (ck != 0) = false := by rw [← hck0]; simp [hk]
 have HC := Lib.hid hck0
 have hto : (m.to_ != 100 + s.node) = false := by simp [ht]
 clear hk hck0 ht
 have k2 : (m.kind == 2) = false := by simp [hk2]
 have k3 : (m.kind == 3) = false := by simp [hk3]
 have k4 : (m.kind == 4) = false := by simp [hk4]
 clear hk2 hk3 hk4
 have hB : Below w.heap.size w (w.alloc (.cells (boxMsg m) 38)) := (Below.refl _ _).alloc (Nat.le_refl _) _
 have hbm := Blk.new w 38 (boxMsg m)
 have H0 := Lib.hid (And.intro (h.below hB) (And.intro hbm (Turned.of_below (S := wkS c v) hB)))
 have HW0 := Lib.hid (And.intro (hw.below hB) hn)
 clear h hB hbm hw hn
 go_enter Tryd.func29, Tryd.ntmps29
 go_upto_region 1 with fail
 generalize (w.alloc (.cells (boxMsg m) 38)) = w1 at H0 HW0 ⊢
 obtain ⟨b, hb⟩ : ∃ b, w.heap.size = b := ⟨_, rfl⟩
 have H1 : Hid (WkAt w1 c v s ∧ Blk w1 b 38 (boxMsg m) ∧ Turned (wkS c v) (wkS c v) w w1) := Lib.hid (by rw [← hb]; exact H0.out)
 try simp only [hb]
 clear hb H0
 refine Cont.start (by kernel_rfl) ?_
 have HD := Lib.hid (And.intro (H1.out.1.below (Below.refl _ _).drew) (And.intro (H1.out.2.1.below (Below.refl _ _).drew H1.out.2.1.lt) (H1.out.2.2.then_below (Below.refl _ _).drew)))
 have HW := Lib.hid (And.intro (HW0.out.1.below (Below.refl w1.heap.size w1).drew) HW0.out.2)
 generalize w1.drew = wd at HD HW ⊢
 refine cont_free 0 15 8 [] [.o (eqV (.pointer (some ⟨c, 0, none⟩))), .b true, .b false, .b false, .o (eqV (aggMsg m)), .o (eqV (.int .i64 ck)), .b false, .b false, .b false, .o (eqV (.pointer (some ⟨b, 2, none⟩))), .o (eqV (.int .i64 m.to_)), .o (eqV (.pointer (some ⟨c, 0, none⟩))), .o (eqV (.int .i64 (100 + s.node))), .b false, .b false] [false, false, true, true, false, false, false, true, true, false, false, false, false, false, true] (by kernel_rfl) (by kernel_rfl) (by kernel_rfl) (by kernel_rfl) (by kernel_rfl) (by kernel_rfl) (by kernel_rfl) rfl (by kernel_rfl) (by kernel_rfl) ⟨?_, ?_, ?_, ?_, ?_, ?_, ?_, ?_, ?_, ?_, trivial⟩ ?fin
 ·intro a w hb hoth hdep
  refine step_on (want_none rfl) ?_
  have e0 : a.tmps[0]? = some (.pointer (some ⟨c, 0, none⟩)) := ev_seg hoth 0 (by kernel_rfl) rfl
  exact step_val ((BigFrame.run_move _ rfl w).trans (by rw [ev_of e0])) rfl
 ·intro a w hb hoth hdep
  refine step_on (want_none rfl) ?_
  obtain ⟨v0, e8, hv0⟩ := ev_dep hdep 0 8 (by kernel_rfl) (by kernel_rfl)
  replace hv0 : v0 = .pointer (some ⟨c, 0, none⟩) := hv0
  subst hv0
  refine step_call (f := 33) (args := #[.pointer (some ⟨c, 0, none⟩)]) ?_ ?_
  ·simp [go_sem, e8]
  ·have hcx := wkUp (HD.out.1.below hb)
   rw [HU.out] at hcx
   (with_reducible refine hcx.mono ?_)
   clear hcx
   rintro e w2 ⟨rfl, hw⟩
   subst hw
   exact ⟨_, rfl, rfl, Below.refl _ _⟩
 ·intro a w hb hoth hdep
  refine step_on ((want_dep hdep 3 11 false rfl (by kernel_rfl) (by kernel_rfl) (fun v h => h)).trans rfl) ?_
  have e5 : a.tmps[5]? = some (.pointer (some ⟨b, 0, none⟩)) := ev_seg hoth 5 (by kernel_rfl) rfl
  obtain ⟨m0, m1, m2, m3, m4, m5, m6, m7, m8, m9, m10, m11⟩ := msgCells (HD.out.2.1.below hb HD.out.2.1.lt)
  refine step_val (x := aggMsg m) ?_ rfl
  simp [go_sem, e5, m0, m1, m2, m3, m4, m5, m6, m7, m8, m9, m10, m11, aggMsg]
 ·intro a w hb hoth hdep
  refine step_on ((want_dep hdep 3 11 false rfl (by kernel_rfl) (by kernel_rfl) (fun v h => h)).trans rfl) ?_
  obtain ⟨v4, e12, hv4⟩ := ev_dep hdep 4 12 (by kernel_rfl) (by kernel_rfl)
  replace hv4 : v4 = aggMsg m := hv4
  subst hv4
  refine step_call (f := 47) (args := #[aggMsg m]) ?_ ?_
  ·simp [go_sem, e12]
  ·have hcx := msgCheck_t m w (HW.out.1.below hb)
   rw [HC.out] at hcx
   (with_reducible refine hcx.mono ?_)
   clear hcx
   rintro e w2 ⟨rfl, hB⟩
   exact ⟨_, rfl, rfl, hB⟩
 ·intro a w hb hoth hdep
  refine step_on ((want_dep hdep 3 11 false rfl (by kernel_rfl) (by kernel_rfl) (fun v h => h)).trans rfl) ?_
  obtain ⟨v5, e13, hv5⟩ := ev_dep hdep 5 13 (by kernel_rfl) (by kernel_rfl)
  replace hv5 : v5 = .int .i64 ck := hv5
  subst hv5
  refine step_val (x := .bool false) ?_ rfl
  simp [go_sem, e13, hck]
 ·intro a w hb hoth hdep
  refine step_on ((want_dep hdep 8 16 false rfl (by kernel_rfl) (by kernel_rfl) (fun v h => h)).trans rfl) ?_
  have e5 : a.tmps[5]? = some (.pointer (some ⟨b, 0, none⟩)) := ev_seg hoth 5 (by kernel_rfl) rfl
  refine step_val (x := .pointer (some ⟨b, 2, none⟩)) ?_ rfl
  simp [go_sem, e5]
 ·intro a w hb hoth hdep
  refine step_on ((want_dep hdep 8 16 false rfl (by kernel_rfl) (by kernel_rfl) (fun v h => h)).trans rfl) ?_
  obtain ⟨v9, e17, hv9⟩ := ev_dep hdep 9 17 (by kernel_rfl) (by kernel_rfl)
  replace hv9 : v9 = .pointer (some ⟨b, 2, none⟩) := hv9
  subst hv9
  have m2 : w.cell? ⟨b, 2, none⟩ = some (.int .i64 m.to_) := ((HD.out.2.1.below hb HD.out.2.1.lt).cell 2).trans rfl
  refine step_val (x := .int .i64 m.to_) ?_ rfl
  simp [go_sem, e17, m2]
 ·intro a w hb hoth hdep
  refine step_on ((want_dep hdep 8 16 false rfl (by kernel_rfl) (by kernel_rfl) (fun v h => h)).trans rfl) ?_
  have e0 : a.tmps[0]? = some (.pointer (some ⟨c, 0, none⟩)) := ev_seg hoth 0 (by kernel_rfl) rfl
  exact step_val ((BigFrame.run_move _ rfl w).trans (by rw [ev_of e0])) rfl
 ·intro a w hb hoth hdep
  refine step_on ((want_dep hdep 8 16 false rfl (by kernel_rfl) (by kernel_rfl) (fun v h => h)).trans rfl) ?_
  obtain ⟨v11, e19, hv11⟩ := ev_dep hdep 11 19 (by kernel_rfl) (by kernel_rfl)
  replace hv11 : v11 = .pointer (some ⟨c, 0, none⟩) := hv11
  subst hv11
  refine step_call (f := 63) (args := #[.pointer (some ⟨c, 0, none⟩)]) ?_ ?_
  ·simp [go_sem, e19]
  ·have hcx := wkPlace (HD.out.1.below hb) HW.out.2
   (with_reducible refine hcx.mono ?_)
   clear hcx
   rintro e w2 ⟨rfl, hw⟩
   subst hw
   exact ⟨_, rfl, rfl, Below.refl _ _⟩
 ·intro a w hb hoth hdep
  refine step_on ((want_dep hdep 8 16 false rfl (by kernel_rfl) (by kernel_rfl) (fun v h => h)).trans rfl) ?_
  obtain ⟨v10, e18, hv10⟩ := ev_dep hdep 10 18 (by kernel_rfl) (by kernel_rfl)
  replace hv10 : v10 = .int .i64 m.to_ := hv10
  subst hv10
  obtain ⟨v12, e20, hv12⟩ := ev_dep hdep 12 20 (by kernel_rfl) (by kernel_rfl)
  replace hv12 : v12 = .int .i64 (100 + s.node) := hv12
  subst hv12
  refine step_val (x := .bool false) ?_ rfl
  simp [go_sem, e18, e20, hto]
 case fin =>
  intro wz hbz
  iterate 15 (rintro _ rfl)
  refine FinC.nil ?_
  refine cont_end (by kernel_rfl) ?_
  have HZ := Lib.hid (And.intro (HD.out.1.below hbz) (And.intro (HD.out.2.1.below hbz HD.out.2.1.lt) (HD.out.2.2.then_below hbz)))
  clear hbz HD
  clear H1
  have m0 : wz.cell? ⟨b, 0, none⟩ = some (.int .i64 m.kind) := (HZ.out.2.1.cell 0).trans rfl
  have ml := HZ.out.2.1.lt
  go_wp2
  go_ret
  exact ⟨rfl, v, HZ.out.1, HZ.out.2.2⟩
set_option maxRecDepth 100000 in
set_option maxHeartbeats 6400000 in
theorem wkHear_2np (h : WkAt w c v s) (hw : WaysAt w) (hn : 0 ≤ s.node ∧ s.node ≤ 15) (now : Int) (m : LMsg) (hu : s.up = true) (hk : checkM m = 0) (ht : m.to_ = 100 + s.node) (hkd : m.kind = 2) (s1 : WS) (hs1 : s.pass m.epoch = s1) (hp : passB s.epoch m.epoch = false) : Calls Tryd.prog 29 #[.pointer (some ⟨c, 0, none⟩), .int .i64 now, aggMsg m] w fun e w' => e = .returned (.bool false) ∧ ∃ v', WkAt w' c v' s1 ∧ Turned (wkS c v) (wkS c v') w w' := by
 have HU := Lib.hid hu
 clear hu
 obtain ⟨ck, hck0⟩ : ∃ ck, checkM m = ck := ⟨_, rfl⟩
 have hck : (ck != 0) = false := by rw [← hck0]; simp [hk]
 have HC := Lib.hid hck0
 have hto : (m.to_ != 100 + s.node) = false := by simp [ht]
 clear hk hck0 ht
 have k2 : (m.kind == 2) = true := by simp [hkd]
 have HPP := Lib.hid (And.intro hp hs1)
 clear hp hs1 hkd
 have hmf : ∀ (fn : Fn) (first cap : Array Value) (w : World), (Instr.makeFunc fn first cap).run Tryd.prog w = .ok (.func fn first cap) w := fun _ _ _ _ => rfl
 have hB : Below w.heap.size w (w.alloc (.cells (boxMsg m) 38)) := (Below.refl _ _).alloc (Nat.le_refl _) _
 have hbm := Blk.new w 38 (boxMsg m)
 have H0 := Lib.hid (And.intro (h.below hB) (And.intro hbm (Turned.of_below (S := wkS c v) hB)))
 have HW0 := Lib.hid (And.intro (hw.below hB) hn)
 clear h hB hbm hw hn
 go_enter Tryd.func29, Tryd.ntmps29
 go_upto_region 1 with fail
 generalize (w.alloc (.cells (boxMsg m) 38)) = w1 at H0 HW0 ⊢
 obtain ⟨b, hb⟩ : ∃ b, w.heap.size = b := ⟨_, rfl⟩
 have H1 : Hid (WkAt w1 c v s ∧ Blk w1 b 38 (boxMsg m) ∧ Turned (wkS c v) (wkS c v) w w1) := Lib.hid (by rw [← hb]; exact H0.out)
 try simp only [hb]
 clear hb H0
 refine Cont.start (by kernel_rfl) ?_
 have HD := Lib.hid (And.intro (H1.out.1.below (Below.refl _ _).drew) (And.intro (H1.out.2.1.below (Below.refl _ _).drew H1.out.2.1.lt) (H1.out.2.2.then_below (Below.refl _ _).drew)))
 have HW := Lib.hid (And.intro (HW0.out.1.below (Below.refl w1.heap.size w1).drew) HW0.out.2)
 generalize w1.drew = wd at HD HW ⊢
 refine cont_free 0 15 8 [] [.o (eqV (.pointer (some ⟨c, 0, none⟩))), .b true, .b false, .b false, .o (eqV (aggMsg m)), .o (eqV (.int .i64 ck)), .b false, .b false, .b false, .o (eqV (.pointer (some ⟨b, 2, none⟩))), .o (eqV (.int .i64 m.to_)), .o (eqV (.pointer (some ⟨c, 0, none⟩))), .o (eqV (.int .i64 (100 + s.node))), .b false, .b false] [false, false, true, true, false, false, false, true, true, false, false, false, false, false, true] (by kernel_rfl) (by kernel_rfl) (by kernel_rfl) (by kernel_rfl) (by kernel_rfl) (by kernel_rfl) (by kernel_rfl) rfl (by kernel_rfl) (by kernel_rfl) ⟨?_, ?_, ?_, ?_, ?_, ?_, ?_, ?_, ?_, ?_, trivial⟩ ?fin
 ·intro a w hb hoth hdep
  refine step_on (want_none rfl) ?_
  have e0 : a.tmps[0]? = some (.pointer (some ⟨c, 0, none⟩)) := ev_seg hoth 0 (by kernel_rfl) rfl
  exact step_val ((BigFrame.run_move _ rfl w).trans (by rw [ev_of e0])) rfl
 ·intro a w hb hoth hdep
  refine step_on (want_none rfl) ?_
  obtain ⟨v0, e8, hv0⟩ := ev_dep hdep 0 8 (by kernel_rfl) (by kernel_rfl)
  replace hv0 : v0 = .pointer (some ⟨c, 0, none⟩) := hv0
  subst hv0
  refine step_call (f := 33) (args := #[.pointer (some ⟨c, 0, none⟩)]) ?_ ?_
  ·simp [go_sem, e8]
  ·have hcx := wkUp (HD.out.1.below hb)
   rw [HU.out] at hcx
   (with_reducible refine hcx.mono ?_)
   clear hcx
   rintro e w2 ⟨rfl, hw⟩
   subst hw
   exact ⟨_, rfl, rfl, Below.refl _ _⟩
 ·intro a w hb hoth hdep
  refine step_on ((want_dep hdep 3 11 false rfl (by kernel_rfl) (by kernel_rfl) (fun v h => h)).trans rfl) ?_
  have e5 : a.tmps[5]? = some (.pointer (some ⟨b, 0, none⟩)) := ev_seg hoth 5 (by kernel_rfl) rfl
  obtain ⟨m0, m1, m2, m3, m4, m5, m6, m7, m8, m9, m10, m11⟩ := msgCells (HD.out.2.1.below hb HD.out.2.1.lt)
  refine step_val (x := aggMsg m) ?_ rfl
  simp [go_sem, e5, m0, m1, m2, m3, m4, m5, m6, m7, m8, m9, m10, m11, aggMsg]
 ·intro a w hb hoth hdep
  refine step_on ((want_dep hdep 3 11 false rfl (by kernel_rfl) (by kernel_rfl) (fun v h => h)).trans rfl) ?_
  obtain ⟨v4, e12, hv4⟩ := ev_dep hdep 4 12 (by kernel_rfl) (by kernel_rfl)
  replace hv4 : v4 = aggMsg m := hv4
  subst hv4
  refine step_call (f := 47) (args := #[aggMsg m]) ?_ ?_
  ·simp [go_sem, e12]
  ·have hcx := msgCheck_t m w (HW.out.1.below hb)
   rw [HC.out] at hcx
   (with_reducible refine hcx.mono ?_)
   clear hcx
   rintro e w2 ⟨rfl, hB⟩
   exact ⟨_, rfl, rfl, hB⟩
 ·intro a w hb hoth hdep
  refine step_on ((want_dep hdep 3 11 false rfl (by kernel_rfl) (by kernel_rfl) (fun v h => h)).trans rfl) ?_
  obtain ⟨v5, e13, hv5⟩ := ev_dep hdep 5 13 (by kernel_rfl) (by kernel_rfl)
  replace hv5 : v5 = .int .i64 ck := hv5
  subst hv5
  refine step_val (x := .bool false) ?_ rfl
  simp [go_sem, e13, hck]
 ·intro a w hb hoth hdep
  refine step_on ((want_dep hdep 8 16 false rfl (by kernel_rfl) (by kernel_rfl) (fun v h => h)).trans rfl) ?_
  have e5 : a.tmps[5]? = some (.pointer (some ⟨b, 0, none⟩)) := ev_seg hoth 5 (by kernel_rfl) rfl
  refine step_val (x := .pointer (some ⟨b, 2, none⟩)) ?_ rfl
  simp [go_sem, e5]
 ·intro a w hb hoth hdep
  refine step_on ((want_dep hdep 8 16 false rfl (by kernel_rfl) (by kernel_rfl) (fun v h => h)).trans rfl) ?_
  obtain ⟨v9, e17, hv9⟩ := ev_dep hdep 9 17 (by kernel_rfl) (by kernel_rfl)
  replace hv9 : v9 = .pointer (some ⟨b, 2, none⟩) := hv9
  subst hv9
  have m2 : w.cell? ⟨b, 2, none⟩ = some (.int .i64 m.to_) := ((HD.out.2.1.below hb HD.out.2.1.lt).cell 2).trans rfl
  refine step_val (x := .int .i64 m.to_) ?_ rfl
  simp [go_sem, e17, m2]
 ·intro a w hb hoth hdep
  refine step_on ((want_dep hdep 8 16 false rfl (by kernel_rfl) (by kernel_rfl) (fun v h => h)).trans rfl) ?_
  have e0 : a.tmps[0]? = some (.pointer (some ⟨c, 0, none⟩)) := ev_seg hoth 0 (by kernel_rfl) rfl
  exact step_val ((BigFrame.run_move _ rfl w).trans (by rw [ev_of e0])) rfl
 ·intro a w hb hoth hdep
  refine step_on ((want_dep hdep 8 16 false rfl (by kernel_rfl) (by kernel_rfl) (fun v h => h)).trans rfl) ?_
  obtain ⟨v11, e19, hv11⟩ := ev_dep hdep 11 19 (by kernel_rfl) (by kernel_rfl)
  replace hv11 : v11 = .pointer (some ⟨c, 0, none⟩) := hv11
  subst hv11
  refine step_call (f := 63) (args := #[.pointer (some ⟨c, 0, none⟩)]) ?_ ?_
  ·simp [go_sem, e19]
  ·have hcx := wkPlace (HD.out.1.below hb) HW.out.2
   (with_reducible refine hcx.mono ?_)
   clear hcx
   rintro e w2 ⟨rfl, hw⟩
   subst hw
   exact ⟨_, rfl, rfl, Below.refl _ _⟩
 ·intro a w hb hoth hdep
  refine step_on ((want_dep hdep 8 16 false rfl (by kernel_rfl) (by kernel_rfl) (fun v h => h)).trans rfl) ?_
  obtain ⟨v10, e18, hv10⟩ := ev_dep hdep 10 18 (by kernel_rfl) (by kernel_rfl)
  replace hv10 : v10 = .int .i64 m.to_ := hv10
  subst hv10
  obtain ⟨v12, e20, hv12⟩ := ev_dep hdep 12 20 (by kernel_rfl) (by kernel_rfl)
  replace hv12 : v12 = .int .i64 (100 + s.node) := hv12
  subst hv12
  refine step_val (x := .bool false) ?_ rfl
  simp [go_sem, e18, e20, hto]
 case fin =>
  intro wz hbz
  iterate 15 (rintro _ rfl)
  refine FinC.nil ?_
  refine cont_end (by kernel_rfl) ?_
  have HZ := Lib.hid (And.intro (HD.out.1.below hbz) (And.intro (HD.out.2.1.below hbz HD.out.2.1.lt) (HD.out.2.2.then_below hbz)))
  clear hbz HD
  clear H1
  have m0 : wz.cell? ⟨b, 0, none⟩ = some (.int .i64 m.kind) := (HZ.out.2.1.cell 0).trans rfl
  have ml := HZ.out.2.1.lt
  go_upto_region 12 with fail
  clear m0 ml hmf
  refine Cont.start (by kernel_rfl) ?_
  have HD := Lib.hid (And.intro (HZ.out.1.below (Below.refl _ _).drew) (And.intro (HZ.out.2.1.below (Below.refl _ _).drew HZ.out.2.1.lt) (HZ.out.2.2.then_below (Below.refl _ _).drew)))
  generalize wz.drew = wd at HD ⊢
  refine cont_free 0 5 37 [] [.o (eqV (.pointer (some ⟨c, 0, none⟩))), .o (eqV (.pointer (some ⟨c, 0, none⟩))), .o (eqV (.pointer (some ⟨c, 0, none⟩))), .o (eqV (.pointer (some ⟨b, 3, none⟩))), .o (eqV (.int .i64 m.epoch))] [false, false, false, false, false] (by kernel_rfl) (by kernel_rfl) (by kernel_rfl) (by kernel_rfl) (by kernel_rfl) (by kernel_rfl) (by kernel_rfl) rfl (by kernel_rfl) (by kernel_rfl) ⟨?_, ?_, ?_, ?_, ?_, trivial⟩ ?fin
  ·intro a w hb hoth hdep
   refine step_on (want_none rfl) ?_
   have e0 : a.tmps[0]? = some (.pointer (some ⟨c, 0, none⟩)) := ev_seg hoth 0 (by kernel_rfl) rfl
   exact step_val ((BigFrame.run_move _ rfl w).trans (by rw [ev_of e0])) rfl
  ·intro a w hb hoth hdep
   refine step_on (want_none rfl) ?_
   obtain ⟨v0, e37, hv0⟩ := ev_dep hdep 0 37 (by kernel_rfl) (by kernel_rfl)
   replace hv0 : v0 = .pointer (some ⟨c, 0, none⟩) := hv0
   subst hv0
   refine step_val (x := .pointer (some ⟨c, 0, none⟩)) ?_ rfl
   simp [go_sem, e37]
  ·intro a w hb hoth hdep
   refine step_on (want_none rfl) ?_
   obtain ⟨v1, e38, hv1⟩ := ev_dep hdep 1 38 (by kernel_rfl) (by kernel_rfl)
   replace hv1 : v1 = .pointer (some ⟨c, 0, none⟩) := hv1
   subst hv1
   refine step_val (x := .pointer (some ⟨c, 0, none⟩)) ?_ rfl
   simp [go_sem, e38]
  ·intro a w hb hoth hdep
   refine step_on (want_none rfl) ?_
   have e5 : a.tmps[5]? = some (.pointer (some ⟨b, 0, none⟩)) := ev_seg hoth 5 (by kernel_rfl) rfl
   refine step_val (x := .pointer (some ⟨b, 3, none⟩)) ?_ rfl
   simp [go_sem, e5]
  ·intro a w hb hoth hdep
   refine step_on (want_none rfl) ?_
   obtain ⟨v3, e40, hv3⟩ := ev_dep hdep 3 40 (by kernel_rfl) (by kernel_rfl)
   replace hv3 : v3 = .pointer (some ⟨b, 3, none⟩) := hv3
   subst hv3
   have m3 : w.cell? ⟨b, 3, none⟩ = some (.int .i64 m.epoch) := ((HD.out.2.1.below hb HD.out.2.1.lt).cell 3).trans rfl
   refine step_val (x := .int .i64 m.epoch) ?_ rfl
   simp [go_sem, e40, m3]
  case fin =>
   intro wy hby
   iterate 5 (rintro _ rfl)
   refine FinC.nil ?_
   have HV := Lib.hid (And.intro (HD.out.1.below hby) (And.intro (HD.out.2.1.below hby HD.out.2.1.lt) (HD.out.2.2.then_below hby)))
   clear hby HD
   refine cont_line 5 2 (by kernel_rfl) (by kernel_rfl) (by kernel_rfl) ?_
   have hcx := wkPass HV.out.1 m.epoch
   rw [HPP.out.1, HPP.out.2] at hcx
   go_wp2_with fail
   (with_reducible refine hcx.mono ?_)
   clear hcx
   rintro rr w3 ⟨rfl, v3, hw3, ht3⟩
   have HP := Lib.hid (And.intro hw3 (And.intro (HV.out.2.1.kept ht3.kept (HV.out.1.not_blk HV.out.2.1 (by decide))) (HV.out.2.2.trans ht3)))
   clear hw3 ht3
   go_wp2_with fail
   show Cont _ _ _ _ _ _
   refine cont_free2 7 22 44 [.any, .any, .any, .any, .any, .any, .b false] [.u, .u, .u, .u, .u, .u, .u, .b false, .b false, .u, .u, .u, .u, .b false] [6] [.b false] [true, true, true, true, true, true, true, false, true, true, true, true, true, true, true] (by kernel_rfl) (by kernel_rfl) (by kernel_rfl) (by kernel_rfl) (by kernel_rfl) (by kernel_rfl) (by kernel_rfl) rfl (by kernel_rfl) (by kernel_rfl) ⟨?_, trivial⟩ ?fin
   ·intro a w hb hoth hdep
    refine step_on (want_none rfl) ?_
    have e43 : a.tmps[43]? = some (.bool false) := ev_seg hoth 43 (by kernel_rfl) rfl
    obtain ⟨v13, e50, hv13⟩ := ev_dep hdep 13 50 (by kernel_rfl) (by kernel_rfl)
    replace hv13 : v13 = undef := hv13
    subst hv13
    refine step_val (x := .bool false) ?_ rfl
    simp [go_sem, e43, e50]
   case fin =>
    intro wq hbq
    iterate 14 (rintro _ rfl)
    refine FinC.nil ?_
    iterate 1 (rintro _ rfl)
    refine FinL.nil ?_
    have HQ := Lib.hid (And.intro (HP.out.1.below hbq) (And.intro (HP.out.2.1.below hbq HP.out.2.1.lt) (HP.out.2.2.then_below hbq)))
    clear hbq
    refine cont_end (by kernel_rfl) ?_
    go_wp2
    go_ret
    exact ⟨rfl, v3, HQ.out.1, HQ.out.2.2⟩
set_option maxRecDepth 100000 in
set_option maxHeartbeats 6400000 in
theorem wkHear_2ni (h : WkAt w c v s) (hw : WaysAt w) (hn : 0 ≤ s.node ∧ s.node ≤ 15) (now : Int) (m : LMsg) (hu : s.up = true) (hk : checkM m = 0) (ht : m.to_ = 100 + s.node) (hkd : m.kind = 2) (s1 : WS) (hs1 : s.pass m.epoch = s1) (hp : passB s.epoch m.epoch = true) (hi : m.inc ≠ s1.inc) : Calls Tryd.prog 29 #[.pointer (some ⟨c, 0, none⟩), .int .i64 now, aggMsg m] w fun e w' => e = .returned (.bool false) ∧ ∃ v', WkAt w' c v' s1 ∧ Turned (wkS c v) (wkS c v') w w' := by
 have HU := Lib.hid hu
 clear hu
 obtain ⟨ck, hck0⟩ : ∃ ck, checkM m = ck := ⟨_, rfl⟩
 have hck : (ck != 0) = false := by rw [← hck0]; simp [hk]
 have HC := Lib.hid hck0
 have hto : (m.to_ != 100 + s.node) = false := by simp [ht]
 clear hk hck0 ht
 have k2 : (m.kind == 2) = true := by simp [hkd]
 have HPP := Lib.hid (And.intro hp hs1)
 clear hp hs1 hkd
 have hinc : (m.inc == s1.inc) = false := by simp [hi]
 clear hi
 have hmf : ∀ (fn : Fn) (first cap : Array Value) (w : World), (Instr.makeFunc fn first cap).run Tryd.prog w = .ok (.func fn first cap) w := fun _ _ _ _ => rfl
 have hB : Below w.heap.size w (w.alloc (.cells (boxMsg m) 38)) := (Below.refl _ _).alloc (Nat.le_refl _) _
 have hbm := Blk.new w 38 (boxMsg m)
 have H0 := Lib.hid (And.intro (h.below hB) (And.intro hbm (Turned.of_below (S := wkS c v) hB)))
 have HW0 := Lib.hid (And.intro (hw.below hB) hn)
 clear h hB hbm hw hn
 go_enter Tryd.func29, Tryd.ntmps29
 go_upto_region 1 with fail
 generalize (w.alloc (.cells (boxMsg m) 38)) = w1 at H0 HW0 ⊢
 obtain ⟨b, hb⟩ : ∃ b, w.heap.size = b := ⟨_, rfl⟩
 have H1 : Hid (WkAt w1 c v s ∧ Blk w1 b 38 (boxMsg m) ∧ Turned (wkS c v) (wkS c v) w w1) := Lib.hid (by rw [← hb]; exact H0.out)
 try simp only [hb]
 clear hb H0
 refine Cont.start (by kernel_rfl) ?_
 have HD := Lib.hid (And.intro (H1.out.1.below (Below.refl _ _).drew) (And.intro (H1.out.2.1.below (Below.refl _ _).drew H1.out.2.1.lt) (H1.out.2.2.then_below (Below.refl _ _).drew)))
 have HW := Lib.hid (And.intro (HW0.out.1.below (Below.refl w1.heap.size w1).drew) HW0.out.2)
 generalize w1.drew = wd at HD HW ⊢
 refine cont_free 0 15 8 [] [.o (eqV (.pointer (some ⟨c, 0, none⟩))), .b true, .b false, .b false, .o (eqV (aggMsg m)), .o (eqV (.int .i64 ck)), .b false, .b false, .b false, .o (eqV (.pointer (some ⟨b, 2, none⟩))), .o (eqV (.int .i64 m.to_)), .o (eqV (.pointer (some ⟨c, 0, none⟩))), .o (eqV (.int .i64 (100 + s.node))), .b false, .b false] [false, false, true, true, false, false, false, true, true, false, false, false, false, false, true] (by kernel_rfl) (by kernel_rfl) (by kernel_rfl) (by kernel_rfl) (by kernel_rfl) (by kernel_rfl) (by kernel_rfl) rfl (by kernel_rfl) (by kernel_rfl) ⟨?_, ?_, ?_, ?_, ?_, ?_, ?_, ?_, ?_, ?_, trivial⟩ ?fin
 ·intro a w hb hoth hdep
  refine step_on (want_none rfl) ?_
  have e0 : a.tmps[0]? = some (.pointer (some ⟨c, 0, none⟩)) := ev_seg hoth 0 (by kernel_rfl) rfl
  exact step_val ((BigFrame.run_move _ rfl w).trans (by rw [ev_of e0])) rfl
 ·intro a w hb hoth hdep
  refine step_on (want_none rfl) ?_
  obtain ⟨v0, e8, hv0⟩ := ev_dep hdep 0 8 (by kernel_rfl) (by kernel_rfl)
  replace hv0 : v0 = .pointer (some ⟨c, 0, none⟩) := hv0
  subst hv0
  refine step_call (f := 33) (args := #[.pointer (some ⟨c, 0, none⟩)]) ?_ ?_
  ·simp [go_sem, e8]
  ·have hcx := wkUp (HD.out.1.below hb)
   rw [HU.out] at hcx
   (with_reducible refine hcx.mono ?_)
   clear hcx
   rintro e w2 ⟨rfl, hw⟩
   subst hw
   exact ⟨_, rfl, rfl, Below.refl _ _⟩
 ·intro a w hb hoth hdep
  refine step_on ((want_dep hdep 3 11 false rfl (by kernel_rfl) (by kernel_rfl) (fun v h => h)).trans rfl) ?_
  have e5 : a.tmps[5]? = some (.pointer (some ⟨b, 0, none⟩)) := ev_seg hoth 5 (by kernel_rfl) rfl
  obtain ⟨m0, m1, m2, m3, m4, m5, m6, m7, m8, m9, m10, m11⟩ := msgCells (HD.out.2.1.below hb HD.out.2.1.lt)
  refine step_val (x := aggMsg m) ?_ rfl
  simp [go_sem, e5, m0, m1, m2, m3, m4, m5, m6, m7, m8, m9, m10, m11, aggMsg]
 ·intro a w hb hoth hdep
  refine step_on ((want_dep hdep 3 11 false rfl (by kernel_rfl) (by kernel_rfl) (fun v h => h)).trans rfl) ?_
  obtain ⟨v4, e12, hv4⟩ := ev_dep hdep 4 12 (by kernel_rfl) (by kernel_rfl)
  replace hv4 : v4 = aggMsg m := hv4
  subst hv4
  refine step_call (f := 47) (args := #[aggMsg m]) ?_ ?_
  ·simp [go_sem, e12]
  ·have hcx := msgCheck_t m w (HW.out.1.below hb)
   rw [HC.out] at hcx
   (with_reducible refine hcx.mono ?_)
   clear hcx
   rintro e w2 ⟨rfl, hB⟩
   exact ⟨_, rfl, rfl, hB⟩
 ·intro a w hb hoth hdep
  refine step_on ((want_dep hdep 3 11 false rfl (by kernel_rfl) (by kernel_rfl) (fun v h => h)).trans rfl) ?_
  obtain ⟨v5, e13, hv5⟩ := ev_dep hdep 5 13 (by kernel_rfl) (by kernel_rfl)
  replace hv5 : v5 = .int .i64 ck := hv5
  subst hv5
  refine step_val (x := .bool false) ?_ rfl
  simp [go_sem, e13, hck]
 ·intro a w hb hoth hdep
  refine step_on ((want_dep hdep 8 16 false rfl (by kernel_rfl) (by kernel_rfl) (fun v h => h)).trans rfl) ?_
  have e5 : a.tmps[5]? = some (.pointer (some ⟨b, 0, none⟩)) := ev_seg hoth 5 (by kernel_rfl) rfl
  refine step_val (x := .pointer (some ⟨b, 2, none⟩)) ?_ rfl
  simp [go_sem, e5]
 ·intro a w hb hoth hdep
  refine step_on ((want_dep hdep 8 16 false rfl (by kernel_rfl) (by kernel_rfl) (fun v h => h)).trans rfl) ?_
  obtain ⟨v9, e17, hv9⟩ := ev_dep hdep 9 17 (by kernel_rfl) (by kernel_rfl)
  replace hv9 : v9 = .pointer (some ⟨b, 2, none⟩) := hv9
  subst hv9
  have m2 : w.cell? ⟨b, 2, none⟩ = some (.int .i64 m.to_) := ((HD.out.2.1.below hb HD.out.2.1.lt).cell 2).trans rfl
  refine step_val (x := .int .i64 m.to_) ?_ rfl
  simp [go_sem, e17, m2]
 ·intro a w hb hoth hdep
  refine step_on ((want_dep hdep 8 16 false rfl (by kernel_rfl) (by kernel_rfl) (fun v h => h)).trans rfl) ?_
  have e0 : a.tmps[0]? = some (.pointer (some ⟨c, 0, none⟩)) := ev_seg hoth 0 (by kernel_rfl) rfl
  exact step_val ((BigFrame.run_move _ rfl w).trans (by rw [ev_of e0])) rfl
 ·intro a w hb hoth hdep
  refine step_on ((want_dep hdep 8 16 false rfl (by kernel_rfl) (by kernel_rfl) (fun v h => h)).trans rfl) ?_
  obtain ⟨v11, e19, hv11⟩ := ev_dep hdep 11 19 (by kernel_rfl) (by kernel_rfl)
  replace hv11 : v11 = .pointer (some ⟨c, 0, none⟩) := hv11
  subst hv11
  refine step_call (f := 63) (args := #[.pointer (some ⟨c, 0, none⟩)]) ?_ ?_
  ·simp [go_sem, e19]
  ·have hcx := wkPlace (HD.out.1.below hb) HW.out.2
   (with_reducible refine hcx.mono ?_)
   clear hcx
   rintro e w2 ⟨rfl, hw⟩
   subst hw
   exact ⟨_, rfl, rfl, Below.refl _ _⟩
 ·intro a w hb hoth hdep
  refine step_on ((want_dep hdep 8 16 false rfl (by kernel_rfl) (by kernel_rfl) (fun v h => h)).trans rfl) ?_
  obtain ⟨v10, e18, hv10⟩ := ev_dep hdep 10 18 (by kernel_rfl) (by kernel_rfl)
  replace hv10 : v10 = .int .i64 m.to_ := hv10
  subst hv10
  obtain ⟨v12, e20, hv12⟩ := ev_dep hdep 12 20 (by kernel_rfl) (by kernel_rfl)
  replace hv12 : v12 = .int .i64 (100 + s.node) := hv12
  subst hv12
  refine step_val (x := .bool false) ?_ rfl
  simp [go_sem, e18, e20, hto]
 case fin =>
  intro wz hbz
  iterate 15 (rintro _ rfl)
  refine FinC.nil ?_
  refine cont_end (by kernel_rfl) ?_
  have HZ := Lib.hid (And.intro (HD.out.1.below hbz) (And.intro (HD.out.2.1.below hbz HD.out.2.1.lt) (HD.out.2.2.then_below hbz)))
  clear hbz HD
  clear H1
  have m0 : wz.cell? ⟨b, 0, none⟩ = some (.int .i64 m.kind) := (HZ.out.2.1.cell 0).trans rfl
  have ml := HZ.out.2.1.lt
  go_upto_region 12 with fail
  clear m0 ml hmf
  refine Cont.start (by kernel_rfl) ?_
  have HD := Lib.hid (And.intro (HZ.out.1.below (Below.refl _ _).drew) (And.intro (HZ.out.2.1.below (Below.refl _ _).drew HZ.out.2.1.lt) (HZ.out.2.2.then_below (Below.refl _ _).drew)))
  generalize wz.drew = wd at HD ⊢
  refine cont_free 0 5 37 [] [.o (eqV (.pointer (some ⟨c, 0, none⟩))), .o (eqV (.pointer (some ⟨c, 0, none⟩))), .o (eqV (.pointer (some ⟨c, 0, none⟩))), .o (eqV (.pointer (some ⟨b, 3, none⟩))), .o (eqV (.int .i64 m.epoch))] [false, false, false, false, false] (by kernel_rfl) (by kernel_rfl) (by kernel_rfl) (by kernel_rfl) (by kernel_rfl) (by kernel_rfl) (by kernel_rfl) rfl (by kernel_rfl) (by kernel_rfl) ⟨?_, ?_, ?_, ?_, ?_, trivial⟩ ?fin
  ·intro a w hb hoth hdep
   refine step_on (want_none rfl) ?_
   have e0 : a.tmps[0]? = some (.pointer (some ⟨c, 0, none⟩)) := ev_seg hoth 0 (by kernel_rfl) rfl
   exact step_val ((BigFrame.run_move _ rfl w).trans (by rw [ev_of e0])) rfl
  ·intro a w hb hoth hdep
   refine step_on (want_none rfl) ?_
   obtain ⟨v0, e37, hv0⟩ := ev_dep hdep 0 37 (by kernel_rfl) (by kernel_rfl)
   replace hv0 : v0 = .pointer (some ⟨c, 0, none⟩) := hv0
   subst hv0
   refine step_val (x := .pointer (some ⟨c, 0, none⟩)) ?_ rfl
   simp [go_sem, e37]
  ·intro a w hb hoth hdep
   refine step_on (want_none rfl) ?_
   obtain ⟨v1, e38, hv1⟩ := ev_dep hdep 1 38 (by kernel_rfl) (by kernel_rfl)
   replace hv1 : v1 = .pointer (some ⟨c, 0, none⟩) := hv1
   subst hv1
   refine step_val (x := .pointer (some ⟨c, 0, none⟩)) ?_ rfl
   simp [go_sem, e38]
  ·intro a w hb hoth hdep
   refine step_on (want_none rfl) ?_
   have e5 : a.tmps[5]? = some (.pointer (some ⟨b, 0, none⟩)) := ev_seg hoth 5 (by kernel_rfl) rfl
   refine step_val (x := .pointer (some ⟨b, 3, none⟩)) ?_ rfl
   simp [go_sem, e5]
  ·intro a w hb hoth hdep
   refine step_on (want_none rfl) ?_
   obtain ⟨v3, e40, hv3⟩ := ev_dep hdep 3 40 (by kernel_rfl) (by kernel_rfl)
   replace hv3 : v3 = .pointer (some ⟨b, 3, none⟩) := hv3
   subst hv3
   have m3 : w.cell? ⟨b, 3, none⟩ = some (.int .i64 m.epoch) := ((HD.out.2.1.below hb HD.out.2.1.lt).cell 3).trans rfl
   refine step_val (x := .int .i64 m.epoch) ?_ rfl
   simp [go_sem, e40, m3]
  case fin =>
   intro wy hby
   iterate 5 (rintro _ rfl)
   refine FinC.nil ?_
   have HV := Lib.hid (And.intro (HD.out.1.below hby) (And.intro (HD.out.2.1.below hby HD.out.2.1.lt) (HD.out.2.2.then_below hby)))
   clear hby HD
   refine cont_line 5 2 (by kernel_rfl) (by kernel_rfl) (by kernel_rfl) ?_
   have hcx := wkPass HV.out.1 m.epoch
   rw [HPP.out.1, HPP.out.2] at hcx
   go_wp2_with fail
   (with_reducible refine hcx.mono ?_)
   clear hcx
   rintro rr w3 ⟨rfl, v3, hw3, ht3⟩
   have HP := Lib.hid (And.intro hw3 (And.intro (HV.out.2.1.kept ht3.kept (HV.out.1.not_blk HV.out.2.1 (by decide))) (HV.out.2.2.trans ht3)))
   clear hw3 ht3
   go_wp2_with fail
   show Cont _ _ _ _ _ _
   refine cont_free2 7 22 44 [.any, .any, .any, .any, .any, .any, .b true] [.o (eqV (.pointer (some ⟨b, 4, none⟩))), .o (eqV (.int .i64 m.inc)), .o (eqV (.pointer (some ⟨c, 0, none⟩))), .o (eqV (.pointer (some ⟨c, 0, none⟩))), .o (eqV (.pointer (some ⟨c, 5, none⟩))), .o (eqV (.int .i64 s1.inc)), .b false, .b false, .b false, .u, .u, .u, .u, .b false] [6] [.b false] [false, false, false, false, false, false, false, false, true, true, true, true, true, true, true] (by kernel_rfl) (by kernel_rfl) (by kernel_rfl) (by kernel_rfl) (by kernel_rfl) (by kernel_rfl) (by kernel_rfl) rfl (by kernel_rfl) (by kernel_rfl) ⟨?_, ?_, ?_, ?_, ?_, ?_, ?_, ?_, trivial⟩ ?fin
   ·intro a w hb hoth hdep
    refine step_on ((want_dep hdep 6 43 true rfl (by kernel_rfl) (by kernel_rfl) (fun v h => h)).trans rfl) ?_
    have e5 : a.tmps[5]? = some (.pointer (some ⟨b, 0, none⟩)) := ev_seg hoth 5 (by kernel_rfl) rfl
    refine step_val (x := .pointer (some ⟨b, 4, none⟩)) ?_ rfl
    simp [go_sem, e5]
   ·intro a w hb hoth hdep
    refine step_on ((want_dep hdep 6 43 true rfl (by kernel_rfl) (by kernel_rfl) (fun v h => h)).trans rfl) ?_
    obtain ⟨v7, e44, hv7⟩ := ev_dep hdep 7 44 (by kernel_rfl) (by kernel_rfl)
    replace hv7 : v7 = .pointer (some ⟨b, 4, none⟩) := hv7
    subst hv7
    have m4 : w.cell? ⟨b, 4, none⟩ = some (.int .i64 m.inc) := ((HP.out.2.1.below hb HP.out.2.1.lt).cell 4).trans rfl
    refine step_val (x := .int .i64 m.inc) ?_ rfl
    simp [go_sem, e44, m4]
   ·intro a w hb hoth hdep
    refine step_on ((want_dep hdep 6 43 true rfl (by kernel_rfl) (by kernel_rfl) (fun v h => h)).trans rfl) ?_
    have e0 : a.tmps[0]? = some (.pointer (some ⟨c, 0, none⟩)) := ev_seg hoth 0 (by kernel_rfl) rfl
    exact step_val ((BigFrame.run_move _ rfl w).trans (by rw [ev_of e0])) rfl
   ·intro a w hb hoth hdep
    refine step_on ((want_dep hdep 6 43 true rfl (by kernel_rfl) (by kernel_rfl) (fun v h => h)).trans rfl) ?_
    obtain ⟨v9, e46, hv9⟩ := ev_dep hdep 9 46 (by kernel_rfl) (by kernel_rfl)
    replace hv9 : v9 = .pointer (some ⟨c, 0, none⟩) := hv9
    subst hv9
    refine step_val (x := .pointer (some ⟨c, 0, none⟩)) ?_ rfl
    simp [go_sem, e46]
   ·intro a w hb hoth hdep
    refine step_on ((want_dep hdep 6 43 true rfl (by kernel_rfl) (by kernel_rfl) (fun v h => h)).trans rfl) ?_
    obtain ⟨v10, e47, hv10⟩ := ev_dep hdep 10 47 (by kernel_rfl) (by kernel_rfl)
    replace hv10 : v10 = .pointer (some ⟨c, 0, none⟩) := hv10
    subst hv10
    refine step_val (x := .pointer (some ⟨c, 5, none⟩)) ?_ rfl
    simp [go_sem, e47]
   ·intro a w hb hoth hdep
    refine step_on ((want_dep hdep 6 43 true rfl (by kernel_rfl) (by kernel_rfl) (fun v h => h)).trans rfl) ?_
    obtain ⟨v11, e48, hv11⟩ := ev_dep hdep 11 48 (by kernel_rfl) (by kernel_rfl)
    replace hv11 : v11 = .pointer (some ⟨c, 5, none⟩) := hv11
    subst hv11
    obtain ⟨c0, c1, c2, c3, c4, c5, c6, c7, c8, c9, c10, c11, c12, c13, c14⟩ := wkCells (HP.out.1.below hb).blk
    refine step_val (x := .int .i64 s1.inc) ?_ rfl
    simp [go_sem, e48, c5]
   ·intro a w hb hoth hdep
    refine step_on ((want_dep hdep 6 43 true rfl (by kernel_rfl) (by kernel_rfl) (fun v h => h)).trans rfl) ?_
    obtain ⟨v8, e45, hv8⟩ := ev_dep hdep 8 45 (by kernel_rfl) (by kernel_rfl)
    replace hv8 : v8 = .int .i64 m.inc := hv8
    subst hv8
    obtain ⟨v12, e49, hv12⟩ := ev_dep hdep 12 49 (by kernel_rfl) (by kernel_rfl)
    replace hv12 : v12 = .int .i64 s1.inc := hv12
    subst hv12
    refine step_val (x := .bool false) ?_ rfl
    simp [go_sem, e45, e49, hinc]
   ·intro a w hb hoth hdep
    refine step_on (want_none rfl) ?_
    have e43 : a.tmps[43]? = some (.bool true) := ev_seg hoth 43 (by kernel_rfl) rfl
    obtain ⟨v13, e50, hv13⟩ := ev_dep hdep 13 50 (by kernel_rfl) (by kernel_rfl)
    replace hv13 : v13 = .bool false := hv13
    subst hv13
    refine step_val (x := .bool false) ?_ rfl
    simp [go_sem, e43, e50]
   case fin =>
    intro wq hbq
    iterate 14 (rintro _ rfl)
    refine FinC.nil ?_
    iterate 1 (rintro _ rfl)
    refine FinL.nil ?_
    have HQ := Lib.hid (And.intro (HP.out.1.below hbq) (And.intro (HP.out.2.1.below hbq HP.out.2.1.lt) (HP.out.2.2.then_below hbq)))
    clear hbq
    refine cont_end (by kernel_rfl) ?_
    go_wp2
    go_ret
    exact ⟨rfl, v3, HQ.out.1, HQ.out.2.2⟩
set_option maxRecDepth 100000 in
set_option maxHeartbeats 6400000 in
theorem wkHear_2go (h : WkAt w c v s) (hw : WaysAt w) (hn : 0 ≤ s.node ∧ s.node ≤ 15) (now : Int) (m : LMsg) (hu : s.up = true) (hk : checkM m = 0) (ht : m.to_ = 100 + s.node) (hkd : m.kind = 2) (s1 : WS) (hs1 : s.pass m.epoch = s1) (hp : passB s.epoch m.epoch = true) (hi : m.inc = s1.inc) (bb : Bool) (s2 : WS) (HC2 : ∀ (W : World) (u : WV), WkAt W c u s1 → Calls Tryd.prog 64 #[.pointer (some ⟨c, 0, none⟩), .int .i64 now, aggMsg m] W fun e w' => e = .returned (.bool bb) ∧ ∃ v', WkAt w' c v' s2 ∧ Turned (wkS c u) (wkS c v') W w') : Calls Tryd.prog 29 #[.pointer (some ⟨c, 0, none⟩), .int .i64 now, aggMsg m] w fun e w' => e = .returned (.bool bb) ∧ ∃ v', WkAt w' c v' s2 ∧ Turned (wkS c v) (wkS c v') w w' := by
 have HU := Lib.hid hu
 clear hu
 obtain ⟨ck, hck0⟩ : ∃ ck, checkM m = ck := ⟨_, rfl⟩
 have hck : (ck != 0) = false := by rw [← hck0]; simp [hk]
 have HC := Lib.hid hck0
 have hto : (m.to_ != 100 + s.node) = false := by simp [ht]
 clear hk hck0 ht
 have k2 : (m.kind == 2) = true := by simp [hkd]
 have HPP := Lib.hid (And.intro hp hs1)
 clear hp hs1 hkd
 have hinc : (m.inc == s1.inc) = true := by simp [hi]
 have HCC := Lib.hid HC2
 clear hi HC2
 have hmf : ∀ (fn : Fn) (first cap : Array Value) (w : World), (Instr.makeFunc fn first cap).run Tryd.prog w = .ok (.func fn first cap) w := fun _ _ _ _ => rfl
 have hB : Below w.heap.size w (w.alloc (.cells (boxMsg m) 38)) := (Below.refl _ _).alloc (Nat.le_refl _) _
 have hbm := Blk.new w 38 (boxMsg m)
 have H0 := Lib.hid (And.intro (h.below hB) (And.intro hbm (Turned.of_below (S := wkS c v) hB)))
 have HW0 := Lib.hid (And.intro (hw.below hB) hn)
 clear h hB hbm hw hn
 go_enter Tryd.func29, Tryd.ntmps29
 go_upto_region 1 with fail
 generalize (w.alloc (.cells (boxMsg m) 38)) = w1 at H0 HW0 ⊢
 obtain ⟨b, hb⟩ : ∃ b, w.heap.size = b := ⟨_, rfl⟩
 have H1 : Hid (WkAt w1 c v s ∧ Blk w1 b 38 (boxMsg m) ∧ Turned (wkS c v) (wkS c v) w w1) := Lib.hid (by rw [← hb]; exact H0.out)
 try simp only [hb]
 clear hb H0
 refine Cont.start (by kernel_rfl) ?_
 have HD := Lib.hid (And.intro (H1.out.1.below (Below.refl _ _).drew) (And.intro (H1.out.2.1.below (Below.refl _ _).drew H1.out.2.1.lt) (H1.out.2.2.then_below (Below.refl _ _).drew)))
 have HW := Lib.hid (And.intro (HW0.out.1.below (Below.refl w1.heap.size w1).drew) HW0.out.2)
 generalize w1.drew = wd at HD HW ⊢
 refine cont_free 0 15 8 [] [.o (eqV (.pointer (some ⟨c, 0, none⟩))), .b true, .b false, .b false, .o (eqV (aggMsg m)), .o (eqV (.int .i64 ck)), .b false, .b false, .b false, .o (eqV (.pointer (some ⟨b, 2, none⟩))), .o (eqV (.int .i64 m.to_)), .o (eqV (.pointer (some ⟨c, 0, none⟩))), .o (eqV (.int .i64 (100 + s.node))), .b false, .b false] [false, false, true, true, false, false, false, true, true, false, false, false, false, false, true] (by kernel_rfl) (by kernel_rfl) (by kernel_rfl) (by kernel_rfl) (by kernel_rfl) (by kernel_rfl) (by kernel_rfl) rfl (by kernel_rfl) (by kernel_rfl) ⟨?_, ?_, ?_, ?_, ?_, ?_, ?_, ?_, ?_, ?_, trivial⟩ ?fin
 ·intro a w hb hoth hdep
  refine step_on (want_none rfl) ?_
  have e0 : a.tmps[0]? = some (.pointer (some ⟨c, 0, none⟩)) := ev_seg hoth 0 (by kernel_rfl) rfl
  exact step_val ((BigFrame.run_move _ rfl w).trans (by rw [ev_of e0])) rfl
 ·intro a w hb hoth hdep
  refine step_on (want_none rfl) ?_
  obtain ⟨v0, e8, hv0⟩ := ev_dep hdep 0 8 (by kernel_rfl) (by kernel_rfl)
  replace hv0 : v0 = .pointer (some ⟨c, 0, none⟩) := hv0
  subst hv0
  refine step_call (f := 33) (args := #[.pointer (some ⟨c, 0, none⟩)]) ?_ ?_
  ·simp [go_sem, e8]
  ·have hcx := wkUp (HD.out.1.below hb)
   rw [HU.out] at hcx
   (with_reducible refine hcx.mono ?_)
   clear hcx
   rintro e w2 ⟨rfl, hw⟩
   subst hw
   exact ⟨_, rfl, rfl, Below.refl _ _⟩
 ·intro a w hb hoth hdep
  refine step_on ((want_dep hdep 3 11 false rfl (by kernel_rfl) (by kernel_rfl) (fun v h => h)).trans rfl) ?_
  have e5 : a.tmps[5]? = some (.pointer (some ⟨b, 0, none⟩)) := ev_seg hoth 5 (by kernel_rfl) rfl
  obtain ⟨m0, m1, m2, m3, m4, m5, m6, m7, m8, m9, m10, m11⟩ := msgCells (HD.out.2.1.below hb HD.out.2.1.lt)
  refine step_val (x := aggMsg m) ?_ rfl
  simp [go_sem, e5, m0, m1, m2, m3, m4, m5, m6, m7, m8, m9, m10, m11, aggMsg]
 ·intro a w hb hoth hdep
  refine step_on ((want_dep hdep 3 11 false rfl (by kernel_rfl) (by kernel_rfl) (fun v h => h)).trans rfl) ?_
  obtain ⟨v4, e12, hv4⟩ := ev_dep hdep 4 12 (by kernel_rfl) (by kernel_rfl)
  replace hv4 : v4 = aggMsg m := hv4
  subst hv4
  refine step_call (f := 47) (args := #[aggMsg m]) ?_ ?_
  ·simp [go_sem, e12]
  ·have hcx := msgCheck_t m w (HW.out.1.below hb)
   rw [HC.out] at hcx
   (with_reducible refine hcx.mono ?_)
   clear hcx
   rintro e w2 ⟨rfl, hB⟩
   exact ⟨_, rfl, rfl, hB⟩
 ·intro a w hb hoth hdep
  refine step_on ((want_dep hdep 3 11 false rfl (by kernel_rfl) (by kernel_rfl) (fun v h => h)).trans rfl) ?_
  obtain ⟨v5, e13, hv5⟩ := ev_dep hdep 5 13 (by kernel_rfl) (by kernel_rfl)
  replace hv5 : v5 = .int .i64 ck := hv5
  subst hv5
  refine step_val (x := .bool false) ?_ rfl
  simp [go_sem, e13, hck]
 ·intro a w hb hoth hdep
  refine step_on ((want_dep hdep 8 16 false rfl (by kernel_rfl) (by kernel_rfl) (fun v h => h)).trans rfl) ?_
  have e5 : a.tmps[5]? = some (.pointer (some ⟨b, 0, none⟩)) := ev_seg hoth 5 (by kernel_rfl) rfl
  refine step_val (x := .pointer (some ⟨b, 2, none⟩)) ?_ rfl
  simp [go_sem, e5]
 ·intro a w hb hoth hdep
  refine step_on ((want_dep hdep 8 16 false rfl (by kernel_rfl) (by kernel_rfl) (fun v h => h)).trans rfl) ?_
  obtain ⟨v9, e17, hv9⟩ := ev_dep hdep 9 17 (by kernel_rfl) (by kernel_rfl)
  replace hv9 : v9 = .pointer (some ⟨b, 2, none⟩) := hv9
  subst hv9
  have m2 : w.cell? ⟨b, 2, none⟩ = some (.int .i64 m.to_) := ((HD.out.2.1.below hb HD.out.2.1.lt).cell 2).trans rfl
  refine step_val (x := .int .i64 m.to_) ?_ rfl
  simp [go_sem, e17, m2]
 ·intro a w hb hoth hdep
  refine step_on ((want_dep hdep 8 16 false rfl (by kernel_rfl) (by kernel_rfl) (fun v h => h)).trans rfl) ?_
  have e0 : a.tmps[0]? = some (.pointer (some ⟨c, 0, none⟩)) := ev_seg hoth 0 (by kernel_rfl) rfl
  exact step_val ((BigFrame.run_move _ rfl w).trans (by rw [ev_of e0])) rfl
 ·intro a w hb hoth hdep
  refine step_on ((want_dep hdep 8 16 false rfl (by kernel_rfl) (by kernel_rfl) (fun v h => h)).trans rfl) ?_
  obtain ⟨v11, e19, hv11⟩ := ev_dep hdep 11 19 (by kernel_rfl) (by kernel_rfl)
  replace hv11 : v11 = .pointer (some ⟨c, 0, none⟩) := hv11
  subst hv11
  refine step_call (f := 63) (args := #[.pointer (some ⟨c, 0, none⟩)]) ?_ ?_
  ·simp [go_sem, e19]
  ·have hcx := wkPlace (HD.out.1.below hb) HW.out.2
   (with_reducible refine hcx.mono ?_)
   clear hcx
   rintro e w2 ⟨rfl, hw⟩
   subst hw
   exact ⟨_, rfl, rfl, Below.refl _ _⟩
 ·intro a w hb hoth hdep
  refine step_on ((want_dep hdep 8 16 false rfl (by kernel_rfl) (by kernel_rfl) (fun v h => h)).trans rfl) ?_
  obtain ⟨v10, e18, hv10⟩ := ev_dep hdep 10 18 (by kernel_rfl) (by kernel_rfl)
  replace hv10 : v10 = .int .i64 m.to_ := hv10
  subst hv10
  obtain ⟨v12, e20, hv12⟩ := ev_dep hdep 12 20 (by kernel_rfl) (by kernel_rfl)
  replace hv12 : v12 = .int .i64 (100 + s.node) := hv12
  subst hv12
  refine step_val (x := .bool false) ?_ rfl
  simp [go_sem, e18, e20, hto]
 case fin =>
  intro wz hbz
  iterate 15 (rintro _ rfl)
  refine FinC.nil ?_
  refine cont_end (by kernel_rfl) ?_
  have HZ := Lib.hid (And.intro (HD.out.1.below hbz) (And.intro (HD.out.2.1.below hbz HD.out.2.1.lt) (HD.out.2.2.then_below hbz)))
  clear hbz HD
  clear H1
  have m0 : wz.cell? ⟨b, 0, none⟩ = some (.int .i64 m.kind) := (HZ.out.2.1.cell 0).trans rfl
  have ml := HZ.out.2.1.lt
  go_upto_region 12 with fail
  clear m0 ml hmf
  refine Cont.start (by kernel_rfl) ?_
  have HD := Lib.hid (And.intro (HZ.out.1.below (Below.refl _ _).drew) (And.intro (HZ.out.2.1.below (Below.refl _ _).drew HZ.out.2.1.lt) (HZ.out.2.2.then_below (Below.refl _ _).drew)))
  generalize wz.drew = wd at HD ⊢
  refine cont_free 0 5 37 [] [.o (eqV (.pointer (some ⟨c, 0, none⟩))), .o (eqV (.pointer (some ⟨c, 0, none⟩))), .o (eqV (.pointer (some ⟨c, 0, none⟩))), .o (eqV (.pointer (some ⟨b, 3, none⟩))), .o (eqV (.int .i64 m.epoch))] [false, false, false, false, false] (by kernel_rfl) (by kernel_rfl) (by kernel_rfl) (by kernel_rfl) (by kernel_rfl) (by kernel_rfl) (by kernel_rfl) rfl (by kernel_rfl) (by kernel_rfl) ⟨?_, ?_, ?_, ?_, ?_, trivial⟩ ?fin
  ·intro a w hb hoth hdep
   refine step_on (want_none rfl) ?_
   have e0 : a.tmps[0]? = some (.pointer (some ⟨c, 0, none⟩)) := ev_seg hoth 0 (by kernel_rfl) rfl
   exact step_val ((BigFrame.run_move _ rfl w).trans (by rw [ev_of e0])) rfl
  ·intro a w hb hoth hdep
   refine step_on (want_none rfl) ?_
   obtain ⟨v0, e37, hv0⟩ := ev_dep hdep 0 37 (by kernel_rfl) (by kernel_rfl)
   replace hv0 : v0 = .pointer (some ⟨c, 0, none⟩) := hv0
   subst hv0
   refine step_val (x := .pointer (some ⟨c, 0, none⟩)) ?_ rfl
   simp [go_sem, e37]
  ·intro a w hb hoth hdep
   refine step_on (want_none rfl) ?_
   obtain ⟨v1, e38, hv1⟩ := ev_dep hdep 1 38 (by kernel_rfl) (by kernel_rfl)
   replace hv1 : v1 = .pointer (some ⟨c, 0, none⟩) := hv1
   subst hv1
   refine step_val (x := .pointer (some ⟨c, 0, none⟩)) ?_ rfl
   simp [go_sem, e38]
  ·intro a w hb hoth hdep
   refine step_on (want_none rfl) ?_
   have e5 : a.tmps[5]? = some (.pointer (some ⟨b, 0, none⟩)) := ev_seg hoth 5 (by kernel_rfl) rfl
   refine step_val (x := .pointer (some ⟨b, 3, none⟩)) ?_ rfl
   simp [go_sem, e5]
  ·intro a w hb hoth hdep
   refine step_on (want_none rfl) ?_
   obtain ⟨v3, e40, hv3⟩ := ev_dep hdep 3 40 (by kernel_rfl) (by kernel_rfl)
   replace hv3 : v3 = .pointer (some ⟨b, 3, none⟩) := hv3
   subst hv3
   have m3 : w.cell? ⟨b, 3, none⟩ = some (.int .i64 m.epoch) := ((HD.out.2.1.below hb HD.out.2.1.lt).cell 3).trans rfl
   refine step_val (x := .int .i64 m.epoch) ?_ rfl
   simp [go_sem, e40, m3]
  case fin =>
   intro wy hby
   iterate 5 (rintro _ rfl)
   refine FinC.nil ?_
   have HV := Lib.hid (And.intro (HD.out.1.below hby) (And.intro (HD.out.2.1.below hby HD.out.2.1.lt) (HD.out.2.2.then_below hby)))
   clear hby HD
   refine cont_line 5 2 (by kernel_rfl) (by kernel_rfl) (by kernel_rfl) ?_
   have hcx := wkPass HV.out.1 m.epoch
   rw [HPP.out.1, HPP.out.2] at hcx
   go_wp2_with fail
   (with_reducible refine hcx.mono ?_)
   clear hcx
   rintro rr w3 ⟨rfl, v3, hw3, ht3⟩
   have HP := Lib.hid (And.intro hw3 (And.intro (HV.out.2.1.kept ht3.kept (HV.out.1.not_blk HV.out.2.1 (by decide))) (HV.out.2.2.trans ht3)))
   clear hw3 ht3
   go_wp2_with fail
   show Cont _ _ _ _ _ _
   refine cont_free 7 19 44 [.any, .any, .any, .any, .any, .any, .b true] [.o (eqV (.pointer (some ⟨b, 4, none⟩))), .o (eqV (.int .i64 m.inc)), .o (eqV (.pointer (some ⟨c, 0, none⟩))), .o (eqV (.pointer (some ⟨c, 0, none⟩))), .o (eqV (.pointer (some ⟨c, 5, none⟩))), .o (eqV (.int .i64 s1.inc)), .b true, .b true, .b true, .o (eqV (.func (.func 64) #[.pointer (some ⟨c, 0, none⟩)] #[])), .o (eqV (.int .i64 now)), .o (eqV (aggMsg m))] [false, false, false, false, false, false, false, false, true, false, false, false] (by kernel_rfl) (by kernel_rfl) (by kernel_rfl) (by kernel_rfl) (by kernel_rfl) (by kernel_rfl) (by kernel_rfl) rfl (by kernel_rfl) (by kernel_rfl) ⟨?_, ?_, ?_, ?_, ?_, ?_, ?_, ?_, ?_, ?_, ?_, trivial⟩ ?fin
   ·intro a w hb hoth hdep
    refine step_on ((want_dep hdep 6 43 true rfl (by kernel_rfl) (by kernel_rfl) (fun v h => h)).trans rfl) ?_
    have e5 : a.tmps[5]? = some (.pointer (some ⟨b, 0, none⟩)) := ev_seg hoth 5 (by kernel_rfl) rfl
    refine step_val (x := .pointer (some ⟨b, 4, none⟩)) ?_ rfl
    simp [go_sem, e5]
   ·intro a w hb hoth hdep
    refine step_on ((want_dep hdep 6 43 true rfl (by kernel_rfl) (by kernel_rfl) (fun v h => h)).trans rfl) ?_
    obtain ⟨v7, e44, hv7⟩ := ev_dep hdep 7 44 (by kernel_rfl) (by kernel_rfl)
    replace hv7 : v7 = .pointer (some ⟨b, 4, none⟩) := hv7
    subst hv7
    have m4 : w.cell? ⟨b, 4, none⟩ = some (.int .i64 m.inc) := ((HP.out.2.1.below hb HP.out.2.1.lt).cell 4).trans rfl
    refine step_val (x := .int .i64 m.inc) ?_ rfl
    simp [go_sem, e44, m4]
   ·intro a w hb hoth hdep
    refine step_on ((want_dep hdep 6 43 true rfl (by kernel_rfl) (by kernel_rfl) (fun v h => h)).trans rfl) ?_
    have e0 : a.tmps[0]? = some (.pointer (some ⟨c, 0, none⟩)) := ev_seg hoth 0 (by kernel_rfl) rfl
    exact step_val ((BigFrame.run_move _ rfl w).trans (by rw [ev_of e0])) rfl
   ·intro a w hb hoth hdep
    refine step_on ((want_dep hdep 6 43 true rfl (by kernel_rfl) (by kernel_rfl) (fun v h => h)).trans rfl) ?_
    obtain ⟨v9, e46, hv9⟩ := ev_dep hdep 9 46 (by kernel_rfl) (by kernel_rfl)
    replace hv9 : v9 = .pointer (some ⟨c, 0, none⟩) := hv9
    subst hv9
    refine step_val (x := .pointer (some ⟨c, 0, none⟩)) ?_ rfl
    simp [go_sem, e46]
   ·intro a w hb hoth hdep
    refine step_on ((want_dep hdep 6 43 true rfl (by kernel_rfl) (by kernel_rfl) (fun v h => h)).trans rfl) ?_
    obtain ⟨v10, e47, hv10⟩ := ev_dep hdep 10 47 (by kernel_rfl) (by kernel_rfl)
    replace hv10 : v10 = .pointer (some ⟨c, 0, none⟩) := hv10
    subst hv10
    refine step_val (x := .pointer (some ⟨c, 5, none⟩)) ?_ rfl
    simp [go_sem, e47]
   ·intro a w hb hoth hdep
    refine step_on ((want_dep hdep 6 43 true rfl (by kernel_rfl) (by kernel_rfl) (fun v h => h)).trans rfl) ?_
    obtain ⟨v11, e48, hv11⟩ := ev_dep hdep 11 48 (by kernel_rfl) (by kernel_rfl)
    replace hv11 : v11 = .pointer (some ⟨c, 5, none⟩) := hv11
    subst hv11
    obtain ⟨c0, c1, c2, c3, c4, c5, c6, c7, c8, c9, c10, c11, c12, c13, c14⟩ := wkCells (HP.out.1.below hb).blk
    refine step_val (x := .int .i64 s1.inc) ?_ rfl
    simp [go_sem, e48, c5]
   ·intro a w hb hoth hdep
    refine step_on ((want_dep hdep 6 43 true rfl (by kernel_rfl) (by kernel_rfl) (fun v h => h)).trans rfl) ?_
    obtain ⟨v8, e45, hv8⟩ := ev_dep hdep 8 45 (by kernel_rfl) (by kernel_rfl)
    replace hv8 : v8 = .int .i64 m.inc := hv8
    subst hv8
    obtain ⟨v12, e49, hv12⟩ := ev_dep hdep 12 49 (by kernel_rfl) (by kernel_rfl)
    replace hv12 : v12 = .int .i64 s1.inc := hv12
    subst hv12
    refine step_val (x := .bool true) ?_ rfl
    simp [go_sem, e45, e49, hinc]
   ·intro a w hb hoth hdep
    refine step_on (want_none rfl) ?_
    have e43 : a.tmps[43]? = some (.bool true) := ev_seg hoth 43 (by kernel_rfl) rfl
    obtain ⟨v13, e50, hv13⟩ := ev_dep hdep 13 50 (by kernel_rfl) (by kernel_rfl)
    replace hv13 : v13 = .bool true := hv13
    subst hv13
    refine step_val (x := .bool true) ?_ rfl
    simp [go_sem, e43, e50]
   ·intro a w hb hoth hdep
    refine step_on ((want_dep hdep 15 52 true rfl (by kernel_rfl) (by kernel_rfl) (fun v h => h)).trans rfl) ?_
    have e7 : a.tmps[7]? = some (.func (.func 64) #[.pointer (some ⟨c, 0, none⟩)] #[]) := ev_seg hoth 7 (by kernel_rfl) rfl
    exact step_val ((BigFrame.run_move _ rfl w).trans (by rw [ev_of e7])) rfl
   ·intro a w hb hoth hdep
    refine step_on ((want_dep hdep 15 52 true rfl (by kernel_rfl) (by kernel_rfl) (fun v h => h)).trans rfl) ?_
    have e1 : a.tmps[1]? = some (.int .i64 now) := ev_seg hoth 1 (by kernel_rfl) rfl
    exact step_val ((BigFrame.run_move _ rfl w).trans (by rw [ev_of e1])) rfl
   ·intro a w hb hoth hdep
    refine step_on ((want_dep hdep 15 52 true rfl (by kernel_rfl) (by kernel_rfl) (fun v h => h)).trans rfl) ?_
    have e5 : a.tmps[5]? = some (.pointer (some ⟨b, 0, none⟩)) := ev_seg hoth 5 (by kernel_rfl) rfl
    obtain ⟨m0, m1, m2, m3, m4, m5, m6, m7, m8, m9, m10, m11⟩ := msgCells (HP.out.2.1.below hb HP.out.2.1.lt)
    refine step_val (x := aggMsg m) ?_ rfl
    simp [go_sem, e5, m0, m1, m2, m3, m4, m5, m6, m7, m8, m9, m10, m11, aggMsg]
   case fin =>
    intro wq hbq
    iterate 12 (rintro _ rfl)
    refine FinC.nil ?_
    have HQ := Lib.hid (And.intro (HP.out.1.below hbq) (And.intro (HP.out.2.1.below hbq HP.out.2.1.lt) (HP.out.2.2.then_below hbq)))
    clear hbq
    refine cont_line 19 3 (by kernel_rfl) (by kernel_rfl) (by kernel_rfl) ?_
    have hcx := HCC.out _ _ HQ.out.1
    go_wp2_with fail
    (with_reducible refine hcx.mono ?_)
    clear hcx
    rintro rr w5 ⟨rfl, v5, hw5, ht5⟩
    have HE := Lib.hid (And.intro hw5 (HQ.out.2.2.trans ht5))
    clear hw5 ht5
    go_wp2_with fail
    show Cont _ _ _ _ _ _
    refine cont_end (by kernel_rfl) ?_
    go_wp2
    go_ret
    exact ⟨rfl, v5, HE.out.1, HE.out.2⟩
set_option maxRecDepth 100000 in
set_option maxHeartbeats 6400000 in
theorem wkHear_3np (h : WkAt w c v s) (hw : WaysAt w) (hn : 0 ≤ s.node ∧ s.node ≤ 15) (now : Int) (m : LMsg) (hu : s.up = true) (hk : checkM m = 0) (ht : m.to_ = 100 + s.node) (hkd : m.kind = 3) (s1 : WS) (hs1 : s.pass m.epoch = s1) (hp : passB s.epoch m.epoch = false) : Calls Tryd.prog 29 #[.pointer (some ⟨c, 0, none⟩), .int .i64 now, aggMsg m] w fun e w' => e = .returned (.bool false) ∧ ∃ v', WkAt w' c v' s1 ∧ Turned (wkS c v) (wkS c v') w w' := by
 have HU := Lib.hid hu
 clear hu
 obtain ⟨ck, hck0⟩ : ∃ ck, checkM m = ck := ⟨_, rfl⟩
 have hck : (ck != 0) = false := by rw [← hck0]; simp [hk]
 have HC := Lib.hid hck0
 have hto : (m.to_ != 100 + s.node) = false := by simp [ht]
 clear hk hck0 ht
 have k2 : (m.kind == 2) = false := by simp [hkd]
 have k3 : (m.kind == 3) = true := by simp [hkd]
 have HPP := Lib.hid (And.intro hp hs1)
 clear hp hs1 hkd
 have hmf : ∀ (fn : Fn) (first cap : Array Value) (w : World), (Instr.makeFunc fn first cap).run Tryd.prog w = .ok (.func fn first cap) w := fun _ _ _ _ => rfl
 have hB : Below w.heap.size w (w.alloc (.cells (boxMsg m) 38)) := (Below.refl _ _).alloc (Nat.le_refl _) _
 have hbm := Blk.new w 38 (boxMsg m)
 have H0 := Lib.hid (And.intro (h.below hB) (And.intro hbm (Turned.of_below (S := wkS c v) hB)))
 have HW0 := Lib.hid (And.intro (hw.below hB) hn)
 clear h hB hbm hw hn
 go_enter Tryd.func29, Tryd.ntmps29
 go_upto_region 1 with fail
 generalize (w.alloc (.cells (boxMsg m) 38)) = w1 at H0 HW0 ⊢
 obtain ⟨b, hb⟩ : ∃ b, w.heap.size = b := ⟨_, rfl⟩
 have H1 : Hid (WkAt w1 c v s ∧ Blk w1 b 38 (boxMsg m) ∧ Turned (wkS c v) (wkS c v) w w1) := Lib.hid (by rw [← hb]; exact H0.out)
 try simp only [hb]
 clear hb H0
 refine Cont.start (by kernel_rfl) ?_
 have HD := Lib.hid (And.intro (H1.out.1.below (Below.refl _ _).drew) (And.intro (H1.out.2.1.below (Below.refl _ _).drew H1.out.2.1.lt) (H1.out.2.2.then_below (Below.refl _ _).drew)))
 have HW := Lib.hid (And.intro (HW0.out.1.below (Below.refl w1.heap.size w1).drew) HW0.out.2)
 generalize w1.drew = wd at HD HW ⊢
 refine cont_free 0 15 8 [] [.o (eqV (.pointer (some ⟨c, 0, none⟩))), .b true, .b false, .b false, .o (eqV (aggMsg m)), .o (eqV (.int .i64 ck)), .b false, .b false, .b false, .o (eqV (.pointer (some ⟨b, 2, none⟩))), .o (eqV (.int .i64 m.to_)), .o (eqV (.pointer (some ⟨c, 0, none⟩))), .o (eqV (.int .i64 (100 + s.node))), .b false, .b false] [false, false, true, true, false, false, false, true, true, false, false, false, false, false, true] (by kernel_rfl) (by kernel_rfl) (by kernel_rfl) (by kernel_rfl) (by kernel_rfl) (by kernel_rfl) (by kernel_rfl) rfl (by kernel_rfl) (by kernel_rfl) ⟨?_, ?_, ?_, ?_, ?_, ?_, ?_, ?_, ?_, ?_, trivial⟩ ?fin
 ·intro a w hb hoth hdep
  refine step_on (want_none rfl) ?_
  have e0 : a.tmps[0]? = some (.pointer (some ⟨c, 0, none⟩)) := ev_seg hoth 0 (by kernel_rfl) rfl
  exact step_val ((BigFrame.run_move _ rfl w).trans (by rw [ev_of e0])) rfl
 ·intro a w hb hoth hdep
  refine step_on (want_none rfl) ?_
  obtain ⟨v0, e8, hv0⟩ := ev_dep hdep 0 8 (by kernel_rfl) (by kernel_rfl)
  replace hv0 : v0 = .pointer (some ⟨c, 0, none⟩) := hv0
  subst hv0
  refine step_call (f := 33) (args := #[.pointer (some ⟨c, 0, none⟩)]) ?_ ?_
  ·simp [go_sem, e8]
  ·have hcx := wkUp (HD.out.1.below hb)
   rw [HU.out] at hcx
   (with_reducible refine hcx.mono ?_)
   clear hcx
   rintro e w2 ⟨rfl, hw⟩
   subst hw
   exact ⟨_, rfl, rfl, Below.refl _ _⟩
 ·intro a w hb hoth hdep
  refine step_on ((want_dep hdep 3 11 false rfl (by kernel_rfl) (by kernel_rfl) (fun v h => h)).trans rfl) ?_
  have e5 : a.tmps[5]? = some (.pointer (some ⟨b, 0, none⟩)) := ev_seg hoth 5 (by kernel_rfl) rfl
  obtain ⟨m0, m1, m2, m3, m4, m5, m6, m7, m8, m9, m10, m11⟩ := msgCells (HD.out.2.1.below hb HD.out.2.1.lt)
  refine step_val (x := aggMsg m) ?_ rfl
  simp [go_sem, e5, m0, m1, m2, m3, m4, m5, m6, m7, m8, m9, m10, m11, aggMsg]
 ·intro a w hb hoth hdep
  refine step_on ((want_dep hdep 3 11 false rfl (by kernel_rfl) (by kernel_rfl) (fun v h => h)).trans rfl) ?_
  obtain ⟨v4, e12, hv4⟩ := ev_dep hdep 4 12 (by kernel_rfl) (by kernel_rfl)
  replace hv4 : v4 = aggMsg m := hv4
  subst hv4
  refine step_call (f := 47) (args := #[aggMsg m]) ?_ ?_
  ·simp [go_sem, e12]
  ·have hcx := msgCheck_t m w (HW.out.1.below hb)
   rw [HC.out] at hcx
   (with_reducible refine hcx.mono ?_)
   clear hcx
   rintro e w2 ⟨rfl, hB⟩
   exact ⟨_, rfl, rfl, hB⟩
 ·intro a w hb hoth hdep
  refine step_on ((want_dep hdep 3 11 false rfl (by kernel_rfl) (by kernel_rfl) (fun v h => h)).trans rfl) ?_
  obtain ⟨v5, e13, hv5⟩ := ev_dep hdep 5 13 (by kernel_rfl) (by kernel_rfl)
  replace hv5 : v5 = .int .i64 ck := hv5
  subst hv5
  refine step_val (x := .bool false) ?_ rfl
  simp [go_sem, e13, hck]
 ·intro a w hb hoth hdep
  refine step_on ((want_dep hdep 8 16 false rfl (by kernel_rfl) (by kernel_rfl) (fun v h => h)).trans rfl) ?_
  have e5 : a.tmps[5]? = some (.pointer (some ⟨b, 0, none⟩)) := ev_seg hoth 5 (by kernel_rfl) rfl
  refine step_val (x := .pointer (some ⟨b, 2, none⟩)) ?_ rfl
  simp [go_sem, e5]
 ·intro a w hb hoth hdep
  refine step_on ((want_dep hdep 8 16 false rfl (by kernel_rfl) (by kernel_rfl) (fun v h => h)).trans rfl) ?_
  obtain ⟨v9, e17, hv9⟩ := ev_dep hdep 9 17 (by kernel_rfl) (by kernel_rfl)
  replace hv9 : v9 = .pointer (some ⟨b, 2, none⟩) := hv9
  subst hv9
  have m2 : w.cell? ⟨b, 2, none⟩ = some (.int .i64 m.to_) := ((HD.out.2.1.below hb HD.out.2.1.lt).cell 2).trans rfl
  refine step_val (x := .int .i64 m.to_) ?_ rfl
  simp [go_sem, e17, m2]
 ·intro a w hb hoth hdep
  refine step_on ((want_dep hdep 8 16 false rfl (by kernel_rfl) (by kernel_rfl) (fun v h => h)).trans rfl) ?_
  have e0 : a.tmps[0]? = some (.pointer (some ⟨c, 0, none⟩)) := ev_seg hoth 0 (by kernel_rfl) rfl
  exact step_val ((BigFrame.run_move _ rfl w).trans (by rw [ev_of e0])) rfl
 ·intro a w hb hoth hdep
  refine step_on ((want_dep hdep 8 16 false rfl (by kernel_rfl) (by kernel_rfl) (fun v h => h)).trans rfl) ?_
  obtain ⟨v11, e19, hv11⟩ := ev_dep hdep 11 19 (by kernel_rfl) (by kernel_rfl)
  replace hv11 : v11 = .pointer (some ⟨c, 0, none⟩) := hv11
  subst hv11
  refine step_call (f := 63) (args := #[.pointer (some ⟨c, 0, none⟩)]) ?_ ?_
  ·simp [go_sem, e19]
  ·have hcx := wkPlace (HD.out.1.below hb) HW.out.2
   (with_reducible refine hcx.mono ?_)
   clear hcx
   rintro e w2 ⟨rfl, hw⟩
   subst hw
   exact ⟨_, rfl, rfl, Below.refl _ _⟩
 ·intro a w hb hoth hdep
  refine step_on ((want_dep hdep 8 16 false rfl (by kernel_rfl) (by kernel_rfl) (fun v h => h)).trans rfl) ?_
  obtain ⟨v10, e18, hv10⟩ := ev_dep hdep 10 18 (by kernel_rfl) (by kernel_rfl)
  replace hv10 : v10 = .int .i64 m.to_ := hv10
  subst hv10
  obtain ⟨v12, e20, hv12⟩ := ev_dep hdep 12 20 (by kernel_rfl) (by kernel_rfl)
  replace hv12 : v12 = .int .i64 (100 + s.node) := hv12
  subst hv12
  refine step_val (x := .bool false) ?_ rfl
  simp [go_sem, e18, e20, hto]
 case fin =>
  intro wz hbz
  iterate 15 (rintro _ rfl)
  refine FinC.nil ?_
  refine cont_end (by kernel_rfl) ?_
  have HZ := Lib.hid (And.intro (HD.out.1.below hbz) (And.intro (HD.out.2.1.below hbz HD.out.2.1.lt) (HD.out.2.2.then_below hbz)))
  clear hbz HD
  clear H1
  have m0 : wz.cell? ⟨b, 0, none⟩ = some (.int .i64 m.kind) := (HZ.out.2.1.cell 0).trans rfl
  have ml := HZ.out.2.1.lt
  go_upto_region 12 with fail
  clear m0 ml hmf
  refine Cont.start (by kernel_rfl) ?_
  have HD := Lib.hid (And.intro (HZ.out.1.below (Below.refl _ _).drew) (And.intro (HZ.out.2.1.below (Below.refl _ _).drew HZ.out.2.1.lt) (HZ.out.2.2.then_below (Below.refl _ _).drew)))
  generalize wz.drew = wd at HD ⊢
  refine cont_free 0 5 37 [] [.o (eqV (.pointer (some ⟨c, 0, none⟩))), .o (eqV (.pointer (some ⟨c, 0, none⟩))), .o (eqV (.pointer (some ⟨c, 0, none⟩))), .o (eqV (.pointer (some ⟨b, 3, none⟩))), .o (eqV (.int .i64 m.epoch))] [false, false, false, false, false] (by kernel_rfl) (by kernel_rfl) (by kernel_rfl) (by kernel_rfl) (by kernel_rfl) (by kernel_rfl) (by kernel_rfl) rfl (by kernel_rfl) (by kernel_rfl) ⟨?_, ?_, ?_, ?_, ?_, trivial⟩ ?fin
  ·intro a w hb hoth hdep
   refine step_on (want_none rfl) ?_
   have e0 : a.tmps[0]? = some (.pointer (some ⟨c, 0, none⟩)) := ev_seg hoth 0 (by kernel_rfl) rfl
   exact step_val ((BigFrame.run_move _ rfl w).trans (by rw [ev_of e0])) rfl
  ·intro a w hb hoth hdep
   refine step_on (want_none rfl) ?_
   obtain ⟨v0, e37, hv0⟩ := ev_dep hdep 0 37 (by kernel_rfl) (by kernel_rfl)
   replace hv0 : v0 = .pointer (some ⟨c, 0, none⟩) := hv0
   subst hv0
   refine step_val (x := .pointer (some ⟨c, 0, none⟩)) ?_ rfl
   simp [go_sem, e37]
  ·intro a w hb hoth hdep
   refine step_on (want_none rfl) ?_
   obtain ⟨v1, e38, hv1⟩ := ev_dep hdep 1 38 (by kernel_rfl) (by kernel_rfl)
   replace hv1 : v1 = .pointer (some ⟨c, 0, none⟩) := hv1
   subst hv1
   refine step_val (x := .pointer (some ⟨c, 0, none⟩)) ?_ rfl
   simp [go_sem, e38]
  ·intro a w hb hoth hdep
   refine step_on (want_none rfl) ?_
   have e5 : a.tmps[5]? = some (.pointer (some ⟨b, 0, none⟩)) := ev_seg hoth 5 (by kernel_rfl) rfl
   refine step_val (x := .pointer (some ⟨b, 3, none⟩)) ?_ rfl
   simp [go_sem, e5]
  ·intro a w hb hoth hdep
   refine step_on (want_none rfl) ?_
   obtain ⟨v3, e40, hv3⟩ := ev_dep hdep 3 40 (by kernel_rfl) (by kernel_rfl)
   replace hv3 : v3 = .pointer (some ⟨b, 3, none⟩) := hv3
   subst hv3
   have m3 : w.cell? ⟨b, 3, none⟩ = some (.int .i64 m.epoch) := ((HD.out.2.1.below hb HD.out.2.1.lt).cell 3).trans rfl
   refine step_val (x := .int .i64 m.epoch) ?_ rfl
   simp [go_sem, e40, m3]
  case fin =>
   intro wy hby
   iterate 5 (rintro _ rfl)
   refine FinC.nil ?_
   have HV := Lib.hid (And.intro (HD.out.1.below hby) (And.intro (HD.out.2.1.below hby HD.out.2.1.lt) (HD.out.2.2.then_below hby)))
   clear hby HD
   refine cont_line 5 2 (by kernel_rfl) (by kernel_rfl) (by kernel_rfl) ?_
   have hcx := wkPass HV.out.1 m.epoch
   rw [HPP.out.1, HPP.out.2] at hcx
   go_wp2_with fail
   (with_reducible refine hcx.mono ?_)
   clear hcx
   rintro rr w3 ⟨rfl, v3, hw3, ht3⟩
   have HP := Lib.hid (And.intro hw3 (And.intro (HV.out.2.1.kept ht3.kept (HV.out.1.not_blk HV.out.2.1 (by decide))) (HV.out.2.2.trans ht3)))
   clear hw3 ht3
   go_wp2_with fail
   show Cont _ _ _ _ _ _
   refine cont_free2 7 22 44 [.any, .any, .any, .any, .any, .any, .b false] [.u, .u, .u, .u, .u, .u, .u, .b false, .b false, .u, .u, .u, .u, .b false] [6] [.b false] [true, true, true, true, true, true, true, false, true, true, true, true, true, true, true] (by kernel_rfl) (by kernel_rfl) (by kernel_rfl) (by kernel_rfl) (by kernel_rfl) (by kernel_rfl) (by kernel_rfl) rfl (by kernel_rfl) (by kernel_rfl) ⟨?_, trivial⟩ ?fin
   ·intro a w hb hoth hdep
    refine step_on (want_none rfl) ?_
    have e43 : a.tmps[43]? = some (.bool false) := ev_seg hoth 43 (by kernel_rfl) rfl
    obtain ⟨v13, e50, hv13⟩ := ev_dep hdep 13 50 (by kernel_rfl) (by kernel_rfl)
    replace hv13 : v13 = undef := hv13
    subst hv13
    refine step_val (x := .bool false) ?_ rfl
    simp [go_sem, e43, e50]
   case fin =>
    intro wq hbq
    iterate 14 (rintro _ rfl)
    refine FinC.nil ?_
    iterate 1 (rintro _ rfl)
    refine FinL.nil ?_
    have HQ := Lib.hid (And.intro (HP.out.1.below hbq) (And.intro (HP.out.2.1.below hbq HP.out.2.1.lt) (HP.out.2.2.then_below hbq)))
    clear hbq
    refine cont_end (by kernel_rfl) ?_
    go_wp2
    go_ret
    exact ⟨rfl, v3, HQ.out.1, HQ.out.2.2⟩
set_option maxRecDepth 100000 in
set_option maxHeartbeats 6400000 in
theorem wkHear_3ni (h : WkAt w c v s) (hw : WaysAt w) (hn : 0 ≤ s.node ∧ s.node ≤ 15) (now : Int) (m : LMsg) (hu : s.up = true) (hk : checkM m = 0) (ht : m.to_ = 100 + s.node) (hkd : m.kind = 3) (s1 : WS) (hs1 : s.pass m.epoch = s1) (hp : passB s.epoch m.epoch = true) (hi : m.inc ≠ s1.inc) : Calls Tryd.prog 29 #[.pointer (some ⟨c, 0, none⟩), .int .i64 now, aggMsg m] w fun e w' => e = .returned (.bool false) ∧ ∃ v', WkAt w' c v' s1 ∧ Turned (wkS c v) (wkS c v') w w' := by
 have HU := Lib.hid hu
 clear hu
 obtain ⟨ck, hck0⟩ : ∃ ck, checkM m = ck := ⟨_, rfl⟩
 have hck : (ck != 0) = false := by rw [← hck0]; simp [hk]
 have HC := Lib.hid hck0
 have hto : (m.to_ != 100 + s.node) = false := by simp [ht]
 clear hk hck0 ht
 have k2 : (m.kind == 2) = false := by simp [hkd]
 have k3 : (m.kind == 3) = true := by simp [hkd]
 have HPP := Lib.hid (And.intro hp hs1)
 clear hp hs1 hkd
 have hinc : (m.inc == s1.inc) = false := by simp [hi]
 clear hi
 have hmf : ∀ (fn : Fn) (first cap : Array Value) (w : World), (Instr.makeFunc fn first cap).run Tryd.prog w = .ok (.func fn first cap) w := fun _ _ _ _ => rfl
 have hB : Below w.heap.size w (w.alloc (.cells (boxMsg m) 38)) := (Below.refl _ _).alloc (Nat.le_refl _) _
 have hbm := Blk.new w 38 (boxMsg m)
 have H0 := Lib.hid (And.intro (h.below hB) (And.intro hbm (Turned.of_below (S := wkS c v) hB)))
 have HW0 := Lib.hid (And.intro (hw.below hB) hn)
 clear h hB hbm hw hn
 go_enter Tryd.func29, Tryd.ntmps29
 go_upto_region 1 with fail
 generalize (w.alloc (.cells (boxMsg m) 38)) = w1 at H0 HW0 ⊢
 obtain ⟨b, hb⟩ : ∃ b, w.heap.size = b := ⟨_, rfl⟩
 have H1 : Hid (WkAt w1 c v s ∧ Blk w1 b 38 (boxMsg m) ∧ Turned (wkS c v) (wkS c v) w w1) := Lib.hid (by rw [← hb]; exact H0.out)
 try simp only [hb]
 clear hb H0
 refine Cont.start (by kernel_rfl) ?_
 have HD := Lib.hid (And.intro (H1.out.1.below (Below.refl _ _).drew) (And.intro (H1.out.2.1.below (Below.refl _ _).drew H1.out.2.1.lt) (H1.out.2.2.then_below (Below.refl _ _).drew)))
 have HW := Lib.hid (And.intro (HW0.out.1.below (Below.refl w1.heap.size w1).drew) HW0.out.2)
 generalize w1.drew = wd at HD HW ⊢
 refine cont_free 0 15 8 [] [.o (eqV (.pointer (some ⟨c, 0, none⟩))), .b true, .b false, .b false, .o (eqV (aggMsg m)), .o (eqV (.int .i64 ck)), .b false, .b false, .b false, .o (eqV (.pointer (some ⟨b, 2, none⟩))), .o (eqV (.int .i64 m.to_)), .o (eqV (.pointer (some ⟨c, 0, none⟩))), .o (eqV (.int .i64 (100 + s.node))), .b false, .b false] [false, false, true, true, false, false, false, true, true, false, false, false, false, false, true] (by kernel_rfl) (by kernel_rfl) (by kernel_rfl) (by kernel_rfl) (by kernel_rfl) (by kernel_rfl) (by kernel_rfl) rfl (by kernel_rfl) (by kernel_rfl) ⟨?_, ?_, ?_, ?_, ?_, ?_, ?_, ?_, ?_, ?_, trivial⟩ ?fin
 ·intro a w hb hoth hdep
  refine step_on (want_none rfl) ?_
  have e0 : a.tmps[0]? = some (.pointer (some ⟨c, 0, none⟩)) := ev_seg hoth 0 (by kernel_rfl) rfl
  exact step_val ((BigFrame.run_move _ rfl w).trans (by rw [ev_of e0])) rfl
 ·intro a w hb hoth hdep
  refine step_on (want_none rfl) ?_
  obtain ⟨v0, e8, hv0⟩ := ev_dep hdep 0 8 (by kernel_rfl) (by kernel_rfl)
  replace hv0 : v0 = .pointer (some ⟨c, 0, none⟩) := hv0
  subst hv0
  refine step_call (f := 33) (args := #[.pointer (some ⟨c, 0, none⟩)]) ?_ ?_
  ·simp [go_sem, e8]
  ·have hcx := wkUp (HD.out.1.below hb)
   rw [HU.out] at hcx
   (with_reducible refine hcx.mono ?_)
   clear hcx
   rintro e w2 ⟨rfl, hw⟩
   subst hw
   exact ⟨_, rfl, rfl, Below.refl _ _⟩
 ·intro a w hb hoth hdep
  refine step_on ((want_dep hdep 3 11 false rfl (by kernel_rfl) (by kernel_rfl) (fun v h => h)).trans rfl) ?_
  have e5 : a.tmps[5]? = some (.pointer (some ⟨b, 0, none⟩)) := ev_seg hoth 5 (by kernel_rfl) rfl
  obtain ⟨m0, m1, m2, m3, m4, m5, m6, m7, m8, m9, m10, m11⟩ := msgCells (HD.out.2.1.below hb HD.out.2.1.lt)
  refine step_val (x := aggMsg m) ?_ rfl
  simp [go_sem, e5, m0, m1, m2, m3, m4, m5, m6, m7, m8, m9, m10, m11, aggMsg]
 ·intro a w hb hoth hdep
  refine step_on ((want_dep hdep 3 11 false rfl (by kernel_rfl) (by kernel_rfl) (fun v h => h)).trans rfl) ?_
  obtain ⟨v4, e12, hv4⟩ := ev_dep hdep 4 12 (by kernel_rfl) (by kernel_rfl)
  replace hv4 : v4 = aggMsg m := hv4
  subst hv4
  refine step_call (f := 47) (args := #[aggMsg m]) ?_ ?_
  ·simp [go_sem, e12]
  ·have hcx := msgCheck_t m w (HW.out.1.below hb)
   rw [HC.out] at hcx
   (with_reducible refine hcx.mono ?_)
   clear hcx
   rintro e w2 ⟨rfl, hB⟩
   exact ⟨_, rfl, rfl, hB⟩
 ·intro a w hb hoth hdep
  refine step_on ((want_dep hdep 3 11 false rfl (by kernel_rfl) (by kernel_rfl) (fun v h => h)).trans rfl) ?_
  obtain ⟨v5, e13, hv5⟩ := ev_dep hdep 5 13 (by kernel_rfl) (by kernel_rfl)
  replace hv5 : v5 = .int .i64 ck := hv5
  subst hv5
  refine step_val (x := .bool false) ?_ rfl
  simp [go_sem, e13, hck]
 ·intro a w hb hoth hdep
  refine step_on ((want_dep hdep 8 16 false rfl (by kernel_rfl) (by kernel_rfl) (fun v h => h)).trans rfl) ?_
  have e5 : a.tmps[5]? = some (.pointer (some ⟨b, 0, none⟩)) := ev_seg hoth 5 (by kernel_rfl) rfl
  refine step_val (x := .pointer (some ⟨b, 2, none⟩)) ?_ rfl
  simp [go_sem, e5]
 ·intro a w hb hoth hdep
  refine step_on ((want_dep hdep 8 16 false rfl (by kernel_rfl) (by kernel_rfl) (fun v h => h)).trans rfl) ?_
  obtain ⟨v9, e17, hv9⟩ := ev_dep hdep 9 17 (by kernel_rfl) (by kernel_rfl)
  replace hv9 : v9 = .pointer (some ⟨b, 2, none⟩) := hv9
  subst hv9
  have m2 : w.cell? ⟨b, 2, none⟩ = some (.int .i64 m.to_) := ((HD.out.2.1.below hb HD.out.2.1.lt).cell 2).trans rfl
  refine step_val (x := .int .i64 m.to_) ?_ rfl
  simp [go_sem, e17, m2]
 ·intro a w hb hoth hdep
  refine step_on ((want_dep hdep 8 16 false rfl (by kernel_rfl) (by kernel_rfl) (fun v h => h)).trans rfl) ?_
  have e0 : a.tmps[0]? = some (.pointer (some ⟨c, 0, none⟩)) := ev_seg hoth 0 (by kernel_rfl) rfl
  exact step_val ((BigFrame.run_move _ rfl w).trans (by rw [ev_of e0])) rfl
 ·intro a w hb hoth hdep
  refine step_on ((want_dep hdep 8 16 false rfl (by kernel_rfl) (by kernel_rfl) (fun v h => h)).trans rfl) ?_
  obtain ⟨v11, e19, hv11⟩ := ev_dep hdep 11 19 (by kernel_rfl) (by kernel_rfl)
  replace hv11 : v11 = .pointer (some ⟨c, 0, none⟩) := hv11
  subst hv11
  refine step_call (f := 63) (args := #[.pointer (some ⟨c, 0, none⟩)]) ?_ ?_
  ·simp [go_sem, e19]
  ·have hcx := wkPlace (HD.out.1.below hb) HW.out.2
   (with_reducible refine hcx.mono ?_)
   clear hcx
   rintro e w2 ⟨rfl, hw⟩
   subst hw
   exact ⟨_, rfl, rfl, Below.refl _ _⟩
 ·intro a w hb hoth hdep
  refine step_on ((want_dep hdep 8 16 false rfl (by kernel_rfl) (by kernel_rfl) (fun v h => h)).trans rfl) ?_
  obtain ⟨v10, e18, hv10⟩ := ev_dep hdep 10 18 (by kernel_rfl) (by kernel_rfl)
  replace hv10 : v10 = .int .i64 m.to_ := hv10
  subst hv10
  obtain ⟨v12, e20, hv12⟩ := ev_dep hdep 12 20 (by kernel_rfl) (by kernel_rfl)
  replace hv12 : v12 = .int .i64 (100 + s.node) := hv12
  subst hv12
  refine step_val (x := .bool false) ?_ rfl
  simp [go_sem, e18, e20, hto]
 case fin =>
  intro wz hbz
  iterate 15 (rintro _ rfl)
  refine FinC.nil ?_
  refine cont_end (by kernel_rfl) ?_
  have HZ := Lib.hid (And.intro (HD.out.1.below hbz) (And.intro (HD.out.2.1.below hbz HD.out.2.1.lt) (HD.out.2.2.then_below hbz)))
  clear hbz HD
  clear H1
  have m0 : wz.cell? ⟨b, 0, none⟩ = some (.int .i64 m.kind) := (HZ.out.2.1.cell 0).trans rfl
  have ml := HZ.out.2.1.lt
  go_upto_region 12 with fail
  clear m0 ml hmf
  refine Cont.start (by kernel_rfl) ?_
  have HD := Lib.hid (And.intro (HZ.out.1.below (Below.refl _ _).drew) (And.intro (HZ.out.2.1.below (Below.refl _ _).drew HZ.out.2.1.lt) (HZ.out.2.2.then_below (Below.refl _ _).drew)))
  generalize wz.drew = wd at HD ⊢
  refine cont_free 0 5 37 [] [.o (eqV (.pointer (some ⟨c, 0, none⟩))), .o (eqV (.pointer (some ⟨c, 0, none⟩))), .o (eqV (.pointer (some ⟨c, 0, none⟩))), .o (eqV (.pointer (some ⟨b, 3, none⟩))), .o (eqV (.int .i64 m.epoch))] [false, false, false, false, false] (by kernel_rfl) (by kernel_rfl) (by kernel_rfl) (by kernel_rfl) (by kernel_rfl) (by kernel_rfl) (by kernel_rfl) rfl (by kernel_rfl) (by kernel_rfl) ⟨?_, ?_, ?_, ?_, ?_, trivial⟩ ?fin
  ·intro a w hb hoth hdep
   refine step_on (want_none rfl) ?_
   have e0 : a.tmps[0]? = some (.pointer (some ⟨c, 0, none⟩)) := ev_seg hoth 0 (by kernel_rfl) rfl
   exact step_val ((BigFrame.run_move _ rfl w).trans (by rw [ev_of e0])) rfl
  ·intro a w hb hoth hdep
   refine step_on (want_none rfl) ?_
   obtain ⟨v0, e37, hv0⟩ := ev_dep hdep 0 37 (by kernel_rfl) (by kernel_rfl)
   replace hv0 : v0 = .pointer (some ⟨c, 0, none⟩) := hv0
   subst hv0
   refine step_val (x := .pointer (some ⟨c, 0, none⟩)) ?_ rfl
   simp [go_sem, e37]
  ·intro a w hb hoth hdep
   refine step_on (want_none rfl) ?_
   obtain ⟨v1, e38, hv1⟩ := ev_dep hdep 1 38 (by kernel_rfl) (by kernel_rfl)
   replace hv1 : v1 = .pointer (some ⟨c, 0, none⟩) := hv1
   subst hv1
   refine step_val (x := .pointer (some ⟨c, 0, none⟩)) ?_ rfl
   simp [go_sem, e38]
  ·intro a w hb hoth hdep
   refine step_on (want_none rfl) ?_
   have e5 : a.tmps[5]? = some (.pointer (some ⟨b, 0, none⟩)) := ev_seg hoth 5 (by kernel_rfl) rfl
   refine step_val (x := .pointer (some ⟨b, 3, none⟩)) ?_ rfl
   simp [go_sem, e5]
  ·intro a w hb hoth hdep
   refine step_on (want_none rfl) ?_
   obtain ⟨v3, e40, hv3⟩ := ev_dep hdep 3 40 (by kernel_rfl) (by kernel_rfl)
   replace hv3 : v3 = .pointer (some ⟨b, 3, none⟩) := hv3
   subst hv3
   have m3 : w.cell? ⟨b, 3, none⟩ = some (.int .i64 m.epoch) := ((HD.out.2.1.below hb HD.out.2.1.lt).cell 3).trans rfl
   refine step_val (x := .int .i64 m.epoch) ?_ rfl
   simp [go_sem, e40, m3]
  case fin =>
   intro wy hby
   iterate 5 (rintro _ rfl)
   refine FinC.nil ?_
   have HV := Lib.hid (And.intro (HD.out.1.below hby) (And.intro (HD.out.2.1.below hby HD.out.2.1.lt) (HD.out.2.2.then_below hby)))
   clear hby HD
   refine cont_line 5 2 (by kernel_rfl) (by kernel_rfl) (by kernel_rfl) ?_
   have hcx := wkPass HV.out.1 m.epoch
   rw [HPP.out.1, HPP.out.2] at hcx
   go_wp2_with fail
   (with_reducible refine hcx.mono ?_)
   clear hcx
   rintro rr w3 ⟨rfl, v3, hw3, ht3⟩
   have HP := Lib.hid (And.intro hw3 (And.intro (HV.out.2.1.kept ht3.kept (HV.out.1.not_blk HV.out.2.1 (by decide))) (HV.out.2.2.trans ht3)))
   clear hw3 ht3
   go_wp2_with fail
   show Cont _ _ _ _ _ _
   refine cont_free2 7 22 44 [.any, .any, .any, .any, .any, .any, .b true] [.o (eqV (.pointer (some ⟨b, 4, none⟩))), .o (eqV (.int .i64 m.inc)), .o (eqV (.pointer (some ⟨c, 0, none⟩))), .o (eqV (.pointer (some ⟨c, 0, none⟩))), .o (eqV (.pointer (some ⟨c, 5, none⟩))), .o (eqV (.int .i64 s1.inc)), .b false, .b false, .b false, .u, .u, .u, .u, .b false] [6] [.b false] [false, false, false, false, false, false, false, false, true, true, true, true, true, true, true] (by kernel_rfl) (by kernel_rfl) (by kernel_rfl) (by kernel_rfl) (by kernel_rfl) (by kernel_rfl) (by kernel_rfl) rfl (by kernel_rfl) (by kernel_rfl) ⟨?_, ?_, ?_, ?_, ?_, ?_, ?_, ?_, trivial⟩ ?fin
   ·intro a w hb hoth hdep
    refine step_on ((want_dep hdep 6 43 true rfl (by kernel_rfl) (by kernel_rfl) (fun v h => h)).trans rfl) ?_
    have e5 : a.tmps[5]? = some (.pointer (some ⟨b, 0, none⟩)) := ev_seg hoth 5 (by kernel_rfl) rfl
    refine step_val (x := .pointer (some ⟨b, 4, none⟩)) ?_ rfl
    simp [go_sem, e5]
   ·intro a w hb hoth hdep
    refine step_on ((want_dep hdep 6 43 true rfl (by kernel_rfl) (by kernel_rfl) (fun v h => h)).trans rfl) ?_
    obtain ⟨v7, e44, hv7⟩ := ev_dep hdep 7 44 (by kernel_rfl) (by kernel_rfl)
    replace hv7 : v7 = .pointer (some ⟨b, 4, none⟩) := hv7
    subst hv7
    have m4 : w.cell? ⟨b, 4, none⟩ = some (.int .i64 m.inc) := ((HP.out.2.1.below hb HP.out.2.1.lt).cell 4).trans rfl
    refine step_val (x := .int .i64 m.inc) ?_ rfl
    simp [go_sem, e44, m4]
   ·intro a w hb hoth hdep
    refine step_on ((want_dep hdep 6 43 true rfl (by kernel_rfl) (by kernel_rfl) (fun v h => h)).trans rfl) ?_
    have e0 : a.tmps[0]? = some (.pointer (some ⟨c, 0, none⟩)) := ev_seg hoth 0 (by kernel_rfl) rfl
    exact step_val ((BigFrame.run_move _ rfl w).trans (by rw [ev_of e0])) rfl
   ·intro a w hb hoth hdep
    refine step_on ((want_dep hdep 6 43 true rfl (by kernel_rfl) (by kernel_rfl) (fun v h => h)).trans rfl) ?_
    obtain ⟨v9, e46, hv9⟩ := ev_dep hdep 9 46 (by kernel_rfl) (by kernel_rfl)
    replace hv9 : v9 = .pointer (some ⟨c, 0, none⟩) := hv9
    subst hv9
    refine step_val (x := .pointer (some ⟨c, 0, none⟩)) ?_ rfl
    simp [go_sem, e46]
   ·intro a w hb hoth hdep
    refine step_on ((want_dep hdep 6 43 true rfl (by kernel_rfl) (by kernel_rfl) (fun v h => h)).trans rfl) ?_
    obtain ⟨v10, e47, hv10⟩ := ev_dep hdep 10 47 (by kernel_rfl) (by kernel_rfl)
    replace hv10 : v10 = .pointer (some ⟨c, 0, none⟩) := hv10
    subst hv10
    refine step_val (x := .pointer (some ⟨c, 5, none⟩)) ?_ rfl
    simp [go_sem, e47]
   ·intro a w hb hoth hdep
    refine step_on ((want_dep hdep 6 43 true rfl (by kernel_rfl) (by kernel_rfl) (fun v h => h)).trans rfl) ?_
    obtain ⟨v11, e48, hv11⟩ := ev_dep hdep 11 48 (by kernel_rfl) (by kernel_rfl)
    replace hv11 : v11 = .pointer (some ⟨c, 5, none⟩) := hv11
    subst hv11
    obtain ⟨c0, c1, c2, c3, c4, c5, c6, c7, c8, c9, c10, c11, c12, c13, c14⟩ := wkCells (HP.out.1.below hb).blk
    refine step_val (x := .int .i64 s1.inc) ?_ rfl
    simp [go_sem, e48, c5]
   ·intro a w hb hoth hdep
    refine step_on ((want_dep hdep 6 43 true rfl (by kernel_rfl) (by kernel_rfl) (fun v h => h)).trans rfl) ?_
    obtain ⟨v8, e45, hv8⟩ := ev_dep hdep 8 45 (by kernel_rfl) (by kernel_rfl)
    replace hv8 : v8 = .int .i64 m.inc := hv8
    subst hv8
    obtain ⟨v12, e49, hv12⟩ := ev_dep hdep 12 49 (by kernel_rfl) (by kernel_rfl)
    replace hv12 : v12 = .int .i64 s1.inc := hv12
    subst hv12
    refine step_val (x := .bool false) ?_ rfl
    simp [go_sem, e45, e49, hinc]
   ·intro a w hb hoth hdep
    refine step_on (want_none rfl) ?_
    have e43 : a.tmps[43]? = some (.bool true) := ev_seg hoth 43 (by kernel_rfl) rfl
    obtain ⟨v13, e50, hv13⟩ := ev_dep hdep 13 50 (by kernel_rfl) (by kernel_rfl)
    replace hv13 : v13 = .bool false := hv13
    subst hv13
    refine step_val (x := .bool false) ?_ rfl
    simp [go_sem, e43, e50]
   case fin =>
    intro wq hbq
    iterate 14 (rintro _ rfl)
    refine FinC.nil ?_
    iterate 1 (rintro _ rfl)
    refine FinL.nil ?_
    have HQ := Lib.hid (And.intro (HP.out.1.below hbq) (And.intro (HP.out.2.1.below hbq HP.out.2.1.lt) (HP.out.2.2.then_below hbq)))
    clear hbq
    refine cont_end (by kernel_rfl) ?_
    go_wp2
    go_ret
    exact ⟨rfl, v3, HQ.out.1, HQ.out.2.2⟩
set_option maxRecDepth 100000 in
set_option maxHeartbeats 6400000 in
theorem wkHear_3go (h : WkAt w c v s) (hw : WaysAt w) (hn : 0 ≤ s.node ∧ s.node ≤ 15) (now : Int) (m : LMsg) (hu : s.up = true) (hk : checkM m = 0) (ht : m.to_ = 100 + s.node) (hkd : m.kind = 3) (s1 : WS) (hs1 : s.pass m.epoch = s1) (hp : passB s.epoch m.epoch = true) (hi : m.inc = s1.inc) (bb : Bool) (s2 : WS) (HC2 : ∀ (W : World) (u : WV), WkAt W c u s1 → Calls Tryd.prog 65 #[.pointer (some ⟨c, 0, none⟩), .int .i64 now, aggMsg m] W fun e w' => e = .returned (.bool bb) ∧ ∃ v', WkAt w' c v' s2 ∧ Turned (wkS c u) (wkS c v') W w') : Calls Tryd.prog 29 #[.pointer (some ⟨c, 0, none⟩), .int .i64 now, aggMsg m] w fun e w' => e = .returned (.bool bb) ∧ ∃ v', WkAt w' c v' s2 ∧ Turned (wkS c v) (wkS c v') w w' := by
 have HU := Lib.hid hu
 clear hu
 obtain ⟨ck, hck0⟩ : ∃ ck, checkM m = ck := ⟨_, rfl⟩
 have hck : (ck != 0) = false := by rw [← hck0]; simp [hk]
 have HC := Lib.hid hck0
 have hto : (m.to_ != 100 + s.node) = false := by simp [ht]
 clear hk hck0 ht
 have k2 : (m.kind == 2) = false := by simp [hkd]
 have k3 : (m.kind == 3) = true := by simp [hkd]
 have HPP := Lib.hid (And.intro hp hs1)
 clear hp hs1 hkd
 have hinc : (m.inc == s1.inc) = true := by simp [hi]
 have HCC := Lib.hid HC2
 clear hi HC2
 have hmf : ∀ (fn : Fn) (first cap : Array Value) (w : World), (Instr.makeFunc fn first cap).run Tryd.prog w = .ok (.func fn first cap) w := fun _ _ _ _ => rfl
 have hB : Below w.heap.size w (w.alloc (.cells (boxMsg m) 38)) := (Below.refl _ _).alloc (Nat.le_refl _) _
 have hbm := Blk.new w 38 (boxMsg m)
 have H0 := Lib.hid (And.intro (h.below hB) (And.intro hbm (Turned.of_below (S := wkS c v) hB)))
 have HW0 := Lib.hid (And.intro (hw.below hB) hn)
 clear h hB hbm hw hn
 go_enter Tryd.func29, Tryd.ntmps29
 go_upto_region 1 with fail
 generalize (w.alloc (.cells (boxMsg m) 38)) = w1 at H0 HW0 ⊢
 obtain ⟨b, hb⟩ : ∃ b, w.heap.size = b := ⟨_, rfl⟩
 have H1 : Hid (WkAt w1 c v s ∧ Blk w1 b 38 (boxMsg m) ∧ Turned (wkS c v) (wkS c v) w w1) := Lib.hid (by rw [← hb]; exact H0.out)
 try simp only [hb]
 clear hb H0
 refine Cont.start (by kernel_rfl) ?_
 have HD := Lib.hid (And.intro (H1.out.1.below (Below.refl _ _).drew) (And.intro (H1.out.2.1.below (Below.refl _ _).drew H1.out.2.1.lt) (H1.out.2.2.then_below (Below.refl _ _).drew)))
 have HW := Lib.hid (And.intro (HW0.out.1.below (Below.refl w1.heap.size w1).drew) HW0.out.2)
 generalize w1.drew = wd at HD HW ⊢
 refine cont_free 0 15 8 [] [.o (eqV (.pointer (some ⟨c, 0, none⟩))), .b true, .b false, .b false, .o (eqV (aggMsg m)), .o (eqV (.int .i64 ck)), .b false, .b false, .b false, .o (eqV (.pointer (some ⟨b, 2, none⟩))), .o (eqV (.int .i64 m.to_)), .o (eqV (.pointer (some ⟨c, 0, none⟩))), .o (eqV (.int .i64 (100 + s.node))), .b false, .b false] [false, false, true, true, false, false, false, true, true, false, false, false, false, false, true] (by kernel_rfl) (by kernel_rfl) (by kernel_rfl) (by kernel_rfl) (by kernel_rfl) (by kernel_rfl) (by kernel_rfl) rfl (by kernel_rfl) (by kernel_rfl) ⟨?_, ?_, ?_, ?_, ?_, ?_, ?_, ?_, ?_, ?_, trivial⟩ ?fin
 ·intro a w hb hoth hdep
  refine step_on (want_none rfl) ?_
  have e0 : a.tmps[0]? = some (.pointer (some ⟨c, 0, none⟩)) := ev_seg hoth 0 (by kernel_rfl) rfl
  exact step_val ((BigFrame.run_move _ rfl w).trans (by rw [ev_of e0])) rfl
 ·intro a w hb hoth hdep
  refine step_on (want_none rfl) ?_
  obtain ⟨v0, e8, hv0⟩ := ev_dep hdep 0 8 (by kernel_rfl) (by kernel_rfl)
  replace hv0 : v0 = .pointer (some ⟨c, 0, none⟩) := hv0
  subst hv0
  refine step_call (f := 33) (args := #[.pointer (some ⟨c, 0, none⟩)]) ?_ ?_
  ·simp [go_sem, e8]
  ·have hcx := wkUp (HD.out.1.below hb)
   rw [HU.out] at hcx
   (with_reducible refine hcx.mono ?_)
   clear hcx
   rintro e w2 ⟨rfl, hw⟩
   subst hw
   exact ⟨_, rfl, rfl, Below.refl _ _⟩
 ·intro a w hb hoth hdep
  refine step_on ((want_dep hdep 3 11 false rfl (by kernel_rfl) (by kernel_rfl) (fun v h => h)).trans rfl) ?_
  have e5 : a.tmps[5]? = some (.pointer (some ⟨b, 0, none⟩)) := ev_seg hoth 5 (by kernel_rfl) rfl
  obtain ⟨m0, m1, m2, m3, m4, m5, m6, m7, m8, m9, m10, m11⟩ := msgCells (HD.out.2.1.below hb HD.out.2.1.lt)
  refine step_val (x := aggMsg m) ?_ rfl
  simp [go_sem, e5, m0, m1, m2, m3, m4, m5, m6, m7, m8, m9, m10, m11, aggMsg]
 ·intro a w hb hoth hdep
  refine step_on ((want_dep hdep 3 11 false rfl (by kernel_rfl) (by kernel_rfl) (fun v h => h)).trans rfl) ?_
  obtain ⟨v4, e12, hv4⟩ := ev_dep hdep 4 12 (by kernel_rfl) (by kernel_rfl)
  replace hv4 : v4 = aggMsg m := hv4
  subst hv4
  refine step_call (f := 47) (args := #[aggMsg m]) ?_ ?_
  ·simp [go_sem, e12]
  ·have hcx := msgCheck_t m w (HW.out.1.below hb)
   rw [HC.out] at hcx
   (with_reducible refine hcx.mono ?_)
   clear hcx
   rintro e w2 ⟨rfl, hB⟩
   exact ⟨_, rfl, rfl, hB⟩
 ·intro a w hb hoth hdep
  refine step_on ((want_dep hdep 3 11 false rfl (by kernel_rfl) (by kernel_rfl) (fun v h => h)).trans rfl) ?_
  obtain ⟨v5, e13, hv5⟩ := ev_dep hdep 5 13 (by kernel_rfl) (by kernel_rfl)
  replace hv5 : v5 = .int .i64 ck := hv5
  subst hv5
  refine step_val (x := .bool false) ?_ rfl
  simp [go_sem, e13, hck]
 ·intro a w hb hoth hdep
  refine step_on ((want_dep hdep 8 16 false rfl (by kernel_rfl) (by kernel_rfl) (fun v h => h)).trans rfl) ?_
  have e5 : a.tmps[5]? = some (.pointer (some ⟨b, 0, none⟩)) := ev_seg hoth 5 (by kernel_rfl) rfl
  refine step_val (x := .pointer (some ⟨b, 2, none⟩)) ?_ rfl
  simp [go_sem, e5]
 ·intro a w hb hoth hdep
  refine step_on ((want_dep hdep 8 16 false rfl (by kernel_rfl) (by kernel_rfl) (fun v h => h)).trans rfl) ?_
  obtain ⟨v9, e17, hv9⟩ := ev_dep hdep 9 17 (by kernel_rfl) (by kernel_rfl)
  replace hv9 : v9 = .pointer (some ⟨b, 2, none⟩) := hv9
  subst hv9
  have m2 : w.cell? ⟨b, 2, none⟩ = some (.int .i64 m.to_) := ((HD.out.2.1.below hb HD.out.2.1.lt).cell 2).trans rfl
  refine step_val (x := .int .i64 m.to_) ?_ rfl
  simp [go_sem, e17, m2]
 ·intro a w hb hoth hdep
  refine step_on ((want_dep hdep 8 16 false rfl (by kernel_rfl) (by kernel_rfl) (fun v h => h)).trans rfl) ?_
  have e0 : a.tmps[0]? = some (.pointer (some ⟨c, 0, none⟩)) := ev_seg hoth 0 (by kernel_rfl) rfl
  exact step_val ((BigFrame.run_move _ rfl w).trans (by rw [ev_of e0])) rfl
 ·intro a w hb hoth hdep
  refine step_on ((want_dep hdep 8 16 false rfl (by kernel_rfl) (by kernel_rfl) (fun v h => h)).trans rfl) ?_
  obtain ⟨v11, e19, hv11⟩ := ev_dep hdep 11 19 (by kernel_rfl) (by kernel_rfl)
  replace hv11 : v11 = .pointer (some ⟨c, 0, none⟩) := hv11
  subst hv11
  refine step_call (f := 63) (args := #[.pointer (some ⟨c, 0, none⟩)]) ?_ ?_
  ·simp [go_sem, e19]
  ·have hcx := wkPlace (HD.out.1.below hb) HW.out.2
   (with_reducible refine hcx.mono ?_)
   clear hcx
   rintro e w2 ⟨rfl, hw⟩
   subst hw
   exact ⟨_, rfl, rfl, Below.refl _ _⟩
 ·intro a w hb hoth hdep
  refine step_on ((want_dep hdep 8 16 false rfl (by kernel_rfl) (by kernel_rfl) (fun v h => h)).trans rfl) ?_
  obtain ⟨v10, e18, hv10⟩ := ev_dep hdep 10 18 (by kernel_rfl) (by kernel_rfl)
  replace hv10 : v10 = .int .i64 m.to_ := hv10
  subst hv10
  obtain ⟨v12, e20, hv12⟩ := ev_dep hdep 12 20 (by kernel_rfl) (by kernel_rfl)
  replace hv12 : v12 = .int .i64 (100 + s.node) := hv12
  subst hv12
  refine step_val (x := .bool false) ?_ rfl
  simp [go_sem, e18, e20, hto]
 case fin =>
  intro wz hbz
  iterate 15 (rintro _ rfl)
  refine FinC.nil ?_
  refine cont_end (by kernel_rfl) ?_
  have HZ := Lib.hid (And.intro (HD.out.1.below hbz) (And.intro (HD.out.2.1.below hbz HD.out.2.1.lt) (HD.out.2.2.then_below hbz)))
  clear hbz HD
  clear H1
  have m0 : wz.cell? ⟨b, 0, none⟩ = some (.int .i64 m.kind) := (HZ.out.2.1.cell 0).trans rfl
  have ml := HZ.out.2.1.lt
  go_upto_region 12 with fail
  clear m0 ml hmf
  refine Cont.start (by kernel_rfl) ?_
  have HD := Lib.hid (And.intro (HZ.out.1.below (Below.refl _ _).drew) (And.intro (HZ.out.2.1.below (Below.refl _ _).drew HZ.out.2.1.lt) (HZ.out.2.2.then_below (Below.refl _ _).drew)))
  generalize wz.drew = wd at HD ⊢
  refine cont_free 0 5 37 [] [.o (eqV (.pointer (some ⟨c, 0, none⟩))), .o (eqV (.pointer (some ⟨c, 0, none⟩))), .o (eqV (.pointer (some ⟨c, 0, none⟩))), .o (eqV (.pointer (some ⟨b, 3, none⟩))), .o (eqV (.int .i64 m.epoch))] [false, false, false, false, false] (by kernel_rfl) (by kernel_rfl) (by kernel_rfl) (by kernel_rfl) (by kernel_rfl) (by kernel_rfl) (by kernel_rfl) rfl (by kernel_rfl) (by kernel_rfl) ⟨?_, ?_, ?_, ?_, ?_, trivial⟩ ?fin
  ·intro a w hb hoth hdep
   refine step_on (want_none rfl) ?_
   have e0 : a.tmps[0]? = some (.pointer (some ⟨c, 0, none⟩)) := ev_seg hoth 0 (by kernel_rfl) rfl
   exact step_val ((BigFrame.run_move _ rfl w).trans (by rw [ev_of e0])) rfl
  ·intro a w hb hoth hdep
   refine step_on (want_none rfl) ?_
   obtain ⟨v0, e37, hv0⟩ := ev_dep hdep 0 37 (by kernel_rfl) (by kernel_rfl)
   replace hv0 : v0 = .pointer (some ⟨c, 0, none⟩) := hv0
   subst hv0
   refine step_val (x := .pointer (some ⟨c, 0, none⟩)) ?_ rfl
   simp [go_sem, e37]
  ·intro a w hb hoth hdep
   refine step_on (want_none rfl) ?_
   obtain ⟨v1, e38, hv1⟩ := ev_dep hdep 1 38 (by kernel_rfl) (by kernel_rfl)
   replace hv1 : v1 = .pointer (some ⟨c, 0, none⟩) := hv1
   subst hv1
   refine step_val (x := .pointer (some ⟨c, 0, none⟩)) ?_ rfl
   simp [go_sem, e38]
  ·intro a w hb hoth hdep
   refine step_on (want_none rfl) ?_
   have e5 : a.tmps[5]? = some (.pointer (some ⟨b, 0, none⟩)) := ev_seg hoth 5 (by kernel_rfl) rfl
   refine step_val (x := .pointer (some ⟨b, 3, none⟩)) ?_ rfl
   simp [go_sem, e5]
  ·intro a w hb hoth hdep
   refine step_on (want_none rfl) ?_
   obtain ⟨v3, e40, hv3⟩ := ev_dep hdep 3 40 (by kernel_rfl) (by kernel_rfl)
   replace hv3 : v3 = .pointer (some ⟨b, 3, none⟩) := hv3
   subst hv3
   have m3 : w.cell? ⟨b, 3, none⟩ = some (.int .i64 m.epoch) := ((HD.out.2.1.below hb HD.out.2.1.lt).cell 3).trans rfl
   refine step_val (x := .int .i64 m.epoch) ?_ rfl
   simp [go_sem, e40, m3]
  case fin =>
   intro wy hby
   iterate 5 (rintro _ rfl)
   refine FinC.nil ?_
   have HV := Lib.hid (And.intro (HD.out.1.below hby) (And.intro (HD.out.2.1.below hby HD.out.2.1.lt) (HD.out.2.2.then_below hby)))
   clear hby HD
   refine cont_line 5 2 (by kernel_rfl) (by kernel_rfl) (by kernel_rfl) ?_
   have hcx := wkPass HV.out.1 m.epoch
   rw [HPP.out.1, HPP.out.2] at hcx
   go_wp2_with fail
   (with_reducible refine hcx.mono ?_)
   clear hcx
   rintro rr w3 ⟨rfl, v3, hw3, ht3⟩
   have HP := Lib.hid (And.intro hw3 (And.intro (HV.out.2.1.kept ht3.kept (HV.out.1.not_blk HV.out.2.1 (by decide))) (HV.out.2.2.trans ht3)))
   clear hw3 ht3
   go_wp2_with fail
   show Cont _ _ _ _ _ _
   refine cont_free 7 19 44 [.any, .any, .any, .any, .any, .any, .b true] [.o (eqV (.pointer (some ⟨b, 4, none⟩))), .o (eqV (.int .i64 m.inc)), .o (eqV (.pointer (some ⟨c, 0, none⟩))), .o (eqV (.pointer (some ⟨c, 0, none⟩))), .o (eqV (.pointer (some ⟨c, 5, none⟩))), .o (eqV (.int .i64 s1.inc)), .b true, .b true, .b true, .o (eqV (.func (.func 65) #[.pointer (some ⟨c, 0, none⟩)] #[])), .o (eqV (.int .i64 now)), .o (eqV (aggMsg m))] [false, false, false, false, false, false, false, false, true, false, false, false] (by kernel_rfl) (by kernel_rfl) (by kernel_rfl) (by kernel_rfl) (by kernel_rfl) (by kernel_rfl) (by kernel_rfl) rfl (by kernel_rfl) (by kernel_rfl) ⟨?_, ?_, ?_, ?_, ?_, ?_, ?_, ?_, ?_, ?_, ?_, trivial⟩ ?fin
   ·intro a w hb hoth hdep
    refine step_on ((want_dep hdep 6 43 true rfl (by kernel_rfl) (by kernel_rfl) (fun v h => h)).trans rfl) ?_
    have e5 : a.tmps[5]? = some (.pointer (some ⟨b, 0, none⟩)) := ev_seg hoth 5 (by kernel_rfl) rfl
    refine step_val (x := .pointer (some ⟨b, 4, none⟩)) ?_ rfl
    simp [go_sem, e5]
   ·intro a w hb hoth hdep
    refine step_on ((want_dep hdep 6 43 true rfl (by kernel_rfl) (by kernel_rfl) (fun v h => h)).trans rfl) ?_
    obtain ⟨v7, e44, hv7⟩ := ev_dep hdep 7 44 (by kernel_rfl) (by kernel_rfl)
    replace hv7 : v7 = .pointer (some ⟨b, 4, none⟩) := hv7
    subst hv7
    have m4 : w.cell? ⟨b, 4, none⟩ = some (.int .i64 m.inc) := ((HP.out.2.1.below hb HP.out.2.1.lt).cell 4).trans rfl
    refine step_val (x := .int .i64 m.inc) ?_ rfl
    simp [go_sem, e44, m4]
   ·intro a w hb hoth hdep
    refine step_on ((want_dep hdep 6 43 true rfl (by kernel_rfl) (by kernel_rfl) (fun v h => h)).trans rfl) ?_
    have e0 : a.tmps[0]? = some (.pointer (some ⟨c, 0, none⟩)) := ev_seg hoth 0 (by kernel_rfl) rfl
    exact step_val ((BigFrame.run_move _ rfl w).trans (by rw [ev_of e0])) rfl
   ·intro a w hb hoth hdep
    refine step_on ((want_dep hdep 6 43 true rfl (by kernel_rfl) (by kernel_rfl) (fun v h => h)).trans rfl) ?_
    obtain ⟨v9, e46, hv9⟩ := ev_dep hdep 9 46 (by kernel_rfl) (by kernel_rfl)
    replace hv9 : v9 = .pointer (some ⟨c, 0, none⟩) := hv9
    subst hv9
    refine step_val (x := .pointer (some ⟨c, 0, none⟩)) ?_ rfl
    simp [go_sem, e46]
   ·intro a w hb hoth hdep
    refine step_on ((want_dep hdep 6 43 true rfl (by kernel_rfl) (by kernel_rfl) (fun v h => h)).trans rfl) ?_
    obtain ⟨v10, e47, hv10⟩ := ev_dep hdep 10 47 (by kernel_rfl) (by kernel_rfl)
    replace hv10 : v10 = .pointer (some ⟨c, 0, none⟩) := hv10
    subst hv10
    refine step_val (x := .pointer (some ⟨c, 5, none⟩)) ?_ rfl
    simp [go_sem, e47]
   ·intro a w hb hoth hdep
    refine step_on ((want_dep hdep 6 43 true rfl (by kernel_rfl) (by kernel_rfl) (fun v h => h)).trans rfl) ?_
    obtain ⟨v11, e48, hv11⟩ := ev_dep hdep 11 48 (by kernel_rfl) (by kernel_rfl)
    replace hv11 : v11 = .pointer (some ⟨c, 5, none⟩) := hv11
    subst hv11
    obtain ⟨c0, c1, c2, c3, c4, c5, c6, c7, c8, c9, c10, c11, c12, c13, c14⟩ := wkCells (HP.out.1.below hb).blk
    refine step_val (x := .int .i64 s1.inc) ?_ rfl
    simp [go_sem, e48, c5]
   ·intro a w hb hoth hdep
    refine step_on ((want_dep hdep 6 43 true rfl (by kernel_rfl) (by kernel_rfl) (fun v h => h)).trans rfl) ?_
    obtain ⟨v8, e45, hv8⟩ := ev_dep hdep 8 45 (by kernel_rfl) (by kernel_rfl)
    replace hv8 : v8 = .int .i64 m.inc := hv8
    subst hv8
    obtain ⟨v12, e49, hv12⟩ := ev_dep hdep 12 49 (by kernel_rfl) (by kernel_rfl)
    replace hv12 : v12 = .int .i64 s1.inc := hv12
    subst hv12
    refine step_val (x := .bool true) ?_ rfl
    simp [go_sem, e45, e49, hinc]
   ·intro a w hb hoth hdep
    refine step_on (want_none rfl) ?_
    have e43 : a.tmps[43]? = some (.bool true) := ev_seg hoth 43 (by kernel_rfl) rfl
    obtain ⟨v13, e50, hv13⟩ := ev_dep hdep 13 50 (by kernel_rfl) (by kernel_rfl)
    replace hv13 : v13 = .bool true := hv13
    subst hv13
    refine step_val (x := .bool true) ?_ rfl
    simp [go_sem, e43, e50]
   ·intro a w hb hoth hdep
    refine step_on ((want_dep hdep 15 52 true rfl (by kernel_rfl) (by kernel_rfl) (fun v h => h)).trans rfl) ?_
    have e7 : a.tmps[7]? = some (.func (.func 65) #[.pointer (some ⟨c, 0, none⟩)] #[]) := ev_seg hoth 7 (by kernel_rfl) rfl
    exact step_val ((BigFrame.run_move _ rfl w).trans (by rw [ev_of e7])) rfl
   ·intro a w hb hoth hdep
    refine step_on ((want_dep hdep 15 52 true rfl (by kernel_rfl) (by kernel_rfl) (fun v h => h)).trans rfl) ?_
    have e1 : a.tmps[1]? = some (.int .i64 now) := ev_seg hoth 1 (by kernel_rfl) rfl
    exact step_val ((BigFrame.run_move _ rfl w).trans (by rw [ev_of e1])) rfl
   ·intro a w hb hoth hdep
    refine step_on ((want_dep hdep 15 52 true rfl (by kernel_rfl) (by kernel_rfl) (fun v h => h)).trans rfl) ?_
    have e5 : a.tmps[5]? = some (.pointer (some ⟨b, 0, none⟩)) := ev_seg hoth 5 (by kernel_rfl) rfl
    obtain ⟨m0, m1, m2, m3, m4, m5, m6, m7, m8, m9, m10, m11⟩ := msgCells (HP.out.2.1.below hb HP.out.2.1.lt)
    refine step_val (x := aggMsg m) ?_ rfl
    simp [go_sem, e5, m0, m1, m2, m3, m4, m5, m6, m7, m8, m9, m10, m11, aggMsg]
   case fin =>
    intro wq hbq
    iterate 12 (rintro _ rfl)
    refine FinC.nil ?_
    have HQ := Lib.hid (And.intro (HP.out.1.below hbq) (And.intro (HP.out.2.1.below hbq HP.out.2.1.lt) (HP.out.2.2.then_below hbq)))
    clear hbq
    refine cont_line 19 3 (by kernel_rfl) (by kernel_rfl) (by kernel_rfl) ?_
    have hcx := HCC.out _ _ HQ.out.1
    go_wp2_with fail
    (with_reducible refine hcx.mono ?_)
    clear hcx
    rintro rr w5 ⟨rfl, v5, hw5, ht5⟩
    have HE := Lib.hid (And.intro hw5 (HQ.out.2.2.trans ht5))
    clear hw5 ht5
    go_wp2_with fail
    show Cont _ _ _ _ _ _
    refine cont_end (by kernel_rfl) ?_
    go_wp2
    go_ret
    exact ⟨rfl, v5, HE.out.1, HE.out.2⟩
set_option maxRecDepth 100000 in
set_option maxHeartbeats 6400000 in
theorem wkHear_4np (h : WkAt w c v s) (hw : WaysAt w) (hn : 0 ≤ s.node ∧ s.node ≤ 15) (now : Int) (m : LMsg) (hu : s.up = true) (hk : checkM m = 0) (ht : m.to_ = 100 + s.node) (hkd : m.kind = 4) (s1 : WS) (hs1 : s.pass m.epoch = s1) (hp : passB s.epoch m.epoch = false) : Calls Tryd.prog 29 #[.pointer (some ⟨c, 0, none⟩), .int .i64 now, aggMsg m] w fun e w' => e = .returned (.bool false) ∧ ∃ v', WkAt w' c v' s1 ∧ Turned (wkS c v) (wkS c v') w w' := by
 have HU := Lib.hid hu
 clear hu
 obtain ⟨ck, hck0⟩ : ∃ ck, checkM m = ck := ⟨_, rfl⟩
 have hck : (ck != 0) = false := by rw [← hck0]; simp [hk]
 have HC := Lib.hid hck0
 have hto : (m.to_ != 100 + s.node) = false := by simp [ht]
 clear hk hck0 ht
 have k2 : (m.kind == 2) = false := by simp [hkd]
 have k3 : (m.kind == 3) = false := by simp [hkd]
 have k4 : (m.kind == 4) = true := by simp [hkd]
 have HPP := Lib.hid (And.intro hp hs1)
 clear hp hs1 hkd
 have hmf : ∀ (fn : Fn) (first cap : Array Value) (w : World), (Instr.makeFunc fn first cap).run Tryd.prog w = .ok (.func fn first cap) w := fun _ _ _ _ => rfl
 have hB : Below w.heap.size w (w.alloc (.cells (boxMsg m) 38)) := (Below.refl _ _).alloc (Nat.le_refl _) _
 have hbm := Blk.new w 38 (boxMsg m)
 have H0 := Lib.hid (And.intro (h.below hB) (And.intro hbm (Turned.of_below (S := wkS c v) hB)))
 have HW0 := Lib.hid (And.intro (hw.below hB) hn)
 clear h hB hbm hw hn
 go_enter Tryd.func29, Tryd.ntmps29
 go_upto_region 1 with fail
 generalize (w.alloc (.cells (boxMsg m) 38)) = w1 at H0 HW0 ⊢
 obtain ⟨b, hb⟩ : ∃ b, w.heap.size = b := ⟨_, rfl⟩
 have H1 : Hid (WkAt w1 c v s ∧ Blk w1 b 38 (boxMsg m) ∧ Turned (wkS c v) (wkS c v) w w1) := Lib.hid (by rw [← hb]; exact H0.out)
 try simp only [hb]
 clear hb H0
 refine Cont.start (by kernel_rfl) ?_
 have HD := Lib.hid (And.intro (H1.out.1.below (Below.refl _ _).drew) (And.intro (H1.out.2.1.below (Below.refl _ _).drew H1.out.2.1.lt) (H1.out.2.2.then_below (Below.refl _ _).drew)))
 have HW := Lib.hid (And.intro (HW0.out.1.below (Below.refl w1.heap.size w1).drew) HW0.out.2)
 generalize w1.drew = wd at HD HW ⊢
 refine cont_free 0 15 8 [] [.o (eqV (.pointer (some ⟨c, 0, none⟩))), .b true, .b false, .b false, .o (eqV (aggMsg m)), .o (eqV (.int .i64 ck)), .b false, .b false, .b false, .o (eqV (.pointer (some ⟨b, 2, none⟩))), .o (eqV (.int .i64 m.to_)), .o (eqV (.pointer (some ⟨c, 0, none⟩))), .o (eqV (.int .i64 (100 + s.node))), .b false, .b false] [false, false, true, true, false, false, false, true, true, false, false, false, false, false, true] (by kernel_rfl) (by kernel_rfl) (by kernel_rfl) (by kernel_rfl) (by kernel_rfl) (by kernel_rfl) (by kernel_rfl) rfl (by kernel_rfl) (by kernel_rfl) ⟨?_, ?_, ?_, ?_, ?_, ?_, ?_, ?_, ?_, ?_, trivial⟩ ?fin
 ·intro a w hb hoth hdep
  refine step_on (want_none rfl) ?_
  have e0 : a.tmps[0]? = some (.pointer (some ⟨c, 0, none⟩)) := ev_seg hoth 0 (by kernel_rfl) rfl
  exact step_val ((BigFrame.run_move _ rfl w).trans (by rw [ev_of e0])) rfl
 ·intro a w hb hoth hdep
  refine step_on (want_none rfl) ?_
  obtain ⟨v0, e8, hv0⟩ := ev_dep hdep 0 8 (by kernel_rfl) (by kernel_rfl)
  replace hv0 : v0 = .pointer (some ⟨c, 0, none⟩) := hv0
  subst hv0
  refine step_call (f := 33) (args := #[.pointer (some ⟨c, 0, none⟩)]) ?_ ?_
  ·simp [go_sem, e8]
  ·have hcx := wkUp (HD.out.1.below hb)
   rw [HU.out] at hcx
   (with_reducible refine hcx.mono ?_)
   clear hcx
   rintro e w2 ⟨rfl, hw⟩
   subst hw
   exact ⟨_, rfl, rfl, Below.refl _ _⟩
 ·intro a w hb hoth hdep
  refine step_on ((want_dep hdep 3 11 false rfl (by kernel_rfl) (by kernel_rfl) (fun v h => h)).trans rfl) ?_
  have e5 : a.tmps[5]? = some (.pointer (some ⟨b, 0, none⟩)) := ev_seg hoth 5 (by kernel_rfl) rfl
  obtain ⟨m0, m1, m2, m3, m4, m5, m6, m7, m8, m9, m10, m11⟩ := msgCells (HD.out.2.1.below hb HD.out.2.1.lt)
  refine step_val (x := aggMsg m) ?_ rfl
  simp [go_sem, e5, m0, m1, m2, m3, m4, m5, m6, m7, m8, m9, m10, m11, aggMsg]
 ·intro a w hb hoth hdep
  refine step_on ((want_dep hdep 3 11 false rfl (by kernel_rfl) (by kernel_rfl) (fun v h => h)).trans rfl) ?_
  obtain ⟨v4, e12, hv4⟩ := ev_dep hdep 4 12 (by kernel_rfl) (by kernel_rfl)
  replace hv4 : v4 = aggMsg m := hv4
  subst hv4
  refine step_call (f := 47) (args := #[aggMsg m]) ?_ ?_
  ·simp [go_sem, e12]
  ·have hcx := msgCheck_t m w (HW.out.1.below hb)
   rw [HC.out] at hcx
   (with_reducible refine hcx.mono ?_)
   clear hcx
   rintro e w2 ⟨rfl, hB⟩
   exact ⟨_, rfl, rfl, hB⟩
 ·intro a w hb hoth hdep
  refine step_on ((want_dep hdep 3 11 false rfl (by kernel_rfl) (by kernel_rfl) (fun v h => h)).trans rfl) ?_
  obtain ⟨v5, e13, hv5⟩ := ev_dep hdep 5 13 (by kernel_rfl) (by kernel_rfl)
  replace hv5 : v5 = .int .i64 ck := hv5
  subst hv5
  refine step_val (x := .bool false) ?_ rfl
  simp [go_sem, e13, hck]
 ·intro a w hb hoth hdep
  refine step_on ((want_dep hdep 8 16 false rfl (by kernel_rfl) (by kernel_rfl) (fun v h => h)).trans rfl) ?_
  have e5 : a.tmps[5]? = some (.pointer (some ⟨b, 0, none⟩)) := ev_seg hoth 5 (by kernel_rfl) rfl
  refine step_val (x := .pointer (some ⟨b, 2, none⟩)) ?_ rfl
  simp [go_sem, e5]
 ·intro a w hb hoth hdep
  refine step_on ((want_dep hdep 8 16 false rfl (by kernel_rfl) (by kernel_rfl) (fun v h => h)).trans rfl) ?_
  obtain ⟨v9, e17, hv9⟩ := ev_dep hdep 9 17 (by kernel_rfl) (by kernel_rfl)
  replace hv9 : v9 = .pointer (some ⟨b, 2, none⟩) := hv9
  subst hv9
  have m2 : w.cell? ⟨b, 2, none⟩ = some (.int .i64 m.to_) := ((HD.out.2.1.below hb HD.out.2.1.lt).cell 2).trans rfl
  refine step_val (x := .int .i64 m.to_) ?_ rfl
  simp [go_sem, e17, m2]
 ·intro a w hb hoth hdep
  refine step_on ((want_dep hdep 8 16 false rfl (by kernel_rfl) (by kernel_rfl) (fun v h => h)).trans rfl) ?_
  have e0 : a.tmps[0]? = some (.pointer (some ⟨c, 0, none⟩)) := ev_seg hoth 0 (by kernel_rfl) rfl
  exact step_val ((BigFrame.run_move _ rfl w).trans (by rw [ev_of e0])) rfl
 ·intro a w hb hoth hdep
  refine step_on ((want_dep hdep 8 16 false rfl (by kernel_rfl) (by kernel_rfl) (fun v h => h)).trans rfl) ?_
  obtain ⟨v11, e19, hv11⟩ := ev_dep hdep 11 19 (by kernel_rfl) (by kernel_rfl)
  replace hv11 : v11 = .pointer (some ⟨c, 0, none⟩) := hv11
  subst hv11
  refine step_call (f := 63) (args := #[.pointer (some ⟨c, 0, none⟩)]) ?_ ?_
  ·simp [go_sem, e19]
  ·have hcx := wkPlace (HD.out.1.below hb) HW.out.2
   (with_reducible refine hcx.mono ?_)
   clear hcx
   rintro e w2 ⟨rfl, hw⟩
   subst hw
   exact ⟨_, rfl, rfl, Below.refl _ _⟩
 ·intro a w hb hoth hdep
  refine step_on ((want_dep hdep 8 16 false rfl (by kernel_rfl) (by kernel_rfl) (fun v h => h)).trans rfl) ?_
  obtain ⟨v10, e18, hv10⟩ := ev_dep hdep 10 18 (by kernel_rfl) (by kernel_rfl)
  replace hv10 : v10 = .int .i64 m.to_ := hv10
  subst hv10
  obtain ⟨v12, e20, hv12⟩ := ev_dep hdep 12 20 (by kernel_rfl) (by kernel_rfl)
  replace hv12 : v12 = .int .i64 (100 + s.node) := hv12
  subst hv12
  refine step_val (x := .bool false) ?_ rfl
  simp [go_sem, e18, e20, hto]
 case fin =>
  intro wz hbz
  iterate 15 (rintro _ rfl)
  refine FinC.nil ?_
  refine cont_end (by kernel_rfl) ?_
  have HZ := Lib.hid (And.intro (HD.out.1.below hbz) (And.intro (HD.out.2.1.below hbz HD.out.2.1.lt) (HD.out.2.2.then_below hbz)))
  clear hbz HD
  clear H1
  have m0 : wz.cell? ⟨b, 0, none⟩ = some (.int .i64 m.kind) := (HZ.out.2.1.cell 0).trans rfl
  have ml := HZ.out.2.1.lt
  go_upto_region 12 with fail
  clear m0 ml hmf
  refine Cont.start (by kernel_rfl) ?_
  have HD := Lib.hid (And.intro (HZ.out.1.below (Below.refl _ _).drew) (And.intro (HZ.out.2.1.below (Below.refl _ _).drew HZ.out.2.1.lt) (HZ.out.2.2.then_below (Below.refl _ _).drew)))
  generalize wz.drew = wd at HD ⊢
  refine cont_free 0 5 37 [] [.o (eqV (.pointer (some ⟨c, 0, none⟩))), .o (eqV (.pointer (some ⟨c, 0, none⟩))), .o (eqV (.pointer (some ⟨c, 0, none⟩))), .o (eqV (.pointer (some ⟨b, 3, none⟩))), .o (eqV (.int .i64 m.epoch))] [false, false, false, false, false] (by kernel_rfl) (by kernel_rfl) (by kernel_rfl) (by kernel_rfl) (by kernel_rfl) (by kernel_rfl) (by kernel_rfl) rfl (by kernel_rfl) (by kernel_rfl) ⟨?_, ?_, ?_, ?_, ?_, trivial⟩ ?fin
  ·intro a w hb hoth hdep
   refine step_on (want_none rfl) ?_
   have e0 : a.tmps[0]? = some (.pointer (some ⟨c, 0, none⟩)) := ev_seg hoth 0 (by kernel_rfl) rfl
   exact step_val ((BigFrame.run_move _ rfl w).trans (by rw [ev_of e0])) rfl
  ·intro a w hb hoth hdep
   refine step_on (want_none rfl) ?_
   obtain ⟨v0, e37, hv0⟩ := ev_dep hdep 0 37 (by kernel_rfl) (by kernel_rfl)
   replace hv0 : v0 = .pointer (some ⟨c, 0, none⟩) := hv0
   subst hv0
   refine step_val (x := .pointer (some ⟨c, 0, none⟩)) ?_ rfl
   simp [go_sem, e37]
  ·intro a w hb hoth hdep
   refine step_on (want_none rfl) ?_
   obtain ⟨v1, e38, hv1⟩ := ev_dep hdep 1 38 (by kernel_rfl) (by kernel_rfl)
   replace hv1 : v1 = .pointer (some ⟨c, 0, none⟩) := hv1
   subst hv1
   refine step_val (x := .pointer (some ⟨c, 0, none⟩)) ?_ rfl
   simp [go_sem, e38]
  ·intro a w hb hoth hdep
   refine step_on (want_none rfl) ?_
   have e5 : a.tmps[5]? = some (.pointer (some ⟨b, 0, none⟩)) := ev_seg hoth 5 (by kernel_rfl) rfl
   refine step_val (x := .pointer (some ⟨b, 3, none⟩)) ?_ rfl
   simp [go_sem, e5]
  ·intro a w hb hoth hdep
   refine step_on (want_none rfl) ?_
   obtain ⟨v3, e40, hv3⟩ := ev_dep hdep 3 40 (by kernel_rfl) (by kernel_rfl)
   replace hv3 : v3 = .pointer (some ⟨b, 3, none⟩) := hv3
   subst hv3
   have m3 : w.cell? ⟨b, 3, none⟩ = some (.int .i64 m.epoch) := ((HD.out.2.1.below hb HD.out.2.1.lt).cell 3).trans rfl
   refine step_val (x := .int .i64 m.epoch) ?_ rfl
   simp [go_sem, e40, m3]
  case fin =>
   intro wy hby
   iterate 5 (rintro _ rfl)
   refine FinC.nil ?_
   have HV := Lib.hid (And.intro (HD.out.1.below hby) (And.intro (HD.out.2.1.below hby HD.out.2.1.lt) (HD.out.2.2.then_below hby)))
   clear hby HD
   refine cont_line 5 2 (by kernel_rfl) (by kernel_rfl) (by kernel_rfl) ?_
   have hcx := wkPass HV.out.1 m.epoch
   rw [HPP.out.1, HPP.out.2] at hcx
   go_wp2_with fail
   (with_reducible refine hcx.mono ?_)
   clear hcx
   rintro rr w3 ⟨rfl, v3, hw3, ht3⟩
   have HP := Lib.hid (And.intro hw3 (And.intro (HV.out.2.1.kept ht3.kept (HV.out.1.not_blk HV.out.2.1 (by decide))) (HV.out.2.2.trans ht3)))
   clear hw3 ht3
   go_wp2_with fail
   show Cont _ _ _ _ _ _
   refine cont_free2 7 22 44 [.any, .any, .any, .any, .any, .any, .b false] [.u, .u, .u, .u, .u, .u, .u, .b false, .b false, .u, .u, .u, .u, .b false] [6] [.b false] [true, true, true, true, true, true, true, false, true, true, true, true, true, true, true] (by kernel_rfl) (by kernel_rfl) (by kernel_rfl) (by kernel_rfl) (by kernel_rfl) (by kernel_rfl) (by kernel_rfl) rfl (by kernel_rfl) (by kernel_rfl) ⟨?_, trivial⟩ ?fin
   ·intro a w hb hoth hdep
    refine step_on (want_none rfl) ?_
    have e43 : a.tmps[43]? = some (.bool false) := ev_seg hoth 43 (by kernel_rfl) rfl
    obtain ⟨v13, e50, hv13⟩ := ev_dep hdep 13 50 (by kernel_rfl) (by kernel_rfl)
    replace hv13 : v13 = undef := hv13
    subst hv13
    refine step_val (x := .bool false) ?_ rfl
    simp [go_sem, e43, e50]
   case fin =>
    intro wq hbq
    iterate 14 (rintro _ rfl)
    refine FinC.nil ?_
    iterate 1 (rintro _ rfl)
    refine FinL.nil ?_
    have HQ := Lib.hid (And.intro (HP.out.1.below hbq) (And.intro (HP.out.2.1.below hbq HP.out.2.1.lt) (HP.out.2.2.then_below hbq)))
    clear hbq
    refine cont_end (by kernel_rfl) ?_
    go_wp2
    go_ret
    exact ⟨rfl, v3, HQ.out.1, HQ.out.2.2⟩
set_option maxRecDepth 100000 in
set_option maxHeartbeats 6400000 in
theorem wkHear_4ni (h : WkAt w c v s) (hw : WaysAt w) (hn : 0 ≤ s.node ∧ s.node ≤ 15) (now : Int) (m : LMsg) (hu : s.up = true) (hk : checkM m = 0) (ht : m.to_ = 100 + s.node) (hkd : m.kind = 4) (s1 : WS) (hs1 : s.pass m.epoch = s1) (hp : passB s.epoch m.epoch = true) (hi : m.inc ≠ s1.inc) : Calls Tryd.prog 29 #[.pointer (some ⟨c, 0, none⟩), .int .i64 now, aggMsg m] w fun e w' => e = .returned (.bool false) ∧ ∃ v', WkAt w' c v' s1 ∧ Turned (wkS c v) (wkS c v') w w' := by
 have HU := Lib.hid hu
 clear hu
 obtain ⟨ck, hck0⟩ : ∃ ck, checkM m = ck := ⟨_, rfl⟩
 have hck : (ck != 0) = false := by rw [← hck0]; simp [hk]
 have HC := Lib.hid hck0
 have hto : (m.to_ != 100 + s.node) = false := by simp [ht]
 clear hk hck0 ht
 have k2 : (m.kind == 2) = false := by simp [hkd]
 have k3 : (m.kind == 3) = false := by simp [hkd]
 have k4 : (m.kind == 4) = true := by simp [hkd]
 have HPP := Lib.hid (And.intro hp hs1)
 clear hp hs1 hkd
 have hinc : (m.inc == s1.inc) = false := by simp [hi]
 clear hi
 have hmf : ∀ (fn : Fn) (first cap : Array Value) (w : World), (Instr.makeFunc fn first cap).run Tryd.prog w = .ok (.func fn first cap) w := fun _ _ _ _ => rfl
 have hB : Below w.heap.size w (w.alloc (.cells (boxMsg m) 38)) := (Below.refl _ _).alloc (Nat.le_refl _) _
 have hbm := Blk.new w 38 (boxMsg m)
 have H0 := Lib.hid (And.intro (h.below hB) (And.intro hbm (Turned.of_below (S := wkS c v) hB)))
 have HW0 := Lib.hid (And.intro (hw.below hB) hn)
 clear h hB hbm hw hn
 go_enter Tryd.func29, Tryd.ntmps29
 go_upto_region 1 with fail
 generalize (w.alloc (.cells (boxMsg m) 38)) = w1 at H0 HW0 ⊢
 obtain ⟨b, hb⟩ : ∃ b, w.heap.size = b := ⟨_, rfl⟩
 have H1 : Hid (WkAt w1 c v s ∧ Blk w1 b 38 (boxMsg m) ∧ Turned (wkS c v) (wkS c v) w w1) := Lib.hid (by rw [← hb]; exact H0.out)
 try simp only [hb]
 clear hb H0
 refine Cont.start (by kernel_rfl) ?_
 have HD := Lib.hid (And.intro (H1.out.1.below (Below.refl _ _).drew) (And.intro (H1.out.2.1.below (Below.refl _ _).drew H1.out.2.1.lt) (H1.out.2.2.then_below (Below.refl _ _).drew)))
 have HW := Lib.hid (And.intro (HW0.out.1.below (Below.refl w1.heap.size w1).drew) HW0.out.2)
 generalize w1.drew = wd at HD HW ⊢
 refine cont_free 0 15 8 [] [.o (eqV (.pointer (some ⟨c, 0, none⟩))), .b true, .b false, .b false, .o (eqV (aggMsg m)), .o (eqV (.int .i64 ck)), .b false, .b false, .b false, .o (eqV (.pointer (some ⟨b, 2, none⟩))), .o (eqV (.int .i64 m.to_)), .o (eqV (.pointer (some ⟨c, 0, none⟩))), .o (eqV (.int .i64 (100 + s.node))), .b false, .b false] [false, false, true, true, false, false, false, true, true, false, false, false, false, false, true] (by kernel_rfl) (by kernel_rfl) (by kernel_rfl) (by kernel_rfl) (by kernel_rfl) (by kernel_rfl) (by kernel_rfl) rfl (by kernel_rfl) (by kernel_rfl) ⟨?_, ?_, ?_, ?_, ?_, ?_, ?_, ?_, ?_, ?_, trivial⟩ ?fin
 ·intro a w hb hoth hdep
  refine step_on (want_none rfl) ?_
  have e0 : a.tmps[0]? = some (.pointer (some ⟨c, 0, none⟩)) := ev_seg hoth 0 (by kernel_rfl) rfl
  exact step_val ((BigFrame.run_move _ rfl w).trans (by rw [ev_of e0])) rfl
 ·intro a w hb hoth hdep
  refine step_on (want_none rfl) ?_
  obtain ⟨v0, e8, hv0⟩ := ev_dep hdep 0 8 (by kernel_rfl) (by kernel_rfl)
  replace hv0 : v0 = .pointer (some ⟨c, 0, none⟩) := hv0
  subst hv0
  refine step_call (f := 33) (args := #[.pointer (some ⟨c, 0, none⟩)]) ?_ ?_
  ·simp [go_sem, e8]
  ·have hcx := wkUp (HD.out.1.below hb)
   rw [HU.out] at hcx
   (with_reducible refine hcx.mono ?_)
   clear hcx
   rintro e w2 ⟨rfl, hw⟩
   subst hw
   exact ⟨_, rfl, rfl, Below.refl _ _⟩
 ·intro a w hb hoth hdep
  refine step_on ((want_dep hdep 3 11 false rfl (by kernel_rfl) (by kernel_rfl) (fun v h => h)).trans rfl) ?_
  have e5 : a.tmps[5]? = some (.pointer (some ⟨b, 0, none⟩)) := ev_seg hoth 5 (by kernel_rfl) rfl
  obtain ⟨m0, m1, m2, m3, m4, m5, m6, m7, m8, m9, m10, m11⟩ := msgCells (HD.out.2.1.below hb HD.out.2.1.lt)
  refine step_val (x := aggMsg m) ?_ rfl
  simp [go_sem, e5, m0, m1, m2, m3, m4, m5, m6, m7, m8, m9, m10, m11, aggMsg]
 ·intro a w hb hoth hdep
  refine step_on ((want_dep hdep 3 11 false rfl (by kernel_rfl) (by kernel_rfl) (fun v h => h)).trans rfl) ?_
  obtain ⟨v4, e12, hv4⟩ := ev_dep hdep 4 12 (by kernel_rfl) (by kernel_rfl)
  replace hv4 : v4 = aggMsg m := hv4
  subst hv4
  refine step_call (f := 47) (args := #[aggMsg m]) ?_ ?_
  ·simp [go_sem, e12]
  ·have hcx := msgCheck_t m w (HW.out.1.below hb)
   rw [HC.out] at hcx
   (with_reducible refine hcx.mono ?_)
   clear hcx
   rintro e w2 ⟨rfl, hB⟩
   exact ⟨_, rfl, rfl, hB⟩
 ·intro a w hb hoth hdep
  refine step_on ((want_dep hdep 3 11 false rfl (by kernel_rfl) (by kernel_rfl) (fun v h => h)).trans rfl) ?_
  obtain ⟨v5, e13, hv5⟩ := ev_dep hdep 5 13 (by kernel_rfl) (by kernel_rfl)
  replace hv5 : v5 = .int .i64 ck := hv5
  subst hv5
  refine step_val (x := .bool false) ?_ rfl
  simp [go_sem, e13, hck]
 ·intro a w hb hoth hdep
  refine step_on ((want_dep hdep 8 16 false rfl (by kernel_rfl) (by kernel_rfl) (fun v h => h)).trans rfl) ?_
  have e5 : a.tmps[5]? = some (.pointer (some ⟨b, 0, none⟩)) := ev_seg hoth 5 (by kernel_rfl) rfl
  refine step_val (x := .pointer (some ⟨b, 2, none⟩)) ?_ rfl
  simp [go_sem, e5]
 ·intro a w hb hoth hdep
  refine step_on ((want_dep hdep 8 16 false rfl (by kernel_rfl) (by kernel_rfl) (fun v h => h)).trans rfl) ?_
  obtain ⟨v9, e17, hv9⟩ := ev_dep hdep 9 17 (by kernel_rfl) (by kernel_rfl)
  replace hv9 : v9 = .pointer (some ⟨b, 2, none⟩) := hv9
  subst hv9
  have m2 : w.cell? ⟨b, 2, none⟩ = some (.int .i64 m.to_) := ((HD.out.2.1.below hb HD.out.2.1.lt).cell 2).trans rfl
  refine step_val (x := .int .i64 m.to_) ?_ rfl
  simp [go_sem, e17, m2]
 ·intro a w hb hoth hdep
  refine step_on ((want_dep hdep 8 16 false rfl (by kernel_rfl) (by kernel_rfl) (fun v h => h)).trans rfl) ?_
  have e0 : a.tmps[0]? = some (.pointer (some ⟨c, 0, none⟩)) := ev_seg hoth 0 (by kernel_rfl) rfl
  exact step_val ((BigFrame.run_move _ rfl w).trans (by rw [ev_of e0])) rfl
 ·intro a w hb hoth hdep
  refine step_on ((want_dep hdep 8 16 false rfl (by kernel_rfl) (by kernel_rfl) (fun v h => h)).trans rfl) ?_
  obtain ⟨v11, e19, hv11⟩ := ev_dep hdep 11 19 (by kernel_rfl) (by kernel_rfl)
  replace hv11 : v11 = .pointer (some ⟨c, 0, none⟩) := hv11
  subst hv11
  refine step_call (f := 63) (args := #[.pointer (some ⟨c, 0, none⟩)]) ?_ ?_
  ·simp [go_sem, e19]
  ·have hcx := wkPlace (HD.out.1.below hb) HW.out.2
   (with_reducible refine hcx.mono ?_)
   clear hcx
   rintro e w2 ⟨rfl, hw⟩
   subst hw
   exact ⟨_, rfl, rfl, Below.refl _ _⟩
 ·intro a w hb hoth hdep
  refine step_on ((want_dep hdep 8 16 false rfl (by kernel_rfl) (by kernel_rfl) (fun v h => h)).trans rfl) ?_
  obtain ⟨v10, e18, hv10⟩ := ev_dep hdep 10 18 (by kernel_rfl) (by kernel_rfl)
  replace hv10 : v10 = .int .i64 m.to_ := hv10
  subst hv10
  obtain ⟨v12, e20, hv12⟩ := ev_dep hdep 12 20 (by kernel_rfl) (by kernel_rfl)
  replace hv12 : v12 = .int .i64 (100 + s.node) := hv12
  subst hv12
  refine step_val (x := .bool false) ?_ rfl
  simp [go_sem, e18, e20, hto]
 case fin =>
  intro wz hbz
  iterate 15 (rintro _ rfl)
  refine FinC.nil ?_
  refine cont_end (by kernel_rfl) ?_
  have HZ := Lib.hid (And.intro (HD.out.1.below hbz) (And.intro (HD.out.2.1.below hbz HD.out.2.1.lt) (HD.out.2.2.then_below hbz)))
  clear hbz HD
  clear H1
  have m0 : wz.cell? ⟨b, 0, none⟩ = some (.int .i64 m.kind) := (HZ.out.2.1.cell 0).trans rfl
  have ml := HZ.out.2.1.lt
  go_upto_region 12 with fail
  clear m0 ml hmf
  refine Cont.start (by kernel_rfl) ?_
  have HD := Lib.hid (And.intro (HZ.out.1.below (Below.refl _ _).drew) (And.intro (HZ.out.2.1.below (Below.refl _ _).drew HZ.out.2.1.lt) (HZ.out.2.2.then_below (Below.refl _ _).drew)))
  generalize wz.drew = wd at HD ⊢
  refine cont_free 0 5 37 [] [.o (eqV (.pointer (some ⟨c, 0, none⟩))), .o (eqV (.pointer (some ⟨c, 0, none⟩))), .o (eqV (.pointer (some ⟨c, 0, none⟩))), .o (eqV (.pointer (some ⟨b, 3, none⟩))), .o (eqV (.int .i64 m.epoch))] [false, false, false, false, false] (by kernel_rfl) (by kernel_rfl) (by kernel_rfl) (by kernel_rfl) (by kernel_rfl) (by kernel_rfl) (by kernel_rfl) rfl (by kernel_rfl) (by kernel_rfl) ⟨?_, ?_, ?_, ?_, ?_, trivial⟩ ?fin
  ·intro a w hb hoth hdep
   refine step_on (want_none rfl) ?_
   have e0 : a.tmps[0]? = some (.pointer (some ⟨c, 0, none⟩)) := ev_seg hoth 0 (by kernel_rfl) rfl
   exact step_val ((BigFrame.run_move _ rfl w).trans (by rw [ev_of e0])) rfl
  ·intro a w hb hoth hdep
   refine step_on (want_none rfl) ?_
   obtain ⟨v0, e37, hv0⟩ := ev_dep hdep 0 37 (by kernel_rfl) (by kernel_rfl)
   replace hv0 : v0 = .pointer (some ⟨c, 0, none⟩) := hv0
   subst hv0
   refine step_val (x := .pointer (some ⟨c, 0, none⟩)) ?_ rfl
   simp [go_sem, e37]
  ·intro a w hb hoth hdep
   refine step_on (want_none rfl) ?_
   obtain ⟨v1, e38, hv1⟩ := ev_dep hdep 1 38 (by kernel_rfl) (by kernel_rfl)
   replace hv1 : v1 = .pointer (some ⟨c, 0, none⟩) := hv1
   subst hv1
   refine step_val (x := .pointer (some ⟨c, 0, none⟩)) ?_ rfl
   simp [go_sem, e38]
  ·intro a w hb hoth hdep
   refine step_on (want_none rfl) ?_
   have e5 : a.tmps[5]? = some (.pointer (some ⟨b, 0, none⟩)) := ev_seg hoth 5 (by kernel_rfl) rfl
   refine step_val (x := .pointer (some ⟨b, 3, none⟩)) ?_ rfl
   simp [go_sem, e5]
  ·intro a w hb hoth hdep
   refine step_on (want_none rfl) ?_
   obtain ⟨v3, e40, hv3⟩ := ev_dep hdep 3 40 (by kernel_rfl) (by kernel_rfl)
   replace hv3 : v3 = .pointer (some ⟨b, 3, none⟩) := hv3
   subst hv3
   have m3 : w.cell? ⟨b, 3, none⟩ = some (.int .i64 m.epoch) := ((HD.out.2.1.below hb HD.out.2.1.lt).cell 3).trans rfl
   refine step_val (x := .int .i64 m.epoch) ?_ rfl
   simp [go_sem, e40, m3]
  case fin =>
   intro wy hby
   iterate 5 (rintro _ rfl)
   refine FinC.nil ?_
   have HV := Lib.hid (And.intro (HD.out.1.below hby) (And.intro (HD.out.2.1.below hby HD.out.2.1.lt) (HD.out.2.2.then_below hby)))
   clear hby HD
   refine cont_line 5 2 (by kernel_rfl) (by kernel_rfl) (by kernel_rfl) ?_
   have hcx := wkPass HV.out.1 m.epoch
   rw [HPP.out.1, HPP.out.2] at hcx
   go_wp2_with fail
   (with_reducible refine hcx.mono ?_)
   clear hcx
   rintro rr w3 ⟨rfl, v3, hw3, ht3⟩
   have HP := Lib.hid (And.intro hw3 (And.intro (HV.out.2.1.kept ht3.kept (HV.out.1.not_blk HV.out.2.1 (by decide))) (HV.out.2.2.trans ht3)))
   clear hw3 ht3
   go_wp2_with fail
   show Cont _ _ _ _ _ _
   refine cont_free2 7 22 44 [.any, .any, .any, .any, .any, .any, .b true] [.o (eqV (.pointer (some ⟨b, 4, none⟩))), .o (eqV (.int .i64 m.inc)), .o (eqV (.pointer (some ⟨c, 0, none⟩))), .o (eqV (.pointer (some ⟨c, 0, none⟩))), .o (eqV (.pointer (some ⟨c, 5, none⟩))), .o (eqV (.int .i64 s1.inc)), .b false, .b false, .b false, .u, .u, .u, .u, .b false] [6] [.b false] [false, false, false, false, false, false, false, false, true, true, true, true, true, true, true] (by kernel_rfl) (by kernel_rfl) (by kernel_rfl) (by kernel_rfl) (by kernel_rfl) (by kernel_rfl) (by kernel_rfl) rfl (by kernel_rfl) (by kernel_rfl) ⟨?_, ?_, ?_, ?_, ?_, ?_, ?_, ?_, trivial⟩ ?fin
   ·intro a w hb hoth hdep
    refine step_on ((want_dep hdep 6 43 true rfl (by kernel_rfl) (by kernel_rfl) (fun v h => h)).trans rfl) ?_
    have e5 : a.tmps[5]? = some (.pointer (some ⟨b, 0, none⟩)) := ev_seg hoth 5 (by kernel_rfl) rfl
    refine step_val (x := .pointer (some ⟨b, 4, none⟩)) ?_ rfl
    simp [go_sem, e5]
   ·intro a w hb hoth hdep
    refine step_on ((want_dep hdep 6 43 true rfl (by kernel_rfl) (by kernel_rfl) (fun v h => h)).trans rfl) ?_
    obtain ⟨v7, e44, hv7⟩ := ev_dep hdep 7 44 (by kernel_rfl) (by kernel_rfl)
    replace hv7 : v7 = .pointer (some ⟨b, 4, none⟩) := hv7
    subst hv7
    have m4 : w.cell? ⟨b, 4, none⟩ = some (.int .i64 m.inc) := ((HP.out.2.1.below hb HP.out.2.1.lt).cell 4).trans rfl
    refine step_val (x := .int .i64 m.inc) ?_ rfl
    simp [go_sem, e44, m4]
   ·intro a w hb hoth hdep
    refine step_on ((want_dep hdep 6 43 true rfl (by kernel_rfl) (by kernel_rfl) (fun v h => h)).trans rfl) ?_
    have e0 : a.tmps[0]? = some (.pointer (some ⟨c, 0, none⟩)) := ev_seg hoth 0 (by kernel_rfl) rfl
    exact step_val ((BigFrame.run_move _ rfl w).trans (by rw [ev_of e0])) rfl
   ·intro a w hb hoth hdep
    refine step_on ((want_dep hdep 6 43 true rfl (by kernel_rfl) (by kernel_rfl) (fun v h => h)).trans rfl) ?_
    obtain ⟨v9, e46, hv9⟩ := ev_dep hdep 9 46 (by kernel_rfl) (by kernel_rfl)
    replace hv9 : v9 = .pointer (some ⟨c, 0, none⟩) := hv9
    subst hv9
    refine step_val (x := .pointer (some ⟨c, 0, none⟩)) ?_ rfl
    simp [go_sem, e46]
   ·intro a w hb hoth hdep
    refine step_on ((want_dep hdep 6 43 true rfl (by kernel_rfl) (by kernel_rfl) (fun v h => h)).trans rfl) ?_
    obtain ⟨v10, e47, hv10⟩ := ev_dep hdep 10 47 (by kernel_rfl) (by kernel_rfl)
    replace hv10 : v10 = .pointer (some ⟨c, 0, none⟩) := hv10
    subst hv10
    refine step_val (x := .pointer (some ⟨c, 5, none⟩)) ?_ rfl
    simp [go_sem, e47]
   ·intro a w hb hoth hdep
    refine step_on ((want_dep hdep 6 43 true rfl (by kernel_rfl) (by kernel_rfl) (fun v h => h)).trans rfl) ?_
    obtain ⟨v11, e48, hv11⟩ := ev_dep hdep 11 48 (by kernel_rfl) (by kernel_rfl)
    replace hv11 : v11 = .pointer (some ⟨c, 5, none⟩) := hv11
    subst hv11
    obtain ⟨c0, c1, c2, c3, c4, c5, c6, c7, c8, c9, c10, c11, c12, c13, c14⟩ := wkCells (HP.out.1.below hb).blk
    refine step_val (x := .int .i64 s1.inc) ?_ rfl
    simp [go_sem, e48, c5]
   ·intro a w hb hoth hdep
    refine step_on ((want_dep hdep 6 43 true rfl (by kernel_rfl) (by kernel_rfl) (fun v h => h)).trans rfl) ?_
    obtain ⟨v8, e45, hv8⟩ := ev_dep hdep 8 45 (by kernel_rfl) (by kernel_rfl)
    replace hv8 : v8 = .int .i64 m.inc := hv8
    subst hv8
    obtain ⟨v12, e49, hv12⟩ := ev_dep hdep 12 49 (by kernel_rfl) (by kernel_rfl)
    replace hv12 : v12 = .int .i64 s1.inc := hv12
    subst hv12
    refine step_val (x := .bool false) ?_ rfl
    simp [go_sem, e45, e49, hinc]
   ·intro a w hb hoth hdep
    refine step_on (want_none rfl) ?_
    have e43 : a.tmps[43]? = some (.bool true) := ev_seg hoth 43 (by kernel_rfl) rfl
    obtain ⟨v13, e50, hv13⟩ := ev_dep hdep 13 50 (by kernel_rfl) (by kernel_rfl)
    replace hv13 : v13 = .bool false := hv13
    subst hv13
    refine step_val (x := .bool false) ?_ rfl
    simp [go_sem, e43, e50]
   case fin =>
    intro wq hbq
    iterate 14 (rintro _ rfl)
    refine FinC.nil ?_
    iterate 1 (rintro _ rfl)
    refine FinL.nil ?_
    have HQ := Lib.hid (And.intro (HP.out.1.below hbq) (And.intro (HP.out.2.1.below hbq HP.out.2.1.lt) (HP.out.2.2.then_below hbq)))
    clear hbq
    refine cont_end (by kernel_rfl) ?_
    go_wp2
    go_ret
    exact ⟨rfl, v3, HQ.out.1, HQ.out.2.2⟩
set_option maxRecDepth 100000 in
set_option maxHeartbeats 6400000 in
theorem wkHear_4go (h : WkAt w c v s) (hw : WaysAt w) (hn : 0 ≤ s.node ∧ s.node ≤ 15) (now : Int) (m : LMsg) (hu : s.up = true) (hk : checkM m = 0) (ht : m.to_ = 100 + s.node) (hkd : m.kind = 4) (s1 : WS) (hs1 : s.pass m.epoch = s1) (hp : passB s.epoch m.epoch = true) (hi : m.inc = s1.inc) (bb : Bool) (s2 : WS) (HC2 : ∀ (W : World) (u : WV), WkAt W c u s1 → Calls Tryd.prog 66 #[.pointer (some ⟨c, 0, none⟩), .int .i64 now, aggMsg m] W fun e w' => e = .returned (.bool bb) ∧ ∃ v', WkAt w' c v' s2 ∧ Turned (wkS c u) (wkS c v') W w') : Calls Tryd.prog 29 #[.pointer (some ⟨c, 0, none⟩), .int .i64 now, aggMsg m] w fun e w' => e = .returned (.bool bb) ∧ ∃ v', WkAt w' c v' s2 ∧ Turned (wkS c v) (wkS c v') w w' := by
 have HU := Lib.hid hu
 clear hu
 obtain ⟨ck, hck0⟩ : ∃ ck, checkM m = ck := ⟨_, rfl⟩
 have hck : (ck != 0) = false := by rw [← hck0]; simp [hk]
 have HC := Lib.hid hck0
 have hto : (m.to_ != 100 + s.node) = false := by simp [ht]
 clear hk hck0 ht
 have k2 : (m.kind == 2) = false := by simp [hkd]
 have k3 : (m.kind == 3) = false := by simp [hkd]
 have k4 : (m.kind == 4) = true := by simp [hkd]
 have HPP := Lib.hid (And.intro hp hs1)
 clear hp hs1 hkd
 have hinc : (m.inc == s1.inc) = true := by simp [hi]
 have HCC := Lib.hid HC2
 clear hi HC2
 have hmf : ∀ (fn : Fn) (first cap : Array Value) (w : World), (Instr.makeFunc fn first cap).run Tryd.prog w = .ok (.func fn first cap) w := fun _ _ _ _ => rfl
 have hB : Below w.heap.size w (w.alloc (.cells (boxMsg m) 38)) := (Below.refl _ _).alloc (Nat.le_refl _) _
 have hbm := Blk.new w 38 (boxMsg m)
 have H0 := Lib.hid (And.intro (h.below hB) (And.intro hbm (Turned.of_below (S := wkS c v) hB)))
 have HW0 := Lib.hid (And.intro (hw.below hB) hn)
 clear h hB hbm hw hn
 go_enter Tryd.func29, Tryd.ntmps29
 go_upto_region 1 with fail
 generalize (w.alloc (.cells (boxMsg m) 38)) = w1 at H0 HW0 ⊢
 obtain ⟨b, hb⟩ : ∃ b, w.heap.size = b := ⟨_, rfl⟩
 have H1 : Hid (WkAt w1 c v s ∧ Blk w1 b 38 (boxMsg m) ∧ Turned (wkS c v) (wkS c v) w w1) := Lib.hid (by rw [← hb]; exact H0.out)
 try simp only [hb]
 clear hb H0
 refine Cont.start (by kernel_rfl) ?_
 have HD := Lib.hid (And.intro (H1.out.1.below (Below.refl _ _).drew) (And.intro (H1.out.2.1.below (Below.refl _ _).drew H1.out.2.1.lt) (H1.out.2.2.then_below (Below.refl _ _).drew)))
 have HW := Lib.hid (And.intro (HW0.out.1.below (Below.refl w1.heap.size w1).drew) HW0.out.2)
 generalize w1.drew = wd at HD HW ⊢
 refine cont_free 0 15 8 [] [.o (eqV (.pointer (some ⟨c, 0, none⟩))), .b true, .b false, .b false, .o (eqV (aggMsg m)), .o (eqV (.int .i64 ck)), .b false, .b false, .b false, .o (eqV (.pointer (some ⟨b, 2, none⟩))), .o (eqV (.int .i64 m.to_)), .o (eqV (.pointer (some ⟨c, 0, none⟩))), .o (eqV (.int .i64 (100 + s.node))), .b false, .b false] [false, false, true, true, false, false, false, true, true, false, false, false, false, false, true] (by kernel_rfl) (by kernel_rfl) (by kernel_rfl) (by kernel_rfl) (by kernel_rfl) (by kernel_rfl) (by kernel_rfl) rfl (by kernel_rfl) (by kernel_rfl) ⟨?_, ?_, ?_, ?_, ?_, ?_, ?_, ?_, ?_, ?_, trivial⟩ ?fin
 ·intro a w hb hoth hdep
  refine step_on (want_none rfl) ?_
  have e0 : a.tmps[0]? = some (.pointer (some ⟨c, 0, none⟩)) := ev_seg hoth 0 (by kernel_rfl) rfl
  exact step_val ((BigFrame.run_move _ rfl w).trans (by rw [ev_of e0])) rfl
 ·intro a w hb hoth hdep
  refine step_on (want_none rfl) ?_
  obtain ⟨v0, e8, hv0⟩ := ev_dep hdep 0 8 (by kernel_rfl) (by kernel_rfl)
  replace hv0 : v0 = .pointer (some ⟨c, 0, none⟩) := hv0
  subst hv0
  refine step_call (f := 33) (args := #[.pointer (some ⟨c, 0, none⟩)]) ?_ ?_
  ·simp [go_sem, e8]
  ·have hcx := wkUp (HD.out.1.below hb)
   rw [HU.out] at hcx
   (with_reducible refine hcx.mono ?_)
   clear hcx
   rintro e w2 ⟨rfl, hw⟩
   subst hw
   exact ⟨_, rfl, rfl, Below.refl _ _⟩
 ·intro a w hb hoth hdep
  refine step_on ((want_dep hdep 3 11 false rfl (by kernel_rfl) (by kernel_rfl) (fun v h => h)).trans rfl) ?_
  have e5 : a.tmps[5]? = some (.pointer (some ⟨b, 0, none⟩)) := ev_seg hoth 5 (by kernel_rfl) rfl
  obtain ⟨m0, m1, m2, m3, m4, m5, m6, m7, m8, m9, m10, m11⟩ := msgCells (HD.out.2.1.below hb HD.out.2.1.lt)
  refine step_val (x := aggMsg m) ?_ rfl
  simp [go_sem, e5, m0, m1, m2, m3, m4, m5, m6, m7, m8, m9, m10, m11, aggMsg]
 ·intro a w hb hoth hdep
  refine step_on ((want_dep hdep 3 11 false rfl (by kernel_rfl) (by kernel_rfl) (fun v h => h)).trans rfl) ?_
  obtain ⟨v4, e12, hv4⟩ := ev_dep hdep 4 12 (by kernel_rfl) (by kernel_rfl)
  replace hv4 : v4 = aggMsg m := hv4
  subst hv4
  refine step_call (f := 47) (args := #[aggMsg m]) ?_ ?_
  ·simp [go_sem, e12]
  ·have hcx := msgCheck_t m w (HW.out.1.below hb)
   rw [HC.out] at hcx
   (with_reducible refine hcx.mono ?_)
   clear hcx
   rintro e w2 ⟨rfl, hB⟩
   exact ⟨_, rfl, rfl, hB⟩
 ·intro a w hb hoth hdep
  refine step_on ((want_dep hdep 3 11 false rfl (by kernel_rfl) (by kernel_rfl) (fun v h => h)).trans rfl) ?_
  obtain ⟨v5, e13, hv5⟩ := ev_dep hdep 5 13 (by kernel_rfl) (by kernel_rfl)
  replace hv5 : v5 = .int .i64 ck := hv5
  subst hv5
  refine step_val (x := .bool false) ?_ rfl
  simp [go_sem, e13, hck]
 ·intro a w hb hoth hdep
  refine step_on ((want_dep hdep 8 16 false rfl (by kernel_rfl) (by kernel_rfl) (fun v h => h)).trans rfl) ?_
  have e5 : a.tmps[5]? = some (.pointer (some ⟨b, 0, none⟩)) := ev_seg hoth 5 (by kernel_rfl) rfl
  refine step_val (x := .pointer (some ⟨b, 2, none⟩)) ?_ rfl
  simp [go_sem, e5]
 ·intro a w hb hoth hdep
  refine step_on ((want_dep hdep 8 16 false rfl (by kernel_rfl) (by kernel_rfl) (fun v h => h)).trans rfl) ?_
  obtain ⟨v9, e17, hv9⟩ := ev_dep hdep 9 17 (by kernel_rfl) (by kernel_rfl)
  replace hv9 : v9 = .pointer (some ⟨b, 2, none⟩) := hv9
  subst hv9
  have m2 : w.cell? ⟨b, 2, none⟩ = some (.int .i64 m.to_) := ((HD.out.2.1.below hb HD.out.2.1.lt).cell 2).trans rfl
  refine step_val (x := .int .i64 m.to_) ?_ rfl
  simp [go_sem, e17, m2]
 ·intro a w hb hoth hdep
  refine step_on ((want_dep hdep 8 16 false rfl (by kernel_rfl) (by kernel_rfl) (fun v h => h)).trans rfl) ?_
  have e0 : a.tmps[0]? = some (.pointer (some ⟨c, 0, none⟩)) := ev_seg hoth 0 (by kernel_rfl) rfl
  exact step_val ((BigFrame.run_move _ rfl w).trans (by rw [ev_of e0])) rfl
 ·intro a w hb hoth hdep
  refine step_on ((want_dep hdep 8 16 false rfl (by kernel_rfl) (by kernel_rfl) (fun v h => h)).trans rfl) ?_
  obtain ⟨v11, e19, hv11⟩ := ev_dep hdep 11 19 (by kernel_rfl) (by kernel_rfl)
  replace hv11 : v11 = .pointer (some ⟨c, 0, none⟩) := hv11
  subst hv11
  refine step_call (f := 63) (args := #[.pointer (some ⟨c, 0, none⟩)]) ?_ ?_
  ·simp [go_sem, e19]
  ·have hcx := wkPlace (HD.out.1.below hb) HW.out.2
   (with_reducible refine hcx.mono ?_)
   clear hcx
   rintro e w2 ⟨rfl, hw⟩
   subst hw
   exact ⟨_, rfl, rfl, Below.refl _ _⟩
 ·intro a w hb hoth hdep
  refine step_on ((want_dep hdep 8 16 false rfl (by kernel_rfl) (by kernel_rfl) (fun v h => h)).trans rfl) ?_
  obtain ⟨v10, e18, hv10⟩ := ev_dep hdep 10 18 (by kernel_rfl) (by kernel_rfl)
  replace hv10 : v10 = .int .i64 m.to_ := hv10
  subst hv10
  obtain ⟨v12, e20, hv12⟩ := ev_dep hdep 12 20 (by kernel_rfl) (by kernel_rfl)
  replace hv12 : v12 = .int .i64 (100 + s.node) := hv12
  subst hv12
  refine step_val (x := .bool false) ?_ rfl
  simp [go_sem, e18, e20, hto]
 case fin =>
  intro wz hbz
  iterate 15 (rintro _ rfl)
  refine FinC.nil ?_
  refine cont_end (by kernel_rfl) ?_
  have HZ := Lib.hid (And.intro (HD.out.1.below hbz) (And.intro (HD.out.2.1.below hbz HD.out.2.1.lt) (HD.out.2.2.then_below hbz)))
  clear hbz HD
  clear H1
  have m0 : wz.cell? ⟨b, 0, none⟩ = some (.int .i64 m.kind) := (HZ.out.2.1.cell 0).trans rfl
  have ml := HZ.out.2.1.lt
  go_upto_region 12 with fail
  clear m0 ml hmf
  refine Cont.start (by kernel_rfl) ?_
  have HD := Lib.hid (And.intro (HZ.out.1.below (Below.refl _ _).drew) (And.intro (HZ.out.2.1.below (Below.refl _ _).drew HZ.out.2.1.lt) (HZ.out.2.2.then_below (Below.refl _ _).drew)))
  generalize wz.drew = wd at HD ⊢
  refine cont_free 0 5 37 [] [.o (eqV (.pointer (some ⟨c, 0, none⟩))), .o (eqV (.pointer (some ⟨c, 0, none⟩))), .o (eqV (.pointer (some ⟨c, 0, none⟩))), .o (eqV (.pointer (some ⟨b, 3, none⟩))), .o (eqV (.int .i64 m.epoch))] [false, false, false, false, false] (by kernel_rfl) (by kernel_rfl) (by kernel_rfl) (by kernel_rfl) (by kernel_rfl) (by kernel_rfl) (by kernel_rfl) rfl (by kernel_rfl) (by kernel_rfl) ⟨?_, ?_, ?_, ?_, ?_, trivial⟩ ?fin
  ·intro a w hb hoth hdep
   refine step_on (want_none rfl) ?_
   have e0 : a.tmps[0]? = some (.pointer (some ⟨c, 0, none⟩)) := ev_seg hoth 0 (by kernel_rfl) rfl
   exact step_val ((BigFrame.run_move _ rfl w).trans (by rw [ev_of e0])) rfl
  ·intro a w hb hoth hdep
   refine step_on (want_none rfl) ?_
   obtain ⟨v0, e37, hv0⟩ := ev_dep hdep 0 37 (by kernel_rfl) (by kernel_rfl)
   replace hv0 : v0 = .pointer (some ⟨c, 0, none⟩) := hv0
   subst hv0
   refine step_val (x := .pointer (some ⟨c, 0, none⟩)) ?_ rfl
   simp [go_sem, e37]
  ·intro a w hb hoth hdep
   refine step_on (want_none rfl) ?_
   obtain ⟨v1, e38, hv1⟩ := ev_dep hdep 1 38 (by kernel_rfl) (by kernel_rfl)
   replace hv1 : v1 = .pointer (some ⟨c, 0, none⟩) := hv1
   subst hv1
   refine step_val (x := .pointer (some ⟨c, 0, none⟩)) ?_ rfl
   simp [go_sem, e38]
  ·intro a w hb hoth hdep
   refine step_on (want_none rfl) ?_
   have e5 : a.tmps[5]? = some (.pointer (some ⟨b, 0, none⟩)) := ev_seg hoth 5 (by kernel_rfl) rfl
   refine step_val (x := .pointer (some ⟨b, 3, none⟩)) ?_ rfl
   simp [go_sem, e5]
  ·intro a w hb hoth hdep
   refine step_on (want_none rfl) ?_
   obtain ⟨v3, e40, hv3⟩ := ev_dep hdep 3 40 (by kernel_rfl) (by kernel_rfl)
   replace hv3 : v3 = .pointer (some ⟨b, 3, none⟩) := hv3
   subst hv3
   have m3 : w.cell? ⟨b, 3, none⟩ = some (.int .i64 m.epoch) := ((HD.out.2.1.below hb HD.out.2.1.lt).cell 3).trans rfl
   refine step_val (x := .int .i64 m.epoch) ?_ rfl
   simp [go_sem, e40, m3]
  case fin =>
   intro wy hby
   iterate 5 (rintro _ rfl)
   refine FinC.nil ?_
   have HV := Lib.hid (And.intro (HD.out.1.below hby) (And.intro (HD.out.2.1.below hby HD.out.2.1.lt) (HD.out.2.2.then_below hby)))
   clear hby HD
   refine cont_line 5 2 (by kernel_rfl) (by kernel_rfl) (by kernel_rfl) ?_
   have hcx := wkPass HV.out.1 m.epoch
   rw [HPP.out.1, HPP.out.2] at hcx
   go_wp2_with fail
   (with_reducible refine hcx.mono ?_)
   clear hcx
   rintro rr w3 ⟨rfl, v3, hw3, ht3⟩
   have HP := Lib.hid (And.intro hw3 (And.intro (HV.out.2.1.kept ht3.kept (HV.out.1.not_blk HV.out.2.1 (by decide))) (HV.out.2.2.trans ht3)))
   clear hw3 ht3
   go_wp2_with fail
   show Cont _ _ _ _ _ _
   refine cont_free 7 19 44 [.any, .any, .any, .any, .any, .any, .b true] [.o (eqV (.pointer (some ⟨b, 4, none⟩))), .o (eqV (.int .i64 m.inc)), .o (eqV (.pointer (some ⟨c, 0, none⟩))), .o (eqV (.pointer (some ⟨c, 0, none⟩))), .o (eqV (.pointer (some ⟨c, 5, none⟩))), .o (eqV (.int .i64 s1.inc)), .b true, .b true, .b true, .o (eqV (.func (.func 66) #[.pointer (some ⟨c, 0, none⟩)] #[])), .o (eqV (.int .i64 now)), .o (eqV (aggMsg m))] [false, false, false, false, false, false, false, false, true, false, false, false] (by kernel_rfl) (by kernel_rfl) (by kernel_rfl) (by kernel_rfl) (by kernel_rfl) (by kernel_rfl) (by kernel_rfl) rfl (by kernel_rfl) (by kernel_rfl) ⟨?_, ?_, ?_, ?_, ?_, ?_, ?_, ?_, ?_, ?_, ?_, trivial⟩ ?fin
   ·intro a w hb hoth hdep
    refine step_on ((want_dep hdep 6 43 true rfl (by kernel_rfl) (by kernel_rfl) (fun v h => h)).trans rfl) ?_
    have e5 : a.tmps[5]? = some (.pointer (some ⟨b, 0, none⟩)) := ev_seg hoth 5 (by kernel_rfl) rfl
    refine step_val (x := .pointer (some ⟨b, 4, none⟩)) ?_ rfl
    simp [go_sem, e5]
   ·intro a w hb hoth hdep
    refine step_on ((want_dep hdep 6 43 true rfl (by kernel_rfl) (by kernel_rfl) (fun v h => h)).trans rfl) ?_
    obtain ⟨v7, e44, hv7⟩ := ev_dep hdep 7 44 (by kernel_rfl) (by kernel_rfl)
    replace hv7 : v7 = .pointer (some ⟨b, 4, none⟩) := hv7
    subst hv7
    have m4 : w.cell? ⟨b, 4, none⟩ = some (.int .i64 m.inc) := ((HP.out.2.1.below hb HP.out.2.1.lt).cell 4).trans rfl
    refine step_val (x := .int .i64 m.inc) ?_ rfl
    simp [go_sem, e44, m4]
   ·intro a w hb hoth hdep
    refine step_on ((want_dep hdep 6 43 true rfl (by kernel_rfl) (by kernel_rfl) (fun v h => h)).trans rfl) ?_
    have e0 : a.tmps[0]? = some (.pointer (some ⟨c, 0, none⟩)) := ev_seg hoth 0 (by kernel_rfl) rfl
    exact step_val ((BigFrame.run_move _ rfl w).trans (by rw [ev_of e0])) rfl
   ·intro a w hb hoth hdep
    refine step_on ((want_dep hdep 6 43 true rfl (by kernel_rfl) (by kernel_rfl) (fun v h => h)).trans rfl) ?_
    obtain ⟨v9, e46, hv9⟩ := ev_dep hdep 9 46 (by kernel_rfl) (by kernel_rfl)
    replace hv9 : v9 = .pointer (some ⟨c, 0, none⟩) := hv9
    subst hv9
    refine step_val (x := .pointer (some ⟨c, 0, none⟩)) ?_ rfl
    simp [go_sem, e46]
   ·intro a w hb hoth hdep
    refine step_on ((want_dep hdep 6 43 true rfl (by kernel_rfl) (by kernel_rfl) (fun v h => h)).trans rfl) ?_
    obtain ⟨v10, e47, hv10⟩ := ev_dep hdep 10 47 (by kernel_rfl) (by kernel_rfl)
    replace hv10 : v10 = .pointer (some ⟨c, 0, none⟩) := hv10
    subst hv10
    refine step_val (x := .pointer (some ⟨c, 5, none⟩)) ?_ rfl
    simp [go_sem, e47]
   ·intro a w hb hoth hdep
    refine step_on ((want_dep hdep 6 43 true rfl (by kernel_rfl) (by kernel_rfl) (fun v h => h)).trans rfl) ?_
    obtain ⟨v11, e48, hv11⟩ := ev_dep hdep 11 48 (by kernel_rfl) (by kernel_rfl)
    replace hv11 : v11 = .pointer (some ⟨c, 5, none⟩) := hv11
    subst hv11
    obtain ⟨c0, c1, c2, c3, c4, c5, c6, c7, c8, c9, c10, c11, c12, c13, c14⟩ := wkCells (HP.out.1.below hb).blk
    refine step_val (x := .int .i64 s1.inc) ?_ rfl
    simp [go_sem, e48, c5]
   ·intro a w hb hoth hdep
    refine step_on ((want_dep hdep 6 43 true rfl (by kernel_rfl) (by kernel_rfl) (fun v h => h)).trans rfl) ?_
    obtain ⟨v8, e45, hv8⟩ := ev_dep hdep 8 45 (by kernel_rfl) (by kernel_rfl)
    replace hv8 : v8 = .int .i64 m.inc := hv8
    subst hv8
    obtain ⟨v12, e49, hv12⟩ := ev_dep hdep 12 49 (by kernel_rfl) (by kernel_rfl)
    replace hv12 : v12 = .int .i64 s1.inc := hv12
    subst hv12
    refine step_val (x := .bool true) ?_ rfl
    simp [go_sem, e45, e49, hinc]
   ·intro a w hb hoth hdep
    refine step_on (want_none rfl) ?_
    have e43 : a.tmps[43]? = some (.bool true) := ev_seg hoth 43 (by kernel_rfl) rfl
    obtain ⟨v13, e50, hv13⟩ := ev_dep hdep 13 50 (by kernel_rfl) (by kernel_rfl)
    replace hv13 : v13 = .bool true := hv13
    subst hv13
    refine step_val (x := .bool true) ?_ rfl
    simp [go_sem, e43, e50]
   ·intro a w hb hoth hdep
    refine step_on ((want_dep hdep 15 52 true rfl (by kernel_rfl) (by kernel_rfl) (fun v h => h)).trans rfl) ?_
    have e7 : a.tmps[7]? = some (.func (.func 66) #[.pointer (some ⟨c, 0, none⟩)] #[]) := ev_seg hoth 7 (by kernel_rfl) rfl
    exact step_val ((BigFrame.run_move _ rfl w).trans (by rw [ev_of e7])) rfl
   ·intro a w hb hoth hdep
    refine step_on ((want_dep hdep 15 52 true rfl (by kernel_rfl) (by kernel_rfl) (fun v h => h)).trans rfl) ?_
    have e1 : a.tmps[1]? = some (.int .i64 now) := ev_seg hoth 1 (by kernel_rfl) rfl
    exact step_val ((BigFrame.run_move _ rfl w).trans (by rw [ev_of e1])) rfl
   ·intro a w hb hoth hdep
    refine step_on ((want_dep hdep 15 52 true rfl (by kernel_rfl) (by kernel_rfl) (fun v h => h)).trans rfl) ?_
    have e5 : a.tmps[5]? = some (.pointer (some ⟨b, 0, none⟩)) := ev_seg hoth 5 (by kernel_rfl) rfl
    obtain ⟨m0, m1, m2, m3, m4, m5, m6, m7, m8, m9, m10, m11⟩ := msgCells (HP.out.2.1.below hb HP.out.2.1.lt)
    refine step_val (x := aggMsg m) ?_ rfl
    simp [go_sem, e5, m0, m1, m2, m3, m4, m5, m6, m7, m8, m9, m10, m11, aggMsg]
   case fin =>
    intro wq hbq
    iterate 12 (rintro _ rfl)
    refine FinC.nil ?_
    have HQ := Lib.hid (And.intro (HP.out.1.below hbq) (And.intro (HP.out.2.1.below hbq HP.out.2.1.lt) (HP.out.2.2.then_below hbq)))
    clear hbq
    refine cont_line 19 3 (by kernel_rfl) (by kernel_rfl) (by kernel_rfl) ?_
    have hcx := HCC.out _ _ HQ.out.1
    go_wp2_with fail
    (with_reducible refine hcx.mono ?_)
    clear hcx
    rintro rr w5 ⟨rfl, v5, hw5, ht5⟩
    have HE := Lib.hid (And.intro hw5 (HQ.out.2.2.trans ht5))
    clear hw5 ht5
    go_wp2_with fail
    show Cont _ _ _ _ _ _
    refine cont_end (by kernel_rfl) ?_
    go_wp2
    go_ret
    exact ⟨rfl, v5, HE.out.1, HE.out.2⟩
end
end Go.Proofs.YthhnocnkicoimaaDoor
