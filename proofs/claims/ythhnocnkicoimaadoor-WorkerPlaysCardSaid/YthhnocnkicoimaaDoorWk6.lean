/-
 LAYER 39 (worker): Finish; ack, do, stop.
 LAYER 39 (worker): do, stop; the fence in the object.
-/
import Derived.Test.YthhnocnkicoimaaDoorWk4
set_option linter.unusedVariables false
set_option linter.unusedSimpArgs false
namespace Go.Proofs.YthhnocnkicoimaaDoor
open Go.RowKit Go.Maps

section
variable {w w' : World} {c : Nat} {v : WV} {s : WS}
theorem WkAt.heldTurn (h : WkAt w c v s) {row' : List Int} {f' : Int → Int} (hm : MapKV w' (.map (some v.h)) row' f') (hg : w.grownBy w' (some v.h)) : WkAt w' c v { s with held := row' } ∧ Turned (wkS c v) (wkS c v) w w' := by
 have hk : Kept (fun k => k = v.h) w w' := Kept.of_grown hg (fun k hk _ => by cases hk; rfl)
 obtain ⟨fh, kh⟩ := h.h
 obtain ⟨fd, kd⟩ := h.d
 obtain ⟨ft, kt⟩ := h.t
 have hne := h.ne
 exact ⟨⟨h.blk.kept hk (fun e => hne.1 e.symm), ⟨_, hm⟩, ⟨_, kd.kept hk (fun b e => by cases e; exact h.hd.symm)⟩, ⟨_, kt.kept hk (fun b e => by cases e; exact h.ht.symm)⟩, h.hd, h.ht, h.dt⟩, hk.mono (fun i _ e => .inr (.inl e)), fun k hk => .inl hk⟩
theorem WkAt.doneTurn (h : WkAt w c v s) {row' : List Int} {f' : Int → Int} (hm : MapKV w' (.map (some v.d)) row' f') (hg : w.grownBy w' (some v.d)) : WkAt w' c v { s with done := row' } ∧ Turned (wkS c v) (wkS c v) w w' := by
 have hk : Kept (fun k => k = v.d) w w' := Kept.of_grown hg (fun k hk _ => by cases hk; rfl)
 obtain ⟨fh, kh⟩ := h.h
 obtain ⟨fd, kd⟩ := h.d
 obtain ⟨ft, kt⟩ := h.t
 have hne := h.ne
 exact ⟨⟨h.blk.kept hk (fun e => hne.2.1 e.symm), ⟨_, kh.kept hk (fun b e => by cases e; exact h.hd)⟩, ⟨_, hm⟩, ⟨_, kt.kept hk (fun b e => by cases e; exact h.dt.symm)⟩, h.hd, h.ht, h.dt⟩, hk.mono (fun i _ e => .inr (.inr (.inl e))), fun k hk => .inl hk⟩
theorem WkAt.toldTurn (h : WkAt w c v s) {row' : List Int} {f' : Int → Int} (hm : MapKV w' (.map (some v.t)) row' f') (hg : w.grownBy w' (some v.t)) : WkAt w' c v { s with told := row' } ∧ Turned (wkS c v) (wkS c v) w w' := by
 have hk : Kept (fun k => k = v.t) w w' := Kept.of_grown hg (fun k hk _ => by cases hk; rfl)
 obtain ⟨fh, kh⟩ := h.h
 obtain ⟨fd, kd⟩ := h.d
 obtain ⟨ft, kt⟩ := h.t
 have hne := h.ne
 exact ⟨⟨h.blk.kept hk (fun e => hne.2.2 e.symm), ⟨_, kh.kept hk (fun b e => by cases e; exact h.ht)⟩, ⟨_, kd.kept hk (fun b e => by cases e; exact h.dt)⟩, ⟨_, hm⟩, h.hd, h.ht, h.dt⟩, hk.mono (fun i _ e => .inr (.inr (.inr e))), fun k hk => .inl hk⟩
set_option maxRecDepth 100000 in
set_option maxHeartbeats 1600000 in
theorem wkFinish_dead (h : WkAt w c v s) (now job : Int) (hl : s.live now = false) : Calls Tryd.prog 30 #[.pointer (some ⟨c, 0, none⟩), .int .i64 now, .int .i64 job] w fun e w' => e = .returned (.bool false) ∧ w' = w := by
 have hL := wkLive h now
 rw [hl] at hL
 clear h
 go_enter Tryd.func30, Tryd.ntmps30
 go_wp2_with (go_at_call 27; (with_reducible refine hL.mono ?_); rintro r w9 ⟨rfl, hw⟩; replace hw := hw.symm; subst hw)
 go_ret
 exact ⟨rfl, rfl⟩
set_option maxRecDepth 100000 in
set_option maxHeartbeats 1600000 in
theorem wkFinish_no (h : WkAt w c v s) (now job : Int) (hl : s.live now = true) (hj : wf64 job) (hin : job ∉ s.held) : Calls Tryd.prog 30 #[.pointer (some ⟨c, 0, none⟩), .int .i64 now, .int .i64 job] w fun e w' => e = .returned (.bool false) ∧ w' = w := by
 have hL := wkLive h now
 rw [hl] at hL
 obtain ⟨f, hf⟩ := h.h
 have hlk := hf.look hj
 rw [if_neg hin, decide_eq_false hin] at hlk
 obtain ⟨c0, c1, c2, c3, c4, c5, c6, c7, c8, c9, c10, c11, c12, c13, c14⟩ := wkCells h.blk
 have cl := h.blk.lt
 have cf := h.blk.frozen
 clear h hf hin hl
 go_enter Tryd.func30, Tryd.ntmps30
 go_wp2_with (go_at_call 27; (with_reducible refine hL.mono ?_); rintro r w9 ⟨rfl, hw⟩; replace hw := hw.symm; subst hw)
 go_ret
 exact ⟨rfl, rfl⟩
def WS.fin (s : WS) (job : Int) : WS := { s with held := s.held.filter (· != job), done := putR s.done job }
set_option maxRecDepth 100000 in
set_option maxHeartbeats 1600000 in
theorem wkFinish_yes (h : WkAt w c v s) (now job : Int) (hl : s.live now = true) (hj : wf64 job) (hw : wf64 now) (hin : job ∈ s.held) (hn : s.done.length ≤ 1000000) : Calls Tryd.prog 30 #[.pointer (some ⟨c, 0, none⟩), .int .i64 now, .int .i64 job] w fun e w' => e = .returned (.bool true) ∧ ∃ v', WkAt w' c v' (s.fin job) ∧ Turned (wkS c v) (wkS c v') w w' := by
 have hL := wkLive h now
 rw [hl] at hL
 obtain ⟨f, hf⟩ := h.h
 have hlk := hf.look hj
 rw [if_pos hin, decide_eq_true hin] at hlk
 obtain ⟨w1, hdel, hm1, hg1, hs1⟩ := hf.del hj
 have h1 := h.heldTurn hm1 hg1
 obtain ⟨g, hgd⟩ := h1.1.d
 obtain ⟨w2, hst, hm2, hg2, hs2⟩ := hgd.store hj hw (by show s.done.length < _; omega)
 have h2 := h1.1.doneTurn hm2 hg2
 have HF := Lib.hid (And.intro h2.1 (h1.2.trans h2.2))
 obtain ⟨c0, c1, c2, c3, c4, c5, c6, c7, c8, c9, c10, c11, c12, c13, c14⟩ := wkCells h.blk
 have cl := h.blk.lt
 have cf := h.blk.frozen
 obtain ⟨d0, d1, d2, d3, d4, d5, d6, d7, d8, d9, d10, d11, d12, d13, d14⟩ := wkCells h1.1.blk
 have dl := h1.1.blk.lt
 have df := h1.1.blk.frozen
 clear h hf hin hl hm1 hg1 hs1 h1 hgd hm2 hg2 hs2 h2
 go_enter Tryd.func30, Tryd.ntmps30
 go_wp2_with (go_at_call 27; (with_reducible refine hL.mono ?_); rintro r w9 ⟨rfl, hw⟩; replace hw := hw.symm; subst hw)
 go_ret
 exact ⟨rfl, _, HF.out.1, HF.out.2⟩
def WS.ackB (s : WS) (now : Int) (m : LMsg) : Bool := decide (m.tick ≤ now) && decide (now < laterI m.tick s.span)
def WS.ack (s : WS) (m : LMsg) : WS := { s with until_ := max s.until_ (laterI m.tick s.span) }
set_option maxRecDepth 100000 in
set_option maxHeartbeats 1600000 in
theorem wkAck_late (h : WkAt w c v s) (now : Int) (m : LMsg) (h1 : now < m.tick) : Calls Tryd.prog 64 #[.pointer (some ⟨c, 0, none⟩), .int .i64 now, aggMsg m] w fun e w' => e = .returned (.bool false) ∧ ∃ v', WkAt w' c v' s ∧ Turned (wkS c v) (wkS c v') w w' := by
 have hB : Below w.heap.size w (w.alloc (.cells (boxMsg m) 38)) := (Below.refl _ _).alloc (Nat.le_refl _) _
 have hbm := Blk.new w 38 (boxMsg m)
 have H0 := Lib.hid (And.intro (h.below hB) (And.intro hbm (Turned.of_below (S := wkS c v) hB)))
 clear h hB hbm
 go_enter Tryd.func64, Tryd.ntmps64
 go_upto_region 1 with fail
 generalize (w.alloc (.cells (boxMsg m) 38)) = w1 at H0 ⊢
 obtain ⟨b, hb⟩ : ∃ b, w.heap.size = b := ⟨_, rfl⟩
 have H1 : Hid (WkAt w1 c v s ∧ Blk w1 b 38 (boxMsg m) ∧ Turned (wkS c v) (wkS c v) w w1) := Lib.hid (by rw [← hb]; exact H0.out)
 try simp only [hb]
 clear hb H0
 have t1 : decide (now < m.tick) = true := decide_eq_true h1
 clear h1
 refine Cont.start (by kernel_rfl) ?_
 have HD := Lib.hid (And.intro (H1.out.1.below (Below.refl _ _).drew) (And.intro (H1.out.2.1.below (Below.refl _ _).drew H1.out.2.1.lt) (H1.out.2.2.then_below (Below.refl _ _).drew)))
 generalize w1.drew = wd at HD ⊢
 refine cont_free2 0 8 8 [] [.o (eqV (.pointer (some ⟨b, 6, none⟩))), .o (eqV (.int .i64 m.tick)), .o (eqV (.pointer (some ⟨c, 0, none⟩))), .o (eqV (.pointer (some ⟨c, 0, none⟩))), .o (eqV (.pointer (some ⟨c, 4, none⟩))), .o (eqV (.int .i64 s.span)), .o (eqV (.int .i64 (laterI m.tick s.span)))] [7] [.o (eqV (.int .i64 (laterI m.tick s.span)))] [false, false, false, false, false, false, false, false] (by kernel_rfl) (by kernel_rfl) (by kernel_rfl) (by kernel_rfl) (by kernel_rfl) (by kernel_rfl) (by kernel_rfl) rfl (by kernel_rfl) (by kernel_rfl) ⟨?_, ?_, ?_, ?_, ?_, ?_, ?_, ?_, trivial⟩ ?fin
 ·intro a w hb hoth hdep
  refine step_on (want_none rfl) ?_
  have e5 : a.tmps[5]? = some (.pointer (some ⟨b, 0, none⟩)) := ev_seg hoth 5 (by kernel_rfl) rfl
  refine step_val (x := .pointer (some ⟨b, 6, none⟩)) ?_ rfl
  simp [go_sem, e5]
 ·intro a w hb hoth hdep
  refine step_on (want_none rfl) ?_
  obtain ⟨v0, e8, hv0⟩ := ev_dep hdep 0 8 (by kernel_rfl) (by kernel_rfl)
  replace hv0 : v0 = .pointer (some ⟨b, 6, none⟩) := hv0
  subst hv0
  have m6 : w.cell? ⟨b, 6, none⟩ = some (.int .i64 m.tick) := ((HD.out.2.1.below hb HD.out.2.1.lt).cell 6).trans rfl
  refine step_val (x := .int .i64 m.tick) ?_ rfl
  simp [go_sem, e8, m6]
 ·intro a w hb hoth hdep
  refine step_on (want_none rfl) ?_
  have e0 : a.tmps[0]? = some (.pointer (some ⟨c, 0, none⟩)) := ev_seg hoth 0 (by kernel_rfl) rfl
  exact step_val ((BigFrame.run_move _ rfl w).trans (by rw [ev_of e0])) rfl
 ·intro a w hb hoth hdep
  refine step_on (want_none rfl) ?_
  obtain ⟨v2, e10, hv2⟩ := ev_dep hdep 2 10 (by kernel_rfl) (by kernel_rfl)
  replace hv2 : v2 = .pointer (some ⟨c, 0, none⟩) := hv2
  subst hv2
  refine step_val (x := .pointer (some ⟨c, 0, none⟩)) ?_ rfl
  simp [go_sem, e10]
 ·intro a w hb hoth hdep
  refine step_on (want_none rfl) ?_
  obtain ⟨v3, e11, hv3⟩ := ev_dep hdep 3 11 (by kernel_rfl) (by kernel_rfl)
  replace hv3 : v3 = .pointer (some ⟨c, 0, none⟩) := hv3
  subst hv3
  refine step_val (x := .pointer (some ⟨c, 4, none⟩)) ?_ rfl
  simp [go_sem, e11]
 ·intro a w hb hoth hdep
  refine step_on (want_none rfl) ?_
  obtain ⟨v4, e12, hv4⟩ := ev_dep hdep 4 12 (by kernel_rfl) (by kernel_rfl)
  replace hv4 : v4 = .pointer (some ⟨c, 4, none⟩) := hv4
  subst hv4
  obtain ⟨c0, c1, c2, c3, c4, c5, c6, c7, c8, c9, c10, c11, c12, c13, c14⟩ := wkCells (HD.out.1.below hb).blk
  refine step_val (x := .int .i64 s.span) ?_ rfl
  simp [go_sem, e12, c4]
 ·intro a w hb hoth hdep
  refine step_on (want_none rfl) ?_
  obtain ⟨v1, e9, hv1⟩ := ev_dep hdep 1 9 (by kernel_rfl) (by kernel_rfl)
  replace hv1 : v1 = .int .i64 m.tick := hv1
  subst hv1
  obtain ⟨v5, e13, hv5⟩ := ev_dep hdep 5 13 (by kernel_rfl) (by kernel_rfl)
  replace hv5 : v5 = .int .i64 s.span := hv5
  subst hv5
  refine step_call (f := 93) (args := #[.int .i64 m.tick, .int .i64 s.span]) ?_ ?_
  ·simp [go_sem, e9, e13]
  ·have hcx := later_t m.tick s.span w
   (with_reducible refine hcx.mono ?_)
   clear hcx
   rintro e w2 ⟨rfl, hw⟩
   subst hw
   exact ⟨_, rfl, rfl, Below.refl _ _⟩
 ·intro a w hb hoth hdep
  refine step_on (want_none rfl) ?_
  obtain ⟨v6, e14, hv6⟩ := ev_dep hdep 6 14 (by kernel_rfl) (by kernel_rfl)
  replace hv6 : v6 = .int .i64 (laterI m.tick s.span) := hv6
  subst hv6
  exact step_val ((BigFrame.run_assign _ rfl w).trans (by rw [ev_of e14])) rfl
 case fin =>
  intro wz hbz
  iterate 7 (rintro _ rfl)
  refine FinC.nil ?_
  iterate 1 (rintro _ rfl)
  refine FinL.nil ?_
  refine cont_end (by kernel_rfl) ?_
  have HZ := Lib.hid (And.intro (HD.out.1.below hbz) (And.intro (HD.out.2.1.below hbz HD.out.2.1.lt) (HD.out.2.2.then_below hbz)))
  clear hbz HD H1
  have m6 : wz.cell? ⟨b, 6, none⟩ = some (.int .i64 m.tick) := (HZ.out.2.1.cell 6).trans rfl
  have ml := HZ.out.2.1.lt
  obtain ⟨c0, c1, c2, c3, c4, c5, c6, c7, c8, c9, c10, c11, c12, c13, c14⟩ := wkCells HZ.out.1.blk
  have cl := HZ.out.1.blk.lt
  have cf := HZ.out.1.blk.frozen
  go_wp2
  go_ret
  exact ⟨rfl, v, HZ.out.1, HZ.out.2.2⟩
set_option maxRecDepth 100000 in
set_option maxHeartbeats 1600000 in
theorem wkAck_early (h : WkAt w c v s) (now : Int) (m : LMsg) (h1 : m.tick ≤ now) (h2 : laterI m.tick s.span ≤ now) : Calls Tryd.prog 64 #[.pointer (some ⟨c, 0, none⟩), .int .i64 now, aggMsg m] w fun e w' => e = .returned (.bool false) ∧ ∃ v', WkAt w' c v' s ∧ Turned (wkS c v) (wkS c v') w w' := by
 have hB : Below w.heap.size w (w.alloc (.cells (boxMsg m) 38)) := (Below.refl _ _).alloc (Nat.le_refl _) _
 have hbm := Blk.new w 38 (boxMsg m)
 have H0 := Lib.hid (And.intro (h.below hB) (And.intro hbm (Turned.of_below (S := wkS c v) hB)))
 clear h hB hbm
 go_enter Tryd.func64, Tryd.ntmps64
 go_upto_region 1 with fail
 generalize (w.alloc (.cells (boxMsg m) 38)) = w1 at H0 ⊢
 obtain ⟨b, hb⟩ : ∃ b, w.heap.size = b := ⟨_, rfl⟩
 have H1 : Hid (WkAt w1 c v s ∧ Blk w1 b 38 (boxMsg m) ∧ Turned (wkS c v) (wkS c v) w w1) := Lib.hid (by rw [← hb]; exact H0.out)
 try simp only [hb]
 clear hb H0
 have t1 : decide (now < m.tick) = false := decide_eq_false (by omega)
 have t2 : decide (laterI m.tick s.span ≤ now) = true := decide_eq_true h2
 clear h1 h2
 refine Cont.start (by kernel_rfl) ?_
 have HD := Lib.hid (And.intro (H1.out.1.below (Below.refl _ _).drew) (And.intro (H1.out.2.1.below (Below.refl _ _).drew H1.out.2.1.lt) (H1.out.2.2.then_below (Below.refl _ _).drew)))
 generalize w1.drew = wd at HD ⊢
 refine cont_free2 0 8 8 [] [.o (eqV (.pointer (some ⟨b, 6, none⟩))), .o (eqV (.int .i64 m.tick)), .o (eqV (.pointer (some ⟨c, 0, none⟩))), .o (eqV (.pointer (some ⟨c, 0, none⟩))), .o (eqV (.pointer (some ⟨c, 4, none⟩))), .o (eqV (.int .i64 s.span)), .o (eqV (.int .i64 (laterI m.tick s.span)))] [7] [.o (eqV (.int .i64 (laterI m.tick s.span)))] [false, false, false, false, false, false, false, false] (by kernel_rfl) (by kernel_rfl) (by kernel_rfl) (by kernel_rfl) (by kernel_rfl) (by kernel_rfl) (by kernel_rfl) rfl (by kernel_rfl) (by kernel_rfl) ⟨?_, ?_, ?_, ?_, ?_, ?_, ?_, ?_, trivial⟩ ?fin
 ·intro a w hb hoth hdep
  refine step_on (want_none rfl) ?_
  have e5 : a.tmps[5]? = some (.pointer (some ⟨b, 0, none⟩)) := ev_seg hoth 5 (by kernel_rfl) rfl
  refine step_val (x := .pointer (some ⟨b, 6, none⟩)) ?_ rfl
  simp [go_sem, e5]
 ·intro a w hb hoth hdep
  refine step_on (want_none rfl) ?_
  obtain ⟨v0, e8, hv0⟩ := ev_dep hdep 0 8 (by kernel_rfl) (by kernel_rfl)
  replace hv0 : v0 = .pointer (some ⟨b, 6, none⟩) := hv0
  subst hv0
  have m6 : w.cell? ⟨b, 6, none⟩ = some (.int .i64 m.tick) := ((HD.out.2.1.below hb HD.out.2.1.lt).cell 6).trans rfl
  refine step_val (x := .int .i64 m.tick) ?_ rfl
  simp [go_sem, e8, m6]
 ·intro a w hb hoth hdep
  refine step_on (want_none rfl) ?_
  have e0 : a.tmps[0]? = some (.pointer (some ⟨c, 0, none⟩)) := ev_seg hoth 0 (by kernel_rfl) rfl
  exact step_val ((BigFrame.run_move _ rfl w).trans (by rw [ev_of e0])) rfl
 ·intro a w hb hoth hdep
  refine step_on (want_none rfl) ?_
  obtain ⟨v2, e10, hv2⟩ := ev_dep hdep 2 10 (by kernel_rfl) (by kernel_rfl)
  replace hv2 : v2 = .pointer (some ⟨c, 0, none⟩) := hv2
  subst hv2
  refine step_val (x := .pointer (some ⟨c, 0, none⟩)) ?_ rfl
  simp [go_sem, e10]
 ·intro a w hb hoth hdep
  refine step_on (want_none rfl) ?_
  obtain ⟨v3, e11, hv3⟩ := ev_dep hdep 3 11 (by kernel_rfl) (by kernel_rfl)
  replace hv3 : v3 = .pointer (some ⟨c, 0, none⟩) := hv3
  subst hv3
  refine step_val (x := .pointer (some ⟨c, 4, none⟩)) ?_ rfl
  simp [go_sem, e11]
 ·intro a w hb hoth hdep
  refine step_on (want_none rfl) ?_
  obtain ⟨v4, e12, hv4⟩ := ev_dep hdep 4 12 (by kernel_rfl) (by kernel_rfl)
  replace hv4 : v4 = .pointer (some ⟨c, 4, none⟩) := hv4
  subst hv4
  obtain ⟨c0, c1, c2, c3, c4, c5, c6, c7, c8, c9, c10, c11, c12, c13, c14⟩ := wkCells (HD.out.1.below hb).blk
  refine step_val (x := .int .i64 s.span) ?_ rfl
  simp [go_sem, e12, c4]
 ·intro a w hb hoth hdep
  refine step_on (want_none rfl) ?_
  obtain ⟨v1, e9, hv1⟩ := ev_dep hdep 1 9 (by kernel_rfl) (by kernel_rfl)
  replace hv1 : v1 = .int .i64 m.tick := hv1
  subst hv1
  obtain ⟨v5, e13, hv5⟩ := ev_dep hdep 5 13 (by kernel_rfl) (by kernel_rfl)
  replace hv5 : v5 = .int .i64 s.span := hv5
  subst hv5
  refine step_call (f := 93) (args := #[.int .i64 m.tick, .int .i64 s.span]) ?_ ?_
  ·simp [go_sem, e9, e13]
  ·have hcx := later_t m.tick s.span w
   (with_reducible refine hcx.mono ?_)
   clear hcx
   rintro e w2 ⟨rfl, hw⟩
   subst hw
   exact ⟨_, rfl, rfl, Below.refl _ _⟩
 ·intro a w hb hoth hdep
  refine step_on (want_none rfl) ?_
  obtain ⟨v6, e14, hv6⟩ := ev_dep hdep 6 14 (by kernel_rfl) (by kernel_rfl)
  replace hv6 : v6 = .int .i64 (laterI m.tick s.span) := hv6
  subst hv6
  exact step_val ((BigFrame.run_assign _ rfl w).trans (by rw [ev_of e14])) rfl
 case fin =>
  intro wz hbz
  iterate 7 (rintro _ rfl)
  refine FinC.nil ?_
  iterate 1 (rintro _ rfl)
  refine FinL.nil ?_
  refine cont_end (by kernel_rfl) ?_
  have HZ := Lib.hid (And.intro (HD.out.1.below hbz) (And.intro (HD.out.2.1.below hbz HD.out.2.1.lt) (HD.out.2.2.then_below hbz)))
  clear hbz HD H1
  have m6 : wz.cell? ⟨b, 6, none⟩ = some (.int .i64 m.tick) := (HZ.out.2.1.cell 6).trans rfl
  have ml := HZ.out.2.1.lt
  obtain ⟨c0, c1, c2, c3, c4, c5, c6, c7, c8, c9, c10, c11, c12, c13, c14⟩ := wkCells HZ.out.1.blk
  have cl := HZ.out.1.blk.lt
  have cf := HZ.out.1.blk.frozen
  go_wp2
  go_ret
  exact ⟨rfl, v, HZ.out.1, HZ.out.2.2⟩
set_option maxRecDepth 100000 in
set_option maxHeartbeats 1600000 in
theorem wkAck_yes (h : WkAt w c v s) (now : Int) (m : LMsg) (h1 : m.tick ≤ now) (h2 : now < laterI m.tick s.span) : Calls Tryd.prog 64 #[.pointer (some ⟨c, 0, none⟩), .int .i64 now, aggMsg m] w fun e w' => e = .returned (.bool true) ∧ ∃ v', WkAt w' c v' (s.ack m) ∧ Turned (wkS c v) (wkS c v') w w' := by
 have hB : Below w.heap.size w (w.alloc (.cells (boxMsg m) 38)) := (Below.refl _ _).alloc (Nat.le_refl _) _
 have hbm := Blk.new w 38 (boxMsg m)
 have H0 := Lib.hid (And.intro (h.below hB) (And.intro hbm (Turned.of_below (S := wkS c v) hB)))
 clear h hB hbm
 go_enter Tryd.func64, Tryd.ntmps64
 go_upto_region 1 with fail
 generalize (w.alloc (.cells (boxMsg m) 38)) = w1 at H0 ⊢
 obtain ⟨b, hb⟩ : ∃ b, w.heap.size = b := ⟨_, rfl⟩
 have H1 : Hid (WkAt w1 c v s ∧ Blk w1 b 38 (boxMsg m) ∧ Turned (wkS c v) (wkS c v) w w1) := Lib.hid (by rw [← hb]; exact H0.out)
 try simp only [hb]
 clear hb H0
 have t1 : decide (now < m.tick) = false := decide_eq_false (by omega)
 have t2 : decide (laterI m.tick s.span ≤ now) = false := decide_eq_false (by omega)
 clear h1 h2
 refine Cont.start (by kernel_rfl) ?_
 have HD := Lib.hid (And.intro (H1.out.1.below (Below.refl _ _).drew) (And.intro (H1.out.2.1.below (Below.refl _ _).drew H1.out.2.1.lt) (H1.out.2.2.then_below (Below.refl _ _).drew)))
 generalize w1.drew = wd at HD ⊢
 refine cont_free2 0 8 8 [] [.o (eqV (.pointer (some ⟨b, 6, none⟩))), .o (eqV (.int .i64 m.tick)), .o (eqV (.pointer (some ⟨c, 0, none⟩))), .o (eqV (.pointer (some ⟨c, 0, none⟩))), .o (eqV (.pointer (some ⟨c, 4, none⟩))), .o (eqV (.int .i64 s.span)), .o (eqV (.int .i64 (laterI m.tick s.span)))] [7] [.o (eqV (.int .i64 (laterI m.tick s.span)))] [false, false, false, false, false, false, false, false] (by kernel_rfl) (by kernel_rfl) (by kernel_rfl) (by kernel_rfl) (by kernel_rfl) (by kernel_rfl) (by kernel_rfl) rfl (by kernel_rfl) (by kernel_rfl) ⟨?_, ?_, ?_, ?_, ?_, ?_, ?_, ?_, trivial⟩ ?fin
 ·intro a w hb hoth hdep
  refine step_on (want_none rfl) ?_
  have e5 : a.tmps[5]? = some (.pointer (some ⟨b, 0, none⟩)) := ev_seg hoth 5 (by kernel_rfl) rfl
  refine step_val (x := .pointer (some ⟨b, 6, none⟩)) ?_ rfl
  simp [go_sem, e5]
 ·intro a w hb hoth hdep
  refine step_on (want_none rfl) ?_
  obtain ⟨v0, e8, hv0⟩ := ev_dep hdep 0 8 (by kernel_rfl) (by kernel_rfl)
  replace hv0 : v0 = .pointer (some ⟨b, 6, none⟩) := hv0
  subst hv0
  have m6 : w.cell? ⟨b, 6, none⟩ = some (.int .i64 m.tick) := ((HD.out.2.1.below hb HD.out.2.1.lt).cell 6).trans rfl
  refine step_val (x := .int .i64 m.tick) ?_ rfl
  simp [go_sem, e8, m6]
 ·intro a w hb hoth hdep
  refine step_on (want_none rfl) ?_
  have e0 : a.tmps[0]? = some (.pointer (some ⟨c, 0, none⟩)) := ev_seg hoth 0 (by kernel_rfl) rfl
  exact step_val ((BigFrame.run_move _ rfl w).trans (by rw [ev_of e0])) rfl
 ·intro a w hb hoth hdep
  refine step_on (want_none rfl) ?_
  obtain ⟨v2, e10, hv2⟩ := ev_dep hdep 2 10 (by kernel_rfl) (by kernel_rfl)
  replace hv2 : v2 = .pointer (some ⟨c, 0, none⟩) := hv2
  subst hv2
  refine step_val (x := .pointer (some ⟨c, 0, none⟩)) ?_ rfl
  simp [go_sem, e10]
 ·intro a w hb hoth hdep
  refine step_on (want_none rfl) ?_
  obtain ⟨v3, e11, hv3⟩ := ev_dep hdep 3 11 (by kernel_rfl) (by kernel_rfl)
  replace hv3 : v3 = .pointer (some ⟨c, 0, none⟩) := hv3
  subst hv3
  refine step_val (x := .pointer (some ⟨c, 4, none⟩)) ?_ rfl
  simp [go_sem, e11]
 ·intro a w hb hoth hdep
  refine step_on (want_none rfl) ?_
  obtain ⟨v4, e12, hv4⟩ := ev_dep hdep 4 12 (by kernel_rfl) (by kernel_rfl)
  replace hv4 : v4 = .pointer (some ⟨c, 4, none⟩) := hv4
  subst hv4
  obtain ⟨c0, c1, c2, c3, c4, c5, c6, c7, c8, c9, c10, c11, c12, c13, c14⟩ := wkCells (HD.out.1.below hb).blk
  refine step_val (x := .int .i64 s.span) ?_ rfl
  simp [go_sem, e12, c4]
 ·intro a w hb hoth hdep
  refine step_on (want_none rfl) ?_
  obtain ⟨v1, e9, hv1⟩ := ev_dep hdep 1 9 (by kernel_rfl) (by kernel_rfl)
  replace hv1 : v1 = .int .i64 m.tick := hv1
  subst hv1
  obtain ⟨v5, e13, hv5⟩ := ev_dep hdep 5 13 (by kernel_rfl) (by kernel_rfl)
  replace hv5 : v5 = .int .i64 s.span := hv5
  subst hv5
  refine step_call (f := 93) (args := #[.int .i64 m.tick, .int .i64 s.span]) ?_ ?_
  ·simp [go_sem, e9, e13]
  ·have hcx := later_t m.tick s.span w
   (with_reducible refine hcx.mono ?_)
   clear hcx
   rintro e w2 ⟨rfl, hw⟩
   subst hw
   exact ⟨_, rfl, rfl, Below.refl _ _⟩
 ·intro a w hb hoth hdep
  refine step_on (want_none rfl) ?_
  obtain ⟨v6, e14, hv6⟩ := ev_dep hdep 6 14 (by kernel_rfl) (by kernel_rfl)
  replace hv6 : v6 = .int .i64 (laterI m.tick s.span) := hv6
  subst hv6
  exact step_val ((BigFrame.run_assign _ rfl w).trans (by rw [ev_of e14])) rfl
 case fin =>
  intro wz hbz
  iterate 7 (rintro _ rfl)
  refine FinC.nil ?_
  iterate 1 (rintro _ rfl)
  refine FinL.nil ?_
  refine cont_end (by kernel_rfl) ?_
  have HZ := Lib.hid (And.intro (HD.out.1.below hbz) (And.intro (HD.out.2.1.below hbz HD.out.2.1.lt) (HD.out.2.2.then_below hbz)))
  clear hbz HD H1
  have m6 : wz.cell? ⟨b, 6, none⟩ = some (.int .i64 m.tick) := (HZ.out.2.1.cell 6).trans rfl
  have ml := HZ.out.2.1.lt
  obtain ⟨c0, c1, c2, c3, c4, c5, c6, c7, c8, c9, c10, c11, c12, c13, c14⟩ := wkCells HZ.out.1.blk
  have cl := HZ.out.1.blk.lt
  have cf := HZ.out.1.blk.frozen
  go_wp2
  clear m6 ml cl cf c0 c1 c2 c3 c4 c5 c6 c7 c8 c9 c10 c11 c12 c13 c14
  have hk := (Kept.setCell (F := fun k => k = c) (Kept.refl (fun k => k = c) wz) (p := ⟨c, 6, none⟩) (fun _ => rfl) (.int .i64 (max s.until_ (laterI m.tick s.span))))
  have hb : Blk (wz.setCell ⟨c, 6, none⟩ (.int .i64 (max s.until_ (laterI m.tick s.span)))) c 94 (wkBox v (s.ack m)) := by
   have h2 := (HZ.out.1.blk.set_ 6 (.int .i64 (max s.until_ (laterI m.tick s.span))))
   simp only [List.setIfInBounds_toArray, List.set_cons_zero, List.set_cons_succ] at h2
   exact h2
  have hWT := HZ.out.1.cells_ (s' := (s.ack m)) hk hb rfl rfl rfl rfl rfl rfl
  have HF := Lib.hid (And.intro hWT.1 (HZ.out.2.2.trans hWT.2))
  clear hk hb hWT
  generalize (wz.setCell ⟨c, 6, none⟩ (.int .i64 (max s.until_ (laterI m.tick s.span)))) = w9 at HF ⊢
  go_ret
  exact ⟨rfl, _, HF.out.1, HF.out.2⟩
end
end Go.Proofs.YthhnocnkicoimaaDoor
namespace Go.Proofs.YthhnocnkicoimaaDoor
open Go.RowKit Go.Maps

section
variable {w w' : World} {c : Nat} {v : WV} {s : WS}
def WS.pass (s : WS) (e : Int) : WS := if passB s.epoch e then { s with epoch := e } else s
theorem wkPass (h : WkAt w c v s) (e : Int) : Calls Tryd.prog 67 #[.pointer (some ⟨c, 0, none⟩), .int .i64 e] w fun r w' => r = .returned (.bool (passB s.epoch e)) ∧ ∃ v', WkAt w' c v' (s.pass e) ∧ Turned (wkS c v) (wkS c v') w w' := by
 obtain ⟨c0, c1, c2, _⟩ := wkCells h.blk
 refine (pass_t c s.epoch v.y v.n e w c0 c1 c2 h.blk.frozen h.blk.lt).mono ?_
 rintro r w' ⟨rfl, hw⟩
 refine ⟨rfl, ?_⟩
 unfold WS.pass
 cases hp : passB s.epoch e
 ·rw [hp] at hw
  subst hw
  simp only [Bool.false_eq_true, if_false]
  have hk := (Kept.setCell (F := fun k => k = c) (Kept.refl (fun k => k = c) w) (p := ⟨c, 2, none⟩) (fun _ => rfl) (.int .i64 (wrap64 (v.n + 1))))
  have hb : Blk (w.setCell ⟨c, 2, none⟩ (.int .i64 (wrap64 (v.n + 1)))) c 94 (wkBox { v with n := wrap64 (v.n + 1) } s) := by
   have h2 := (h.blk.set_ 2 (.int .i64 (wrap64 (v.n + 1))))
   simp only [List.setIfInBounds_toArray, List.set_cons_zero, List.set_cons_succ] at h2
   exact h2
  have hWT := h.cells_ (s' := s) hk hb rfl rfl rfl rfl rfl rfl
  exact ⟨_, hWT.1, hWT.2⟩
 ·rw [hp] at hw
  subst hw
  simp only [if_true]
  have hk := (Kept.setCell (F := fun k => k = c) (Kept.setCell (F := fun k => k = c) (Kept.refl (fun k => k = c) w) (p := ⟨c, 0, none⟩) (fun _ => rfl) (.int .i64 e)) (p := ⟨c, 1, none⟩) (fun _ => rfl) (.int .i64 (wrap64 (v.y + 1))))
  have hb : Blk ((w.setCell ⟨c, 0, none⟩ (.int .i64 e)).setCell ⟨c, 1, none⟩ (.int .i64 (wrap64 (v.y + 1)))) c 94 (wkBox { v with y := wrap64 (v.y + 1) } { s with epoch := e }) := by
   have h2 := ((h.blk.set_ 0 (.int .i64 e)).set_ 1 (.int .i64 (wrap64 (v.y + 1))))
   simp only [List.setIfInBounds_toArray, List.set_cons_zero, List.set_cons_succ] at h2
   exact h2
  have hWT := h.cells_ (s' := { s with epoch := e }) hk hb rfl rfl rfl rfl rfl rfl
  exact ⟨_, hWT.1, hWT.2⟩
def WS.doB (s : WS) (now : Int) (m : LMsg) : Bool := !decide (m.job ∈ s.done) && s.live now
def WS.do_ (s : WS) (m : LMsg) : WS := { s with held := putR s.held m.job }
set_option maxRecDepth 100000 in
set_option maxHeartbeats 1600000 in
theorem wkDo_over (h : WkAt w c v s) (now : Int) (m : LMsg) (hj : wf64 m.job) (hin : m.job ∈ s.done) : Calls Tryd.prog 65 #[.pointer (some ⟨c, 0, none⟩), .int .i64 now, aggMsg m] w fun e w' => e = .returned (.bool false) ∧ ∃ v', WkAt w' c v' s ∧ Turned (wkS c v) (wkS c v') w w' := by
 have HJ := Lib.hid hj
 clear hj
 have hB : Below w.heap.size w (w.alloc (.cells (boxMsg m) 38)) := (Below.refl _ _).alloc (Nat.le_refl _) _
 have hbm := Blk.new w 38 (boxMsg m)
 have H0 := Lib.hid (And.intro (h.below hB) (And.intro hbm (Turned.of_below (S := wkS c v) hB)))
 clear h hB hbm
 go_enter Tryd.func65, Tryd.ntmps65
 go_upto_region 1 with fail
 generalize (w.alloc (.cells (boxMsg m) 38)) = w1 at H0 ⊢
 obtain ⟨b, hb⟩ : ∃ b, w.heap.size = b := ⟨_, rfl⟩
 have H1 : Hid (WkAt w1 c v s ∧ Blk w1 b 38 (boxMsg m) ∧ Turned (wkS c v) (wkS c v) w w1) := Lib.hid (by rw [← hb]; exact H0.out)
 try simp only [hb]
 clear hb H0
 obtain ⟨fd, hfd⟩ := H1.out.1.d
 have HMd := Lib.hid (hfd.below (Below.refl _ _).drew)
 clear hfd
 obtain ⟨lkd, hlkd⟩ : ∃ lk, (if m.job ∈ s.done then fd m.job else 0) = lk := ⟨_, rfl⟩
 obtain ⟨bod, hbod⟩ : ∃ bo, decide (m.job ∈ s.done) = bo := ⟨_, rfl⟩
 have HEd := Lib.hid (And.intro hlkd hbod)
 obtain rfl : bod = true := by rw [← hbod]; exact decide_eq_true hin
 clear hin hlkd hbod
 refine Cont.start (by kernel_rfl) ?_
 have HD := Lib.hid (And.intro (H1.out.1.below (Below.refl _ _).drew) (And.intro (H1.out.2.1.below (Below.refl _ _).drew H1.out.2.1.lt) (H1.out.2.2.then_below (Below.refl _ _).drew)))
 generalize w1.drew = wd at HD HMd ⊢
 refine cont_free2 0 12 10 [] [.o (eqV (.pointer (some ⟨c, 0, none⟩))), .o (eqV (.pointer (some ⟨c, 0, none⟩))), .o (eqV (.pointer (some ⟨c, 13, none⟩))), .o (eqV (.map (some v.d))), .o (eqV (.pointer (some ⟨b, 5, none⟩))), .o (eqV (.int .i64 m.job)), .o (eqV (.tuple #[.int .i64 lkd, .bool true]))] [9, 17, 18, 7, 8] [.o (eqV (.tuple #[.int .i64 lkd, .bool true])), .o (eqV (.int .i64 lkd)), .b true, .o (eqV (.int .i64 lkd)), .b true] [false, false, false, false, false, false, false, false, false, false, false, true] (by kernel_rfl) (by kernel_rfl) (by kernel_rfl) (by kernel_rfl) (by kernel_rfl) (by kernel_rfl) (by kernel_rfl) rfl (by kernel_rfl) (by kernel_rfl) ⟨?_, ?_, ?_, ?_, ?_, ?_, ?_, ?_, ?_, ?_, ?_, trivial⟩ ?fin
 ·intro a w hb hoth hdep
  refine step_on (want_none rfl) ?_
  have e0 : a.tmps[0]? = some (.pointer (some ⟨c, 0, none⟩)) := ev_seg hoth 0 (by kernel_rfl) rfl
  exact step_val ((BigFrame.run_move _ rfl w).trans (by rw [ev_of e0])) rfl
 ·intro a w hb hoth hdep
  refine step_on (want_none rfl) ?_
  obtain ⟨v0, e10, hv0⟩ := ev_dep hdep 0 10 (by kernel_rfl) (by kernel_rfl)
  replace hv0 : v0 = .pointer (some ⟨c, 0, none⟩) := hv0
  subst hv0
  refine step_val (x := .pointer (some ⟨c, 0, none⟩)) ?_ rfl
  simp [go_sem, e10]
 ·intro a w hb hoth hdep
  refine step_on (want_none rfl) ?_
  obtain ⟨v1, e11, hv1⟩ := ev_dep hdep 1 11 (by kernel_rfl) (by kernel_rfl)
  replace hv1 : v1 = .pointer (some ⟨c, 0, none⟩) := hv1
  subst hv1
  refine step_val (x := .pointer (some ⟨c, 13, none⟩)) ?_ rfl
  simp [go_sem, e11]
 ·intro a w hb hoth hdep
  refine step_on (want_none rfl) ?_
  obtain ⟨v2, e12, hv2⟩ := ev_dep hdep 2 12 (by kernel_rfl) (by kernel_rfl)
  replace hv2 : v2 = .pointer (some ⟨c, 13, none⟩) := hv2
  subst hv2
  obtain ⟨c0, c1, c2, c3, c4, c5, c6, c7, c8, c9, c10, c11, c12, c13, c14⟩ := wkCells (HD.out.1.below hb).blk
  refine step_val (x := .map (some v.d)) ?_ rfl
  simp [go_sem, e12, c13]
 ·intro a w hb hoth hdep
  refine step_on (want_none rfl) ?_
  have e5 : a.tmps[5]? = some (.pointer (some ⟨b, 0, none⟩)) := ev_seg hoth 5 (by kernel_rfl) rfl
  refine step_val (x := .pointer (some ⟨b, 5, none⟩)) ?_ rfl
  simp [go_sem, e5]
 ·intro a w hb hoth hdep
  refine step_on (want_none rfl) ?_
  obtain ⟨v4, e14, hv4⟩ := ev_dep hdep 4 14 (by kernel_rfl) (by kernel_rfl)
  replace hv4 : v4 = .pointer (some ⟨b, 5, none⟩) := hv4
  subst hv4
  have m5 : w.cell? ⟨b, 5, none⟩ = some (.int .i64 m.job) := ((HD.out.2.1.below hb HD.out.2.1.lt).cell 5).trans rfl
  refine step_val (x := .int .i64 m.job) ?_ rfl
  simp [go_sem, e14, m5]
 ·intro a w hb hoth hdep
  refine step_on (want_none rfl) ?_
  obtain ⟨v3, e13, hv3⟩ := ev_dep hdep 3 13 (by kernel_rfl) (by kernel_rfl)
  replace hv3 : v3 = .map (some v.d) := hv3
  subst hv3
  obtain ⟨v5, e15, hv5⟩ := ev_dep hdep 5 15 (by kernel_rfl) (by kernel_rfl)
  replace hv5 : v5 = .int .i64 m.job := hv5
  subst hv5
  have hlk := (HMd.out.below hb).look HJ.out
  rw [HEd.out.1, HEd.out.2] at hlk
  refine step_val (x := .tuple #[.int .i64 lkd, .bool true]) ?_ rfl
  simp [go_sem, e13, e15, hlk]
 ·intro a w hb hoth hdep
  refine step_on (want_none rfl) ?_
  obtain ⟨v6, e16, hv6⟩ := ev_dep hdep 6 16 (by kernel_rfl) (by kernel_rfl)
  replace hv6 : v6 = .tuple #[.int .i64 lkd, .bool true] := hv6
  subst hv6
  exact step_val ((BigFrame.run_move _ rfl w).trans (by rw [ev_of e16])) rfl
 ·intro a w hb hoth hdep
  refine step_on (want_none rfl) ?_
  obtain ⟨v7, e9, hv7⟩ := ev_dep hdep 7 9 (by kernel_rfl) (by kernel_rfl)
  replace hv7 : v7 = .tuple #[.int .i64 lkd, .bool true] := hv7
  subst hv7
  refine step_val (x := .int .i64 lkd) ?_ rfl
  simp [go_sem, e9]
 ·intro a w hb hoth hdep
  refine step_on (want_none rfl) ?_
  obtain ⟨v7, e9, hv7⟩ := ev_dep hdep 7 9 (by kernel_rfl) (by kernel_rfl)
  replace hv7 : v7 = .tuple #[.int .i64 lkd, .bool true] := hv7
  subst hv7
  refine step_val (x := .bool true) ?_ rfl
  simp [go_sem, e9]
 ·intro a w hb hoth hdep
  refine step_on (want_none rfl) ?_
  obtain ⟨v8, e17, hv8⟩ := ev_dep hdep 8 17 (by kernel_rfl) (by kernel_rfl)
  replace hv8 : v8 = .int .i64 lkd := hv8
  subst hv8
  exact step_val ((BigFrame.run_assign _ rfl w).trans (by rw [ev_of e17])) rfl
 case fin =>
  intro wz hbz
  iterate 7 (rintro _ rfl)
  refine FinC.nil ?_
  iterate 5 (rintro _ rfl)
  refine FinL.nil ?_
  refine cont_end (by kernel_rfl) ?_
  have HZ := Lib.hid (And.intro (HD.out.1.below hbz) (And.intro (HD.out.2.1.below hbz HD.out.2.1.lt) (HD.out.2.2.then_below hbz)))
  clear hbz HD
  clear H1 HMd
  go_wp2
  go_ret
  exact ⟨rfl, v, HZ.out.1, HZ.out.2.2⟩
set_option maxRecDepth 100000 in
set_option maxHeartbeats 1600000 in
theorem wkDo_dead (h : WkAt w c v s) (now : Int) (m : LMsg) (hj : wf64 m.job) (hin : m.job ∉ s.done) (hl : s.live now = false) : Calls Tryd.prog 65 #[.pointer (some ⟨c, 0, none⟩), .int .i64 now, aggMsg m] w fun e w' => e = .returned (.bool false) ∧ ∃ v', WkAt w' c v' s ∧ Turned (wkS c v) (wkS c v') w w' := by
 have HJ := Lib.hid hj
 clear hj
 have hB : Below w.heap.size w (w.alloc (.cells (boxMsg m) 38)) := (Below.refl _ _).alloc (Nat.le_refl _) _
 have hbm := Blk.new w 38 (boxMsg m)
 have H0 := Lib.hid (And.intro (h.below hB) (And.intro hbm (Turned.of_below (S := wkS c v) hB)))
 clear h hB hbm
 go_enter Tryd.func65, Tryd.ntmps65
 go_upto_region 1 with fail
 generalize (w.alloc (.cells (boxMsg m) 38)) = w1 at H0 ⊢
 obtain ⟨b, hb⟩ : ∃ b, w.heap.size = b := ⟨_, rfl⟩
 have H1 : Hid (WkAt w1 c v s ∧ Blk w1 b 38 (boxMsg m) ∧ Turned (wkS c v) (wkS c v) w w1) := Lib.hid (by rw [← hb]; exact H0.out)
 try simp only [hb]
 clear hb H0
 obtain ⟨fd, hfd⟩ := H1.out.1.d
 have HMd := Lib.hid (hfd.below (Below.refl _ _).drew)
 clear hfd
 obtain ⟨lkd, hlkd⟩ : ∃ lk, (if m.job ∈ s.done then fd m.job else 0) = lk := ⟨_, rfl⟩
 obtain ⟨bod, hbod⟩ : ∃ bo, decide (m.job ∈ s.done) = bo := ⟨_, rfl⟩
 have HEd := Lib.hid (And.intro hlkd hbod)
 obtain rfl : bod = false := by rw [← hbod]; exact decide_eq_false hin
 clear hin hlkd hbod
 refine Cont.start (by kernel_rfl) ?_
 have HD := Lib.hid (And.intro (H1.out.1.below (Below.refl _ _).drew) (And.intro (H1.out.2.1.below (Below.refl _ _).drew H1.out.2.1.lt) (H1.out.2.2.then_below (Below.refl _ _).drew)))
 generalize w1.drew = wd at HD HMd ⊢
 refine cont_free2 0 12 10 [] [.o (eqV (.pointer (some ⟨c, 0, none⟩))), .o (eqV (.pointer (some ⟨c, 0, none⟩))), .o (eqV (.pointer (some ⟨c, 13, none⟩))), .o (eqV (.map (some v.d))), .o (eqV (.pointer (some ⟨b, 5, none⟩))), .o (eqV (.int .i64 m.job)), .o (eqV (.tuple #[.int .i64 lkd, .bool false]))] [9, 17, 18, 7, 8] [.o (eqV (.tuple #[.int .i64 lkd, .bool false])), .o (eqV (.int .i64 lkd)), .b false, .o (eqV (.int .i64 lkd)), .b false] [false, false, false, false, false, false, false, false, false, false, false, true] (by kernel_rfl) (by kernel_rfl) (by kernel_rfl) (by kernel_rfl) (by kernel_rfl) (by kernel_rfl) (by kernel_rfl) rfl (by kernel_rfl) (by kernel_rfl) ⟨?_, ?_, ?_, ?_, ?_, ?_, ?_, ?_, ?_, ?_, ?_, trivial⟩ ?fin
 ·intro a w hb hoth hdep
  refine step_on (want_none rfl) ?_
  have e0 : a.tmps[0]? = some (.pointer (some ⟨c, 0, none⟩)) := ev_seg hoth 0 (by kernel_rfl) rfl
  exact step_val ((BigFrame.run_move _ rfl w).trans (by rw [ev_of e0])) rfl
 ·intro a w hb hoth hdep
  refine step_on (want_none rfl) ?_
  obtain ⟨v0, e10, hv0⟩ := ev_dep hdep 0 10 (by kernel_rfl) (by kernel_rfl)
  replace hv0 : v0 = .pointer (some ⟨c, 0, none⟩) := hv0
  subst hv0
  refine step_val (x := .pointer (some ⟨c, 0, none⟩)) ?_ rfl
  simp [go_sem, e10]
 ·intro a w hb hoth hdep
  refine step_on (want_none rfl) ?_
  obtain ⟨v1, e11, hv1⟩ := ev_dep hdep 1 11 (by kernel_rfl) (by kernel_rfl)
  replace hv1 : v1 = .pointer (some ⟨c, 0, none⟩) := hv1
  subst hv1
  refine step_val (x := .pointer (some ⟨c, 13, none⟩)) ?_ rfl
  simp [go_sem, e11]
 ·intro a w hb hoth hdep
  refine step_on (want_none rfl) ?_
  obtain ⟨v2, e12, hv2⟩ := ev_dep hdep 2 12 (by kernel_rfl) (by kernel_rfl)
  replace hv2 : v2 = .pointer (some ⟨c, 13, none⟩) := hv2
  subst hv2
  obtain ⟨c0, c1, c2, c3, c4, c5, c6, c7, c8, c9, c10, c11, c12, c13, c14⟩ := wkCells (HD.out.1.below hb).blk
  refine step_val (x := .map (some v.d)) ?_ rfl
  simp [go_sem, e12, c13]
 ·intro a w hb hoth hdep
  refine step_on (want_none rfl) ?_
  have e5 : a.tmps[5]? = some (.pointer (some ⟨b, 0, none⟩)) := ev_seg hoth 5 (by kernel_rfl) rfl
  refine step_val (x := .pointer (some ⟨b, 5, none⟩)) ?_ rfl
  simp [go_sem, e5]
 ·intro a w hb hoth hdep
  refine step_on (want_none rfl) ?_
  obtain ⟨v4, e14, hv4⟩ := ev_dep hdep 4 14 (by kernel_rfl) (by kernel_rfl)
  replace hv4 : v4 = .pointer (some ⟨b, 5, none⟩) := hv4
  subst hv4
  have m5 : w.cell? ⟨b, 5, none⟩ = some (.int .i64 m.job) := ((HD.out.2.1.below hb HD.out.2.1.lt).cell 5).trans rfl
  refine step_val (x := .int .i64 m.job) ?_ rfl
  simp [go_sem, e14, m5]
 ·intro a w hb hoth hdep
  refine step_on (want_none rfl) ?_
  obtain ⟨v3, e13, hv3⟩ := ev_dep hdep 3 13 (by kernel_rfl) (by kernel_rfl)
  replace hv3 : v3 = .map (some v.d) := hv3
  subst hv3
  obtain ⟨v5, e15, hv5⟩ := ev_dep hdep 5 15 (by kernel_rfl) (by kernel_rfl)
  replace hv5 : v5 = .int .i64 m.job := hv5
  subst hv5
  have hlk := (HMd.out.below hb).look HJ.out
  rw [HEd.out.1, HEd.out.2] at hlk
  refine step_val (x := .tuple #[.int .i64 lkd, .bool false]) ?_ rfl
  simp [go_sem, e13, e15, hlk]
 ·intro a w hb hoth hdep
  refine step_on (want_none rfl) ?_
  obtain ⟨v6, e16, hv6⟩ := ev_dep hdep 6 16 (by kernel_rfl) (by kernel_rfl)
  replace hv6 : v6 = .tuple #[.int .i64 lkd, .bool false] := hv6
  subst hv6
  exact step_val ((BigFrame.run_move _ rfl w).trans (by rw [ev_of e16])) rfl
 ·intro a w hb hoth hdep
  refine step_on (want_none rfl) ?_
  obtain ⟨v7, e9, hv7⟩ := ev_dep hdep 7 9 (by kernel_rfl) (by kernel_rfl)
  replace hv7 : v7 = .tuple #[.int .i64 lkd, .bool false] := hv7
  subst hv7
  refine step_val (x := .int .i64 lkd) ?_ rfl
  simp [go_sem, e9]
 ·intro a w hb hoth hdep
  refine step_on (want_none rfl) ?_
  obtain ⟨v7, e9, hv7⟩ := ev_dep hdep 7 9 (by kernel_rfl) (by kernel_rfl)
  replace hv7 : v7 = .tuple #[.int .i64 lkd, .bool false] := hv7
  subst hv7
  refine step_val (x := .bool false) ?_ rfl
  simp [go_sem, e9]
 ·intro a w hb hoth hdep
  refine step_on (want_none rfl) ?_
  obtain ⟨v8, e17, hv8⟩ := ev_dep hdep 8 17 (by kernel_rfl) (by kernel_rfl)
  replace hv8 : v8 = .int .i64 lkd := hv8
  subst hv8
  exact step_val ((BigFrame.run_assign _ rfl w).trans (by rw [ev_of e17])) rfl
 case fin =>
  intro wz hbz
  iterate 7 (rintro _ rfl)
  refine FinC.nil ?_
  iterate 5 (rintro _ rfl)
  refine FinL.nil ?_
  refine cont_end (by kernel_rfl) ?_
  have HZ := Lib.hid (And.intro (HD.out.1.below hbz) (And.intro (HD.out.2.1.below hbz HD.out.2.1.lt) (HD.out.2.2.then_below hbz)))
  clear hbz HD
  clear H1 HMd
  have hL := wkLive HZ.out.1 now
  rw [hl] at hL
  go_wp2_with (go_at_call 27; (with_reducible refine hL.mono ?_); rintro r w9 ⟨rfl, hw⟩; replace hw := hw.symm; subst hw)
  go_ret
  exact ⟨rfl, v, HZ.out.1, HZ.out.2.2⟩
set_option maxRecDepth 100000 in
set_option maxHeartbeats 1600000 in
theorem wkDo_yes (h : WkAt w c v s) (now : Int) (m : LMsg) (hj : wf64 m.job) (hnw : wf64 now) (hn : s.held.length ≤ 1000000) (hin : m.job ∉ s.done) (hl : s.live now = true) : Calls Tryd.prog 65 #[.pointer (some ⟨c, 0, none⟩), .int .i64 now, aggMsg m] w fun e w' => e = .returned (.bool true) ∧ ∃ v', WkAt w' c v' (s.do_ m) ∧ Turned (wkS c v) (wkS c v') w w' := by
 have HJ := Lib.hid hj
 clear hj
 have HN := Lib.hid (And.intro hnw hn)
 clear hnw hn
 have hB : Below w.heap.size w (w.alloc (.cells (boxMsg m) 38)) := (Below.refl _ _).alloc (Nat.le_refl _) _
 have hbm := Blk.new w 38 (boxMsg m)
 have H0 := Lib.hid (And.intro (h.below hB) (And.intro hbm (Turned.of_below (S := wkS c v) hB)))
 clear h hB hbm
 go_enter Tryd.func65, Tryd.ntmps65
 go_upto_region 1 with fail
 generalize (w.alloc (.cells (boxMsg m) 38)) = w1 at H0 ⊢
 obtain ⟨b, hb⟩ : ∃ b, w.heap.size = b := ⟨_, rfl⟩
 have H1 : Hid (WkAt w1 c v s ∧ Blk w1 b 38 (boxMsg m) ∧ Turned (wkS c v) (wkS c v) w w1) := Lib.hid (by rw [← hb]; exact H0.out)
 try simp only [hb]
 clear hb H0
 obtain ⟨fd, hfd⟩ := H1.out.1.d
 have HMd := Lib.hid (hfd.below (Below.refl _ _).drew)
 clear hfd
 obtain ⟨lkd, hlkd⟩ : ∃ lk, (if m.job ∈ s.done then fd m.job else 0) = lk := ⟨_, rfl⟩
 obtain ⟨bod, hbod⟩ : ∃ bo, decide (m.job ∈ s.done) = bo := ⟨_, rfl⟩
 have HEd := Lib.hid (And.intro hlkd hbod)
 obtain rfl : bod = false := by rw [← hbod]; exact decide_eq_false hin
 clear hin hlkd hbod
 refine Cont.start (by kernel_rfl) ?_
 have HD := Lib.hid (And.intro (H1.out.1.below (Below.refl _ _).drew) (And.intro (H1.out.2.1.below (Below.refl _ _).drew H1.out.2.1.lt) (H1.out.2.2.then_below (Below.refl _ _).drew)))
 generalize w1.drew = wd at HD HMd ⊢
 refine cont_free2 0 12 10 [] [.o (eqV (.pointer (some ⟨c, 0, none⟩))), .o (eqV (.pointer (some ⟨c, 0, none⟩))), .o (eqV (.pointer (some ⟨c, 13, none⟩))), .o (eqV (.map (some v.d))), .o (eqV (.pointer (some ⟨b, 5, none⟩))), .o (eqV (.int .i64 m.job)), .o (eqV (.tuple #[.int .i64 lkd, .bool false]))] [9, 17, 18, 7, 8] [.o (eqV (.tuple #[.int .i64 lkd, .bool false])), .o (eqV (.int .i64 lkd)), .b false, .o (eqV (.int .i64 lkd)), .b false] [false, false, false, false, false, false, false, false, false, false, false, true] (by kernel_rfl) (by kernel_rfl) (by kernel_rfl) (by kernel_rfl) (by kernel_rfl) (by kernel_rfl) (by kernel_rfl) rfl (by kernel_rfl) (by kernel_rfl) ⟨?_, ?_, ?_, ?_, ?_, ?_, ?_, ?_, ?_, ?_, ?_, trivial⟩ ?fin
 ·intro a w hb hoth hdep
  refine step_on (want_none rfl) ?_
  have e0 : a.tmps[0]? = some (.pointer (some ⟨c, 0, none⟩)) := ev_seg hoth 0 (by kernel_rfl) rfl
  exact step_val ((BigFrame.run_move _ rfl w).trans (by rw [ev_of e0])) rfl
 ·intro a w hb hoth hdep
  refine step_on (want_none rfl) ?_
  obtain ⟨v0, e10, hv0⟩ := ev_dep hdep 0 10 (by kernel_rfl) (by kernel_rfl)
  replace hv0 : v0 = .pointer (some ⟨c, 0, none⟩) := hv0
  subst hv0
  refine step_val (x := .pointer (some ⟨c, 0, none⟩)) ?_ rfl
  simp [go_sem, e10]
 ·intro a w hb hoth hdep
  refine step_on (want_none rfl) ?_
  obtain ⟨v1, e11, hv1⟩ := ev_dep hdep 1 11 (by kernel_rfl) (by kernel_rfl)
  replace hv1 : v1 = .pointer (some ⟨c, 0, none⟩) := hv1
  subst hv1
  refine step_val (x := .pointer (some ⟨c, 13, none⟩)) ?_ rfl
  simp [go_sem, e11]
 ·intro a w hb hoth hdep
  refine step_on (want_none rfl) ?_
  obtain ⟨v2, e12, hv2⟩ := ev_dep hdep 2 12 (by kernel_rfl) (by kernel_rfl)
  replace hv2 : v2 = .pointer (some ⟨c, 13, none⟩) := hv2
  subst hv2
  obtain ⟨c0, c1, c2, c3, c4, c5, c6, c7, c8, c9, c10, c11, c12, c13, c14⟩ := wkCells (HD.out.1.below hb).blk
  refine step_val (x := .map (some v.d)) ?_ rfl
  simp [go_sem, e12, c13]
 ·intro a w hb hoth hdep
  refine step_on (want_none rfl) ?_
  have e5 : a.tmps[5]? = some (.pointer (some ⟨b, 0, none⟩)) := ev_seg hoth 5 (by kernel_rfl) rfl
  refine step_val (x := .pointer (some ⟨b, 5, none⟩)) ?_ rfl
  simp [go_sem, e5]
 ·intro a w hb hoth hdep
  refine step_on (want_none rfl) ?_
  obtain ⟨v4, e14, hv4⟩ := ev_dep hdep 4 14 (by kernel_rfl) (by kernel_rfl)
  replace hv4 : v4 = .pointer (some ⟨b, 5, none⟩) := hv4
  subst hv4
  have m5 : w.cell? ⟨b, 5, none⟩ = some (.int .i64 m.job) := ((HD.out.2.1.below hb HD.out.2.1.lt).cell 5).trans rfl
  refine step_val (x := .int .i64 m.job) ?_ rfl
  simp [go_sem, e14, m5]
 ·intro a w hb hoth hdep
  refine step_on (want_none rfl) ?_
  obtain ⟨v3, e13, hv3⟩ := ev_dep hdep 3 13 (by kernel_rfl) (by kernel_rfl)
  replace hv3 : v3 = .map (some v.d) := hv3
  subst hv3
  obtain ⟨v5, e15, hv5⟩ := ev_dep hdep 5 15 (by kernel_rfl) (by kernel_rfl)
  replace hv5 : v5 = .int .i64 m.job := hv5
  subst hv5
  have hlk := (HMd.out.below hb).look HJ.out
  rw [HEd.out.1, HEd.out.2] at hlk
  refine step_val (x := .tuple #[.int .i64 lkd, .bool false]) ?_ rfl
  simp [go_sem, e13, e15, hlk]
 ·intro a w hb hoth hdep
  refine step_on (want_none rfl) ?_
  obtain ⟨v6, e16, hv6⟩ := ev_dep hdep 6 16 (by kernel_rfl) (by kernel_rfl)
  replace hv6 : v6 = .tuple #[.int .i64 lkd, .bool false] := hv6
  subst hv6
  exact step_val ((BigFrame.run_move _ rfl w).trans (by rw [ev_of e16])) rfl
 ·intro a w hb hoth hdep
  refine step_on (want_none rfl) ?_
  obtain ⟨v7, e9, hv7⟩ := ev_dep hdep 7 9 (by kernel_rfl) (by kernel_rfl)
  replace hv7 : v7 = .tuple #[.int .i64 lkd, .bool false] := hv7
  subst hv7
  refine step_val (x := .int .i64 lkd) ?_ rfl
  simp [go_sem, e9]
 ·intro a w hb hoth hdep
  refine step_on (want_none rfl) ?_
  obtain ⟨v7, e9, hv7⟩ := ev_dep hdep 7 9 (by kernel_rfl) (by kernel_rfl)
  replace hv7 : v7 = .tuple #[.int .i64 lkd, .bool false] := hv7
  subst hv7
  refine step_val (x := .bool false) ?_ rfl
  simp [go_sem, e9]
 ·intro a w hb hoth hdep
  refine step_on (want_none rfl) ?_
  obtain ⟨v8, e17, hv8⟩ := ev_dep hdep 8 17 (by kernel_rfl) (by kernel_rfl)
  replace hv8 : v8 = .int .i64 lkd := hv8
  subst hv8
  exact step_val ((BigFrame.run_assign _ rfl w).trans (by rw [ev_of e17])) rfl
 case fin =>
  intro wz hbz
  iterate 7 (rintro _ rfl)
  refine FinC.nil ?_
  iterate 5 (rintro _ rfl)
  refine FinL.nil ?_
  refine cont_end (by kernel_rfl) ?_
  have HZ := Lib.hid (And.intro (HD.out.1.below hbz) (And.intro (HD.out.2.1.below hbz HD.out.2.1.lt) (HD.out.2.2.then_below hbz)))
  clear hbz HD
  clear H1 HMd
  have hL := wkLive HZ.out.1 now
  rw [hl] at hL
  go_upto_region 4 with (go_at_call 27; (with_reducible refine hL.mono ?_); rintro r w9 ⟨rfl, hw⟩; replace hw := hw.symm; subst hw)
  clear hL
  refine Cont.start (by kernel_rfl) ?_
  have HD := Lib.hid (And.intro (HZ.out.1.below (Below.refl _ _).drew) (And.intro (HZ.out.2.1.below (Below.refl _ _).drew HZ.out.2.1.lt) (HZ.out.2.2.then_below (Below.refl _ _).drew)))
  generalize wz.drew = wd at HD ⊢
  refine cont_free 0 7 26 [] [.o (eqV (.pointer (some ⟨c, 0, none⟩))), .o (eqV (.pointer (some ⟨c, 0, none⟩))), .o (eqV (.pointer (some ⟨c, 12, none⟩))), .o (eqV (.map (some v.h))), .o (eqV (.pointer (some ⟨b, 5, none⟩))), .o (eqV (.int .i64 m.job)), .o (eqV (.int .i64 now))] [false, false, false, false, false, false, false] (by kernel_rfl) (by kernel_rfl) (by kernel_rfl) (by kernel_rfl) (by kernel_rfl) (by kernel_rfl) (by kernel_rfl) rfl (by kernel_rfl) (by kernel_rfl) ⟨?_, ?_, ?_, ?_, ?_, ?_, ?_, trivial⟩ ?fin
  ·intro a w hb hoth hdep
   refine step_on (want_none rfl) ?_
   have e0 : a.tmps[0]? = some (.pointer (some ⟨c, 0, none⟩)) := ev_seg hoth 0 (by kernel_rfl) rfl
   exact step_val ((BigFrame.run_move _ rfl w).trans (by rw [ev_of e0])) rfl
  ·intro a w hb hoth hdep
   refine step_on (want_none rfl) ?_
   obtain ⟨v0, e26, hv0⟩ := ev_dep hdep 0 26 (by kernel_rfl) (by kernel_rfl)
   replace hv0 : v0 = .pointer (some ⟨c, 0, none⟩) := hv0
   subst hv0
   refine step_val (x := .pointer (some ⟨c, 0, none⟩)) ?_ rfl
   simp [go_sem, e26]
  ·intro a w hb hoth hdep
   refine step_on (want_none rfl) ?_
   obtain ⟨v1, e27, hv1⟩ := ev_dep hdep 1 27 (by kernel_rfl) (by kernel_rfl)
   replace hv1 : v1 = .pointer (some ⟨c, 0, none⟩) := hv1
   subst hv1
   refine step_val (x := .pointer (some ⟨c, 12, none⟩)) ?_ rfl
   simp [go_sem, e27]
  ·intro a w hb hoth hdep
   refine step_on (want_none rfl) ?_
   obtain ⟨v2, e28, hv2⟩ := ev_dep hdep 2 28 (by kernel_rfl) (by kernel_rfl)
   replace hv2 : v2 = .pointer (some ⟨c, 12, none⟩) := hv2
   subst hv2
   obtain ⟨c0, c1, c2, c3, c4, c5, c6, c7, c8, c9, c10, c11, c12, c13, c14⟩ := wkCells (HD.out.1.below hb).blk
   refine step_val (x := .map (some v.h)) ?_ rfl
   simp [go_sem, e28, c12]
  ·intro a w hb hoth hdep
   refine step_on (want_none rfl) ?_
   have e5 : a.tmps[5]? = some (.pointer (some ⟨b, 0, none⟩)) := ev_seg hoth 5 (by kernel_rfl) rfl
   refine step_val (x := .pointer (some ⟨b, 5, none⟩)) ?_ rfl
   simp [go_sem, e5]
  ·intro a w hb hoth hdep
   refine step_on (want_none rfl) ?_
   obtain ⟨v4, e30, hv4⟩ := ev_dep hdep 4 30 (by kernel_rfl) (by kernel_rfl)
   replace hv4 : v4 = .pointer (some ⟨b, 5, none⟩) := hv4
   subst hv4
   have m5 : w.cell? ⟨b, 5, none⟩ = some (.int .i64 m.job) := ((HD.out.2.1.below hb HD.out.2.1.lt).cell 5).trans rfl
   refine step_val (x := .int .i64 m.job) ?_ rfl
   simp [go_sem, e30, m5]
  ·intro a w hb hoth hdep
   refine step_on (want_none rfl) ?_
   have e1 : a.tmps[1]? = some (.int .i64 now) := ev_seg hoth 1 (by kernel_rfl) rfl
   exact step_val ((BigFrame.run_move _ rfl w).trans (by rw [ev_of e1])) rfl
  case fin =>
   intro wz hbz
   iterate 7 (rintro _ rfl)
   refine FinC.nil ?_
   have HU := Lib.hid (And.intro (HD.out.1.below hbz) (And.intro (HD.out.2.1.below hbz HD.out.2.1.lt) (HD.out.2.2.then_below hbz)))
   clear hbz HD
   refine cont_line 7 1 (by kernel_rfl) (by kernel_rfl) (by kernel_rfl) ?_
   obtain ⟨g, hg⟩ := HU.out.1.h
   obtain ⟨w5, hst, hm5, hg5, hs5⟩ := hg.store HJ.out HN.out.1 (by have := HN.out.2; omega)
   have h5 := HU.out.1.heldTurn hm5 hg5
   have HF := Lib.hid (And.intro h5.1 (HU.out.2.2.trans h5.2))
   clear hg hm5 hg5 hs5 h5
   go_wp2_with fail
   show Cont _ _ _ _ _ _
   refine cont_end (by kernel_rfl) ?_
   clear hst
   go_wp2
   go_ret
   exact ⟨rfl, _, HF.out.1, HF.out.2⟩
end
end Go.Proofs.YthhnocnkicoimaaDoor
