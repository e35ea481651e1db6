/-
 LAYER 39 (worker): stop; Hear.
-/
import Derived.Test.YthhnocnkicoimaaDoorWk6
import Derived.Test.YthhnocnkicoimaaDoorMsg7
set_option linter.unusedVariables false
set_option linter.unusedSimpArgs false
namespace Go.Proofs.YthhnocnkicoimaaDoor
open Go.RowKit Go.Maps

section
variable {w w' : World} {c : Nat} {v : WV} {s : WS}
set_option maxRecDepth 100000 in
set_option maxHeartbeats 6400000 in
theorem wkStop_tt (h : WkAt w c v s) (now : Int) (m : LMsg) (hj : wf64 m.job) (h1 : m.job ∈ s.held) (h2 : m.job ∈ s.done) (hnw : wf64 now) (hn : s.told.length ≤ 1000000) : Calls Tryd.prog 66 #[.pointer (some ⟨c, 0, none⟩), .int .i64 now, aggMsg m] w fun e w' => e = .returned (.bool true) ∧ ∃ v', WkAt w' c v' { s with held := s.held.filter (· != m.job), told := putR s.told m.job } ∧ Turned (wkS c v) (wkS c v') w w' := by
 have HJ := Lib.hid hj
 clear hj
 have HN := Lib.hid (And.intro hnw hn)
 clear hnw hn
 have hB : Below w.heap.size w (w.alloc (.cells (boxMsg m) 38)) := (Below.refl _ _).alloc (Nat.le_refl _) _
 have hbm := Blk.new w 38 (boxMsg m)
 have H0 := Lib.hid (And.intro (h.below hB) (And.intro hbm (Turned.of_below (S := wkS c v) hB)))
 clear h hB hbm
 go_enter Tryd.func66, Tryd.ntmps66
 go_upto_region 1 with fail
 generalize (w.alloc (.cells (boxMsg m) 38)) = w1 at H0 ⊢
 obtain ⟨b, hb⟩ : ∃ b, w.heap.size = b := ⟨_, rfl⟩
 have H1 : Hid (WkAt w1 c v s ∧ Blk w1 b 38 (boxMsg m) ∧ Turned (wkS c v) (wkS c v) w w1) := Lib.hid (by rw [← hb]; exact H0.out)
 try simp only [hb]
 clear hb H0
 obtain ⟨fh, hfh⟩ := H1.out.1.h
 have HMh := Lib.hid (hfh.below (Below.refl _ _).drew)
 clear hfh
 obtain ⟨lkh, hlkh⟩ : ∃ lk, (if m.job ∈ s.held then fh m.job else 0) = lk := ⟨_, rfl⟩
 obtain ⟨boh, hboh⟩ : ∃ bo, decide (m.job ∈ s.held) = bo := ⟨_, rfl⟩
 have HEh := Lib.hid (And.intro hlkh hboh)
 obtain rfl : boh = true := by rw [← hboh]; exact decide_eq_true h1
 clear h1 hlkh hboh
 refine Cont.start (by kernel_rfl) ?_
 have HD := Lib.hid (And.intro (H1.out.1.below (Below.refl _ _).drew) (And.intro (H1.out.2.1.below (Below.refl _ _).drew H1.out.2.1.lt) (H1.out.2.2.then_below (Below.refl _ _).drew)))
 generalize w1.drew = wd at HD HMh ⊢
 refine cont_free2 0 12 12 [] [.o (eqV (.pointer (some ⟨c, 0, none⟩))), .o (eqV (.pointer (some ⟨c, 0, none⟩))), .o (eqV (.pointer (some ⟨c, 12, none⟩))), .o (eqV (.map (some v.h))), .o (eqV (.pointer (some ⟨b, 5, none⟩))), .o (eqV (.int .i64 m.job)), .o (eqV (.tuple #[.int .i64 lkh, .bool true]))] [11, 19, 20, 7, 8] [.o (eqV (.tuple #[.int .i64 lkh, .bool true])), .o (eqV (.int .i64 lkh)), .b true, .o (eqV (.int .i64 lkh)), .b true] [false, false, false, false, false, false, false, false, false, false, false, true] (by kernel_rfl) (by kernel_rfl) (by kernel_rfl) (by kernel_rfl) (by kernel_rfl) (by kernel_rfl) (by kernel_rfl) rfl (by kernel_rfl) (by kernel_rfl) ⟨?_, ?_, ?_, ?_, ?_, ?_, ?_, ?_, ?_, ?_, ?_, trivial⟩ ?fin
 ·intro a w hb hoth hdep
  refine step_on (want_none rfl) ?_
  have e0 : a.tmps[0]? = some (.pointer (some ⟨c, 0, none⟩)) := ev_seg hoth 0 (by kernel_rfl) rfl
  exact step_val ((BigFrame.run_move _ rfl w).trans (by rw [ev_of e0])) rfl
 ·intro a w hb hoth hdep
  refine step_on (want_none rfl) ?_
  obtain ⟨v0, e12, hv0⟩ := ev_dep hdep 0 12 (by kernel_rfl) (by kernel_rfl)
  replace hv0 : v0 = .pointer (some ⟨c, 0, none⟩) := hv0
  subst hv0
  refine step_val (x := .pointer (some ⟨c, 0, none⟩)) ?_ rfl
  simp [go_sem, e12]
 ·intro a w hb hoth hdep
  refine step_on (want_none rfl) ?_
  obtain ⟨v1, e13, hv1⟩ := ev_dep hdep 1 13 (by kernel_rfl) (by kernel_rfl)
  replace hv1 : v1 = .pointer (some ⟨c, 0, none⟩) := hv1
  subst hv1
  refine step_val (x := .pointer (some ⟨c, 12, none⟩)) ?_ rfl
  simp [go_sem, e13]
 ·intro a w hb hoth hdep
  refine step_on (want_none rfl) ?_
  obtain ⟨v2, e14, hv2⟩ := ev_dep hdep 2 14 (by kernel_rfl) (by kernel_rfl)
  replace hv2 : v2 = .pointer (some ⟨c, 12, none⟩) := hv2
  subst hv2
  obtain ⟨c0, c1, c2, c3, c4, c5, c6, c7, c8, c9, c10, c11, c12, c13, c14⟩ := wkCells (HD.out.1.below hb).blk
  refine step_val (x := .map (some v.h)) ?_ rfl
  simp [go_sem, e14, c12]
 ·intro a w hb hoth hdep
  refine step_on (want_none rfl) ?_
  have e5 : a.tmps[5]? = some (.pointer (some ⟨b, 0, none⟩)) := ev_seg hoth 5 (by kernel_rfl) rfl
  refine step_val (x := .pointer (some ⟨b, 5, none⟩)) ?_ rfl
  simp [go_sem, e5]
 ·intro a w hb hoth hdep
  refine step_on (want_none rfl) ?_
  obtain ⟨v4, e16, hv4⟩ := ev_dep hdep 4 16 (by kernel_rfl) (by kernel_rfl)
  replace hv4 : v4 = .pointer (some ⟨b, 5, none⟩) := hv4
  subst hv4
  have m5 : w.cell? ⟨b, 5, none⟩ = some (.int .i64 m.job) := ((HD.out.2.1.below hb HD.out.2.1.lt).cell 5).trans rfl
  refine step_val (x := .int .i64 m.job) ?_ rfl
  simp [go_sem, e16, m5]
 ·intro a w hb hoth hdep
  refine step_on (want_none rfl) ?_
  obtain ⟨v3, e15, hv3⟩ := ev_dep hdep 3 15 (by kernel_rfl) (by kernel_rfl)
  replace hv3 : v3 = .map (some v.h) := hv3
  subst hv3
  obtain ⟨v5, e17, hv5⟩ := ev_dep hdep 5 17 (by kernel_rfl) (by kernel_rfl)
  replace hv5 : v5 = .int .i64 m.job := hv5
  subst hv5
  have hlk := (HMh.out.below hb).look HJ.out
  rw [HEh.out.1, HEh.out.2] at hlk
  refine step_val (x := .tuple #[.int .i64 lkh, .bool true]) ?_ rfl
  simp [go_sem, e15, e17, hlk]
 ·intro a w hb hoth hdep
  refine step_on (want_none rfl) ?_
  obtain ⟨v6, e18, hv6⟩ := ev_dep hdep 6 18 (by kernel_rfl) (by kernel_rfl)
  replace hv6 : v6 = .tuple #[.int .i64 lkh, .bool true] := hv6
  subst hv6
  exact step_val ((BigFrame.run_move _ rfl w).trans (by rw [ev_of e18])) rfl
 ·intro a w hb hoth hdep
  refine step_on (want_none rfl) ?_
  obtain ⟨v7, e11, hv7⟩ := ev_dep hdep 7 11 (by kernel_rfl) (by kernel_rfl)
  replace hv7 : v7 = .tuple #[.int .i64 lkh, .bool true] := hv7
  subst hv7
  refine step_val (x := .int .i64 lkh) ?_ rfl
  simp [go_sem, e11]
 ·intro a w hb hoth hdep
  refine step_on (want_none rfl) ?_
  obtain ⟨v7, e11, hv7⟩ := ev_dep hdep 7 11 (by kernel_rfl) (by kernel_rfl)
  replace hv7 : v7 = .tuple #[.int .i64 lkh, .bool true] := hv7
  subst hv7
  refine step_val (x := .bool true) ?_ rfl
  simp [go_sem, e11]
 ·intro a w hb hoth hdep
  refine step_on (want_none rfl) ?_
  obtain ⟨v8, e19, hv8⟩ := ev_dep hdep 8 19 (by kernel_rfl) (by kernel_rfl)
  replace hv8 : v8 = .int .i64 lkh := hv8
  subst hv8
  exact step_val ((BigFrame.run_assign _ rfl w).trans (by rw [ev_of e19])) rfl
 case fin =>
  intro wz hbz
  iterate 7 (rintro _ rfl)
  refine FinC.nil ?_
  iterate 5 (rintro _ rfl)
  refine FinL.nil ?_
  refine cont_end (by kernel_rfl) ?_
  have HZ := Lib.hid (And.intro (HD.out.1.below hbz) (And.intro (HD.out.2.1.below hbz HD.out.2.1.lt) (HD.out.2.2.then_below hbz)))
  clear hbz HD
  clear H1 HMh HEh
  go_upto_region 2 with fail
  obtain ⟨fd, hfd⟩ := HZ.out.1.d
  have HMd := Lib.hid (hfd.below (Below.refl _ _).drew)
  clear hfd
  obtain ⟨lkd, hlkd⟩ : ∃ lk, (if m.job ∈ s.done then fd m.job else 0) = lk := ⟨_, rfl⟩
  obtain ⟨bod, hbod⟩ : ∃ bo, decide (m.job ∈ s.done) = bo := ⟨_, rfl⟩
  have HEd := Lib.hid (And.intro hlkd hbod)
  obtain rfl : bod = true := by rw [← hbod]; exact decide_eq_true h2
  clear h2 hlkd hbod
  refine Cont.start (by kernel_rfl) ?_
  have HD := Lib.hid (And.intro (HZ.out.1.below (Below.refl _ _).drew) (And.intro (HZ.out.2.1.below (Below.refl _ _).drew HZ.out.2.1.lt) (HZ.out.2.2.then_below (Below.refl _ _).drew)))
  generalize wz.drew = wd at HD HMd ⊢
  refine cont_free2 0 12 22 [] [.o (eqV (.pointer (some ⟨c, 0, none⟩))), .o (eqV (.pointer (some ⟨c, 0, none⟩))), .o (eqV (.pointer (some ⟨c, 13, none⟩))), .o (eqV (.map (some v.d))), .o (eqV (.pointer (some ⟨b, 5, none⟩))), .o (eqV (.int .i64 m.job)), .o (eqV (.tuple #[.int .i64 lkd, .bool true]))] [21, 29, 30, 9, 10] [.o (eqV (.tuple #[.int .i64 lkd, .bool true])), .o (eqV (.int .i64 lkd)), .b true, .o (eqV (.int .i64 lkd)), .b true] [false, false, false, false, false, false, false, false, false, false, false, true] (by kernel_rfl) (by kernel_rfl) (by kernel_rfl) (by kernel_rfl) (by kernel_rfl) (by kernel_rfl) (by kernel_rfl) rfl (by kernel_rfl) (by kernel_rfl) ⟨?_, ?_, ?_, ?_, ?_, ?_, ?_, ?_, ?_, ?_, ?_, trivial⟩ ?fin
  ·intro a w hb hoth hdep
   refine step_on (want_none rfl) ?_
   have e0 : a.tmps[0]? = some (.pointer (some ⟨c, 0, none⟩)) := ev_seg hoth 0 (by kernel_rfl) rfl
   exact step_val ((BigFrame.run_move _ rfl w).trans (by rw [ev_of e0])) rfl
  ·intro a w hb hoth hdep
   refine step_on (want_none rfl) ?_
   obtain ⟨v0, e22, hv0⟩ := ev_dep hdep 0 22 (by kernel_rfl) (by kernel_rfl)
   replace hv0 : v0 = .pointer (some ⟨c, 0, none⟩) := hv0
   subst hv0
   refine step_val (x := .pointer (some ⟨c, 0, none⟩)) ?_ rfl
   simp [go_sem, e22]
  ·intro a w hb hoth hdep
   refine step_on (want_none rfl) ?_
   obtain ⟨v1, e23, hv1⟩ := ev_dep hdep 1 23 (by kernel_rfl) (by kernel_rfl)
   replace hv1 : v1 = .pointer (some ⟨c, 0, none⟩) := hv1
   subst hv1
   refine step_val (x := .pointer (some ⟨c, 13, none⟩)) ?_ rfl
   simp [go_sem, e23]
  ·intro a w hb hoth hdep
   refine step_on (want_none rfl) ?_
   obtain ⟨v2, e24, hv2⟩ := ev_dep hdep 2 24 (by kernel_rfl) (by kernel_rfl)
   replace hv2 : v2 = .pointer (some ⟨c, 13, none⟩) := hv2
   subst hv2
   obtain ⟨c0, c1, c2, c3, c4, c5, c6, c7, c8, c9, c10, c11, c12, c13, c14⟩ := wkCells (HD.out.1.below hb).blk
   refine step_val (x := .map (some v.d)) ?_ rfl
   simp [go_sem, e24, c13]
  ·intro a w hb hoth hdep
   refine step_on (want_none rfl) ?_
   have e5 : a.tmps[5]? = some (.pointer (some ⟨b, 0, none⟩)) := ev_seg hoth 5 (by kernel_rfl) rfl
   refine step_val (x := .pointer (some ⟨b, 5, none⟩)) ?_ rfl
   simp [go_sem, e5]
  ·intro a w hb hoth hdep
   refine step_on (want_none rfl) ?_
   obtain ⟨v4, e26, hv4⟩ := ev_dep hdep 4 26 (by kernel_rfl) (by kernel_rfl)
   replace hv4 : v4 = .pointer (some ⟨b, 5, none⟩) := hv4
   subst hv4
   have m5 : w.cell? ⟨b, 5, none⟩ = some (.int .i64 m.job) := ((HD.out.2.1.below hb HD.out.2.1.lt).cell 5).trans rfl
   refine step_val (x := .int .i64 m.job) ?_ rfl
   simp [go_sem, e26, m5]
  ·intro a w hb hoth hdep
   refine step_on (want_none rfl) ?_
   obtain ⟨v3, e25, hv3⟩ := ev_dep hdep 3 25 (by kernel_rfl) (by kernel_rfl)
   replace hv3 : v3 = .map (some v.d) := hv3
   subst hv3
   obtain ⟨v5, e27, hv5⟩ := ev_dep hdep 5 27 (by kernel_rfl) (by kernel_rfl)
   replace hv5 : v5 = .int .i64 m.job := hv5
   subst hv5
   have hlk := (HMd.out.below hb).look HJ.out
   rw [HEd.out.1, HEd.out.2] at hlk
   refine step_val (x := .tuple #[.int .i64 lkd, .bool true]) ?_ rfl
   simp [go_sem, e25, e27, hlk]
  ·intro a w hb hoth hdep
   refine step_on (want_none rfl) ?_
   obtain ⟨v6, e28, hv6⟩ := ev_dep hdep 6 28 (by kernel_rfl) (by kernel_rfl)
   replace hv6 : v6 = .tuple #[.int .i64 lkd, .bool true] := hv6
   subst hv6
   exact step_val ((BigFrame.run_move _ rfl w).trans (by rw [ev_of e28])) rfl
  ·intro a w hb hoth hdep
   refine step_on (want_none rfl) ?_
   obtain ⟨v7, e21, hv7⟩ := ev_dep hdep 7 21 (by kernel_rfl) (by kernel_rfl)
   replace hv7 : v7 = .tuple #[.int .i64 lkd, .bool true] := hv7
   subst hv7
   refine step_val (x := .int .i64 lkd) ?_ rfl
   simp [go_sem, e21]
  ·intro a w hb hoth hdep
   refine step_on (want_none rfl) ?_
   obtain ⟨v7, e21, hv7⟩ := ev_dep hdep 7 21 (by kernel_rfl) (by kernel_rfl)
   replace hv7 : v7 = .tuple #[.int .i64 lkd, .bool true] := hv7
   subst hv7
   refine step_val (x := .bool true) ?_ rfl
   simp [go_sem, e21]
  ·intro a w hb hoth hdep
   refine step_on (want_none rfl) ?_
   obtain ⟨v8, e29, hv8⟩ := ev_dep hdep 8 29 (by kernel_rfl) (by kernel_rfl)
   replace hv8 : v8 = .int .i64 lkd := hv8
   subst hv8
   exact step_val ((BigFrame.run_assign _ rfl w).trans (by rw [ev_of e29])) rfl
  case fin =>
   intro wy hby
   iterate 7 (rintro _ rfl)
   refine FinC.nil ?_
   iterate 5 (rintro _ rfl)
   refine FinL.nil ?_
   refine cont_end (by kernel_rfl) ?_
   have HY := Lib.hid (And.intro (HD.out.1.below hby) (And.intro (HD.out.2.1.below hby HD.out.2.1.lt) (HD.out.2.2.then_below hby)))
   clear hby HD
   clear HZ HMd HEd
   go_upto_region 3 with fail
   refine Cont.start (by kernel_rfl) ?_
   have HD := Lib.hid (And.intro (HY.out.1.below (Below.refl _ _).drew) (And.intro (HY.out.2.1.below (Below.refl _ _).drew HY.out.2.1.lt) (HY.out.2.2.then_below (Below.refl _ _).drew)))
   generalize wy.drew = wd at HD ⊢
   refine cont_free 0 6 31 [] [.o (eqV (.pointer (some ⟨c, 0, none⟩))), .o (eqV (.pointer (some ⟨c, 0, none⟩))), .o (eqV (.pointer (some ⟨c, 12, none⟩))), .o (eqV (.map (some v.h))), .o (eqV (.pointer (some ⟨b, 5, none⟩))), .o (eqV (.int .i64 m.job))] [false, false, false, false, false, false] (by kernel_rfl) (by kernel_rfl) (by kernel_rfl) (by kernel_rfl) (by kernel_rfl) (by kernel_rfl) (by kernel_rfl) rfl (by kernel_rfl) (by kernel_rfl) ⟨?_, ?_, ?_, ?_, ?_, ?_, trivial⟩ ?fin
   ·intro a w hb hoth hdep
    refine step_on (want_none rfl) ?_
    have e0 : a.tmps[0]? = some (.pointer (some ⟨c, 0, none⟩)) := ev_seg hoth 0 (by kernel_rfl) rfl
    exact step_val ((BigFrame.run_move _ rfl w).trans (by rw [ev_of e0])) rfl
   ·intro a w hb hoth hdep
    refine step_on (want_none rfl) ?_
    obtain ⟨v0, e31, hv0⟩ := ev_dep hdep 0 31 (by kernel_rfl) (by kernel_rfl)
    replace hv0 : v0 = .pointer (some ⟨c, 0, none⟩) := hv0
    subst hv0
    refine step_val (x := .pointer (some ⟨c, 0, none⟩)) ?_ rfl
    simp [go_sem, e31]
   ·intro a w hb hoth hdep
    refine step_on (want_none rfl) ?_
    obtain ⟨v1, e32, hv1⟩ := ev_dep hdep 1 32 (by kernel_rfl) (by kernel_rfl)
    replace hv1 : v1 = .pointer (some ⟨c, 0, none⟩) := hv1
    subst hv1
    refine step_val (x := .pointer (some ⟨c, 12, none⟩)) ?_ rfl
    simp [go_sem, e32]
   ·intro a w hb hoth hdep
    refine step_on (want_none rfl) ?_
    obtain ⟨v2, e33, hv2⟩ := ev_dep hdep 2 33 (by kernel_rfl) (by kernel_rfl)
    replace hv2 : v2 = .pointer (some ⟨c, 12, none⟩) := hv2
    subst hv2
    obtain ⟨c0, c1, c2, c3, c4, c5, c6, c7, c8, c9, c10, c11, c12, c13, c14⟩ := wkCells (HD.out.1.below hb).blk
    refine step_val (x := .map (some v.h)) ?_ rfl
    simp [go_sem, e33, c12]
   ·intro a w hb hoth hdep
    refine step_on (want_none rfl) ?_
    have e5 : a.tmps[5]? = some (.pointer (some ⟨b, 0, none⟩)) := ev_seg hoth 5 (by kernel_rfl) rfl
    refine step_val (x := .pointer (some ⟨b, 5, none⟩)) ?_ rfl
    simp [go_sem, e5]
   ·intro a w hb hoth hdep
    refine step_on (want_none rfl) ?_
    obtain ⟨v4, e35, hv4⟩ := ev_dep hdep 4 35 (by kernel_rfl) (by kernel_rfl)
    replace hv4 : v4 = .pointer (some ⟨b, 5, none⟩) := hv4
    subst hv4
    have m5 : w.cell? ⟨b, 5, none⟩ = some (.int .i64 m.job) := ((HD.out.2.1.below hb HD.out.2.1.lt).cell 5).trans rfl
    refine step_val (x := .int .i64 m.job) ?_ rfl
    simp [go_sem, e35, m5]
   case fin =>
    intro wz hbz
    iterate 6 (rintro _ rfl)
    refine FinC.nil ?_
    have HU := Lib.hid (And.intro (HD.out.1.below hbz) (And.intro (HD.out.2.1.below hbz HD.out.2.1.lt) (HD.out.2.2.then_below hbz)))
    clear hbz HD
    refine cont_line 6 1 (by kernel_rfl) (by kernel_rfl) (by kernel_rfl) ?_
    obtain ⟨g, hg⟩ := HU.out.1.h
    obtain ⟨w5, hdl, hm5, hg5, hs5⟩ := hg.del HJ.out
    have h5 := HU.out.1.heldTurn hm5 hg5
    have H5 := Lib.hid (And.intro h5.1 (And.intro (HU.out.2.1.kept h5.2.kept (HU.out.1.not_blk HU.out.2.1 (by decide))) (HU.out.2.2.trans h5.2)))
    clear hg hm5 hg5 hs5 h5 HU
    go_wp2_with fail
    show Cont _ _ _ _ _ _
    refine cont_end (by kernel_rfl) ?_
    clear hdl
    go_upto_region 5 with fail
    refine Cont.start (by kernel_rfl) ?_
    have HD := Lib.hid (And.intro (H5.out.1.below (Below.refl _ _).drew) (And.intro (H5.out.2.1.below (Below.refl _ _).drew H5.out.2.1.lt) (H5.out.2.2.then_below (Below.refl _ _).drew)))
    generalize w5.drew = wd at HD ⊢
    refine cont_free 0 7 38 [] [.o (eqV (.pointer (some ⟨c, 0, none⟩))), .o (eqV (.pointer (some ⟨c, 0, none⟩))), .o (eqV (.pointer (some ⟨c, 14, none⟩))), .o (eqV (.map (some v.t))), .o (eqV (.pointer (some ⟨b, 5, none⟩))), .o (eqV (.int .i64 m.job)), .o (eqV (.int .i64 now))] [false, false, false, false, false, false, false] (by kernel_rfl) (by kernel_rfl) (by kernel_rfl) (by kernel_rfl) (by kernel_rfl) (by kernel_rfl) (by kernel_rfl) rfl (by kernel_rfl) (by kernel_rfl) ⟨?_, ?_, ?_, ?_, ?_, ?_, ?_, trivial⟩ ?fin
    ·intro a w hb hoth hdep
     refine step_on (want_none rfl) ?_
     have e0 : a.tmps[0]? = some (.pointer (some ⟨c, 0, none⟩)) := ev_seg hoth 0 (by kernel_rfl) rfl
     exact step_val ((BigFrame.run_move _ rfl w).trans (by rw [ev_of e0])) rfl
    ·intro a w hb hoth hdep
     refine step_on (want_none rfl) ?_
     obtain ⟨v0, e38, hv0⟩ := ev_dep hdep 0 38 (by kernel_rfl) (by kernel_rfl)
     replace hv0 : v0 = .pointer (some ⟨c, 0, none⟩) := hv0
     subst hv0
     refine step_val (x := .pointer (some ⟨c, 0, none⟩)) ?_ rfl
     simp [go_sem, e38]
    ·intro a w hb hoth hdep
     refine step_on (want_none rfl) ?_
     obtain ⟨v1, e39, hv1⟩ := ev_dep hdep 1 39 (by kernel_rfl) (by kernel_rfl)
     replace hv1 : v1 = .pointer (some ⟨c, 0, none⟩) := hv1
     subst hv1
     refine step_val (x := .pointer (some ⟨c, 14, none⟩)) ?_ rfl
     simp [go_sem, e39]
    ·intro a w hb hoth hdep
     refine step_on (want_none rfl) ?_
     obtain ⟨v2, e40, hv2⟩ := ev_dep hdep 2 40 (by kernel_rfl) (by kernel_rfl)
     replace hv2 : v2 = .pointer (some ⟨c, 14, none⟩) := hv2
     subst hv2
     obtain ⟨c0, c1, c2, c3, c4, c5, c6, c7, c8, c9, c10, c11, c12, c13, c14⟩ := wkCells (HD.out.1.below hb).blk
     refine step_val (x := .map (some v.t)) ?_ rfl
     simp [go_sem, e40, c14]
    ·intro a w hb hoth hdep
     refine step_on (want_none rfl) ?_
     have e5 : a.tmps[5]? = some (.pointer (some ⟨b, 0, none⟩)) := ev_seg hoth 5 (by kernel_rfl) rfl
     refine step_val (x := .pointer (some ⟨b, 5, none⟩)) ?_ rfl
     simp [go_sem, e5]
    ·intro a w hb hoth hdep
     refine step_on (want_none rfl) ?_
     obtain ⟨v4, e42, hv4⟩ := ev_dep hdep 4 42 (by kernel_rfl) (by kernel_rfl)
     replace hv4 : v4 = .pointer (some ⟨b, 5, none⟩) := hv4
     subst hv4
     have m5 : w.cell? ⟨b, 5, none⟩ = some (.int .i64 m.job) := ((HD.out.2.1.below hb HD.out.2.1.lt).cell 5).trans rfl
     refine step_val (x := .int .i64 m.job) ?_ rfl
     simp [go_sem, e42, m5]
    ·intro a w hb hoth hdep
     refine step_on (want_none rfl) ?_
     have e1 : a.tmps[1]? = some (.int .i64 now) := ev_seg hoth 1 (by kernel_rfl) rfl
     exact step_val ((BigFrame.run_move _ rfl w).trans (by rw [ev_of e1])) rfl
    case fin =>
     intro wz hbz
     iterate 7 (rintro _ rfl)
     refine FinC.nil ?_
     have HV := Lib.hid (And.intro (HD.out.1.below hbz) (And.intro (HD.out.2.1.below hbz HD.out.2.1.lt) (HD.out.2.2.then_below hbz)))
     clear hbz HD
     refine cont_line 7 1 (by kernel_rfl) (by kernel_rfl) (by kernel_rfl) ?_
     obtain ⟨g, hg⟩ := HV.out.1.t
     obtain ⟨w6, hst, hm6, hg6, hs6⟩ := hg.store HJ.out HN.out.1 (by show s.told.length < _; have := HN.out.2; omega)
     have h6 := HV.out.1.toldTurn hm6 hg6
     have HF := Lib.hid (And.intro h6.1 (HV.out.2.2.trans h6.2))
     clear hg hm6 hg6 hs6 h6 HV
     go_wp2_with fail
     show Cont _ _ _ _ _ _
     refine cont_end (by kernel_rfl) ?_
     clear hst
     go_wp2
     go_ret
     exact ⟨rfl, _, HF.out.1, HF.out.2⟩
set_option maxRecDepth 100000 in
set_option maxHeartbeats 6400000 in
theorem wkStop_tf (h : WkAt w c v s) (now : Int) (m : LMsg) (hj : wf64 m.job) (h1 : m.job ∈ s.held) (h2 : m.job ∉ s.done) : Calls Tryd.prog 66 #[.pointer (some ⟨c, 0, none⟩), .int .i64 now, aggMsg m] w fun e w' => e = .returned (.bool true) ∧ ∃ v', WkAt w' c v' { s with held := s.held.filter (· != m.job) } ∧ Turned (wkS c v) (wkS c v') w w' := by
 have HJ := Lib.hid hj
 clear hj
 have hB : Below w.heap.size w (w.alloc (.cells (boxMsg m) 38)) := (Below.refl _ _).alloc (Nat.le_refl _) _
 have hbm := Blk.new w 38 (boxMsg m)
 have H0 := Lib.hid (And.intro (h.below hB) (And.intro hbm (Turned.of_below (S := wkS c v) hB)))
 clear h hB hbm
 go_enter Tryd.func66, Tryd.ntmps66
 go_upto_region 1 with fail
 generalize (w.alloc (.cells (boxMsg m) 38)) = w1 at H0 ⊢
 obtain ⟨b, hb⟩ : ∃ b, w.heap.size = b := ⟨_, rfl⟩
 have H1 : Hid (WkAt w1 c v s ∧ Blk w1 b 38 (boxMsg m) ∧ Turned (wkS c v) (wkS c v) w w1) := Lib.hid (by rw [← hb]; exact H0.out)
 try simp only [hb]
 clear hb H0
 obtain ⟨fh, hfh⟩ := H1.out.1.h
 have HMh := Lib.hid (hfh.below (Below.refl _ _).drew)
 clear hfh
 obtain ⟨lkh, hlkh⟩ : ∃ lk, (if m.job ∈ s.held then fh m.job else 0) = lk := ⟨_, rfl⟩
 obtain ⟨boh, hboh⟩ : ∃ bo, decide (m.job ∈ s.held) = bo := ⟨_, rfl⟩
 have HEh := Lib.hid (And.intro hlkh hboh)
 obtain rfl : boh = true := by rw [← hboh]; exact decide_eq_true h1
 clear h1 hlkh hboh
 refine Cont.start (by kernel_rfl) ?_
 have HD := Lib.hid (And.intro (H1.out.1.below (Below.refl _ _).drew) (And.intro (H1.out.2.1.below (Below.refl _ _).drew H1.out.2.1.lt) (H1.out.2.2.then_below (Below.refl _ _).drew)))
 generalize w1.drew = wd at HD HMh ⊢
 refine cont_free2 0 12 12 [] [.o (eqV (.pointer (some ⟨c, 0, none⟩))), .o (eqV (.pointer (some ⟨c, 0, none⟩))), .o (eqV (.pointer (some ⟨c, 12, none⟩))), .o (eqV (.map (some v.h))), .o (eqV (.pointer (some ⟨b, 5, none⟩))), .o (eqV (.int .i64 m.job)), .o (eqV (.tuple #[.int .i64 lkh, .bool true]))] [11, 19, 20, 7, 8] [.o (eqV (.tuple #[.int .i64 lkh, .bool true])), .o (eqV (.int .i64 lkh)), .b true, .o (eqV (.int .i64 lkh)), .b true] [false, false, false, false, false, false, false, false, false, false, false, true] (by kernel_rfl) (by kernel_rfl) (by kernel_rfl) (by kernel_rfl) (by kernel_rfl) (by kernel_rfl) (by kernel_rfl) rfl (by kernel_rfl) (by kernel_rfl) ⟨?_, ?_, ?_, ?_, ?_, ?_, ?_, ?_, ?_, ?_, ?_, trivial⟩ ?fin
 ·intro a w hb hoth hdep
  refine step_on (want_none rfl) ?_
  have e0 : a.tmps[0]? = some (.pointer (some ⟨c, 0, none⟩)) := ev_seg hoth 0 (by kernel_rfl) rfl
  exact step_val ((BigFrame.run_move _ rfl w).trans (by rw [ev_of e0])) rfl
 ·intro a w hb hoth hdep
  refine step_on (want_none rfl) ?_
  obtain ⟨v0, e12, hv0⟩ := ev_dep hdep 0 12 (by kernel_rfl) (by kernel_rfl)
  replace hv0 : v0 = .pointer (some ⟨c, 0, none⟩) := hv0
  subst hv0
  refine step_val (x := .pointer (some ⟨c, 0, none⟩)) ?_ rfl
  simp [go_sem, e12]
 ·intro a w hb hoth hdep
  refine step_on (want_none rfl) ?_
  obtain ⟨v1, e13, hv1⟩ := ev_dep hdep 1 13 (by kernel_rfl) (by kernel_rfl)
  replace hv1 : v1 = .pointer (some ⟨c, 0, none⟩) := hv1
  subst hv1
  refine step_val (x := .pointer (some ⟨c, 12, none⟩)) ?_ rfl
  simp [go_sem, e13]
 ·intro a w hb hoth hdep
  refine step_on (want_none rfl) ?_
  obtain ⟨v2, e14, hv2⟩ := ev_dep hdep 2 14 (by kernel_rfl) (by kernel_rfl)
  replace hv2 : v2 = .pointer (some ⟨c, 12, none⟩) := hv2
  subst hv2
  obtain ⟨c0, c1, c2, c3, c4, c5, c6, c7, c8, c9, c10, c11, c12, c13, c14⟩ := wkCells (HD.out.1.below hb).blk
  refine step_val (x := .map (some v.h)) ?_ rfl
  simp [go_sem, e14, c12]
 ·intro a w hb hoth hdep
  refine step_on (want_none rfl) ?_
  have e5 : a.tmps[5]? = some (.pointer (some ⟨b, 0, none⟩)) := ev_seg hoth 5 (by kernel_rfl) rfl
  refine step_val (x := .pointer (some ⟨b, 5, none⟩)) ?_ rfl
  simp [go_sem, e5]
 ·intro a w hb hoth hdep
  refine step_on (want_none rfl) ?_
  obtain ⟨v4, e16, hv4⟩ := ev_dep hdep 4 16 (by kernel_rfl) (by kernel_rfl)
  replace hv4 : v4 = .pointer (some ⟨b, 5, none⟩) := hv4
  subst hv4
  have m5 : w.cell? ⟨b, 5, none⟩ = some (.int .i64 m.job) := ((HD.out.2.1.below hb HD.out.2.1.lt).cell 5).trans rfl
  refine step_val (x := .int .i64 m.job) ?_ rfl
  simp [go_sem, e16, m5]
 ·intro a w hb hoth hdep
  refine step_on (want_none rfl) ?_
  obtain ⟨v3, e15, hv3⟩ := ev_dep hdep 3 15 (by kernel_rfl) (by kernel_rfl)
  replace hv3 : v3 = .map (some v.h) := hv3
  subst hv3
  obtain ⟨v5, e17, hv5⟩ := ev_dep hdep 5 17 (by kernel_rfl) (by kernel_rfl)
  replace hv5 : v5 = .int .i64 m.job := hv5
  subst hv5
  have hlk := (HMh.out.below hb).look HJ.out
  rw [HEh.out.1, HEh.out.2] at hlk
  refine step_val (x := .tuple #[.int .i64 lkh, .bool true]) ?_ rfl
  simp [go_sem, e15, e17, hlk]
 ·intro a w hb hoth hdep
  refine step_on (want_none rfl) ?_
  obtain ⟨v6, e18, hv6⟩ := ev_dep hdep 6 18 (by kernel_rfl) (by kernel_rfl)
  replace hv6 : v6 = .tuple #[.int .i64 lkh, .bool true] := hv6
  subst hv6
  exact step_val ((BigFrame.run_move _ rfl w).trans (by rw [ev_of e18])) rfl
 ·intro a w hb hoth hdep
  refine step_on (want_none rfl) ?_
  obtain ⟨v7, e11, hv7⟩ := ev_dep hdep 7 11 (by kernel_rfl) (by kernel_rfl)
  replace hv7 : v7 = .tuple #[.int .i64 lkh, .bool true] := hv7
  subst hv7
  refine step_val (x := .int .i64 lkh) ?_ rfl
  simp [go_sem, e11]
 ·intro a w hb hoth hdep
  refine step_on (want_none rfl) ?_
  obtain ⟨v7, e11, hv7⟩ := ev_dep hdep 7 11 (by kernel_rfl) (by kernel_rfl)
  replace hv7 : v7 = .tuple #[.int .i64 lkh, .bool true] := hv7
  subst hv7
  refine step_val (x := .bool true) ?_ rfl
  simp [go_sem, e11]
 ·intro a w hb hoth hdep
  refine step_on (want_none rfl) ?_
  obtain ⟨v8, e19, hv8⟩ := ev_dep hdep 8 19 (by kernel_rfl) (by kernel_rfl)
  replace hv8 : v8 = .int .i64 lkh := hv8
  subst hv8
  exact step_val ((BigFrame.run_assign _ rfl w).trans (by rw [ev_of e19])) rfl
 case fin =>
  intro wz hbz
  iterate 7 (rintro _ rfl)
  refine FinC.nil ?_
  iterate 5 (rintro _ rfl)
  refine FinL.nil ?_
  refine cont_end (by kernel_rfl) ?_
  have HZ := Lib.hid (And.intro (HD.out.1.below hbz) (And.intro (HD.out.2.1.below hbz HD.out.2.1.lt) (HD.out.2.2.then_below hbz)))
  clear hbz HD
  clear H1 HMh HEh
  go_upto_region 2 with fail
  obtain ⟨fd, hfd⟩ := HZ.out.1.d
  have HMd := Lib.hid (hfd.below (Below.refl _ _).drew)
  clear hfd
  obtain ⟨lkd, hlkd⟩ : ∃ lk, (if m.job ∈ s.done then fd m.job else 0) = lk := ⟨_, rfl⟩
  obtain ⟨bod, hbod⟩ : ∃ bo, decide (m.job ∈ s.done) = bo := ⟨_, rfl⟩
  have HEd := Lib.hid (And.intro hlkd hbod)
  obtain rfl : bod = false := by rw [← hbod]; exact decide_eq_false h2
  clear h2 hlkd hbod
  refine Cont.start (by kernel_rfl) ?_
  have HD := Lib.hid (And.intro (HZ.out.1.below (Below.refl _ _).drew) (And.intro (HZ.out.2.1.below (Below.refl _ _).drew HZ.out.2.1.lt) (HZ.out.2.2.then_below (Below.refl _ _).drew)))
  generalize wz.drew = wd at HD HMd ⊢
  refine cont_free2 0 12 22 [] [.o (eqV (.pointer (some ⟨c, 0, none⟩))), .o (eqV (.pointer (some ⟨c, 0, none⟩))), .o (eqV (.pointer (some ⟨c, 13, none⟩))), .o (eqV (.map (some v.d))), .o (eqV (.pointer (some ⟨b, 5, none⟩))), .o (eqV (.int .i64 m.job)), .o (eqV (.tuple #[.int .i64 lkd, .bool false]))] [21, 29, 30, 9, 10] [.o (eqV (.tuple #[.int .i64 lkd, .bool false])), .o (eqV (.int .i64 lkd)), .b false, .o (eqV (.int .i64 lkd)), .b false] [false, false, false, false, false, false, false, false, false, false, false, true] (by kernel_rfl) (by kernel_rfl) (by kernel_rfl) (by kernel_rfl) (by kernel_rfl) (by kernel_rfl) (by kernel_rfl) rfl (by kernel_rfl) (by kernel_rfl) ⟨?_, ?_, ?_, ?_, ?_, ?_, ?_, ?_, ?_, ?_, ?_, trivial⟩ ?fin
  ·intro a w hb hoth hdep
   refine step_on (want_none rfl) ?_
   have e0 : a.tmps[0]? = some (.pointer (some ⟨c, 0, none⟩)) := ev_seg hoth 0 (by kernel_rfl) rfl
   exact step_val ((BigFrame.run_move _ rfl w).trans (by rw [ev_of e0])) rfl
  ·intro a w hb hoth hdep
   refine step_on (want_none rfl) ?_
   obtain ⟨v0, e22, hv0⟩ := ev_dep hdep 0 22 (by kernel_rfl) (by kernel_rfl)
   replace hv0 : v0 = .pointer (some ⟨c, 0, none⟩) := hv0
   subst hv0
   refine step_val (x := .pointer (some ⟨c, 0, none⟩)) ?_ rfl
   simp [go_sem, e22]
  ·intro a w hb hoth hdep
   refine step_on (want_none rfl) ?_
   obtain ⟨v1, e23, hv1⟩ := ev_dep hdep 1 23 (by kernel_rfl) (by kernel_rfl)
   replace hv1 : v1 = .pointer (some ⟨c, 0, none⟩) := hv1
   subst hv1
   refine step_val (x := .pointer (some ⟨c, 13, none⟩)) ?_ rfl
   simp [go_sem, e23]
  ·intro a w hb hoth hdep
   refine step_on (want_none rfl) ?_
   obtain ⟨v2, e24, hv2⟩ := ev_dep hdep 2 24 (by kernel_rfl) (by kernel_rfl)
   replace hv2 : v2 = .pointer (some ⟨c, 13, none⟩) := hv2
   subst hv2
   obtain ⟨c0, c1, c2, c3, c4, c5, c6, c7, c8, c9, c10, c11, c12, c13, c14⟩ := wkCells (HD.out.1.below hb).blk
   refine step_val (x := .map (some v.d)) ?_ rfl
   simp [go_sem, e24, c13]
  ·intro a w hb hoth hdep
   refine step_on (want_none rfl) ?_
   have e5 : a.tmps[5]? = some (.pointer (some ⟨b, 0, none⟩)) := ev_seg hoth 5 (by kernel_rfl) rfl
   refine step_val (x := .pointer (some ⟨b, 5, none⟩)) ?_ rfl
   simp [go_sem, e5]
  ·intro a w hb hoth hdep
   refine step_on (want_none rfl) ?_
   obtain ⟨v4, e26, hv4⟩ := ev_dep hdep 4 26 (by kernel_rfl) (by kernel_rfl)
   replace hv4 : v4 = .pointer (some ⟨b, 5, none⟩) := hv4
   subst hv4
   have m5 : w.cell? ⟨b, 5, none⟩ = some (.int .i64 m.job) := ((HD.out.2.1.below hb HD.out.2.1.lt).cell 5).trans rfl
   refine step_val (x := .int .i64 m.job) ?_ rfl
   simp [go_sem, e26, m5]
  ·intro a w hb hoth hdep
   refine step_on (want_none rfl) ?_
   obtain ⟨v3, e25, hv3⟩ := ev_dep hdep 3 25 (by kernel_rfl) (by kernel_rfl)
   replace hv3 : v3 = .map (some v.d) := hv3
   subst hv3
   obtain ⟨v5, e27, hv5⟩ := ev_dep hdep 5 27 (by kernel_rfl) (by kernel_rfl)
   replace hv5 : v5 = .int .i64 m.job := hv5
   subst hv5
   have hlk := (HMd.out.below hb).look HJ.out
   rw [HEd.out.1, HEd.out.2] at hlk
   refine step_val (x := .tuple #[.int .i64 lkd, .bool false]) ?_ rfl
   simp [go_sem, e25, e27, hlk]
  ·intro a w hb hoth hdep
   refine step_on (want_none rfl) ?_
   obtain ⟨v6, e28, hv6⟩ := ev_dep hdep 6 28 (by kernel_rfl) (by kernel_rfl)
   replace hv6 : v6 = .tuple #[.int .i64 lkd, .bool false] := hv6
   subst hv6
   exact step_val ((BigFrame.run_move _ rfl w).trans (by rw [ev_of e28])) rfl
  ·intro a w hb hoth hdep
   refine step_on (want_none rfl) ?_
   obtain ⟨v7, e21, hv7⟩ := ev_dep hdep 7 21 (by kernel_rfl) (by kernel_rfl)
   replace hv7 : v7 = .tuple #[.int .i64 lkd, .bool false] := hv7
   subst hv7
   refine step_val (x := .int .i64 lkd) ?_ rfl
   simp [go_sem, e21]
  ·intro a w hb hoth hdep
   refine step_on (want_none rfl) ?_
   obtain ⟨v7, e21, hv7⟩ := ev_dep hdep 7 21 (by kernel_rfl) (by kernel_rfl)
   replace hv7 : v7 = .tuple #[.int .i64 lkd, .bool false] := hv7
   subst hv7
   refine step_val (x := .bool false) ?_ rfl
   simp [go_sem, e21]
  ·intro a w hb hoth hdep
   refine step_on (want_none rfl) ?_
   obtain ⟨v8, e29, hv8⟩ := ev_dep hdep 8 29 (by kernel_rfl) (by kernel_rfl)
   replace hv8 : v8 = .int .i64 lkd := hv8
   subst hv8
   exact step_val ((BigFrame.run_assign _ rfl w).trans (by rw [ev_of e29])) rfl
  case fin =>
   intro wy hby
   iterate 7 (rintro _ rfl)
   refine FinC.nil ?_
   iterate 5 (rintro _ rfl)
   refine FinL.nil ?_
   refine cont_end (by kernel_rfl) ?_
   have HY := Lib.hid (And.intro (HD.out.1.below hby) (And.intro (HD.out.2.1.below hby HD.out.2.1.lt) (HD.out.2.2.then_below hby)))
   clear hby HD
   clear HZ HMd HEd
   go_upto_region 3 with fail
   refine Cont.start (by kernel_rfl) ?_
   have HD := Lib.hid (And.intro (HY.out.1.below (Below.refl _ _).drew) (And.intro (HY.out.2.1.below (Below.refl _ _).drew HY.out.2.1.lt) (HY.out.2.2.then_below (Below.refl _ _).drew)))
   generalize wy.drew = wd at HD ⊢
   refine cont_free 0 6 31 [] [.o (eqV (.pointer (some ⟨c, 0, none⟩))), .o (eqV (.pointer (some ⟨c, 0, none⟩))), .o (eqV (.pointer (some ⟨c, 12, none⟩))), .o (eqV (.map (some v.h))), .o (eqV (.pointer (some ⟨b, 5, none⟩))), .o (eqV (.int .i64 m.job))] [false, false, false, false, false, false] (by kernel_rfl) (by kernel_rfl) (by kernel_rfl) (by kernel_rfl) (by kernel_rfl) (by kernel_rfl) (by kernel_rfl) rfl (by kernel_rfl) (by kernel_rfl) ⟨?_, ?_, ?_, ?_, ?_, ?_, trivial⟩ ?fin
   ·intro a w hb hoth hdep
    refine step_on (want_none rfl) ?_
    have e0 : a.tmps[0]? = some (.pointer (some ⟨c, 0, none⟩)) := ev_seg hoth 0 (by kernel_rfl) rfl
    exact step_val ((BigFrame.run_move _ rfl w).trans (by rw [ev_of e0])) rfl
   ·intro a w hb hoth hdep
    refine step_on (want_none rfl) ?_
    obtain ⟨v0, e31, hv0⟩ := ev_dep hdep 0 31 (by kernel_rfl) (by kernel_rfl)
    replace hv0 : v0 = .pointer (some ⟨c, 0, none⟩) := hv0
    subst hv0
    refine step_val (x := .pointer (some ⟨c, 0, none⟩)) ?_ rfl
    simp [go_sem, e31]
   ·intro a w hb hoth hdep
    refine step_on (want_none rfl) ?_
    obtain ⟨v1, e32, hv1⟩ := ev_dep hdep 1 32 (by kernel_rfl) (by kernel_rfl)
    replace hv1 : v1 = .pointer (some ⟨c, 0, none⟩) := hv1
    subst hv1
    refine step_val (x := .pointer (some ⟨c, 12, none⟩)) ?_ rfl
    simp [go_sem, e32]
   ·intro a w hb hoth hdep
    refine step_on (want_none rfl) ?_
    obtain ⟨v2, e33, hv2⟩ := ev_dep hdep 2 33 (by kernel_rfl) (by kernel_rfl)
    replace hv2 : v2 = .pointer (some ⟨c, 12, none⟩) := hv2
    subst hv2
    obtain ⟨c0, c1, c2, c3, c4, c5, c6, c7, c8, c9, c10, c11, c12, c13, c14⟩ := wkCells (HD.out.1.below hb).blk
    refine step_val (x := .map (some v.h)) ?_ rfl
    simp [go_sem, e33, c12]
   ·intro a w hb hoth hdep
    refine step_on (want_none rfl) ?_
    have e5 : a.tmps[5]? = some (.pointer (some ⟨b, 0, none⟩)) := ev_seg hoth 5 (by kernel_rfl) rfl
    refine step_val (x := .pointer (some ⟨b, 5, none⟩)) ?_ rfl
    simp [go_sem, e5]
   ·intro a w hb hoth hdep
    refine step_on (want_none rfl) ?_
    obtain ⟨v4, e35, hv4⟩ := ev_dep hdep 4 35 (by kernel_rfl) (by kernel_rfl)
    replace hv4 : v4 = .pointer (some ⟨b, 5, none⟩) := hv4
    subst hv4
    have m5 : w.cell? ⟨b, 5, none⟩ = some (.int .i64 m.job) := ((HD.out.2.1.below hb HD.out.2.1.lt).cell 5).trans rfl
    refine step_val (x := .int .i64 m.job) ?_ rfl
    simp [go_sem, e35, m5]
   case fin =>
    intro wz hbz
    iterate 6 (rintro _ rfl)
    refine FinC.nil ?_
    have HU := Lib.hid (And.intro (HD.out.1.below hbz) (And.intro (HD.out.2.1.below hbz HD.out.2.1.lt) (HD.out.2.2.then_below hbz)))
    clear hbz HD
    refine cont_line 6 1 (by kernel_rfl) (by kernel_rfl) (by kernel_rfl) ?_
    obtain ⟨g, hg⟩ := HU.out.1.h
    obtain ⟨w5, hdl, hm5, hg5, hs5⟩ := hg.del HJ.out
    have h5 := HU.out.1.heldTurn hm5 hg5
    have H5 := Lib.hid (And.intro h5.1 (And.intro (HU.out.2.1.kept h5.2.kept (HU.out.1.not_blk HU.out.2.1 (by decide))) (HU.out.2.2.trans h5.2)))
    clear hg hm5 hg5 hs5 h5 HU
    go_wp2_with fail
    show Cont _ _ _ _ _ _
    refine cont_end (by kernel_rfl) ?_
    clear hdl
    go_wp2
    go_ret
    exact ⟨rfl, v, H5.out.1, H5.out.2.2⟩
set_option maxRecDepth 100000 in
set_option maxHeartbeats 6400000 in
theorem wkStop_ft (h : WkAt w c v s) (now : Int) (m : LMsg) (hj : wf64 m.job) (h1 : m.job ∉ s.held) (h2 : m.job ∈ s.done) (hnw : wf64 now) (hn : s.told.length ≤ 1000000) : Calls Tryd.prog 66 #[.pointer (some ⟨c, 0, none⟩), .int .i64 now, aggMsg m] w fun e w' => e = .returned (.bool true) ∧ ∃ v', WkAt w' c v' { s with held := s.held.filter (· != m.job), told := putR s.told m.job } ∧ Turned (wkS c v) (wkS c v') w w' := by
 have HJ := Lib.hid hj
 clear hj
 have HN := Lib.hid (And.intro hnw hn)
 clear hnw hn
 have hB : Below w.heap.size w (w.alloc (.cells (boxMsg m) 38)) := (Below.refl _ _).alloc (Nat.le_refl _) _
 have hbm := Blk.new w 38 (boxMsg m)
 have H0 := Lib.hid (And.intro (h.below hB) (And.intro hbm (Turned.of_below (S := wkS c v) hB)))
 clear h hB hbm
 go_enter Tryd.func66, Tryd.ntmps66
 go_upto_region 1 with fail
 generalize (w.alloc (.cells (boxMsg m) 38)) = w1 at H0 ⊢
 obtain ⟨b, hb⟩ : ∃ b, w.heap.size = b := ⟨_, rfl⟩
 have H1 : Hid (WkAt w1 c v s ∧ Blk w1 b 38 (boxMsg m) ∧ Turned (wkS c v) (wkS c v) w w1) := Lib.hid (by rw [← hb]; exact H0.out)
 try simp only [hb]
 clear hb H0
 obtain ⟨fh, hfh⟩ := H1.out.1.h
 have HMh := Lib.hid (hfh.below (Below.refl _ _).drew)
 clear hfh
 obtain ⟨lkh, hlkh⟩ : ∃ lk, (if m.job ∈ s.held then fh m.job else 0) = lk := ⟨_, rfl⟩
 obtain ⟨boh, hboh⟩ : ∃ bo, decide (m.job ∈ s.held) = bo := ⟨_, rfl⟩
 have HEh := Lib.hid (And.intro hlkh hboh)
 obtain rfl : boh = false := by rw [← hboh]; exact decide_eq_false h1
 clear h1 hlkh hboh
 refine Cont.start (by kernel_rfl) ?_
 have HD := Lib.hid (And.intro (H1.out.1.below (Below.refl _ _).drew) (And.intro (H1.out.2.1.below (Below.refl _ _).drew H1.out.2.1.lt) (H1.out.2.2.then_below (Below.refl _ _).drew)))
 generalize w1.drew = wd at HD HMh ⊢
 refine cont_free2 0 12 12 [] [.o (eqV (.pointer (some ⟨c, 0, none⟩))), .o (eqV (.pointer (some ⟨c, 0, none⟩))), .o (eqV (.pointer (some ⟨c, 12, none⟩))), .o (eqV (.map (some v.h))), .o (eqV (.pointer (some ⟨b, 5, none⟩))), .o (eqV (.int .i64 m.job)), .o (eqV (.tuple #[.int .i64 lkh, .bool false]))] [11, 19, 20, 7, 8] [.o (eqV (.tuple #[.int .i64 lkh, .bool false])), .o (eqV (.int .i64 lkh)), .b false, .o (eqV (.int .i64 lkh)), .b false] [false, false, false, false, false, false, false, false, false, false, false, true] (by kernel_rfl) (by kernel_rfl) (by kernel_rfl) (by kernel_rfl) (by kernel_rfl) (by kernel_rfl) (by kernel_rfl) rfl (by kernel_rfl) (by kernel_rfl) ⟨?_, ?_, ?_, ?_, ?_, ?_, ?_, ?_, ?_, ?_, ?_, trivial⟩ ?fin
 ·intro a w hb hoth hdep
  refine step_on (want_none rfl) ?_
  have e0 : a.tmps[0]? = some (.pointer (some ⟨c, 0, none⟩)) := ev_seg hoth 0 (by kernel_rfl) rfl
  exact step_val ((BigFrame.run_move _ rfl w).trans (by rw [ev_of e0])) rfl
 ·intro a w hb hoth hdep
  refine step_on (want_none rfl) ?_
  obtain ⟨v0, e12, hv0⟩ := ev_dep hdep 0 12 (by kernel_rfl) (by kernel_rfl)
  replace hv0 : v0 = .pointer (some ⟨c, 0, none⟩) := hv0
  subst hv0
  refine step_val (x := .pointer (some ⟨c, 0, none⟩)) ?_ rfl
  simp [go_sem, e12]
 ·intro a w hb hoth hdep
  refine step_on (want_none rfl) ?_
  obtain ⟨v1, e13, hv1⟩ := ev_dep hdep 1 13 (by kernel_rfl) (by kernel_rfl)
  replace hv1 : v1 = .pointer (some ⟨c, 0, none⟩) := hv1
  subst hv1
  refine step_val (x := .pointer (some ⟨c, 12, none⟩)) ?_ rfl
  simp [go_sem, e13]
 ·intro a w hb hoth hdep
  refine step_on (want_none rfl) ?_
  obtain ⟨v2, e14, hv2⟩ := ev_dep hdep 2 14 (by kernel_rfl) (by kernel_rfl)
  replace hv2 : v2 = .pointer (some ⟨c, 12, none⟩) := hv2
  subst hv2
  obtain ⟨c0, c1, c2, c3, c4, c5, c6, c7, c8, c9, c10, c11, c12, c13, c14⟩ := wkCells (HD.out.1.below hb).blk
  refine step_val (x := .map (some v.h)) ?_ rfl
  simp [go_sem, e14, c12]
 ·intro a w hb hoth hdep
  refine step_on (want_none rfl) ?_
  have e5 : a.tmps[5]? = some (.pointer (some ⟨b, 0, none⟩)) := ev_seg hoth 5 (by kernel_rfl) rfl
  refine step_val (x := .pointer (some ⟨b, 5, none⟩)) ?_ rfl
  simp [go_sem, e5]
 ·intro a w hb hoth hdep
  refine step_on (want_none rfl) ?_
  obtain ⟨v4, e16, hv4⟩ := ev_dep hdep 4 16 (by kernel_rfl) (by kernel_rfl)
  replace hv4 : v4 = .pointer (some ⟨b, 5, none⟩) := hv4
  subst hv4
  have m5 : w.cell? ⟨b, 5, none⟩ = some (.int .i64 m.job) := ((HD.out.2.1.below hb HD.out.2.1.lt).cell 5).trans rfl
  refine step_val (x := .int .i64 m.job) ?_ rfl
  simp [go_sem, e16, m5]
 ·intro a w hb hoth hdep
  refine step_on (want_none rfl) ?_
  obtain ⟨v3, e15, hv3⟩ := ev_dep hdep 3 15 (by kernel_rfl) (by kernel_rfl)
  replace hv3 : v3 = .map (some v.h) := hv3
  subst hv3
  obtain ⟨v5, e17, hv5⟩ := ev_dep hdep 5 17 (by kernel_rfl) (by kernel_rfl)
  replace hv5 : v5 = .int .i64 m.job := hv5
  subst hv5
  have hlk := (HMh.out.below hb).look HJ.out
  rw [HEh.out.1, HEh.out.2] at hlk
  refine step_val (x := .tuple #[.int .i64 lkh, .bool false]) ?_ rfl
  simp [go_sem, e15, e17, hlk]
 ·intro a w hb hoth hdep
  refine step_on (want_none rfl) ?_
  obtain ⟨v6, e18, hv6⟩ := ev_dep hdep 6 18 (by kernel_rfl) (by kernel_rfl)
  replace hv6 : v6 = .tuple #[.int .i64 lkh, .bool false] := hv6
  subst hv6
  exact step_val ((BigFrame.run_move _ rfl w).trans (by rw [ev_of e18])) rfl
 ·intro a w hb hoth hdep
  refine step_on (want_none rfl) ?_
  obtain ⟨v7, e11, hv7⟩ := ev_dep hdep 7 11 (by kernel_rfl) (by kernel_rfl)
  replace hv7 : v7 = .tuple #[.int .i64 lkh, .bool false] := hv7
  subst hv7
  refine step_val (x := .int .i64 lkh) ?_ rfl
  simp [go_sem, e11]
 ·intro a w hb hoth hdep
  refine step_on (want_none rfl) ?_
  obtain ⟨v7, e11, hv7⟩ := ev_dep hdep 7 11 (by kernel_rfl) (by kernel_rfl)
  replace hv7 : v7 = .tuple #[.int .i64 lkh, .bool false] := hv7
  subst hv7
  refine step_val (x := .bool false) ?_ rfl
  simp [go_sem, e11]
 ·intro a w hb hoth hdep
  refine step_on (want_none rfl) ?_
  obtain ⟨v8, e19, hv8⟩ := ev_dep hdep 8 19 (by kernel_rfl) (by kernel_rfl)
  replace hv8 : v8 = .int .i64 lkh := hv8
  subst hv8
  exact step_val ((BigFrame.run_assign _ rfl w).trans (by rw [ev_of e19])) rfl
 case fin =>
  intro wz hbz
  iterate 7 (rintro _ rfl)
  refine FinC.nil ?_
  iterate 5 (rintro _ rfl)
  refine FinL.nil ?_
  refine cont_end (by kernel_rfl) ?_
  have HZ := Lib.hid (And.intro (HD.out.1.below hbz) (And.intro (HD.out.2.1.below hbz HD.out.2.1.lt) (HD.out.2.2.then_below hbz)))
  clear hbz HD
  clear H1 HMh HEh
  go_upto_region 2 with fail
  obtain ⟨fd, hfd⟩ := HZ.out.1.d
  have HMd := Lib.hid (hfd.below (Below.refl _ _).drew)
  clear hfd
  obtain ⟨lkd, hlkd⟩ : ∃ lk, (if m.job ∈ s.done then fd m.job else 0) = lk := ⟨_, rfl⟩
  obtain ⟨bod, hbod⟩ : ∃ bo, decide (m.job ∈ s.done) = bo := ⟨_, rfl⟩
  have HEd := Lib.hid (And.intro hlkd hbod)
  obtain rfl : bod = true := by rw [← hbod]; exact decide_eq_true h2
  clear h2 hlkd hbod
  refine Cont.start (by kernel_rfl) ?_
  have HD := Lib.hid (And.intro (HZ.out.1.below (Below.refl _ _).drew) (And.intro (HZ.out.2.1.below (Below.refl _ _).drew HZ.out.2.1.lt) (HZ.out.2.2.then_below (Below.refl _ _).drew)))
  generalize wz.drew = wd at HD HMd ⊢
  refine cont_free2 0 12 22 [] [.o (eqV (.pointer (some ⟨c, 0, none⟩))), .o (eqV (.pointer (some ⟨c, 0, none⟩))), .o (eqV (.pointer (some ⟨c, 13, none⟩))), .o (eqV (.map (some v.d))), .o (eqV (.pointer (some ⟨b, 5, none⟩))), .o (eqV (.int .i64 m.job)), .o (eqV (.tuple #[.int .i64 lkd, .bool true]))] [21, 29, 30, 9, 10] [.o (eqV (.tuple #[.int .i64 lkd, .bool true])), .o (eqV (.int .i64 lkd)), .b true, .o (eqV (.int .i64 lkd)), .b true] [false, false, false, false, false, false, false, false, false, false, false, true] (by kernel_rfl) (by kernel_rfl) (by kernel_rfl) (by kernel_rfl) (by kernel_rfl) (by kernel_rfl) (by kernel_rfl) rfl (by kernel_rfl) (by kernel_rfl) ⟨?_, ?_, ?_, ?_, ?_, ?_, ?_, ?_, ?_, ?_, ?_, trivial⟩ ?fin
  ·intro a w hb hoth hdep
   refine step_on (want_none rfl) ?_
   have e0 : a.tmps[0]? = some (.pointer (some ⟨c, 0, none⟩)) := ev_seg hoth 0 (by kernel_rfl) rfl
   exact step_val ((BigFrame.run_move _ rfl w).trans (by rw [ev_of e0])) rfl
  ·intro a w hb hoth hdep
   refine step_on (want_none rfl) ?_
   obtain ⟨v0, e22, hv0⟩ := ev_dep hdep 0 22 (by kernel_rfl) (by kernel_rfl)
   replace hv0 : v0 = .pointer (some ⟨c, 0, none⟩) := hv0
   subst hv0
   refine step_val (x := .pointer (some ⟨c, 0, none⟩)) ?_ rfl
   simp [go_sem, e22]
  ·intro a w hb hoth hdep
   refine step_on (want_none rfl) ?_
   obtain ⟨v1, e23, hv1⟩ := ev_dep hdep 1 23 (by kernel_rfl) (by kernel_rfl)
   replace hv1 : v1 = .pointer (some ⟨c, 0, none⟩) := hv1
   subst hv1
   refine step_val (x := .pointer (some ⟨c, 13, none⟩)) ?_ rfl
   simp [go_sem, e23]
  ·intro a w hb hoth hdep
   refine step_on (want_none rfl) ?_
   obtain ⟨v2, e24, hv2⟩ := ev_dep hdep 2 24 (by kernel_rfl) (by kernel_rfl)
   replace hv2 : v2 = .pointer (some ⟨c, 13, none⟩) := hv2
   subst hv2
   obtain ⟨c0, c1, c2, c3, c4, c5, c6, c7, c8, c9, c10, c11, c12, c13, c14⟩ := wkCells (HD.out.1.below hb).blk
   refine step_val (x := .map (some v.d)) ?_ rfl
   simp [go_sem, e24, c13]
  ·intro a w hb hoth hdep
   refine step_on (want_none rfl) ?_
   have e5 : a.tmps[5]? = some (.pointer (some ⟨b, 0, none⟩)) := ev_seg hoth 5 (by kernel_rfl) rfl
   refine step_val (x := .pointer (some ⟨b, 5, none⟩)) ?_ rfl
   simp [go_sem, e5]
  ·intro a w hb hoth hdep
   refine step_on (want_none rfl) ?_
   obtain ⟨v4, e26, hv4⟩ := ev_dep hdep 4 26 (by kernel_rfl) (by kernel_rfl)
   replace hv4 : v4 = .pointer (some ⟨b, 5, none⟩) := hv4
   subst hv4
   have m5 : w.cell? ⟨b, 5, none⟩ = some (.int .i64 m.job) := ((HD.out.2.1.below hb HD.out.2.1.lt).cell 5).trans rfl
   refine step_val (x := .int .i64 m.job) ?_ rfl
   simp [go_sem, e26, m5]
  ·intro a w hb hoth hdep
   refine step_on (want_none rfl) ?_
   obtain ⟨v3, e25, hv3⟩ := ev_dep hdep 3 25 (by kernel_rfl) (by kernel_rfl)
   replace hv3 : v3 = .map (some v.d) := hv3
   subst hv3
   obtain ⟨v5, e27, hv5⟩ := ev_dep hdep 5 27 (by kernel_rfl) (by kernel_rfl)
   replace hv5 : v5 = .int .i64 m.job := hv5
   subst hv5
   have hlk := (HMd.out.below hb).look HJ.out
   rw [HEd.out.1, HEd.out.2] at hlk
   refine step_val (x := .tuple #[.int .i64 lkd, .bool true]) ?_ rfl
   simp [go_sem, e25, e27, hlk]
  ·intro a w hb hoth hdep
   refine step_on (want_none rfl) ?_
   obtain ⟨v6, e28, hv6⟩ := ev_dep hdep 6 28 (by kernel_rfl) (by kernel_rfl)
   replace hv6 : v6 = .tuple #[.int .i64 lkd, .bool true] := hv6
   subst hv6
   exact step_val ((BigFrame.run_move _ rfl w).trans (by rw [ev_of e28])) rfl
  ·intro a w hb hoth hdep
   refine step_on (want_none rfl) ?_
   obtain ⟨v7, e21, hv7⟩ := ev_dep hdep 7 21 (by kernel_rfl) (by kernel_rfl)
   replace hv7 : v7 = .tuple #[.int .i64 lkd, .bool true] := hv7
   subst hv7
   refine step_val (x := .int .i64 lkd) ?_ rfl
   simp [go_sem, e21]
  ·intro a w hb hoth hdep
   refine step_on (want_none rfl) ?_
   obtain ⟨v7, e21, hv7⟩ := ev_dep hdep 7 21 (by kernel_rfl) (by kernel_rfl)
   replace hv7 : v7 = .tuple #[.int .i64 lkd, .bool true] := hv7
   subst hv7
   refine step_val (x := .bool true) ?_ rfl
   simp [go_sem, e21]
  ·intro a w hb hoth hdep
   refine step_on (want_none rfl) ?_
   obtain ⟨v8, e29, hv8⟩ := ev_dep hdep 8 29 (by kernel_rfl) (by kernel_rfl)
   replace hv8 : v8 = .int .i64 lkd := hv8
   subst hv8
   exact step_val ((BigFrame.run_assign _ rfl w).trans (by rw [ev_of e29])) rfl
  case fin =>
   intro wy hby
   iterate 7 (rintro _ rfl)
   refine FinC.nil ?_
   iterate 5 (rintro _ rfl)
   refine FinL.nil ?_
   refine cont_end (by kernel_rfl) ?_
   have HY := Lib.hid (And.intro (HD.out.1.below hby) (And.intro (HD.out.2.1.below hby HD.out.2.1.lt) (HD.out.2.2.then_below hby)))
   clear hby HD
   clear HZ HMd HEd
   go_upto_region 3 with fail
   refine Cont.start (by kernel_rfl) ?_
   have HD := Lib.hid (And.intro (HY.out.1.below (Below.refl _ _).drew) (And.intro (HY.out.2.1.below (Below.refl _ _).drew HY.out.2.1.lt) (HY.out.2.2.then_below (Below.refl _ _).drew)))
   generalize wy.drew = wd at HD ⊢
   refine cont_free 0 6 31 [] [.o (eqV (.pointer (some ⟨c, 0, none⟩))), .o (eqV (.pointer (some ⟨c, 0, none⟩))), .o (eqV (.pointer (some ⟨c, 12, none⟩))), .o (eqV (.map (some v.h))), .o (eqV (.pointer (some ⟨b, 5, none⟩))), .o (eqV (.int .i64 m.job))] [false, false, false, false, false, false] (by kernel_rfl) (by kernel_rfl) (by kernel_rfl) (by kernel_rfl) (by kernel_rfl) (by kernel_rfl) (by kernel_rfl) rfl (by kernel_rfl) (by kernel_rfl) ⟨?_, ?_, ?_, ?_, ?_, ?_, trivial⟩ ?fin
   ·intro a w hb hoth hdep
    refine step_on (want_none rfl) ?_
    have e0 : a.tmps[0]? = some (.pointer (some ⟨c, 0, none⟩)) := ev_seg hoth 0 (by kernel_rfl) rfl
    exact step_val ((BigFrame.run_move _ rfl w).trans (by rw [ev_of e0])) rfl
   ·intro a w hb hoth hdep
    refine step_on (want_none rfl) ?_
    obtain ⟨v0, e31, hv0⟩ := ev_dep hdep 0 31 (by kernel_rfl) (by kernel_rfl)
    replace hv0 : v0 = .pointer (some ⟨c, 0, none⟩) := hv0
    subst hv0
    refine step_val (x := .pointer (some ⟨c, 0, none⟩)) ?_ rfl
    simp [go_sem, e31]
   ·intro a w hb hoth hdep
    refine step_on (want_none rfl) ?_
    obtain ⟨v1, e32, hv1⟩ := ev_dep hdep 1 32 (by kernel_rfl) (by kernel_rfl)
    replace hv1 : v1 = .pointer (some ⟨c, 0, none⟩) := hv1
    subst hv1
    refine step_val (x := .pointer (some ⟨c, 12, none⟩)) ?_ rfl
    simp [go_sem, e32]
   ·intro a w hb hoth hdep
    refine step_on (want_none rfl) ?_
    obtain ⟨v2, e33, hv2⟩ := ev_dep hdep 2 33 (by kernel_rfl) (by kernel_rfl)
    replace hv2 : v2 = .pointer (some ⟨c, 12, none⟩) := hv2
    subst hv2
    obtain ⟨c0, c1, c2, c3, c4, c5, c6, c7, c8, c9, c10, c11, c12, c13, c14⟩ := wkCells (HD.out.1.below hb).blk
    refine step_val (x := .map (some v.h)) ?_ rfl
    simp [go_sem, e33, c12]
   ·intro a w hb hoth hdep
    refine step_on (want_none rfl) ?_
    have e5 : a.tmps[5]? = some (.pointer (some ⟨b, 0, none⟩)) := ev_seg hoth 5 (by kernel_rfl) rfl
    refine step_val (x := .pointer (some ⟨b, 5, none⟩)) ?_ rfl
    simp [go_sem, e5]
   ·intro a w hb hoth hdep
    refine step_on (want_none rfl) ?_
    obtain ⟨v4, e35, hv4⟩ := ev_dep hdep 4 35 (by kernel_rfl) (by kernel_rfl)
    replace hv4 : v4 = .pointer (some ⟨b, 5, none⟩) := hv4
    subst hv4
    have m5 : w.cell? ⟨b, 5, none⟩ = some (.int .i64 m.job) := ((HD.out.2.1.below hb HD.out.2.1.lt).cell 5).trans rfl
    refine step_val (x := .int .i64 m.job) ?_ rfl
    simp [go_sem, e35, m5]
   case fin =>
    intro wz hbz
    iterate 6 (rintro _ rfl)
    refine FinC.nil ?_
    have HU := Lib.hid (And.intro (HD.out.1.below hbz) (And.intro (HD.out.2.1.below hbz HD.out.2.1.lt) (HD.out.2.2.then_below hbz)))
    clear hbz HD
    refine cont_line 6 1 (by kernel_rfl) (by kernel_rfl) (by kernel_rfl) ?_
    obtain ⟨g, hg⟩ := HU.out.1.h
    obtain ⟨w5, hdl, hm5, hg5, hs5⟩ := hg.del HJ.out
    have h5 := HU.out.1.heldTurn hm5 hg5
    have H5 := Lib.hid (And.intro h5.1 (And.intro (HU.out.2.1.kept h5.2.kept (HU.out.1.not_blk HU.out.2.1 (by decide))) (HU.out.2.2.trans h5.2)))
    clear hg hm5 hg5 hs5 h5 HU
    go_wp2_with fail
    show Cont _ _ _ _ _ _
    refine cont_end (by kernel_rfl) ?_
    clear hdl
    go_upto_region 5 with fail
    refine Cont.start (by kernel_rfl) ?_
    have HD := Lib.hid (And.intro (H5.out.1.below (Below.refl _ _).drew) (And.intro (H5.out.2.1.below (Below.refl _ _).drew H5.out.2.1.lt) (H5.out.2.2.then_below (Below.refl _ _).drew)))
    generalize w5.drew = wd at HD ⊢
    refine cont_free 0 7 38 [] [.o (eqV (.pointer (some ⟨c, 0, none⟩))), .o (eqV (.pointer (some ⟨c, 0, none⟩))), .o (eqV (.pointer (some ⟨c, 14, none⟩))), .o (eqV (.map (some v.t))), .o (eqV (.pointer (some ⟨b, 5, none⟩))), .o (eqV (.int .i64 m.job)), .o (eqV (.int .i64 now))] [false, false, false, false, false, false, false] (by kernel_rfl) (by kernel_rfl) (by kernel_rfl) (by kernel_rfl) (by kernel_rfl) (by kernel_rfl) (by kernel_rfl) rfl (by kernel_rfl) (by kernel_rfl) ⟨?_, ?_, ?_, ?_, ?_, ?_, ?_, trivial⟩ ?fin
    ·intro a w hb hoth hdep
     refine step_on (want_none rfl) ?_
     have e0 : a.tmps[0]? = some (.pointer (some ⟨c, 0, none⟩)) := ev_seg hoth 0 (by kernel_rfl) rfl
     exact step_val ((BigFrame.run_move _ rfl w).trans (by rw [ev_of e0])) rfl
    ·intro a w hb hoth hdep
     refine step_on (want_none rfl) ?_
     obtain ⟨v0, e38, hv0⟩ := ev_dep hdep 0 38 (by kernel_rfl) (by kernel_rfl)
     replace hv0 : v0 = .pointer (some ⟨c, 0, none⟩) := hv0
     subst hv0
     refine step_val (x := .pointer (some ⟨c, 0, none⟩)) ?_ rfl
     simp [go_sem, e38]
    ·intro a w hb hoth hdep
     refine step_on (want_none rfl) ?_
     obtain ⟨v1, e39, hv1⟩ := ev_dep hdep 1 39 (by kernel_rfl) (by kernel_rfl)
     replace hv1 : v1 = .pointer (some ⟨c, 0, none⟩) := hv1
     subst hv1
     refine step_val (x := .pointer (some ⟨c, 14, none⟩)) ?_ rfl
     simp [go_sem, e39]
    ·intro a w hb hoth hdep
     refine step_on (want_none rfl) ?_
     obtain ⟨v2, e40, hv2⟩ := ev_dep hdep 2 40 (by kernel_rfl) (by kernel_rfl)
     replace hv2 : v2 = .pointer (some ⟨c, 14, none⟩) := hv2
     subst hv2
     obtain ⟨c0, c1, c2, c3, c4, c5, c6, c7, c8, c9, c10, c11, c12, c13, c14⟩ := wkCells (HD.out.1.below hb).blk
     refine step_val (x := .map (some v.t)) ?_ rfl
     simp [go_sem, e40, c14]
    ·intro a w hb hoth hdep
     refine step_on (want_none rfl) ?_
     have e5 : a.tmps[5]? = some (.pointer (some ⟨b, 0, none⟩)) := ev_seg hoth 5 (by kernel_rfl) rfl
     refine step_val (x := .pointer (some ⟨b, 5, none⟩)) ?_ rfl
     simp [go_sem, e5]
    ·intro a w hb hoth hdep
     refine step_on (want_none rfl) ?_
     obtain ⟨v4, e42, hv4⟩ := ev_dep hdep 4 42 (by kernel_rfl) (by kernel_rfl)
     replace hv4 : v4 = .pointer (some ⟨b, 5, none⟩) := hv4
     subst hv4
     have m5 : w.cell? ⟨b, 5, none⟩ = some (.int .i64 m.job) := ((HD.out.2.1.below hb HD.out.2.1.lt).cell 5).trans rfl
     refine step_val (x := .int .i64 m.job) ?_ rfl
     simp [go_sem, e42, m5]
    ·intro a w hb hoth hdep
     refine step_on (want_none rfl) ?_
     have e1 : a.tmps[1]? = some (.int .i64 now) := ev_seg hoth 1 (by kernel_rfl) rfl
     exact step_val ((BigFrame.run_move _ rfl w).trans (by rw [ev_of e1])) rfl
    case fin =>
     intro wz hbz
     iterate 7 (rintro _ rfl)
     refine FinC.nil ?_
     have HV := Lib.hid (And.intro (HD.out.1.below hbz) (And.intro (HD.out.2.1.below hbz HD.out.2.1.lt) (HD.out.2.2.then_below hbz)))
     clear hbz HD
     refine cont_line 7 1 (by kernel_rfl) (by kernel_rfl) (by kernel_rfl) ?_
     obtain ⟨g, hg⟩ := HV.out.1.t
     obtain ⟨w6, hst, hm6, hg6, hs6⟩ := hg.store HJ.out HN.out.1 (by show s.told.length < _; have := HN.out.2; omega)
     have h6 := HV.out.1.toldTurn hm6 hg6
     have HF := Lib.hid (And.intro h6.1 (HV.out.2.2.trans h6.2))
     clear hg hm6 hg6 hs6 h6 HV
     go_wp2_with fail
     show Cont _ _ _ _ _ _
     refine cont_end (by kernel_rfl) ?_
     clear hst
     go_wp2
     go_ret
     exact ⟨rfl, _, HF.out.1, HF.out.2⟩
set_option maxRecDepth 100000 in
set_option maxHeartbeats 6400000 in
theorem wkStop_ff (h : WkAt w c v s) (now : Int) (m : LMsg) (hj : wf64 m.job) (h1 : m.job ∉ s.held) (h2 : m.job ∉ s.done) : Calls Tryd.prog 66 #[.pointer (some ⟨c, 0, none⟩), .int .i64 now, aggMsg m] w fun e w' => e = .returned (.bool false) ∧ ∃ v', WkAt w' c v' { s with held := s.held.filter (· != m.job) } ∧ Turned (wkS c v) (wkS c v') w w' := by
 have HJ := Lib.hid hj
 clear hj
 have hB : Below w.heap.size w (w.alloc (.cells (boxMsg m) 38)) := (Below.refl _ _).alloc (Nat.le_refl _) _
 have hbm := Blk.new w 38 (boxMsg m)
 have H0 := Lib.hid (And.intro (h.below hB) (And.intro hbm (Turned.of_below (S := wkS c v) hB)))
 clear h hB hbm
 go_enter Tryd.func66, Tryd.ntmps66
 go_upto_region 1 with fail
 generalize (w.alloc (.cells (boxMsg m) 38)) = w1 at H0 ⊢
 obtain ⟨b, hb⟩ : ∃ b, w.heap.size = b := ⟨_, rfl⟩
 have H1 : Hid (WkAt w1 c v s ∧ Blk w1 b 38 (boxMsg m) ∧ Turned (wkS c v) (wkS c v) w w1) := Lib.hid (by rw [← hb]; exact H0.out)
 try simp only [hb]
 clear hb H0
 obtain ⟨fh, hfh⟩ := H1.out.1.h
 have HMh := Lib.hid (hfh.below (Below.refl _ _).drew)
 clear hfh
 obtain ⟨lkh, hlkh⟩ : ∃ lk, (if m.job ∈ s.held then fh m.job else 0) = lk := ⟨_, rfl⟩
 obtain ⟨boh, hboh⟩ : ∃ bo, decide (m.job ∈ s.held) = bo := ⟨_, rfl⟩
 have HEh := Lib.hid (And.intro hlkh hboh)
 obtain rfl : boh = false := by rw [← hboh]; exact decide_eq_false h1
 clear h1 hlkh hboh
 refine Cont.start (by kernel_rfl) ?_
 have HD := Lib.hid (And.intro (H1.out.1.below (Below.refl _ _).drew) (And.intro (H1.out.2.1.below (Below.refl _ _).drew H1.out.2.1.lt) (H1.out.2.2.then_below (Below.refl _ _).drew)))
 generalize w1.drew = wd at HD HMh ⊢
 refine cont_free2 0 12 12 [] [.o (eqV (.pointer (some ⟨c, 0, none⟩))), .o (eqV (.pointer (some ⟨c, 0, none⟩))), .o (eqV (.pointer (some ⟨c, 12, none⟩))), .o (eqV (.map (some v.h))), .o (eqV (.pointer (some ⟨b, 5, none⟩))), .o (eqV (.int .i64 m.job)), .o (eqV (.tuple #[.int .i64 lkh, .bool false]))] [11, 19, 20, 7, 8] [.o (eqV (.tuple #[.int .i64 lkh, .bool false])), .o (eqV (.int .i64 lkh)), .b false, .o (eqV (.int .i64 lkh)), .b false] [false, false, false, false, false, false, false, false, false, false, false, true] (by kernel_rfl) (by kernel_rfl) (by kernel_rfl) (by kernel_rfl) (by kernel_rfl) (by kernel_rfl) (by kernel_rfl) rfl (by kernel_rfl) (by kernel_rfl) ⟨?_, ?_, ?_, ?_, ?_, ?_, ?_, ?_, ?_, ?_, ?_, trivial⟩ ?fin
 ·intro a w hb hoth hdep
  refine step_on (want_none rfl) ?_
  have e0 : a.tmps[0]? = some (.pointer (some ⟨c, 0, none⟩)) := ev_seg hoth 0 (by kernel_rfl) rfl
  exact step_val ((BigFrame.run_move _ rfl w).trans (by rw [ev_of e0])) rfl
 ·intro a w hb hoth hdep
  refine step_on (want_none rfl) ?_
  obtain ⟨v0, e12, hv0⟩ := ev_dep hdep 0 12 (by kernel_rfl) (by kernel_rfl)
  replace hv0 : v0 = .pointer (some ⟨c, 0, none⟩) := hv0
  subst hv0
  refine step_val (x := .pointer (some ⟨c, 0, none⟩)) ?_ rfl
  simp [go_sem, e12]
 ·intro a w hb hoth hdep
  refine step_on (want_none rfl) ?_
  obtain ⟨v1, e13, hv1⟩ := ev_dep hdep 1 13 (by kernel_rfl) (by kernel_rfl)
  replace hv1 : v1 = .pointer (some ⟨c, 0, none⟩) := hv1
  subst hv1
  refine step_val (x := .pointer (some ⟨c, 12, none⟩)) ?_ rfl
  simp [go_sem, e13]
 ·intro a w hb hoth hdep
  refine step_on (want_none rfl) ?_
  obtain ⟨v2, e14, hv2⟩ := ev_dep hdep 2 14 (by kernel_rfl) (by kernel_rfl)
  replace hv2 : v2 = .pointer (some ⟨c, 12, none⟩) := hv2
  subst hv2
  obtain ⟨c0, c1, c2, c3, c4, c5, c6, c7, c8, c9, c10, c11, c12, c13, c14⟩ := wkCells (HD.out.1.below hb).blk
  refine step_val (x := .map (some v.h)) ?_ rfl
  simp [go_sem, e14, c12]
 ·intro a w hb hoth hdep
  refine step_on (want_none rfl) ?_
  have e5 : a.tmps[5]? = some (.pointer (some ⟨b, 0, none⟩)) := ev_seg hoth 5 (by kernel_rfl) rfl
  refine step_val (x := .pointer (some ⟨b, 5, none⟩)) ?_ rfl
  simp [go_sem, e5]
 ·intro a w hb hoth hdep
  refine step_on (want_none rfl) ?_
  obtain ⟨v4, e16, hv4⟩ := ev_dep hdep 4 16 (by kernel_rfl) (by kernel_rfl)
  replace hv4 : v4 = .pointer (some ⟨b, 5, none⟩) := hv4
  subst hv4
  have m5 : w.cell? ⟨b, 5, none⟩ = some (.int .i64 m.job) := ((HD.out.2.1.below hb HD.out.2.1.lt).cell 5).trans rfl
  refine step_val (x := .int .i64 m.job) ?_ rfl
  simp [go_sem, e16, m5]
 ·intro a w hb hoth hdep
  refine step_on (want_none rfl) ?_
  obtain ⟨v3, e15, hv3⟩ := ev_dep hdep 3 15 (by kernel_rfl) (by kernel_rfl)
  replace hv3 : v3 = .map (some v.h) := hv3
  subst hv3
  obtain ⟨v5, e17, hv5⟩ := ev_dep hdep 5 17 (by kernel_rfl) (by kernel_rfl)
  replace hv5 : v5 = .int .i64 m.job := hv5
  subst hv5
  have hlk := (HMh.out.below hb).look HJ.out
  rw [HEh.out.1, HEh.out.2] at hlk
  refine step_val (x := .tuple #[.int .i64 lkh, .bool false]) ?_ rfl
  simp [go_sem, e15, e17, hlk]
 ·intro a w hb hoth hdep
  refine step_on (want_none rfl) ?_
  obtain ⟨v6, e18, hv6⟩ := ev_dep hdep 6 18 (by kernel_rfl) (by kernel_rfl)
  replace hv6 : v6 = .tuple #[.int .i64 lkh, .bool false] := hv6
  subst hv6
  exact step_val ((BigFrame.run_move _ rfl w).trans (by rw [ev_of e18])) rfl
 ·intro a w hb hoth hdep
  refine step_on (want_none rfl) ?_
  obtain ⟨v7, e11, hv7⟩ := ev_dep hdep 7 11 (by kernel_rfl) (by kernel_rfl)
  replace hv7 : v7 = .tuple #[.int .i64 lkh, .bool false] := hv7
  subst hv7
  refine step_val (x := .int .i64 lkh) ?_ rfl
  simp [go_sem, e11]
 ·intro a w hb hoth hdep
  refine step_on (want_none rfl) ?_
  obtain ⟨v7, e11, hv7⟩ := ev_dep hdep 7 11 (by kernel_rfl) (by kernel_rfl)
  replace hv7 : v7 = .tuple #[.int .i64 lkh, .bool false] := hv7
  subst hv7
  refine step_val (x := .bool false) ?_ rfl
  simp [go_sem, e11]
 ·intro a w hb hoth hdep
  refine step_on (want_none rfl) ?_
  obtain ⟨v8, e19, hv8⟩ := ev_dep hdep 8 19 (by kernel_rfl) (by kernel_rfl)
  replace hv8 : v8 = .int .i64 lkh := hv8
  subst hv8
  exact step_val ((BigFrame.run_assign _ rfl w).trans (by rw [ev_of e19])) rfl
 case fin =>
  intro wz hbz
  iterate 7 (rintro _ rfl)
  refine FinC.nil ?_
  iterate 5 (rintro _ rfl)
  refine FinL.nil ?_
  refine cont_end (by kernel_rfl) ?_
  have HZ := Lib.hid (And.intro (HD.out.1.below hbz) (And.intro (HD.out.2.1.below hbz HD.out.2.1.lt) (HD.out.2.2.then_below hbz)))
  clear hbz HD
  clear H1 HMh HEh
  go_upto_region 2 with fail
  obtain ⟨fd, hfd⟩ := HZ.out.1.d
  have HMd := Lib.hid (hfd.below (Below.refl _ _).drew)
  clear hfd
  obtain ⟨lkd, hlkd⟩ : ∃ lk, (if m.job ∈ s.done then fd m.job else 0) = lk := ⟨_, rfl⟩
  obtain ⟨bod, hbod⟩ : ∃ bo, decide (m.job ∈ s.done) = bo := ⟨_, rfl⟩
  have HEd := Lib.hid (And.intro hlkd hbod)
  obtain rfl : bod = false := by rw [← hbod]; exact decide_eq_false h2
  clear h2 hlkd hbod
  refine Cont.start (by kernel_rfl) ?_
  have HD := Lib.hid (And.intro (HZ.out.1.below (Below.refl _ _).drew) (And.intro (HZ.out.2.1.below (Below.refl _ _).drew HZ.out.2.1.lt) (HZ.out.2.2.then_below (Below.refl _ _).drew)))
  generalize wz.drew = wd at HD HMd ⊢
  refine cont_free2 0 12 22 [] [.o (eqV (.pointer (some ⟨c, 0, none⟩))), .o (eqV (.pointer (some ⟨c, 0, none⟩))), .o (eqV (.pointer (some ⟨c, 13, none⟩))), .o (eqV (.map (some v.d))), .o (eqV (.pointer (some ⟨b, 5, none⟩))), .o (eqV (.int .i64 m.job)), .o (eqV (.tuple #[.int .i64 lkd, .bool false]))] [21, 29, 30, 9, 10] [.o (eqV (.tuple #[.int .i64 lkd, .bool false])), .o (eqV (.int .i64 lkd)), .b false, .o (eqV (.int .i64 lkd)), .b false] [false, false, false, false, false, false, false, false, false, false, false, true] (by kernel_rfl) (by kernel_rfl) (by kernel_rfl) (by kernel_rfl) (by kernel_rfl) (by kernel_rfl) (by kernel_rfl) rfl (by kernel_rfl) (by kernel_rfl) ⟨?_, ?_, ?_, ?_, ?_, ?_, ?_, ?_, ?_, ?_, ?_, trivial⟩ ?fin
  ·intro a w hb hoth hdep
   refine step_on (want_none rfl) ?_
   have e0 : a.tmps[0]? = some (.pointer (some ⟨c, 0, none⟩)) := ev_seg hoth 0 (by kernel_rfl) rfl
   exact step_val ((BigFrame.run_move _ rfl w).trans (by rw [ev_of e0])) rfl
  ·intro a w hb hoth hdep
   refine step_on (want_none rfl) ?_
   obtain ⟨v0, e22, hv0⟩ := ev_dep hdep 0 22 (by kernel_rfl) (by kernel_rfl)
   replace hv0 : v0 = .pointer (some ⟨c, 0, none⟩) := hv0
   subst hv0
   refine step_val (x := .pointer (some ⟨c, 0, none⟩)) ?_ rfl
   simp [go_sem, e22]
  ·intro a w hb hoth hdep
   refine step_on (want_none rfl) ?_
   obtain ⟨v1, e23, hv1⟩ := ev_dep hdep 1 23 (by kernel_rfl) (by kernel_rfl)
   replace hv1 : v1 = .pointer (some ⟨c, 0, none⟩) := hv1
   subst hv1
   refine step_val (x := .pointer (some ⟨c, 13, none⟩)) ?_ rfl
   simp [go_sem, e23]
  ·intro a w hb hoth hdep
   refine step_on (want_none rfl) ?_
   obtain ⟨v2, e24, hv2⟩ := ev_dep hdep 2 24 (by kernel_rfl) (by kernel_rfl)
   replace hv2 : v2 = .pointer (some ⟨c, 13, none⟩) := hv2
   subst hv2
   obtain ⟨c0, c1, c2, c3, c4, c5, c6, c7, c8, c9, c10, c11, c12, c13, c14⟩ := wkCells (HD.out.1.below hb).blk
   refine step_val (x := .map (some v.d)) ?_ rfl
   simp [go_sem, e24, c13]
  ·intro a w hb hoth hdep
   refine step_on (want_none rfl) ?_
   have e5 : a.tmps[5]? = some (.pointer (some ⟨b, 0, none⟩)) := ev_seg hoth 5 (by kernel_rfl) rfl
   refine step_val (x := .pointer (some ⟨b, 5, none⟩)) ?_ rfl
   simp [go_sem, e5]
  ·intro a w hb hoth hdep
   refine step_on (want_none rfl) ?_
   obtain ⟨v4, e26, hv4⟩ := ev_dep hdep 4 26 (by kernel_rfl) (by kernel_rfl)
   replace hv4 : v4 = .pointer (some ⟨b, 5, none⟩) := hv4
   subst hv4
   have m5 : w.cell? ⟨b, 5, none⟩ = some (.int .i64 m.job) := ((HD.out.2.1.below hb HD.out.2.1.lt).cell 5).trans rfl
   refine step_val (x := .int .i64 m.job) ?_ rfl
   simp [go_sem, e26, m5]
  ·intro a w hb hoth hdep
   refine step_on (want_none rfl) ?_
   obtain ⟨v3, e25, hv3⟩ := ev_dep hdep 3 25 (by kernel_rfl) (by kernel_rfl)
   replace hv3 : v3 = .map (some v.d) := hv3
   subst hv3
   obtain ⟨v5, e27, hv5⟩ := ev_dep hdep 5 27 (by kernel_rfl) (by kernel_rfl)
   replace hv5 : v5 = .int .i64 m.job := hv5
   subst hv5
   have hlk := (HMd.out.below hb).look HJ.out
   rw [HEd.out.1, HEd.out.2] at hlk
   refine step_val (x := .tuple #[.int .i64 lkd, .bool false]) ?_ rfl
   simp [go_sem, e25, e27, hlk]
  ·intro a w hb hoth hdep
   refine step_on (want_none rfl) ?_
   obtain ⟨v6, e28, hv6⟩ := ev_dep hdep 6 28 (by kernel_rfl) (by kernel_rfl)
   replace hv6 : v6 = .tuple #[.int .i64 lkd, .bool false] := hv6
   subst hv6
   exact step_val ((BigFrame.run_move _ rfl w).trans (by rw [ev_of e28])) rfl
  ·intro a w hb hoth hdep
   refine step_on (want_none rfl) ?_
   obtain ⟨v7, e21, hv7⟩ := ev_dep hdep 7 21 (by kernel_rfl) (by kernel_rfl)
   replace hv7 : v7 = .tuple #[.int .i64 lkd, .bool false] := hv7
   subst hv7
   refine step_val (x := .int .i64 lkd) ?_ rfl
   simp [go_sem, e21]
  ·intro a w hb hoth hdep
   refine step_on (want_none rfl) ?_
   obtain ⟨v7, e21, hv7⟩ := ev_dep hdep 7 21 (by kernel_rfl) (by kernel_rfl)
   replace hv7 : v7 = .tuple #[.int .i64 lkd, .bool false] := hv7
   subst hv7
   refine step_val (x := .bool false) ?_ rfl
   simp [go_sem, e21]
  ·intro a w hb hoth hdep
   refine step_on (want_none rfl) ?_
   obtain ⟨v8, e29, hv8⟩ := ev_dep hdep 8 29 (by kernel_rfl) (by kernel_rfl)
   replace hv8 : v8 = .int .i64 lkd := hv8
   subst hv8
   exact step_val ((BigFrame.run_assign _ rfl w).trans (by rw [ev_of e29])) rfl
  case fin =>
   intro wy hby
   iterate 7 (rintro _ rfl)
   refine FinC.nil ?_
   iterate 5 (rintro _ rfl)
   refine FinL.nil ?_
   refine cont_end (by kernel_rfl) ?_
   have HY := Lib.hid (And.intro (HD.out.1.below hby) (And.intro (HD.out.2.1.below hby HD.out.2.1.lt) (HD.out.2.2.then_below hby)))
   clear hby HD
   clear HZ HMd HEd
   go_upto_region 3 with fail
   refine Cont.start (by kernel_rfl) ?_
   have HD := Lib.hid (And.intro (HY.out.1.below (Below.refl _ _).drew) (And.intro (HY.out.2.1.below (Below.refl _ _).drew HY.out.2.1.lt) (HY.out.2.2.then_below (Below.refl _ _).drew)))
   generalize wy.drew = wd at HD ⊢
   refine cont_free 0 6 31 [] [.o (eqV (.pointer (some ⟨c, 0, none⟩))), .o (eqV (.pointer (some ⟨c, 0, none⟩))), .o (eqV (.pointer (some ⟨c, 12, none⟩))), .o (eqV (.map (some v.h))), .o (eqV (.pointer (some ⟨b, 5, none⟩))), .o (eqV (.int .i64 m.job))] [false, false, false, false, false, false] (by kernel_rfl) (by kernel_rfl) (by kernel_rfl) (by kernel_rfl) (by kernel_rfl) (by kernel_rfl) (by kernel_rfl) rfl (by kernel_rfl) (by kernel_rfl) ⟨?_, ?_, ?_, ?_, ?_, ?_, trivial⟩ ?fin
   ·intro a w hb hoth hdep
    refine step_on (want_none rfl) ?_
    have e0 : a.tmps[0]? = some (.pointer (some ⟨c, 0, none⟩)) := ev_seg hoth 0 (by kernel_rfl) rfl
    exact step_val ((BigFrame.run_move _ rfl w).trans (by rw [ev_of e0])) rfl
   ·intro a w hb hoth hdep
    refine step_on (want_none rfl) ?_
    obtain ⟨v0, e31, hv0⟩ := ev_dep hdep 0 31 (by kernel_rfl) (by kernel_rfl)
    replace hv0 : v0 = .pointer (some ⟨c, 0, none⟩) := hv0
    subst hv0
    refine step_val (x := .pointer (some ⟨c, 0, none⟩)) ?_ rfl
    simp [go_sem, e31]
   ·intro a w hb hoth hdep
    refine step_on (want_none rfl) ?_
    obtain ⟨v1, e32, hv1⟩ := ev_dep hdep 1 32 (by kernel_rfl) (by kernel_rfl)
    replace hv1 : v1 = .pointer (some ⟨c, 0, none⟩) := hv1
    subst hv1
    refine step_val (x := .pointer (some ⟨c, 12, none⟩)) ?_ rfl
    simp [go_sem, e32]
   ·intro a w hb hoth hdep
    refine step_on (want_none rfl) ?_
    obtain ⟨v2, e33, hv2⟩ := ev_dep hdep 2 33 (by kernel_rfl) (by kernel_rfl)
    replace hv2 : v2 = .pointer (some ⟨c, 12, none⟩) := hv2
    subst hv2
    obtain ⟨c0, c1, c2, c3, c4, c5, c6, c7, c8, c9, c10, c11, c12, c13, c14⟩ := wkCells (HD.out.1.below hb).blk
    refine step_val (x := .map (some v.h)) ?_ rfl
    simp [go_sem, e33, c12]
   ·intro a w hb hoth hdep
    refine step_on (want_none rfl) ?_
    have e5 : a.tmps[5]? = some (.pointer (some ⟨b, 0, none⟩)) := ev_seg hoth 5 (by kernel_rfl) rfl
    refine step_val (x := .pointer (some ⟨b, 5, none⟩)) ?_ rfl
    simp [go_sem, e5]
   ·intro a w hb hoth hdep
    refine step_on (want_none rfl) ?_
    obtain ⟨v4, e35, hv4⟩ := ev_dep hdep 4 35 (by kernel_rfl) (by kernel_rfl)
    replace hv4 : v4 = .pointer (some ⟨b, 5, none⟩) := hv4
    subst hv4
    have m5 : w.cell? ⟨b, 5, none⟩ = some (.int .i64 m.job) := ((HD.out.2.1.below hb HD.out.2.1.lt).cell 5).trans rfl
    refine step_val (x := .int .i64 m.job) ?_ rfl
    simp [go_sem, e35, m5]
   case fin =>
    intro wz hbz
    iterate 6 (rintro _ rfl)
    refine FinC.nil ?_
    have HU := Lib.hid (And.intro (HD.out.1.below hbz) (And.intro (HD.out.2.1.below hbz HD.out.2.1.lt) (HD.out.2.2.then_below hbz)))
    clear hbz HD
    refine cont_line 6 1 (by kernel_rfl) (by kernel_rfl) (by kernel_rfl) ?_
    obtain ⟨g, hg⟩ := HU.out.1.h
    obtain ⟨w5, hdl, hm5, hg5, hs5⟩ := hg.del HJ.out
    have h5 := HU.out.1.heldTurn hm5 hg5
    have H5 := Lib.hid (And.intro h5.1 (And.intro (HU.out.2.1.kept h5.2.kept (HU.out.1.not_blk HU.out.2.1 (by decide))) (HU.out.2.2.trans h5.2)))
    clear hg hm5 hg5 hs5 h5 HU
    go_wp2_with fail
    show Cont _ _ _ _ _ _
    refine cont_end (by kernel_rfl) ?_
    clear hdl
    go_wp2
    go_ret
    exact ⟨rfl, v, H5.out.1, H5.out.2.2⟩
end
end Go.Proofs.YthhnocnkicoimaaDoor
