/-
 LAYER 35 (msg): Check, over the variable that says from where to where the kinds go.
-/
import Derived.Test.YthhnocnkicoimaaDoorMsg3
import Derived.Test.YthhnocnkicoimaaDoorMsg5
import Derived.Test.YthhnocnkicoimaaDoorEqMsg
import Derived.Deep.DeepCutAuto
set_option linter.unusedVariables false
set_option linter.unusedSimpArgs false
namespace Go.Proofs.YthhnocnkicoimaaDoor
open Go.RowKit

def WAYS : List Int := [2, 1, 1, 2, 1, 2, 1, 2, 2, 1, 3, 1, 3, 1, 1, 3]
/-- The variable 'ways' reads as the program's text lays it. -/
structure WaysAt (w : World) : Prop where
 lt : 0 < w.heap.size
 cell : ∀ j, j < 16 → w.cell? ⟨0, j, none⟩ = some (.int .i64 (WAYS.getD j 0))
theorem WaysAt.below {w w' : World} (h : WaysAt w) (hb : Below w.heap.size w w') : WaysAt w' :=
 ⟨Nat.lt_of_lt_of_le h.lt hb.size, fun j hj => (hb.cell (p := ⟨0, j, none⟩) h.lt).trans (h.cell j hj)⟩
theorem names_kind {k : Int} (h : namesM k ≠ []) : ∃ q : Nat, q < 8 ∧ k = (q : Int) + 1 := by
 have hc : 1 ≤ k ∧ k ≤ 8 := by
  by_cases hc : 1 ≤ k ∧ k ≤ 8
  ·exact hc
  ·exfalso
   apply h
   unfold namesM
   have : k ≠ 1 ∧ k ≠ 2 ∧ k ≠ 3 ∧ k ≠ 4 ∧ k ≠ 5 ∧ k ≠ 6 ∧ k ≠ 7 ∧ k ≠ 8 := by omega
   obtain ⟨h1, h2, h3, h4, h5, h6, h7, h8⟩ := this
   simp [h1, h2, h3, h4, h5, h6, h7, h8]
 exact ⟨(k - 1).toNat, by omega, by omega⟩
theorem way_of (q : Nat) (h : q < 8) : wayM ((q : Int) + 1) = (WAYS.getD (q * 2) 0, WAYS.getD (q * 2 + 1) 0) := by
 have hc : q = 0 ∨ q = 1 ∨ q = 2 ∨ q = 3 ∨ q = 4 ∨ q = 5 ∨ q = 6 ∨ q = 7 := by omega
 rcases hc with rfl | rfl | rfl | rfl | rfl | rfl | rfl | rfl <;> decide
set_option maxRecDepth 100000 in
set_option maxHeartbeats 6400000 in
theorem msgCheck_t (m : LMsg) (w : World) (hw : WaysAt w) : Calls Tryd.prog 47 #[aggMsg m] w fun e w' => e = .returned (.int .i64 (checkM m)) ∧ Below w.heap.size w w' := by
 have h1 := Blk.new w 38 (boxMsg m)
 have hB : Below w.heap.size w (w.alloc (.cells (boxMsg m) 38)) := (Below.refl _ _).alloc (Nat.le_refl _) _
 have H0 := Lib.hid (And.intro h1 (And.intro hB (hw.below hB)))
 clear h1 hB hw
 go_enter Tryd.func47, Tryd.ntmps47
 go_wp2_with fail
 generalize w.alloc (.cells (boxMsg m) 38) = w1 at H0 ⊢
 obtain ⟨b1, hb1⟩ : ∃ b1, w.heap.size = b1 := ⟨_, rfl⟩
 have HS0 := Lib.hid hb1
 have h1 : Blk w1 b1 38 (boxMsg m) := by rw [← hb1]; exact H0.out.1
 try simp only [hb1]
 (with_reducible refine (named_t b1 m.kind w1 ((h1.cell 0).trans rfl)).mono ?_)
 rintro e w2 ⟨A, n, c, rfl, hA, hB2⟩
 have H2 := Lib.hid (And.intro (h1.below hB2 h1.lt) (And.intro (H0.out.2.2.below hB2) (H0.out.2.1.trans (hB2.mono H0.out.2.1.size))))
 have hn := hA.len
 clear hA hB2 h1 hb1 H0
 by_cases hn0 : n = 0
 ·subst hn0
  have hL0 : namesM m.kind = [] := List.eq_nil_of_length_eq_zero hn
  have HP : Hid (checkM m = 5) := Lib.hid (by unfold checkM; rw [if_pos hL0])
  clear hn hL0
  go_wp2
  go_ret
  exact ⟨ret_int HP.out.symm, H2.out.2.2⟩
 ·have hnd : ((n : Int) == 0) = false := by simp [hn0]
  have hLne : namesM m.kind ≠ [] := fun e => hn0 (by rw [← hn, e]; rfl)
  obtain ⟨q, hq8, hq⟩ := names_kind hLne
  have hwy := way_of q hq8
  rw [← hq] at hwy
  have HC : Hid (checkM m = if pureM m ≠ m ∨ (placeM m.frm, placeM m.to_) ≠ wayM m.kind ∨ rightM m = false then 1 else 0) := Lib.hid (by unfold checkM; rw [if_neg hLne])
  have HQ := Lib.hid (And.intro hq hwy)
  have k1 : w2.cell? ⟨b1, 1, none⟩ = some (.int .i64 m.frm) := (H2.out.1.cell 1).trans rfl
  have k2 : w2.cell? ⟨b1, 2, none⟩ = some (.int .i64 m.to_) := (H2.out.1.cell 2).trans rfl
  clear hn hLne hq hwy hn0
  go_wp2_with fail
  go_cut [3] from 7 to 31 (fun v3 wx => ∃ b3, v3 = .pointer (some ⟨b3, 0, none⟩) ∧ Blk wx b3 125 #[.int .i64 (placeM m.frm), .int .i64 (placeM m.to_)] ∧ Blk wx b1 38 (boxMsg m) ∧ WaysAt wx ∧ Below w.heap.size w wx)
  case first =>
   have hBx : Below w2.heap.size w2 (w2.alloc (.cells #[.int .i64 (placeM m.frm), .int .i64 (placeM m.to_)] 125)).drew := ((Below.refl _ _).alloc (Nat.le_refl _) _).drew
   have hbx : Blk (w2.alloc (.cells #[.int .i64 (placeM m.frm), .int .i64 (placeM m.to_)] 125)).drew w2.heap.size 125 #[.int .i64 (placeM m.frm), .int .i64 (placeM m.to_)] := Blk.new w2 125 #[.int .i64 (placeM m.frm), .int .i64 (placeM m.to_)]
   have HF := Lib.hid (And.intro hbx (And.intro (H2.out.1.below hBx H2.out.1.lt) (And.intro (H2.out.2.1.below hBx) (H2.out.2.2.trans (hBx.mono H2.out.2.2.size)))))
   clear hBx hbx
   go_region_held3 (fun w' => w'.cell? ⟨b1, 1, none⟩ = some (.int .i64 m.frm) ∧ w'.cell? ⟨b1, 2, none⟩ = some (.int .i64 m.to_)) (first | exact ⟨k1, k2⟩ | go_keep)
    ((go_at_call 83; (with_reducible refine (msgPlace_t _ _).mono ?_); rintro e w3 ⟨rfl, rfl⟩))
   all_goals (go_wp2_with fail; go_meet; exact ⟨_, rfl, HF.out⟩)
  case rest =>
   obtain ⟨b3, rfl, hcut2⟩ := hcut
   have HZ := Lib.hid hcut2
   clear hcut2 k1 k2 H2
   go_wp2_with fail
   have hgu := fun (op : BinOp) (x y : Operand) (a b : LMsg) (W : World) => guardMsg op x y a b W
   have hgu2 := fun (op : BinOp) (x y : Operand) (a b c e : Int) (W : World) => guardTwo op x y a b c e W
   have hnm := neqMsg (pureM m) m
   have hn2 := neqTwo (placeM m.frm) (placeM m.to_) (WAYS.getD (q * 2) 0) (WAYS.getD (q * 2 + 1) 0)
   obtain ⟨p1, hp1⟩ : ∃ p, placeM m.frm = p := ⟨_, rfl⟩
   obtain ⟨p2, hp2⟩ : ∃ p, placeM m.to_ = p := ⟨_, rfl⟩
   obtain ⟨y1, hy1⟩ : ∃ p, WAYS.getD (q * 2) 0 = p := ⟨_, rfl⟩
   obtain ⟨y2, hy2⟩ : ∃ p, WAYS.getD (q * 2 + 1) 0 = p := ⟨_, rfl⟩
   rw [hp1, hp2, hy1, hy2] at hn2
   rw [hp1, hp2] at HZ HC
   have HY := Lib.hid (And.intro hy1 hy2)
   have hwy : wayM m.kind = (y1, y2) := by rw [HQ.out.2, hy1, hy2]
   rw [hwy] at HC
   clear hp1 hp2 hy1 hy2 hwy
   by_cases hpm : pureM m = m
   ·rw [decide_eq_true hpm] at hnm
    have hwr : IntKind.i64.wrap ((q : Int) + 1 - 1) = (q : Int) := by rw [IntWalk.i64_in _ (by omega)]; omega
    have hwr2 : IntKind.i64.wrap (q : Int) = (q : Int) := IntWalk.i64_in _ (by omega)
    have hq9 : (8 ≤ (q : Int)) = False := by simp; omega
    by_cases hwp : (p1, p2) = (y1, y2)
    ·rw [decide_eq_true hwp] at hn2
     cases hri : rightM m with
     | true =>
      have HK : Hid (checkM m = 0) := Lib.hid (by rw [HC.out]; rw [if_neg]; rintro (h | h | h); exact h hpm; exact h hwp; rw [hri] at h; cases h)
      refine wp_region_by 14 [eqV (aggMsg m), eqV (aggMsg (pureM m)), eqV (aggMsg m), eqV (.bool false), eqV (.bool false), eqV (.agg #[.int .i64 p1, .int .i64 p2]), eqV (.pointer (some ⟨b1, 0, none⟩)), eqV (.int .i64 ((q : Int) + 1)), eqV (.int .i64 (q : Int)), eqV (.pointer (some ⟨0, q * 2, none⟩)), eqV (.agg #[.int .i64 y1, .int .i64 y2]), eqV (.bool false), eqV (.bool false), eqV (.bool false), eqV (aggMsg m), eqV (.bool true), eqV (.bool false), eqV (.bool false)] (by kernel_rfl) (by kernel_rfl) rfl (by kernel_rfl) ⟨?_, ?_, ?_, ?_, ?_, ?_, ?_, ?_, ?_, ?_, ?_, ?_, ?_, ?_, ?_, ?_, ?_, ?_, trivial⟩ ?fin
      ·as_aux_lemma =>
        intro a w hb hoth hdep
        refine step_on (want_none rfl) ?_
        have e1 : a.tmps[1]? = some (.pointer (some ⟨b1, 0, none⟩)) := ev_other hoth 1 (by kernel_rfl) rfl
        obtain ⟨c0, c1, c2, c3, c4, c5, c6, c7, c8, c9, c10, c11⟩ := msgCells (HZ.out.2.1.below hb HZ.out.2.1.lt)
        refine step_val (x := aggMsg m) ?_ rfl
        simp [go_sem, e1, c0, c1, c2, c3, c4, c5, c6, c7, c8, c9, c10, c11, aggMsg]
      ·as_aux_lemma =>
        intro a w hb hoth hdep
        refine step_on (want_none rfl) ?_
        obtain ⟨v0, e14, hv0⟩ := ev_dep hdep 0 14 (by kernel_rfl) (by kernel_rfl)
        replace hv0 : v0 = aggMsg m := hv0
        subst hv0
        refine step_call (f := 84) (args := #[aggMsg m]) ?_ ?_
        ·simp [go_sem, e14]
        ·(with_reducible refine (pure_t m w).mono ?_)
         rintro e w2 ⟨rfl, hB⟩
         exact ⟨_, rfl, rfl, hB⟩
      ·as_aux_lemma =>
        intro a w hb hoth hdep
        refine step_on (want_none rfl) ?_
        have e1 : a.tmps[1]? = some (.pointer (some ⟨b1, 0, none⟩)) := ev_other hoth 1 (by kernel_rfl) rfl
        obtain ⟨c0, c1, c2, c3, c4, c5, c6, c7, c8, c9, c10, c11⟩ := msgCells (HZ.out.2.1.below hb HZ.out.2.1.lt)
        refine step_val (x := aggMsg m) ?_ rfl
        simp [go_sem, e1, c0, c1, c2, c3, c4, c5, c6, c7, c8, c9, c10, c11, aggMsg]
      ·as_aux_lemma =>
        intro a w hb hoth hdep
        refine step_on (want_none rfl) ?_
        obtain ⟨v1, e15, hv1⟩ := ev_dep hdep 1 15 (by kernel_rfl) (by kernel_rfl)
        replace hv1 : v1 = aggMsg (pureM m) := hv1
        subst hv1
        obtain ⟨v2, e16, hv2⟩ := ev_dep hdep 2 16 (by kernel_rfl) (by kernel_rfl)
        replace hv2 : v2 = aggMsg m := hv2
        subst hv2
        refine step_val (x := .bool false) ?_ rfl
        simp [go_sem, e15, e16, hnm, hgu]
      ·as_aux_lemma =>
        intro a w hb hoth hdep
        refine step_on (want_none rfl) ?_
        obtain ⟨v3, e17, hv3⟩ := ev_dep hdep 3 17 (by kernel_rfl) (by kernel_rfl)
        replace hv3 : v3 = .bool false := hv3
        subst hv3
        exact step_val ((BigFrame.run_move _ rfl w).trans (by rw [ev_of e17])) rfl
      ·as_aux_lemma =>
        intro a w hb hoth hdep
        refine step_on ((want_dep hdep 4 18 false rfl (by kernel_rfl) (by kernel_rfl) (fun v h => h)).trans rfl) ?_
        have e3 : a.tmps[3]? = some (.pointer (some ⟨b3, 0, none⟩)) := ev_other hoth 3 (by kernel_rfl) rfl
        have d0 : w.cell? ⟨b3, 0, none⟩ = some (.int .i64 p1) := ((HZ.out.1.below hb HZ.out.1.lt).cell 0).trans rfl
        have d1 : w.cell? ⟨b3, 1, none⟩ = some (.int .i64 p2) := ((HZ.out.1.below hb HZ.out.1.lt).cell 1).trans rfl
        refine step_val (x := .agg #[.int .i64 p1, .int .i64 p2]) ?_ rfl
        simp [go_sem, e3, d0, d1]
      ·as_aux_lemma =>
        intro a w hb hoth hdep
        refine step_on ((want_dep hdep 4 18 false rfl (by kernel_rfl) (by kernel_rfl) (fun v h => h)).trans rfl) ?_
        have e1 : a.tmps[1]? = some (.pointer (some ⟨b1, 0, none⟩)) := ev_other hoth 1 (by kernel_rfl) rfl
        refine step_val (x := .pointer (some ⟨b1, 0, none⟩)) ?_ rfl
        simp [go_sem, e1]
      ·as_aux_lemma =>
        intro a w hb hoth hdep
        refine step_on ((want_dep hdep 4 18 false rfl (by kernel_rfl) (by kernel_rfl) (fun v h => h)).trans rfl) ?_
        obtain ⟨v6, e20, hv6⟩ := ev_dep hdep 6 20 (by kernel_rfl) (by kernel_rfl)
        replace hv6 : v6 = .pointer (some ⟨b1, 0, none⟩) := hv6
        subst hv6
        have c0 : w.cell? ⟨b1, 0, none⟩ = some (.int .i64 ((q : Int) + 1)) := by rw [← HQ.out.1]; exact ((HZ.out.2.1.below hb HZ.out.2.1.lt).cell 0).trans rfl
        refine step_val (x := .int .i64 ((q : Int) + 1)) ?_ rfl
        simp [go_sem, e20, c0]
      ·as_aux_lemma =>
        intro a w hb hoth hdep
        refine step_on ((want_dep hdep 4 18 false rfl (by kernel_rfl) (by kernel_rfl) (fun v h => h)).trans rfl) ?_
        obtain ⟨v7, e21, hv7⟩ := ev_dep hdep 7 21 (by kernel_rfl) (by kernel_rfl)
        replace hv7 : v7 = .int .i64 ((q : Int) + 1) := hv7
        subst hv7
        refine step_val (x := .int .i64 (q : Int)) ?_ rfl
        simp [go_sem, e21, hwr, hwr2]
      ·as_aux_lemma =>
        intro a w hb hoth hdep
        refine step_on ((want_dep hdep 4 18 false rfl (by kernel_rfl) (by kernel_rfl) (fun v h => h)).trans rfl) ?_
        obtain ⟨v8, e22, hv8⟩ := ev_dep hdep 8 22 (by kernel_rfl) (by kernel_rfl)
        replace hv8 : v8 = .int .i64 (q : Int) := hv8
        subst hv8
        refine step_val (x := .pointer (some ⟨0, q * 2, none⟩)) ?_ rfl
        simp [go_sem, e22, hq8, hq9]
      ·as_aux_lemma =>
        intro a w hb hoth hdep
        refine step_on ((want_dep hdep 4 18 false rfl (by kernel_rfl) (by kernel_rfl) (fun v h => h)).trans rfl) ?_
        obtain ⟨v9, e23, hv9⟩ := ev_dep hdep 9 23 (by kernel_rfl) (by kernel_rfl)
        replace hv9 : v9 = .pointer (some ⟨0, q * 2, none⟩) := hv9
        subst hv9
        have d0 : w.cell? ⟨0, q * 2, none⟩ = some (.int .i64 y1) := by rw [← HY.out.1]; exact (HZ.out.2.2.1.below hb).cell (q * 2) (by omega)
        have d1 : w.cell? ⟨0, q * 2 + 1, none⟩ = some (.int .i64 y2) := by rw [← HY.out.2]; exact (HZ.out.2.2.1.below hb).cell (q * 2 + 1) (by omega)
        refine step_val (x := .agg #[.int .i64 y1, .int .i64 y2]) ?_ rfl
        simp [go_sem, e23, d0, d1]
      ·as_aux_lemma =>
        intro a w hb hoth hdep
        refine step_on ((want_dep hdep 4 18 false rfl (by kernel_rfl) (by kernel_rfl) (fun v h => h)).trans rfl) ?_
        obtain ⟨v5, e19, hv5⟩ := ev_dep hdep 5 19 (by kernel_rfl) (by kernel_rfl)
        replace hv5 : v5 = .agg #[.int .i64 p1, .int .i64 p2] := hv5
        subst hv5
        obtain ⟨v10, e24, hv10⟩ := ev_dep hdep 10 24 (by kernel_rfl) (by kernel_rfl)
        replace hv10 : v10 = .agg #[.int .i64 y1, .int .i64 y2] := hv10
        subst hv10
        refine step_val (x := .bool false) ?_ rfl
        simp [go_sem, e19, e24, hn2, hgu2]
      ·as_aux_lemma =>
        intro a w hb hoth hdep
        refine step_on (want_none rfl) ?_
        obtain ⟨v4, e18, hv4⟩ := ev_dep hdep 4 18 (by kernel_rfl) (by kernel_rfl)
        replace hv4 : v4 = .bool false := hv4
        subst hv4
        obtain ⟨v11, e25, hv11⟩ := ev_dep hdep 11 25 (by kernel_rfl) (by kernel_rfl)
        replace hv11 : v11 = .bool false := hv11
        subst hv11
        refine step_val (x := .bool false) ?_ rfl
        simp [go_sem, e18, e25]
      ·as_aux_lemma =>
        intro a w hb hoth hdep
        refine step_on (want_none rfl) ?_
        obtain ⟨v12, e26, hv12⟩ := ev_dep hdep 12 26 (by kernel_rfl) (by kernel_rfl)
        replace hv12 : v12 = .bool false := hv12
        subst hv12
        exact step_val ((BigFrame.run_move _ rfl w).trans (by rw [ev_of e26])) rfl
      ·as_aux_lemma =>
        intro a w hb hoth hdep
        refine step_on ((want_dep hdep 13 27 false rfl (by kernel_rfl) (by kernel_rfl) (fun v h => h)).trans rfl) ?_
        have e1 : a.tmps[1]? = some (.pointer (some ⟨b1, 0, none⟩)) := ev_other hoth 1 (by kernel_rfl) rfl
        obtain ⟨c0, c1, c2, c3, c4, c5, c6, c7, c8, c9, c10, c11⟩ := msgCells (HZ.out.2.1.below hb HZ.out.2.1.lt)
        refine step_val (x := aggMsg m) ?_ rfl
        simp [go_sem, e1, c0, c1, c2, c3, c4, c5, c6, c7, c8, c9, c10, c11, aggMsg]
      ·as_aux_lemma =>
        intro a w hb hoth hdep
        refine step_on ((want_dep hdep 13 27 false rfl (by kernel_rfl) (by kernel_rfl) (fun v h => h)).trans rfl) ?_
        obtain ⟨v14, e28, hv14⟩ := ev_dep hdep 14 28 (by kernel_rfl) (by kernel_rfl)
        replace hv14 : v14 = aggMsg m := hv14
        subst hv14
        refine step_call (f := 85) (args := #[aggMsg m]) ?_ ?_
        ·simp [go_sem, e28]
        ·have hcx := right_t m w
         rw [hri] at hcx
         (with_reducible refine hcx.mono ?_)
         clear hcx
         rintro e w2 ⟨rfl, hB⟩
         exact ⟨_, rfl, rfl, hB⟩
      ·as_aux_lemma =>
        intro a w hb hoth hdep
        refine step_on ((want_dep hdep 13 27 false rfl (by kernel_rfl) (by kernel_rfl) (fun v h => h)).trans rfl) ?_
        obtain ⟨v15, e29, hv15⟩ := ev_dep hdep 15 29 (by kernel_rfl) (by kernel_rfl)
        replace hv15 : v15 = .bool true := hv15
        subst hv15
        refine step_val (x := .bool false) ?_ rfl
        simp [go_sem, e29]
      ·as_aux_lemma =>
        intro a w hb hoth hdep
        refine step_on (want_none rfl) ?_
        obtain ⟨v13, e27, hv13⟩ := ev_dep hdep 13 27 (by kernel_rfl) (by kernel_rfl)
        replace hv13 : v13 = .bool false := hv13
        subst hv13
        obtain ⟨v16, e30, hv16⟩ := ev_dep hdep 16 30 (by kernel_rfl) (by kernel_rfl)
        replace hv16 : v16 = .bool false := hv16
        subst hv16
        refine step_val (x := .bool false) ?_ rfl
        simp [go_sem, e27, e30]
      case fin =>
       intro wz hbz
       rintro _ rfl
       rintro _ rfl
       rintro _ rfl
       rintro _ rfl
       rintro _ rfl
       rintro _ rfl
       rintro _ rfl
       rintro _ rfl
       rintro _ rfl
       rintro _ rfl
       rintro _ rfl
       rintro _ rfl
       rintro _ rfl
       rintro _ rfl
       rintro _ rfl
       rintro _ rfl
       rintro _ rfl
       rintro _ rfl
       refine FinC.nil ?_
       have HE := Lib.hid (HZ.out.2.2.2.trans (hbz.mono HZ.out.2.2.2.size))
       clear hbz hnm hn2 hgu hgu2
       go_wp2_with fail
       go_ret
       exact ⟨ret_int HK.out.symm, HE.out⟩
     | false =>
      have HK : Hid (checkM m = 1) := Lib.hid (by rw [HC.out]; rw [if_pos (.inr (.inr hri))])
      refine wp_region_by 14 [eqV (aggMsg m), eqV (aggMsg (pureM m)), eqV (aggMsg m), eqV (.bool false), eqV (.bool false), eqV (.agg #[.int .i64 p1, .int .i64 p2]), eqV (.pointer (some ⟨b1, 0, none⟩)), eqV (.int .i64 ((q : Int) + 1)), eqV (.int .i64 (q : Int)), eqV (.pointer (some ⟨0, q * 2, none⟩)), eqV (.agg #[.int .i64 y1, .int .i64 y2]), eqV (.bool false), eqV (.bool false), eqV (.bool false), eqV (aggMsg m), eqV (.bool false), eqV (.bool true), eqV (.bool true)] (by kernel_rfl) (by kernel_rfl) rfl (by kernel_rfl) ⟨?_, ?_, ?_, ?_, ?_, ?_, ?_, ?_, ?_, ?_, ?_, ?_, ?_, ?_, ?_, ?_, ?_, ?_, trivial⟩ ?fin
      ·as_aux_lemma =>
        intro a w hb hoth hdep
        refine step_on (want_none rfl) ?_
        have e1 : a.tmps[1]? = some (.pointer (some ⟨b1, 0, none⟩)) := ev_other hoth 1 (by kernel_rfl) rfl
        obtain ⟨c0, c1, c2, c3, c4, c5, c6, c7, c8, c9, c10, c11⟩ := msgCells (HZ.out.2.1.below hb HZ.out.2.1.lt)
        refine step_val (x := aggMsg m) ?_ rfl
        simp [go_sem, e1, c0, c1, c2, c3, c4, c5, c6, c7, c8, c9, c10, c11, aggMsg]
      ·as_aux_lemma =>
        intro a w hb hoth hdep
        refine step_on (want_none rfl) ?_
        obtain ⟨v0, e14, hv0⟩ := ev_dep hdep 0 14 (by kernel_rfl) (by kernel_rfl)
        replace hv0 : v0 = aggMsg m := hv0
        subst hv0
        refine step_call (f := 84) (args := #[aggMsg m]) ?_ ?_
        ·simp [go_sem, e14]
        ·(with_reducible refine (pure_t m w).mono ?_)
         rintro e w2 ⟨rfl, hB⟩
         exact ⟨_, rfl, rfl, hB⟩
      ·as_aux_lemma =>
        intro a w hb hoth hdep
        refine step_on (want_none rfl) ?_
        have e1 : a.tmps[1]? = some (.pointer (some ⟨b1, 0, none⟩)) := ev_other hoth 1 (by kernel_rfl) rfl
        obtain ⟨c0, c1, c2, c3, c4, c5, c6, c7, c8, c9, c10, c11⟩ := msgCells (HZ.out.2.1.below hb HZ.out.2.1.lt)
        refine step_val (x := aggMsg m) ?_ rfl
        simp [go_sem, e1, c0, c1, c2, c3, c4, c5, c6, c7, c8, c9, c10, c11, aggMsg]
      ·as_aux_lemma =>
        intro a w hb hoth hdep
        refine step_on (want_none rfl) ?_
        obtain ⟨v1, e15, hv1⟩ := ev_dep hdep 1 15 (by kernel_rfl) (by kernel_rfl)
        replace hv1 : v1 = aggMsg (pureM m) := hv1
        subst hv1
        obtain ⟨v2, e16, hv2⟩ := ev_dep hdep 2 16 (by kernel_rfl) (by kernel_rfl)
        replace hv2 : v2 = aggMsg m := hv2
        subst hv2
        refine step_val (x := .bool false) ?_ rfl
        simp [go_sem, e15, e16, hnm, hgu]
      ·as_aux_lemma =>
        intro a w hb hoth hdep
        refine step_on (want_none rfl) ?_
        obtain ⟨v3, e17, hv3⟩ := ev_dep hdep 3 17 (by kernel_rfl) (by kernel_rfl)
        replace hv3 : v3 = .bool false := hv3
        subst hv3
        exact step_val ((BigFrame.run_move _ rfl w).trans (by rw [ev_of e17])) rfl
      ·as_aux_lemma =>
        intro a w hb hoth hdep
        refine step_on ((want_dep hdep 4 18 false rfl (by kernel_rfl) (by kernel_rfl) (fun v h => h)).trans rfl) ?_
        have e3 : a.tmps[3]? = some (.pointer (some ⟨b3, 0, none⟩)) := ev_other hoth 3 (by kernel_rfl) rfl
        have d0 : w.cell? ⟨b3, 0, none⟩ = some (.int .i64 p1) := ((HZ.out.1.below hb HZ.out.1.lt).cell 0).trans rfl
        have d1 : w.cell? ⟨b3, 1, none⟩ = some (.int .i64 p2) := ((HZ.out.1.below hb HZ.out.1.lt).cell 1).trans rfl
        refine step_val (x := .agg #[.int .i64 p1, .int .i64 p2]) ?_ rfl
        simp [go_sem, e3, d0, d1]
      ·as_aux_lemma =>
        intro a w hb hoth hdep
        refine step_on ((want_dep hdep 4 18 false rfl (by kernel_rfl) (by kernel_rfl) (fun v h => h)).trans rfl) ?_
        have e1 : a.tmps[1]? = some (.pointer (some ⟨b1, 0, none⟩)) := ev_other hoth 1 (by kernel_rfl) rfl
        refine step_val (x := .pointer (some ⟨b1, 0, none⟩)) ?_ rfl
        simp [go_sem, e1]
      ·as_aux_lemma =>
        intro a w hb hoth hdep
        refine step_on ((want_dep hdep 4 18 false rfl (by kernel_rfl) (by kernel_rfl) (fun v h => h)).trans rfl) ?_
        obtain ⟨v6, e20, hv6⟩ := ev_dep hdep 6 20 (by kernel_rfl) (by kernel_rfl)
        replace hv6 : v6 = .pointer (some ⟨b1, 0, none⟩) := hv6
        subst hv6
        have c0 : w.cell? ⟨b1, 0, none⟩ = some (.int .i64 ((q : Int) + 1)) := by rw [← HQ.out.1]; exact ((HZ.out.2.1.below hb HZ.out.2.1.lt).cell 0).trans rfl
        refine step_val (x := .int .i64 ((q : Int) + 1)) ?_ rfl
        simp [go_sem, e20, c0]
      ·as_aux_lemma =>
        intro a w hb hoth hdep
        refine step_on ((want_dep hdep 4 18 false rfl (by kernel_rfl) (by kernel_rfl) (fun v h => h)).trans rfl) ?_
        obtain ⟨v7, e21, hv7⟩ := ev_dep hdep 7 21 (by kernel_rfl) (by kernel_rfl)
        replace hv7 : v7 = .int .i64 ((q : Int) + 1) := hv7
        subst hv7
        refine step_val (x := .int .i64 (q : Int)) ?_ rfl
        simp [go_sem, e21, hwr, hwr2]
      ·as_aux_lemma =>
        intro a w hb hoth hdep
        refine step_on ((want_dep hdep 4 18 false rfl (by kernel_rfl) (by kernel_rfl) (fun v h => h)).trans rfl) ?_
        obtain ⟨v8, e22, hv8⟩ := ev_dep hdep 8 22 (by kernel_rfl) (by kernel_rfl)
        replace hv8 : v8 = .int .i64 (q : Int) := hv8
        subst hv8
        refine step_val (x := .pointer (some ⟨0, q * 2, none⟩)) ?_ rfl
        simp [go_sem, e22, hq8, hq9]
      ·as_aux_lemma =>
        intro a w hb hoth hdep
        refine step_on ((want_dep hdep 4 18 false rfl (by kernel_rfl) (by kernel_rfl) (fun v h => h)).trans rfl) ?_
        obtain ⟨v9, e23, hv9⟩ := ev_dep hdep 9 23 (by kernel_rfl) (by kernel_rfl)
        replace hv9 : v9 = .pointer (some ⟨0, q * 2, none⟩) := hv9
        subst hv9
        have d0 : w.cell? ⟨0, q * 2, none⟩ = some (.int .i64 y1) := by rw [← HY.out.1]; exact (HZ.out.2.2.1.below hb).cell (q * 2) (by omega)
        have d1 : w.cell? ⟨0, q * 2 + 1, none⟩ = some (.int .i64 y2) := by rw [← HY.out.2]; exact (HZ.out.2.2.1.below hb).cell (q * 2 + 1) (by omega)
        refine step_val (x := .agg #[.int .i64 y1, .int .i64 y2]) ?_ rfl
        simp [go_sem, e23, d0, d1]
      ·as_aux_lemma =>
        intro a w hb hoth hdep
        refine step_on ((want_dep hdep 4 18 false rfl (by kernel_rfl) (by kernel_rfl) (fun v h => h)).trans rfl) ?_
        obtain ⟨v5, e19, hv5⟩ := ev_dep hdep 5 19 (by kernel_rfl) (by kernel_rfl)
        replace hv5 : v5 = .agg #[.int .i64 p1, .int .i64 p2] := hv5
        subst hv5
        obtain ⟨v10, e24, hv10⟩ := ev_dep hdep 10 24 (by kernel_rfl) (by kernel_rfl)
        replace hv10 : v10 = .agg #[.int .i64 y1, .int .i64 y2] := hv10
        subst hv10
        refine step_val (x := .bool false) ?_ rfl
        simp [go_sem, e19, e24, hn2, hgu2]
      ·as_aux_lemma =>
        intro a w hb hoth hdep
        refine step_on (want_none rfl) ?_
        obtain ⟨v4, e18, hv4⟩ := ev_dep hdep 4 18 (by kernel_rfl) (by kernel_rfl)
        replace hv4 : v4 = .bool false := hv4
        subst hv4
        obtain ⟨v11, e25, hv11⟩ := ev_dep hdep 11 25 (by kernel_rfl) (by kernel_rfl)
        replace hv11 : v11 = .bool false := hv11
        subst hv11
        refine step_val (x := .bool false) ?_ rfl
        simp [go_sem, e18, e25]
      ·as_aux_lemma =>
        intro a w hb hoth hdep
        refine step_on (want_none rfl) ?_
        obtain ⟨v12, e26, hv12⟩ := ev_dep hdep 12 26 (by kernel_rfl) (by kernel_rfl)
        replace hv12 : v12 = .bool false := hv12
        subst hv12
        exact step_val ((BigFrame.run_move _ rfl w).trans (by rw [ev_of e26])) rfl
      ·as_aux_lemma =>
        intro a w hb hoth hdep
        refine step_on ((want_dep hdep 13 27 false rfl (by kernel_rfl) (by kernel_rfl) (fun v h => h)).trans rfl) ?_
        have e1 : a.tmps[1]? = some (.pointer (some ⟨b1, 0, none⟩)) := ev_other hoth 1 (by kernel_rfl) rfl
        obtain ⟨c0, c1, c2, c3, c4, c5, c6, c7, c8, c9, c10, c11⟩ := msgCells (HZ.out.2.1.below hb HZ.out.2.1.lt)
        refine step_val (x := aggMsg m) ?_ rfl
        simp [go_sem, e1, c0, c1, c2, c3, c4, c5, c6, c7, c8, c9, c10, c11, aggMsg]
      ·as_aux_lemma =>
        intro a w hb hoth hdep
        refine step_on ((want_dep hdep 13 27 false rfl (by kernel_rfl) (by kernel_rfl) (fun v h => h)).trans rfl) ?_
        obtain ⟨v14, e28, hv14⟩ := ev_dep hdep 14 28 (by kernel_rfl) (by kernel_rfl)
        replace hv14 : v14 = aggMsg m := hv14
        subst hv14
        refine step_call (f := 85) (args := #[aggMsg m]) ?_ ?_
        ·simp [go_sem, e28]
        ·have hcx := right_t m w
         rw [hri] at hcx
         (with_reducible refine hcx.mono ?_)
         clear hcx
         rintro e w2 ⟨rfl, hB⟩
         exact ⟨_, rfl, rfl, hB⟩
      ·as_aux_lemma =>
        intro a w hb hoth hdep
        refine step_on ((want_dep hdep 13 27 false rfl (by kernel_rfl) (by kernel_rfl) (fun v h => h)).trans rfl) ?_
        obtain ⟨v15, e29, hv15⟩ := ev_dep hdep 15 29 (by kernel_rfl) (by kernel_rfl)
        replace hv15 : v15 = .bool false := hv15
        subst hv15
        refine step_val (x := .bool true) ?_ rfl
        simp [go_sem, e29]
      ·as_aux_lemma =>
        intro a w hb hoth hdep
        refine step_on (want_none rfl) ?_
        obtain ⟨v13, e27, hv13⟩ := ev_dep hdep 13 27 (by kernel_rfl) (by kernel_rfl)
        replace hv13 : v13 = .bool false := hv13
        subst hv13
        obtain ⟨v16, e30, hv16⟩ := ev_dep hdep 16 30 (by kernel_rfl) (by kernel_rfl)
        replace hv16 : v16 = .bool true := hv16
        subst hv16
        refine step_val (x := .bool true) ?_ rfl
        simp [go_sem, e27, e30]
      case fin =>
       intro wz hbz
       rintro _ rfl
       rintro _ rfl
       rintro _ rfl
       rintro _ rfl
       rintro _ rfl
       rintro _ rfl
       rintro _ rfl
       rintro _ rfl
       rintro _ rfl
       rintro _ rfl
       rintro _ rfl
       rintro _ rfl
       rintro _ rfl
       rintro _ rfl
       rintro _ rfl
       rintro _ rfl
       rintro _ rfl
       rintro _ rfl
       refine FinC.nil ?_
       have HE := Lib.hid (HZ.out.2.2.2.trans (hbz.mono HZ.out.2.2.2.size))
       clear hbz hnm hn2 hgu hgu2
       go_wp2_with fail
       go_ret
       exact ⟨ret_int HK.out.symm, HE.out⟩
    ·rw [decide_eq_false hwp] at hn2
     have HK : Hid (checkM m = 1) := Lib.hid (by rw [HC.out]; rw [if_pos (.inr (.inl hwp))])
     refine wp_region_by 14 [eqV (aggMsg m), eqV (aggMsg (pureM m)), eqV (aggMsg m), eqV (.bool false), eqV (.bool false), eqV (.agg #[.int .i64 p1, .int .i64 p2]), eqV (.pointer (some ⟨b1, 0, none⟩)), eqV (.int .i64 ((q : Int) + 1)), eqV (.int .i64 (q : Int)), eqV (.pointer (some ⟨0, q * 2, none⟩)), eqV (.agg #[.int .i64 y1, .int .i64 y2]), eqV (.bool true), eqV (.bool true), eqV (.bool true), eqV (undef), eqV (undef), eqV (undef), eqV (.bool true)] (by kernel_rfl) (by kernel_rfl) rfl (by kernel_rfl) ⟨?_, ?_, ?_, ?_, ?_, ?_, ?_, ?_, ?_, ?_, ?_, ?_, ?_, ?_, ?_, ?_, ?_, ?_, trivial⟩ ?fin
     ·as_aux_lemma =>
       intro a w hb hoth hdep
       refine step_on (want_none rfl) ?_
       have e1 : a.tmps[1]? = some (.pointer (some ⟨b1, 0, none⟩)) := ev_other hoth 1 (by kernel_rfl) rfl
       obtain ⟨c0, c1, c2, c3, c4, c5, c6, c7, c8, c9, c10, c11⟩ := msgCells (HZ.out.2.1.below hb HZ.out.2.1.lt)
       refine step_val (x := aggMsg m) ?_ rfl
       simp [go_sem, e1, c0, c1, c2, c3, c4, c5, c6, c7, c8, c9, c10, c11, aggMsg]
     ·as_aux_lemma =>
       intro a w hb hoth hdep
       refine step_on (want_none rfl) ?_
       obtain ⟨v0, e14, hv0⟩ := ev_dep hdep 0 14 (by kernel_rfl) (by kernel_rfl)
       replace hv0 : v0 = aggMsg m := hv0
       subst hv0
       refine step_call (f := 84) (args := #[aggMsg m]) ?_ ?_
       ·simp [go_sem, e14]
       ·(with_reducible refine (pure_t m w).mono ?_)
        rintro e w2 ⟨rfl, hB⟩
        exact ⟨_, rfl, rfl, hB⟩
     ·as_aux_lemma =>
       intro a w hb hoth hdep
       refine step_on (want_none rfl) ?_
       have e1 : a.tmps[1]? = some (.pointer (some ⟨b1, 0, none⟩)) := ev_other hoth 1 (by kernel_rfl) rfl
       obtain ⟨c0, c1, c2, c3, c4, c5, c6, c7, c8, c9, c10, c11⟩ := msgCells (HZ.out.2.1.below hb HZ.out.2.1.lt)
       refine step_val (x := aggMsg m) ?_ rfl
       simp [go_sem, e1, c0, c1, c2, c3, c4, c5, c6, c7, c8, c9, c10, c11, aggMsg]
     ·as_aux_lemma =>
       intro a w hb hoth hdep
       refine step_on (want_none rfl) ?_
       obtain ⟨v1, e15, hv1⟩ := ev_dep hdep 1 15 (by kernel_rfl) (by kernel_rfl)
       replace hv1 : v1 = aggMsg (pureM m) := hv1
       subst hv1
       obtain ⟨v2, e16, hv2⟩ := ev_dep hdep 2 16 (by kernel_rfl) (by kernel_rfl)
       replace hv2 : v2 = aggMsg m := hv2
       subst hv2
       refine step_val (x := .bool false) ?_ rfl
       simp [go_sem, e15, e16, hnm, hgu]
     ·as_aux_lemma =>
       intro a w hb hoth hdep
       refine step_on (want_none rfl) ?_
       obtain ⟨v3, e17, hv3⟩ := ev_dep hdep 3 17 (by kernel_rfl) (by kernel_rfl)
       replace hv3 : v3 = .bool false := hv3
       subst hv3
       exact step_val ((BigFrame.run_move _ rfl w).trans (by rw [ev_of e17])) rfl
     ·as_aux_lemma =>
       intro a w hb hoth hdep
       refine step_on ((want_dep hdep 4 18 false rfl (by kernel_rfl) (by kernel_rfl) (fun v h => h)).trans rfl) ?_
       have e3 : a.tmps[3]? = some (.pointer (some ⟨b3, 0, none⟩)) := ev_other hoth 3 (by kernel_rfl) rfl
       have d0 : w.cell? ⟨b3, 0, none⟩ = some (.int .i64 p1) := ((HZ.out.1.below hb HZ.out.1.lt).cell 0).trans rfl
       have d1 : w.cell? ⟨b3, 1, none⟩ = some (.int .i64 p2) := ((HZ.out.1.below hb HZ.out.1.lt).cell 1).trans rfl
       refine step_val (x := .agg #[.int .i64 p1, .int .i64 p2]) ?_ rfl
       simp [go_sem, e3, d0, d1]
     ·as_aux_lemma =>
       intro a w hb hoth hdep
       refine step_on ((want_dep hdep 4 18 false rfl (by kernel_rfl) (by kernel_rfl) (fun v h => h)).trans rfl) ?_
       have e1 : a.tmps[1]? = some (.pointer (some ⟨b1, 0, none⟩)) := ev_other hoth 1 (by kernel_rfl) rfl
       refine step_val (x := .pointer (some ⟨b1, 0, none⟩)) ?_ rfl
       simp [go_sem, e1]
     ·as_aux_lemma =>
       intro a w hb hoth hdep
       refine step_on ((want_dep hdep 4 18 false rfl (by kernel_rfl) (by kernel_rfl) (fun v h => h)).trans rfl) ?_
       obtain ⟨v6, e20, hv6⟩ := ev_dep hdep 6 20 (by kernel_rfl) (by kernel_rfl)
       replace hv6 : v6 = .pointer (some ⟨b1, 0, none⟩) := hv6
       subst hv6
       have c0 : w.cell? ⟨b1, 0, none⟩ = some (.int .i64 ((q : Int) + 1)) := by rw [← HQ.out.1]; exact ((HZ.out.2.1.below hb HZ.out.2.1.lt).cell 0).trans rfl
       refine step_val (x := .int .i64 ((q : Int) + 1)) ?_ rfl
       simp [go_sem, e20, c0]
     ·as_aux_lemma =>
       intro a w hb hoth hdep
       refine step_on ((want_dep hdep 4 18 false rfl (by kernel_rfl) (by kernel_rfl) (fun v h => h)).trans rfl) ?_
       obtain ⟨v7, e21, hv7⟩ := ev_dep hdep 7 21 (by kernel_rfl) (by kernel_rfl)
       replace hv7 : v7 = .int .i64 ((q : Int) + 1) := hv7
       subst hv7
       refine step_val (x := .int .i64 (q : Int)) ?_ rfl
       simp [go_sem, e21, hwr, hwr2]
     ·as_aux_lemma =>
       intro a w hb hoth hdep
       refine step_on ((want_dep hdep 4 18 false rfl (by kernel_rfl) (by kernel_rfl) (fun v h => h)).trans rfl) ?_
       obtain ⟨v8, e22, hv8⟩ := ev_dep hdep 8 22 (by kernel_rfl) (by kernel_rfl)
       replace hv8 : v8 = .int .i64 (q : Int) := hv8
       subst hv8
       refine step_val (x := .pointer (some ⟨0, q * 2, none⟩)) ?_ rfl
       simp [go_sem, e22, hq8, hq9]
     ·as_aux_lemma =>
       intro a w hb hoth hdep
       refine step_on ((want_dep hdep 4 18 false rfl (by kernel_rfl) (by kernel_rfl) (fun v h => h)).trans rfl) ?_
       obtain ⟨v9, e23, hv9⟩ := ev_dep hdep 9 23 (by kernel_rfl) (by kernel_rfl)
       replace hv9 : v9 = .pointer (some ⟨0, q * 2, none⟩) := hv9
       subst hv9
       have d0 : w.cell? ⟨0, q * 2, none⟩ = some (.int .i64 y1) := by rw [← HY.out.1]; exact (HZ.out.2.2.1.below hb).cell (q * 2) (by omega)
       have d1 : w.cell? ⟨0, q * 2 + 1, none⟩ = some (.int .i64 y2) := by rw [← HY.out.2]; exact (HZ.out.2.2.1.below hb).cell (q * 2 + 1) (by omega)
       refine step_val (x := .agg #[.int .i64 y1, .int .i64 y2]) ?_ rfl
       simp [go_sem, e23, d0, d1]
     ·as_aux_lemma =>
       intro a w hb hoth hdep
       refine step_on ((want_dep hdep 4 18 false rfl (by kernel_rfl) (by kernel_rfl) (fun v h => h)).trans rfl) ?_
       obtain ⟨v5, e19, hv5⟩ := ev_dep hdep 5 19 (by kernel_rfl) (by kernel_rfl)
       replace hv5 : v5 = .agg #[.int .i64 p1, .int .i64 p2] := hv5
       subst hv5
       obtain ⟨v10, e24, hv10⟩ := ev_dep hdep 10 24 (by kernel_rfl) (by kernel_rfl)
       replace hv10 : v10 = .agg #[.int .i64 y1, .int .i64 y2] := hv10
       subst hv10
       refine step_val (x := .bool true) ?_ rfl
       simp [go_sem, e19, e24, hn2, hgu2]
     ·as_aux_lemma =>
       intro a w hb hoth hdep
       refine step_on (want_none rfl) ?_
       obtain ⟨v4, e18, hv4⟩ := ev_dep hdep 4 18 (by kernel_rfl) (by kernel_rfl)
       replace hv4 : v4 = .bool false := hv4
       subst hv4
       obtain ⟨v11, e25, hv11⟩ := ev_dep hdep 11 25 (by kernel_rfl) (by kernel_rfl)
       replace hv11 : v11 = .bool true := hv11
       subst hv11
       refine step_val (x := .bool true) ?_ rfl
       simp [go_sem, e18, e25]
     ·as_aux_lemma =>
       intro a w hb hoth hdep
       refine step_on (want_none rfl) ?_
       obtain ⟨v12, e26, hv12⟩ := ev_dep hdep 12 26 (by kernel_rfl) (by kernel_rfl)
       replace hv12 : v12 = .bool true := hv12
       subst hv12
       exact step_val ((BigFrame.run_move _ rfl w).trans (by rw [ev_of e26])) rfl
     ·as_aux_lemma =>
       intro a w hb hoth hdep
       exact step_off ((want_dep hdep 13 27 true rfl (by kernel_rfl) (by kernel_rfl) (fun v h => h)).trans rfl) rfl
     ·as_aux_lemma =>
       intro a w hb hoth hdep
       exact step_off ((want_dep hdep 13 27 true rfl (by kernel_rfl) (by kernel_rfl) (fun v h => h)).trans rfl) rfl
     ·as_aux_lemma =>
       intro a w hb hoth hdep
       exact step_off ((want_dep hdep 13 27 true rfl (by kernel_rfl) (by kernel_rfl) (fun v h => h)).trans rfl) rfl
     ·as_aux_lemma =>
       intro a w hb hoth hdep
       refine step_on (want_none rfl) ?_
       obtain ⟨v13, e27, hv13⟩ := ev_dep hdep 13 27 (by kernel_rfl) (by kernel_rfl)
       replace hv13 : v13 = .bool true := hv13
       subst hv13
       obtain ⟨v16, e30, hv16⟩ := ev_dep hdep 16 30 (by kernel_rfl) (by kernel_rfl)
       replace hv16 : v16 = undef := hv16
       subst hv16
       refine step_val (x := .bool true) ?_ rfl
       simp [go_sem, e27, e30]
     case fin =>
      intro wz hbz
      rintro _ rfl
      rintro _ rfl
      rintro _ rfl
      rintro _ rfl
      rintro _ rfl
      rintro _ rfl
      rintro _ rfl
      rintro _ rfl
      rintro _ rfl
      rintro _ rfl
      rintro _ rfl
      rintro _ rfl
      rintro _ rfl
      rintro _ rfl
      rintro _ rfl
      rintro _ rfl
      rintro _ rfl
      rintro _ rfl
      refine FinC.nil ?_
      have HE := Lib.hid (HZ.out.2.2.2.trans (hbz.mono HZ.out.2.2.2.size))
      clear hbz hnm hn2 hgu hgu2
      go_wp2_with fail
      go_ret
      exact ⟨ret_int HK.out.symm, HE.out⟩
   ·rw [decide_eq_false hpm] at hnm
    have HK : Hid (checkM m = 1) := Lib.hid (by rw [HC.out]; rw [if_pos (.inl hpm)])
    refine wp_region_by 14 [eqV (aggMsg m), eqV (aggMsg (pureM m)), eqV (aggMsg m), eqV (.bool true), eqV (.bool true), eqV (undef), eqV (undef), eqV (undef), eqV (undef), eqV (undef), eqV (undef), eqV (undef), eqV (.bool true), eqV (.bool true), eqV (undef), eqV (undef), eqV (undef), eqV (.bool true)] (by kernel_rfl) (by kernel_rfl) rfl (by kernel_rfl) ⟨?_, ?_, ?_, ?_, ?_, ?_, ?_, ?_, ?_, ?_, ?_, ?_, ?_, ?_, ?_, ?_, ?_, ?_, trivial⟩ ?fin
    ·as_aux_lemma =>
      intro a w hb hoth hdep
      refine step_on (want_none rfl) ?_
      have e1 : a.tmps[1]? = some (.pointer (some ⟨b1, 0, none⟩)) := ev_other hoth 1 (by kernel_rfl) rfl
      obtain ⟨c0, c1, c2, c3, c4, c5, c6, c7, c8, c9, c10, c11⟩ := msgCells (HZ.out.2.1.below hb HZ.out.2.1.lt)
      refine step_val (x := aggMsg m) ?_ rfl
      simp [go_sem, e1, c0, c1, c2, c3, c4, c5, c6, c7, c8, c9, c10, c11, aggMsg]
    ·as_aux_lemma =>
      intro a w hb hoth hdep
      refine step_on (want_none rfl) ?_
      obtain ⟨v0, e14, hv0⟩ := ev_dep hdep 0 14 (by kernel_rfl) (by kernel_rfl)
      replace hv0 : v0 = aggMsg m := hv0
      subst hv0
      refine step_call (f := 84) (args := #[aggMsg m]) ?_ ?_
      ·simp [go_sem, e14]
      ·(with_reducible refine (pure_t m w).mono ?_)
       rintro e w2 ⟨rfl, hB⟩
       exact ⟨_, rfl, rfl, hB⟩
    ·as_aux_lemma =>
      intro a w hb hoth hdep
      refine step_on (want_none rfl) ?_
      have e1 : a.tmps[1]? = some (.pointer (some ⟨b1, 0, none⟩)) := ev_other hoth 1 (by kernel_rfl) rfl
      obtain ⟨c0, c1, c2, c3, c4, c5, c6, c7, c8, c9, c10, c11⟩ := msgCells (HZ.out.2.1.below hb HZ.out.2.1.lt)
      refine step_val (x := aggMsg m) ?_ rfl
      simp [go_sem, e1, c0, c1, c2, c3, c4, c5, c6, c7, c8, c9, c10, c11, aggMsg]
    ·as_aux_lemma =>
      intro a w hb hoth hdep
      refine step_on (want_none rfl) ?_
      obtain ⟨v1, e15, hv1⟩ := ev_dep hdep 1 15 (by kernel_rfl) (by kernel_rfl)
      replace hv1 : v1 = aggMsg (pureM m) := hv1
      subst hv1
      obtain ⟨v2, e16, hv2⟩ := ev_dep hdep 2 16 (by kernel_rfl) (by kernel_rfl)
      replace hv2 : v2 = aggMsg m := hv2
      subst hv2
      refine step_val (x := .bool true) ?_ rfl
      simp [go_sem, e15, e16, hnm, hgu]
    ·as_aux_lemma =>
      intro a w hb hoth hdep
      refine step_on (want_none rfl) ?_
      obtain ⟨v3, e17, hv3⟩ := ev_dep hdep 3 17 (by kernel_rfl) (by kernel_rfl)
      replace hv3 : v3 = .bool true := hv3
      subst hv3
      exact step_val ((BigFrame.run_move _ rfl w).trans (by rw [ev_of e17])) rfl
    ·as_aux_lemma =>
      intro a w hb hoth hdep
      exact step_off ((want_dep hdep 4 18 true rfl (by kernel_rfl) (by kernel_rfl) (fun v h => h)).trans rfl) rfl
    ·as_aux_lemma =>
      intro a w hb hoth hdep
      exact step_off ((want_dep hdep 4 18 true rfl (by kernel_rfl) (by kernel_rfl) (fun v h => h)).trans rfl) rfl
    ·as_aux_lemma =>
      intro a w hb hoth hdep
      exact step_off ((want_dep hdep 4 18 true rfl (by kernel_rfl) (by kernel_rfl) (fun v h => h)).trans rfl) rfl
    ·as_aux_lemma =>
      intro a w hb hoth hdep
      exact step_off ((want_dep hdep 4 18 true rfl (by kernel_rfl) (by kernel_rfl) (fun v h => h)).trans rfl) rfl
    ·as_aux_lemma =>
      intro a w hb hoth hdep
      exact step_off ((want_dep hdep 4 18 true rfl (by kernel_rfl) (by kernel_rfl) (fun v h => h)).trans rfl) rfl
    ·as_aux_lemma =>
      intro a w hb hoth hdep
      exact step_off ((want_dep hdep 4 18 true rfl (by kernel_rfl) (by kernel_rfl) (fun v h => h)).trans rfl) rfl
    ·as_aux_lemma =>
      intro a w hb hoth hdep
      exact step_off ((want_dep hdep 4 18 true rfl (by kernel_rfl) (by kernel_rfl) (fun v h => h)).trans rfl) rfl
    ·as_aux_lemma =>
      intro a w hb hoth hdep
      refine step_on (want_none rfl) ?_
      obtain ⟨v4, e18, hv4⟩ := ev_dep hdep 4 18 (by kernel_rfl) (by kernel_rfl)
      replace hv4 : v4 = .bool true := hv4
      subst hv4
      obtain ⟨v11, e25, hv11⟩ := ev_dep hdep 11 25 (by kernel_rfl) (by kernel_rfl)
      replace hv11 : v11 = undef := hv11
      subst hv11
      refine step_val (x := .bool true) ?_ rfl
      simp [go_sem, e18, e25]
    ·as_aux_lemma =>
      intro a w hb hoth hdep
      refine step_on (want_none rfl) ?_
      obtain ⟨v12, e26, hv12⟩ := ev_dep hdep 12 26 (by kernel_rfl) (by kernel_rfl)
      replace hv12 : v12 = .bool true := hv12
      subst hv12
      exact step_val ((BigFrame.run_move _ rfl w).trans (by rw [ev_of e26])) rfl
    ·as_aux_lemma =>
      intro a w hb hoth hdep
      exact step_off ((want_dep hdep 13 27 true rfl (by kernel_rfl) (by kernel_rfl) (fun v h => h)).trans rfl) rfl
    ·as_aux_lemma =>
      intro a w hb hoth hdep
      exact step_off ((want_dep hdep 13 27 true rfl (by kernel_rfl) (by kernel_rfl) (fun v h => h)).trans rfl) rfl
    ·as_aux_lemma =>
      intro a w hb hoth hdep
      exact step_off ((want_dep hdep 13 27 true rfl (by kernel_rfl) (by kernel_rfl) (fun v h => h)).trans rfl) rfl
    ·as_aux_lemma =>
      intro a w hb hoth hdep
      refine step_on (want_none rfl) ?_
      obtain ⟨v13, e27, hv13⟩ := ev_dep hdep 13 27 (by kernel_rfl) (by kernel_rfl)
      replace hv13 : v13 = .bool true := hv13
      subst hv13
      obtain ⟨v16, e30, hv16⟩ := ev_dep hdep 16 30 (by kernel_rfl) (by kernel_rfl)
      replace hv16 : v16 = undef := hv16
      subst hv16
      refine step_val (x := .bool true) ?_ rfl
      simp [go_sem, e27, e30]
    case fin =>
     intro wz hbz
     rintro _ rfl
     rintro _ rfl
     rintro _ rfl
     rintro _ rfl
     rintro _ rfl
     rintro _ rfl
     rintro _ rfl
     rintro _ rfl
     rintro _ rfl
     rintro _ rfl
     rintro _ rfl
     rintro _ rfl
     rintro _ rfl
     rintro _ rfl
     rintro _ rfl
     rintro _ rfl
     rintro _ rfl
     rintro _ rfl
     refine FinC.nil ?_
     have HE := Lib.hid (HZ.out.2.2.2.trans (hbz.mono HZ.out.2.2.2.size))
     clear hbz hnm hn2 hgu hgu2
     go_wp2_with fail
     go_ret
     exact ⟨ret_int HK.out.symm, HE.out⟩
end Go.Proofs.YthhnocnkicoimaaDoor
