/-
  LAYER 35 (msg): the document's Check of a hello and of a done.
-/
import Derived.Test.YthhnocnkicoimaaDoorMsg10
import Derived.Test.YthhnocnkicoimaaDoorMsg7
import Derived.Test.YthhnocnkicoimaaDoorAnyAuto
import Derived.Deep.Cut
set_option linter.unusedVariables false
set_option linter.unusedSimpArgs false
namespace Go.Proofs.YthhnocnkicoimaaDoor
open Go.RowKit

theorem res_zero_rightS : rightR ⟨0, 0, 0⟩ = true := by decide
theorem sright_k1 (m : LMsg) (hk : m.kind = 1) (hp : pureM m = m) : rightM m = (inM m.inc 1 2147483647 && inM m.tick 0 1099511627776 && rightR m.res) := by
  simp [rightM, bndM, okB, hk, namesM, intsM]
  try (simp only [Bool.and_assoc])
set_option maxRecDepth 100000 in
set_option maxHeartbeats 12800000 in
theorem scheck_k1 (m : LMsg) (hk : m.kind = 1) (w : World) : Calls Tryd.prog 43 #[aggMsg m] w fun e w' => e = .returned (.int .i64 (checkM m)) ∧ Below w.heap.size w w' := by
  have hright := sright_k1 m hk
  have HC : Hid (checkM m = if pureM m ≠ m ∨ (placeM m.frm, placeM m.to_) ≠ (2, 1) ∨ rightM m = false then 1 else 0) := Lib.hid (by unfold checkM; rw [hk, if_neg (by decide)]; rfl)
  have h1 := Blk.new w 38 (boxMsg m)
  have hB : Below w.heap.size w (w.alloc (.cells (boxMsg m) 38)) := (Below.refl _ _).alloc (Nat.le_refl _) _
  have c0 : (w.alloc (.cells (boxMsg m) 38)).cell? ⟨w.heap.size, 0, none⟩ = some (.int .i64 1) := by rw [← hk]; exact (h1.cell 0).trans rfl
  have H0 := Lib.hid (And.intro h1 hB)
  have HK0 := Lib.hid hk
  have HRR := Lib.hid hright
  clear h1 hB hk hright
  go_enter Tryd.func43, Tryd.ntmps43
  go_wp2_with fail
  generalize w.alloc (.cells (boxMsg m) 38) = w1 at H0 c0 ⊢
  obtain ⟨b1, hb1⟩ : ∃ b1, w.heap.size = b1 := ⟨_, rfl⟩
  have h1 : Blk w1 b1 38 (boxMsg m) := by rw [← hb1]; exact H0.out.1
  rw [hb1] at c0
  try simp only [hb1]
  go_wp2_with fail
  (with_reducible refine (rnames_k1 w1).mono ?_)
  rintro e w2 ⟨rfl, hB2⟩
  have H2 := Lib.hid (And.intro (h1.below hB2 h1.lt) (H0.out.2.trans (hB2.mono H0.out.2.size)))
  have d0 : w2.cell? ⟨b1, 0, none⟩ = some (.int .i64 1) := (hB2.cell (p := ⟨b1, 0, none⟩) h1.lt).trans c0
  clear h1 hb1 H0 c0 hB2
  go_wp2_with fail
  (with_reducible refine (rends_k1 w2).mono ?_)
  rintro e w3 ⟨rfl, hB3⟩
  have HZ := Lib.hid (And.intro (H2.out.1.below hB3 H2.out.1.lt) (H2.out.2.trans (hB3.mono H2.out.2.size)))
  clear d0 hB3 H2
  go_wp2_with fail
  have hgu := fun (op : BinOp) (x y : Operand) (a b : LMsg) (W : World) => guardMsg op x y a b W
  have hnm := neqMsg (pureM m) m
  obtain ⟨p1, hp1⟩ : ∃ p, placeM m.frm = p := ⟨_, rfl⟩
  obtain ⟨p2, hp2⟩ : ∃ p, placeM m.to_ = p := ⟨_, rfl⟩
  have HPP := Lib.hid (And.intro hp1 hp2)
  rw [hp1, hp2] at HC
  clear hp1 hp2
  by_cases hpm : pureM m = m
  · rw [decide_eq_true hpm] at hnm
    by_cases hf : p1 = 2
    · have hpf : (p1 != 2) = false := by simp [hf]
      by_cases ht : p2 = 1
      · have hpt : (p2 != 1) = false := by simp [ht]
        have hwp : (p1, p2) = ((2 : Int), (1 : Int)) := by rw [hf, ht]
        clear hf ht
        refine wp_region_autoD 19 [.o (eqV (aggMsg m)), .o (eqV (aggMsg (pureM m))), .o (eqV (aggMsg m)), .b false, .b false, .o (eqV (.pointer (some ⟨b1, 1, none⟩))), .o (eqV (.int .i64 m.frm)), .o (eqV (.int .i64 p1)), .o (eqV (.int .i64 2)), .b false, .b false, .b false, .o (eqV (.pointer (some ⟨b1, 2, none⟩))), .o (eqV (.int .i64 m.to_)), .o (eqV (.int .i64 p2)), .o (eqV (.int .i64 1)), .b false, .b false] [false, false, false, false, true, false, false, false, false, false, true, true, false, false, false, false, false, true] (by kernel_rfl) (by kernel_rfl) rfl (by kernel_rfl) (by kernel_rfl) ⟨?_, ?_, ?_, ?_, ?_, ?_, ?_, ?_, ?_, ?_, ?_, ?_, ?_, ?_, trivial⟩ ?fin
        · intro a w hb hoth hdep
          refine step_on (want_none rfl) ?_
          have e1 : a.tmps[1]? = some (.pointer (some ⟨b1, 0, none⟩)) := ev_other hoth 1 (by kernel_rfl) rfl
          obtain ⟨c0, c1, c2, c3, c4, c5, c6, c7, c8, c9, c10, c11⟩ := msgCells (HZ.out.1.below hb HZ.out.1.lt)
          refine step_val (x := aggMsg m) ?_ rfl
          simp [go_sem, e1, c0, c1, c2, c3, c4, c5, c6, c7, c8, c9, c10, c11, aggMsg]
        · intro a w hb hoth hdep
          refine step_on (want_none rfl) ?_
          obtain ⟨v0, e19, hv0⟩ := ev_dep hdep 0 19 (by kernel_rfl) (by kernel_rfl)
          replace hv0 : v0 = aggMsg m := hv0
          subst hv0
          refine step_call (f := 77) (args := #[aggMsg m]) ?_ ?_
          · simp [go_sem, e19]
          · (with_reducible refine (rpure_t m w).mono ?_)
            rintro e w2 ⟨rfl, hB⟩
            exact ⟨_, rfl, rfl, hB⟩
        · intro a w hb hoth hdep
          refine step_on (want_none rfl) ?_
          have e1 : a.tmps[1]? = some (.pointer (some ⟨b1, 0, none⟩)) := ev_other hoth 1 (by kernel_rfl) rfl
          obtain ⟨c0, c1, c2, c3, c4, c5, c6, c7, c8, c9, c10, c11⟩ := msgCells (HZ.out.1.below hb HZ.out.1.lt)
          refine step_val (x := aggMsg m) ?_ rfl
          simp [go_sem, e1, c0, c1, c2, c3, c4, c5, c6, c7, c8, c9, c10, c11, aggMsg]
        · intro a w hb hoth hdep
          refine step_on (want_none rfl) ?_
          obtain ⟨v1, e20, hv1⟩ := ev_dep hdep 1 20 (by kernel_rfl) (by kernel_rfl)
          replace hv1 : v1 = aggMsg (pureM m) := hv1
          subst hv1
          obtain ⟨v2, e21, hv2⟩ := ev_dep hdep 2 21 (by kernel_rfl) (by kernel_rfl)
          replace hv2 : v2 = aggMsg m := hv2
          subst hv2
          refine step_val (x := .bool false) ?_ rfl
          simp [go_sem, e20, e21, hnm, hgu]
        · intro a w hb hoth hdep
          refine step_on ((want_dep hdep 4 23 false rfl (by kernel_rfl) (by kernel_rfl) (fun v h => h)).trans rfl) ?_
          have e1 : a.tmps[1]? = some (.pointer (some ⟨b1, 0, none⟩)) := ev_other hoth 1 (by kernel_rfl) rfl
          refine step_val (x := .pointer (some ⟨b1, 1, none⟩)) ?_ rfl
          simp [go_sem, e1]
        · intro a w hb hoth hdep
          refine step_on ((want_dep hdep 4 23 false rfl (by kernel_rfl) (by kernel_rfl) (fun v h => h)).trans rfl) ?_
          obtain ⟨v5, e24, hv5⟩ := ev_dep hdep 5 24 (by kernel_rfl) (by kernel_rfl)
          replace hv5 : v5 = .pointer (some ⟨b1, 1, none⟩) := hv5
          subst hv5
          have c1 : w.cell? ⟨b1, 1, none⟩ = some (.int .i64 m.frm) := ((HZ.out.1.below hb HZ.out.1.lt).cell 1).trans rfl
          refine step_val (x := .int .i64 m.frm) ?_ rfl
          simp [go_sem, e24, c1]
        · intro a w hb hoth hdep
          refine step_on ((want_dep hdep 4 23 false rfl (by kernel_rfl) (by kernel_rfl) (fun v h => h)).trans rfl) ?_
          obtain ⟨v6, e25, hv6⟩ := ev_dep hdep 6 25 (by kernel_rfl) (by kernel_rfl)
          replace hv6 : v6 = .int .i64 m.frm := hv6
          subst hv6
          refine step_call (f := 78) (args := #[.int .i64 m.frm]) ?_ ?_
          · simp [go_sem, e25]
          · have hcx := refPlace_t m.frm w
            rw [HPP.out.1] at hcx
            (with_reducible refine hcx.mono ?_)
            clear hcx
            rintro e w2 ⟨rfl, rfl⟩
            exact ⟨_, rfl, rfl, Below.refl _ _⟩
        · intro a w hb hoth hdep
          refine step_on ((want_dep hdep 4 23 false rfl (by kernel_rfl) (by kernel_rfl) (fun v h => h)).trans rfl) ?_
          have e4 : a.tmps[4]? = some (.int .i64 2) := ev_other hoth 4 (by kernel_rfl) rfl
          exact step_val ((BigFrame.run_move _ rfl w).trans (by rw [ev_of e4])) rfl
        · intro a w hb hoth hdep
          refine step_on ((want_dep hdep 4 23 false rfl (by kernel_rfl) (by kernel_rfl) (fun v h => h)).trans rfl) ?_
          obtain ⟨v7, e26, hv7⟩ := ev_dep hdep 7 26 (by kernel_rfl) (by kernel_rfl)
          replace hv7 : v7 = .int .i64 p1 := hv7
          subst hv7
          obtain ⟨v8, e27, hv8⟩ := ev_dep hdep 8 27 (by kernel_rfl) (by kernel_rfl)
          replace hv8 : v8 = .int .i64 2 := hv8
          subst hv8
          refine step_val (x := .bool false) ?_ rfl
          simp [go_sem, e26, e27, hpf]
        · intro a w hb hoth hdep
          refine step_on ((want_dep hdep 11 30 false rfl (by kernel_rfl) (by kernel_rfl) (fun v h => h)).trans rfl) ?_
          have e1 : a.tmps[1]? = some (.pointer (some ⟨b1, 0, none⟩)) := ev_other hoth 1 (by kernel_rfl) rfl
          refine step_val (x := .pointer (some ⟨b1, 2, none⟩)) ?_ rfl
          simp [go_sem, e1]
        · intro a w hb hoth hdep
          refine step_on ((want_dep hdep 11 30 false rfl (by kernel_rfl) (by kernel_rfl) (fun v h => h)).trans rfl) ?_
          obtain ⟨v12, e31, hv12⟩ := ev_dep hdep 12 31 (by kernel_rfl) (by kernel_rfl)
          replace hv12 : v12 = .pointer (some ⟨b1, 2, none⟩) := hv12
          subst hv12
          have c2 : w.cell? ⟨b1, 2, none⟩ = some (.int .i64 m.to_) := ((HZ.out.1.below hb HZ.out.1.lt).cell 2).trans rfl
          refine step_val (x := .int .i64 m.to_) ?_ rfl
          simp [go_sem, e31, c2]
        · intro a w hb hoth hdep
          refine step_on ((want_dep hdep 11 30 false rfl (by kernel_rfl) (by kernel_rfl) (fun v h => h)).trans rfl) ?_
          obtain ⟨v13, e32, hv13⟩ := ev_dep hdep 13 32 (by kernel_rfl) (by kernel_rfl)
          replace hv13 : v13 = .int .i64 m.to_ := hv13
          subst hv13
          refine step_call (f := 78) (args := #[.int .i64 m.to_]) ?_ ?_
          · simp [go_sem, e32]
          · have hcx := refPlace_t m.to_ w
            rw [HPP.out.2] at hcx
            (with_reducible refine hcx.mono ?_)
            clear hcx
            rintro e w2 ⟨rfl, rfl⟩
            exact ⟨_, rfl, rfl, Below.refl _ _⟩
        · intro a w hb hoth hdep
          refine step_on ((want_dep hdep 11 30 false rfl (by kernel_rfl) (by kernel_rfl) (fun v h => h)).trans rfl) ?_
          have e5 : a.tmps[5]? = some (.int .i64 1) := ev_other hoth 5 (by kernel_rfl) rfl
          exact step_val ((BigFrame.run_move _ rfl w).trans (by rw [ev_of e5])) rfl
        · intro a w hb hoth hdep
          refine step_on ((want_dep hdep 11 30 false rfl (by kernel_rfl) (by kernel_rfl) (fun v h => h)).trans rfl) ?_
          obtain ⟨v14, e33, hv14⟩ := ev_dep hdep 14 33 (by kernel_rfl) (by kernel_rfl)
          replace hv14 : v14 = .int .i64 p2 := hv14
          subst hv14
          obtain ⟨v15, e34, hv15⟩ := ev_dep hdep 15 34 (by kernel_rfl) (by kernel_rfl)
          replace hv15 : v15 = .int .i64 1 := hv15
          subst hv15
          refine step_val (x := .bool false) ?_ rfl
          simp [go_sem, e33, e34, hpt]
        case fin =>
          intro wz hbz
          iterate 18 (rintro _ rfl)
          refine FinC.nil ?_
          have HE := Lib.hid (And.intro (HZ.out.1.below hbz HZ.out.1.lt) (HZ.out.2.trans (hbz.mono HZ.out.2.size)))
          have HRT := Lib.hid (HRR.out hpm)
          clear hbz hnm hgu
          go_wp2
          go_loopw [6] (fun i wr => (i = .int .i64 0 ∧ Hid (True) ∧ Below w.heap.size w wr ∧ Below wz.heap.size wz wr) ∨ (i = .int .i64 1 ∧ Hid (inM m.inc 1 2147483647 = true) ∧ Below w.heap.size w wr ∧ Below wz.heap.size wz wr) ∨ (i = .int .i64 2 ∧ Hid (inM m.inc 1 2147483647 = true ∧ inM m.tick 0 1099511627776 = true) ∧ Below w.heap.size w wr ∧ Below wz.heap.size wz wr) ∨ (i = .int .i64 3 ∧ Hid (inM m.inc 1 2147483647 = true ∧ inM m.tick 0 1099511627776 = true ∧ rightR m.res = true) ∧ Below w.heap.size w wr ∧ Below wz.heap.size wz wr)) (fun i _ => 3 - (intOf i).toNat)
          case atStart => exact .inl ⟨rfl, Lib.hid trivial, HE.out.2, Below.refl _ _⟩
          case round =>
            rcases hrel with ⟨rfl, HD, hbw, hbz2⟩ | ⟨rfl, HD, hbw, hbz2⟩ | ⟨rfl, HD, hbw, hbz2⟩ | ⟨rfl, HD, hbw, hbz2⟩
            · have HBW := Lib.hid (And.intro hbw hbz2)
              have HRr := Lib.hid (HE.out.1.below hbz2 HE.out.1.lt)
              clear hbw hbz2
              rcases Bool.eq_false_or_eq_true (inM m.inc 1 2147483647) with ht | ht
              · go_upto_region 11 with fail
                refine wp_region_autoL 46 [.o (eqV (.int .u8 73)), .b false, .b false, .u, .u, .u, .u, .b false, .b false, .o (eqV (.int .u8 73)), .b true, .b true, .o (eqV (.pointer (some ⟨b1, 4, none⟩))), .o (eqV (.int .i64 m.inc)), .b true, .b false, .b false, .b false, .b false, .o (eqV (.int .u8 73)), .b false, .b false, .u, .u, .u, .u, .b false, .b false, .b false, .o (eqV (.int .u8 73)), .b false, .b false, .u, .u, .u, .u, .b false, .b false, .b false, .o (eqV (.int .u8 73)), .b false, .b false, .u, .u, .u, .u, .b false, .b false, .b false, .o (eqV (.int .u8 73)), .b false, .b false, .u, .u, .u, .u, .b false, .b false, .b false, .o (eqV (.int .u8 73)), .b false, .b false, .u, .u, .u, .u, .b false, .b false] [false, false, true, true, true, true, true, true, true, false, false, true, false, false, false, true, true, true, true, false, false, true, true, true, true, true, true, true, true, false, false, true, true, true, true, true, true, true, true, false, false, true, true, true, true, true, true, true, true, false, false, true, true, true, true, true, true, true, true, false, false, true, true, true, true, true, true, true] (by kernel_rfl) rfl (by kernel_rfl) (by kernel_rfl) ⟨?_, ?_, ?_, ?_, ?_, ?_, ?_, ?_, ?_, ?_, ?_, ?_, ?_, ?_, ?_, ?_, ?_, trivial⟩ ?fin
                · intro a w hb hoth hdep
                  refine step_on (want_none rfl) ?_
                  have e7 : a.tmps[7]? = some (.int .u8 73) := ev_other hoth 7 (by kernel_rfl) rfl
                  exact step_val ((BigFrame.run_move _ rfl w).trans (by rw [ev_of e7])) rfl
                · intro a w hb hoth hdep
                  refine step_on (want_none rfl) ?_
                  obtain ⟨v0, e46, hv0⟩ := ev_dep hdep 0 46 (by kernel_rfl) (by kernel_rfl)
                  replace hv0 : v0 = .int .u8 73 := hv0
                  subst hv0
                  refine step_val (x := .bool false) ?_ rfl
                  simp [go_sem, e46]
                · intro a w hb hoth hdep
                  refine step_on ((want_dep hdep 8 54 false rfl (by kernel_rfl) (by kernel_rfl) (fun v h => h)).trans rfl) ?_
                  have e7 : a.tmps[7]? = some (.int .u8 73) := ev_other hoth 7 (by kernel_rfl) rfl
                  exact step_val ((BigFrame.run_move _ rfl w).trans (by rw [ev_of e7])) rfl
                · intro a w hb hoth hdep
                  refine step_on ((want_dep hdep 8 54 false rfl (by kernel_rfl) (by kernel_rfl) (fun v h => h)).trans rfl) ?_
                  obtain ⟨v9, e55, hv9⟩ := ev_dep hdep 9 55 (by kernel_rfl) (by kernel_rfl)
                  replace hv9 : v9 = .int .u8 73 := hv9
                  subst hv9
                  refine step_val (x := .bool true) ?_ rfl
                  simp [go_sem, e55]
                · intro a w hb hoth hdep
                  refine step_on ((want_dep hdep 11 57 true rfl (by kernel_rfl) (by kernel_rfl) (fun v h => h)).trans rfl) ?_
                  have e1 : a.tmps[1]? = some (.pointer (some ⟨b1, 0, none⟩)) := ev_other hoth 1 (by kernel_rfl) rfl
                  refine step_val (x := .pointer (some ⟨b1, 4, none⟩)) ?_ rfl
                  simp [go_sem, e1]
                · intro a w hb hoth hdep
                  refine step_on ((want_dep hdep 11 57 true rfl (by kernel_rfl) (by kernel_rfl) (fun v h => h)).trans rfl) ?_
                  obtain ⟨v12, e58, hv12⟩ := ev_dep hdep 12 58 (by kernel_rfl) (by kernel_rfl)
                  replace hv12 : v12 = .pointer (some ⟨b1, 4, none⟩) := hv12
                  subst hv12
                  have g4 : w.cell? ⟨b1, 4, none⟩ = some (.int .i64 m.inc) := ((HRr.out.below hb HRr.out.lt).cell 4).trans rfl
                  refine step_val (x := .int .i64 m.inc) ?_ rfl
                  simp [go_sem, e58, g4]
                · intro a w hb hoth hdep
                  refine step_on ((want_dep hdep 11 57 true rfl (by kernel_rfl) (by kernel_rfl) (fun v h => h)).trans rfl) ?_
                  obtain ⟨v13, e59, hv13⟩ := ev_dep hdep 13 59 (by kernel_rfl) (by kernel_rfl)
                  replace hv13 : v13 = .int .i64 m.inc := hv13
                  subst hv13
                  refine step_call (f := 79) (args := #[.int .i64 m.inc, .int .i64 1, .int .i64 2147483647]) ?_ ?_
                  · simp [go_sem, e59]
                  · have hcx := refIn_t m.inc 1 2147483647 w
                    rw [ht] at hcx
                    (with_reducible refine hcx.mono ?_)
                    clear hcx
                    rintro e w2 ⟨rfl, rfl⟩
                    exact ⟨_, rfl, rfl, Below.refl _ _⟩
                · intro a w hb hoth hdep
                  refine step_on ((want_dep hdep 18 64 false rfl (by kernel_rfl) (by kernel_rfl) (fun v h => h)).trans rfl) ?_
                  have e7 : a.tmps[7]? = some (.int .u8 73) := ev_other hoth 7 (by kernel_rfl) rfl
                  exact step_val ((BigFrame.run_move _ rfl w).trans (by rw [ev_of e7])) rfl
                · intro a w hb hoth hdep
                  refine step_on ((want_dep hdep 18 64 false rfl (by kernel_rfl) (by kernel_rfl) (fun v h => h)).trans rfl) ?_
                  obtain ⟨v19, e65, hv19⟩ := ev_dep hdep 19 65 (by kernel_rfl) (by kernel_rfl)
                  replace hv19 : v19 = .int .u8 73 := hv19
                  subst hv19
                  refine step_val (x := .bool false) ?_ rfl
                  simp [go_sem, e65]
                · intro a w hb hoth hdep
                  refine step_on ((want_dep hdep 28 74 false rfl (by kernel_rfl) (by kernel_rfl) (fun v h => h)).trans rfl) ?_
                  have e7 : a.tmps[7]? = some (.int .u8 73) := ev_other hoth 7 (by kernel_rfl) rfl
                  exact step_val ((BigFrame.run_move _ rfl w).trans (by rw [ev_of e7])) rfl
                · intro a w hb hoth hdep
                  refine step_on ((want_dep hdep 28 74 false rfl (by kernel_rfl) (by kernel_rfl) (fun v h => h)).trans rfl) ?_
                  obtain ⟨v29, e75, hv29⟩ := ev_dep hdep 29 75 (by kernel_rfl) (by kernel_rfl)
                  replace hv29 : v29 = .int .u8 73 := hv29
                  subst hv29
                  refine step_val (x := .bool false) ?_ rfl
                  simp [go_sem, e75]
                · intro a w hb hoth hdep
                  refine step_on ((want_dep hdep 38 84 false rfl (by kernel_rfl) (by kernel_rfl) (fun v h => h)).trans rfl) ?_
                  have e7 : a.tmps[7]? = some (.int .u8 73) := ev_other hoth 7 (by kernel_rfl) rfl
                  exact step_val ((BigFrame.run_move _ rfl w).trans (by rw [ev_of e7])) rfl
                · intro a w hb hoth hdep
                  refine step_on ((want_dep hdep 38 84 false rfl (by kernel_rfl) (by kernel_rfl) (fun v h => h)).trans rfl) ?_
                  obtain ⟨v39, e85, hv39⟩ := ev_dep hdep 39 85 (by kernel_rfl) (by kernel_rfl)
                  replace hv39 : v39 = .int .u8 73 := hv39
                  subst hv39
                  refine step_val (x := .bool false) ?_ rfl
                  simp [go_sem, e85]
                · intro a w hb hoth hdep
                  refine step_on ((want_dep hdep 48 94 false rfl (by kernel_rfl) (by kernel_rfl) (fun v h => h)).trans rfl) ?_
                  have e7 : a.tmps[7]? = some (.int .u8 73) := ev_other hoth 7 (by kernel_rfl) rfl
                  exact step_val ((BigFrame.run_move _ rfl w).trans (by rw [ev_of e7])) rfl
                · intro a w hb hoth hdep
                  refine step_on ((want_dep hdep 48 94 false rfl (by kernel_rfl) (by kernel_rfl) (fun v h => h)).trans rfl) ?_
                  obtain ⟨v49, e95, hv49⟩ := ev_dep hdep 49 95 (by kernel_rfl) (by kernel_rfl)
                  replace hv49 : v49 = .int .u8 73 := hv49
                  subst hv49
                  refine step_val (x := .bool false) ?_ rfl
                  simp [go_sem, e95]
                · intro a w hb hoth hdep
                  refine step_on ((want_dep hdep 58 104 false rfl (by kernel_rfl) (by kernel_rfl) (fun v h => h)).trans rfl) ?_
                  have e7 : a.tmps[7]? = some (.int .u8 73) := ev_other hoth 7 (by kernel_rfl) rfl
                  exact step_val ((BigFrame.run_move _ rfl w).trans (by rw [ev_of e7])) rfl
                · intro a w hb hoth hdep
                  refine step_on ((want_dep hdep 58 104 false rfl (by kernel_rfl) (by kernel_rfl) (fun v h => h)).trans rfl) ?_
                  obtain ⟨v59, e105, hv59⟩ := ev_dep hdep 59 105 (by kernel_rfl) (by kernel_rfl)
                  replace hv59 : v59 = .int .u8 73 := hv59
                  subst hv59
                  refine step_val (x := .bool false) ?_ rfl
                  simp [go_sem, e105]
                case fin =>
                  intro wy hby
                  iterate 68 (rintro _ rfl)
                  refine FinC.nil ?_
                  have HBY := Lib.hid (And.intro (HBW.out.1.trans (hby.mono HBW.out.1.size)) (HBW.out.2.trans (hby.mono HBW.out.2.size)))
                  have HN : Hid (inM m.inc 1 2147483647 = true) := Lib.hid ht
                  clear ht hby
                  go_wp2_with fail
                  go_roundw
                  case rel => exact .inr (.inl ⟨by go_num, HN, HBY.out.1, HBY.out.2⟩)
                  case measure => simp [intOf]
              · go_upto_region 11 with fail
                refine wp_region_autoL 46 [.o (eqV (.int .u8 73)), .b false, .b false, .u, .u, .u, .u, .b false, .b false, .o (eqV (.int .u8 73)), .b true, .b true, .o (eqV (.pointer (some ⟨b1, 4, none⟩))), .o (eqV (.int .i64 m.inc)), .b false, .b true, .b true, .b true, .b true, .u, .u, .u, .u, .u, .u, .u, .u, .b true, .b true, .u, .u, .u, .u, .u, .u, .u, .u, .b true, .b true, .u, .u, .u, .u, .u, .u, .u, .u, .b true, .b true, .u, .u, .u, .u, .u, .u, .u, .u, .b true, .b true, .u, .u, .u, .u, .u, .u, .u, .u, .b true] [false, false, true, true, true, true, true, true, true, false, false, true, false, false, false, true, true, true, true, true, true, true, true, true, true, true, true, true, true, true, true, true, true, true, true, true, true, true, true, true, true, true, true, true, true, true, true, true, true, true, true, true, true, true, true, true, true, true, true, true, true, true, true, true, true, true, true, true] (by kernel_rfl) rfl (by kernel_rfl) (by kernel_rfl) ⟨?_, ?_, ?_, ?_, ?_, ?_, ?_, trivial⟩ ?fin
                · intro a w hb hoth hdep
                  refine step_on (want_none rfl) ?_
                  have e7 : a.tmps[7]? = some (.int .u8 73) := ev_other hoth 7 (by kernel_rfl) rfl
                  exact step_val ((BigFrame.run_move _ rfl w).trans (by rw [ev_of e7])) rfl
                · intro a w hb hoth hdep
                  refine step_on (want_none rfl) ?_
                  obtain ⟨v0, e46, hv0⟩ := ev_dep hdep 0 46 (by kernel_rfl) (by kernel_rfl)
                  replace hv0 : v0 = .int .u8 73 := hv0
                  subst hv0
                  refine step_val (x := .bool false) ?_ rfl
                  simp [go_sem, e46]
                · intro a w hb hoth hdep
                  refine step_on ((want_dep hdep 8 54 false rfl (by kernel_rfl) (by kernel_rfl) (fun v h => h)).trans rfl) ?_
                  have e7 : a.tmps[7]? = some (.int .u8 73) := ev_other hoth 7 (by kernel_rfl) rfl
                  exact step_val ((BigFrame.run_move _ rfl w).trans (by rw [ev_of e7])) rfl
                · intro a w hb hoth hdep
                  refine step_on ((want_dep hdep 8 54 false rfl (by kernel_rfl) (by kernel_rfl) (fun v h => h)).trans rfl) ?_
                  obtain ⟨v9, e55, hv9⟩ := ev_dep hdep 9 55 (by kernel_rfl) (by kernel_rfl)
                  replace hv9 : v9 = .int .u8 73 := hv9
                  subst hv9
                  refine step_val (x := .bool true) ?_ rfl
                  simp [go_sem, e55]
                · intro a w hb hoth hdep
                  refine step_on ((want_dep hdep 11 57 true rfl (by kernel_rfl) (by kernel_rfl) (fun v h => h)).trans rfl) ?_
                  have e1 : a.tmps[1]? = some (.pointer (some ⟨b1, 0, none⟩)) := ev_other hoth 1 (by kernel_rfl) rfl
                  refine step_val (x := .pointer (some ⟨b1, 4, none⟩)) ?_ rfl
                  simp [go_sem, e1]
                · intro a w hb hoth hdep
                  refine step_on ((want_dep hdep 11 57 true rfl (by kernel_rfl) (by kernel_rfl) (fun v h => h)).trans rfl) ?_
                  obtain ⟨v12, e58, hv12⟩ := ev_dep hdep 12 58 (by kernel_rfl) (by kernel_rfl)
                  replace hv12 : v12 = .pointer (some ⟨b1, 4, none⟩) := hv12
                  subst hv12
                  have g4 : w.cell? ⟨b1, 4, none⟩ = some (.int .i64 m.inc) := ((HRr.out.below hb HRr.out.lt).cell 4).trans rfl
                  refine step_val (x := .int .i64 m.inc) ?_ rfl
                  simp [go_sem, e58, g4]
                · intro a w hb hoth hdep
                  refine step_on ((want_dep hdep 11 57 true rfl (by kernel_rfl) (by kernel_rfl) (fun v h => h)).trans rfl) ?_
                  obtain ⟨v13, e59, hv13⟩ := ev_dep hdep 13 59 (by kernel_rfl) (by kernel_rfl)
                  replace hv13 : v13 = .int .i64 m.inc := hv13
                  subst hv13
                  refine step_call (f := 79) (args := #[.int .i64 m.inc, .int .i64 1, .int .i64 2147483647]) ?_ ?_
                  · simp [go_sem, e59]
                  · have hcx := refIn_t m.inc 1 2147483647 w
                    rw [ht] at hcx
                    (with_reducible refine hcx.mono ?_)
                    clear hcx
                    rintro e w2 ⟨rfl, rfl⟩
                    exact ⟨_, rfl, rfl, Below.refl _ _⟩
                case fin =>
                  intro wy hby
                  iterate 68 (rintro _ rfl)
                  refine FinC.nil ?_
                  have HBY := Lib.hid (HBW.out.1.trans (hby.mono HBW.out.1.size))
                  have HN : Hid (checkM m = 1) := Lib.hid (by rw [HC.out, if_pos (.inr (.inr (by rw [HRT.out]; simp [ht])))])
                  clear ht hby
                  go_wp2_with fail
                  go_ret
                  exact ⟨ret_int HN.out.symm, HBY.out⟩
            · have HBW := Lib.hid (And.intro hbw hbz2)
              have HRr := Lib.hid (HE.out.1.below hbz2 HE.out.1.lt)
              clear hbw hbz2
              rcases Bool.eq_false_or_eq_true (inM m.tick 0 1099511627776) with ht | ht
              · go_upto_region 11 with fail
                refine wp_region_autoL 46 [.o (eqV (.int .u8 84)), .b false, .b false, .u, .u, .u, .u, .b false, .b false, .o (eqV (.int .u8 84)), .b false, .b false, .u, .u, .u, .u, .b false, .b false, .b false, .o (eqV (.int .u8 84)), .b false, .b false, .u, .u, .u, .u, .b false, .b false, .b false, .o (eqV (.int .u8 84)), .b true, .b true, .o (eqV (.pointer (some ⟨b1, 6, none⟩))), .o (eqV (.int .i64 m.tick)), .b true, .b false, .b false, .b false, .b false, .o (eqV (.int .u8 84)), .b false, .b false, .u, .u, .u, .u, .b false, .b false, .b false, .o (eqV (.int .u8 84)), .b false, .b false, .u, .u, .u, .u, .b false, .b false, .b false, .o (eqV (.int .u8 84)), .b false, .b false, .u, .u, .u, .u, .b false, .b false] [false, false, true, true, true, true, true, true, true, false, false, true, true, true, true, true, true, true, true, false, false, true, true, true, true, true, true, true, true, false, false, true, false, false, false, true, true, true, true, false, false, true, true, true, true, true, true, true, true, false, false, true, true, true, true, true, true, true, true, false, false, true, true, true, true, true, true, true] (by kernel_rfl) rfl (by kernel_rfl) (by kernel_rfl) ⟨?_, ?_, ?_, ?_, ?_, ?_, ?_, ?_, ?_, ?_, ?_, ?_, ?_, ?_, ?_, ?_, ?_, trivial⟩ ?fin
                · intro a w hb hoth hdep
                  refine step_on (want_none rfl) ?_
                  have e7 : a.tmps[7]? = some (.int .u8 84) := ev_other hoth 7 (by kernel_rfl) rfl
                  exact step_val ((BigFrame.run_move _ rfl w).trans (by rw [ev_of e7])) rfl
                · intro a w hb hoth hdep
                  refine step_on (want_none rfl) ?_
                  obtain ⟨v0, e46, hv0⟩ := ev_dep hdep 0 46 (by kernel_rfl) (by kernel_rfl)
                  replace hv0 : v0 = .int .u8 84 := hv0
                  subst hv0
                  refine step_val (x := .bool false) ?_ rfl
                  simp [go_sem, e46]
                · intro a w hb hoth hdep
                  refine step_on ((want_dep hdep 8 54 false rfl (by kernel_rfl) (by kernel_rfl) (fun v h => h)).trans rfl) ?_
                  have e7 : a.tmps[7]? = some (.int .u8 84) := ev_other hoth 7 (by kernel_rfl) rfl
                  exact step_val ((BigFrame.run_move _ rfl w).trans (by rw [ev_of e7])) rfl
                · intro a w hb hoth hdep
                  refine step_on ((want_dep hdep 8 54 false rfl (by kernel_rfl) (by kernel_rfl) (fun v h => h)).trans rfl) ?_
                  obtain ⟨v9, e55, hv9⟩ := ev_dep hdep 9 55 (by kernel_rfl) (by kernel_rfl)
                  replace hv9 : v9 = .int .u8 84 := hv9
                  subst hv9
                  refine step_val (x := .bool false) ?_ rfl
                  simp [go_sem, e55]
                · intro a w hb hoth hdep
                  refine step_on ((want_dep hdep 18 64 false rfl (by kernel_rfl) (by kernel_rfl) (fun v h => h)).trans rfl) ?_
                  have e7 : a.tmps[7]? = some (.int .u8 84) := ev_other hoth 7 (by kernel_rfl) rfl
                  exact step_val ((BigFrame.run_move _ rfl w).trans (by rw [ev_of e7])) rfl
                · intro a w hb hoth hdep
                  refine step_on ((want_dep hdep 18 64 false rfl (by kernel_rfl) (by kernel_rfl) (fun v h => h)).trans rfl) ?_
                  obtain ⟨v19, e65, hv19⟩ := ev_dep hdep 19 65 (by kernel_rfl) (by kernel_rfl)
                  replace hv19 : v19 = .int .u8 84 := hv19
                  subst hv19
                  refine step_val (x := .bool false) ?_ rfl
                  simp [go_sem, e65]
                · intro a w hb hoth hdep
                  refine step_on ((want_dep hdep 28 74 false rfl (by kernel_rfl) (by kernel_rfl) (fun v h => h)).trans rfl) ?_
                  have e7 : a.tmps[7]? = some (.int .u8 84) := ev_other hoth 7 (by kernel_rfl) rfl
                  exact step_val ((BigFrame.run_move _ rfl w).trans (by rw [ev_of e7])) rfl
                · intro a w hb hoth hdep
                  refine step_on ((want_dep hdep 28 74 false rfl (by kernel_rfl) (by kernel_rfl) (fun v h => h)).trans rfl) ?_
                  obtain ⟨v29, e75, hv29⟩ := ev_dep hdep 29 75 (by kernel_rfl) (by kernel_rfl)
                  replace hv29 : v29 = .int .u8 84 := hv29
                  subst hv29
                  refine step_val (x := .bool true) ?_ rfl
                  simp [go_sem, e75]
                · intro a w hb hoth hdep
                  refine step_on ((want_dep hdep 31 77 true rfl (by kernel_rfl) (by kernel_rfl) (fun v h => h)).trans rfl) ?_
                  have e1 : a.tmps[1]? = some (.pointer (some ⟨b1, 0, none⟩)) := ev_other hoth 1 (by kernel_rfl) rfl
                  refine step_val (x := .pointer (some ⟨b1, 6, none⟩)) ?_ rfl
                  simp [go_sem, e1]
                · intro a w hb hoth hdep
                  refine step_on ((want_dep hdep 31 77 true rfl (by kernel_rfl) (by kernel_rfl) (fun v h => h)).trans rfl) ?_
                  obtain ⟨v32, e78, hv32⟩ := ev_dep hdep 32 78 (by kernel_rfl) (by kernel_rfl)
                  replace hv32 : v32 = .pointer (some ⟨b1, 6, none⟩) := hv32
                  subst hv32
                  have g6 : w.cell? ⟨b1, 6, none⟩ = some (.int .i64 m.tick) := ((HRr.out.below hb HRr.out.lt).cell 6).trans rfl
                  refine step_val (x := .int .i64 m.tick) ?_ rfl
                  simp [go_sem, e78, g6]
                · intro a w hb hoth hdep
                  refine step_on ((want_dep hdep 31 77 true rfl (by kernel_rfl) (by kernel_rfl) (fun v h => h)).trans rfl) ?_
                  obtain ⟨v33, e79, hv33⟩ := ev_dep hdep 33 79 (by kernel_rfl) (by kernel_rfl)
                  replace hv33 : v33 = .int .i64 m.tick := hv33
                  subst hv33
                  refine step_call (f := 79) (args := #[.int .i64 m.tick, .int .i64 0, .int .i64 1099511627776]) ?_ ?_
                  · simp [go_sem, e79]
                  · have hcx := refIn_t m.tick 0 1099511627776 w
                    rw [ht] at hcx
                    (with_reducible refine hcx.mono ?_)
                    clear hcx
                    rintro e w2 ⟨rfl, rfl⟩
                    exact ⟨_, rfl, rfl, Below.refl _ _⟩
                · intro a w hb hoth hdep
                  refine step_on ((want_dep hdep 38 84 false rfl (by kernel_rfl) (by kernel_rfl) (fun v h => h)).trans rfl) ?_
                  have e7 : a.tmps[7]? = some (.int .u8 84) := ev_other hoth 7 (by kernel_rfl) rfl
                  exact step_val ((BigFrame.run_move _ rfl w).trans (by rw [ev_of e7])) rfl
                · intro a w hb hoth hdep
                  refine step_on ((want_dep hdep 38 84 false rfl (by kernel_rfl) (by kernel_rfl) (fun v h => h)).trans rfl) ?_
                  obtain ⟨v39, e85, hv39⟩ := ev_dep hdep 39 85 (by kernel_rfl) (by kernel_rfl)
                  replace hv39 : v39 = .int .u8 84 := hv39
                  subst hv39
                  refine step_val (x := .bool false) ?_ rfl
                  simp [go_sem, e85]
                · intro a w hb hoth hdep
                  refine step_on ((want_dep hdep 48 94 false rfl (by kernel_rfl) (by kernel_rfl) (fun v h => h)).trans rfl) ?_
                  have e7 : a.tmps[7]? = some (.int .u8 84) := ev_other hoth 7 (by kernel_rfl) rfl
                  exact step_val ((BigFrame.run_move _ rfl w).trans (by rw [ev_of e7])) rfl
                · intro a w hb hoth hdep
                  refine step_on ((want_dep hdep 48 94 false rfl (by kernel_rfl) (by kernel_rfl) (fun v h => h)).trans rfl) ?_
                  obtain ⟨v49, e95, hv49⟩ := ev_dep hdep 49 95 (by kernel_rfl) (by kernel_rfl)
                  replace hv49 : v49 = .int .u8 84 := hv49
                  subst hv49
                  refine step_val (x := .bool false) ?_ rfl
                  simp [go_sem, e95]
                · intro a w hb hoth hdep
                  refine step_on ((want_dep hdep 58 104 false rfl (by kernel_rfl) (by kernel_rfl) (fun v h => h)).trans rfl) ?_
                  have e7 : a.tmps[7]? = some (.int .u8 84) := ev_other hoth 7 (by kernel_rfl) rfl
                  exact step_val ((BigFrame.run_move _ rfl w).trans (by rw [ev_of e7])) rfl
                · intro a w hb hoth hdep
                  refine step_on ((want_dep hdep 58 104 false rfl (by kernel_rfl) (by kernel_rfl) (fun v h => h)).trans rfl) ?_
                  obtain ⟨v59, e105, hv59⟩ := ev_dep hdep 59 105 (by kernel_rfl) (by kernel_rfl)
                  replace hv59 : v59 = .int .u8 84 := hv59
                  subst hv59
                  refine step_val (x := .bool false) ?_ rfl
                  simp [go_sem, e105]
                case fin =>
                  intro wy hby
                  iterate 68 (rintro _ rfl)
                  refine FinC.nil ?_
                  have HBY := Lib.hid (And.intro (HBW.out.1.trans (hby.mono HBW.out.1.size)) (HBW.out.2.trans (hby.mono HBW.out.2.size)))
                  have HN : Hid (inM m.inc 1 2147483647 = true ∧ inM m.tick 0 1099511627776 = true) := Lib.hid ⟨HD.out, ht⟩
                  clear ht hby
                  go_wp2_with fail
                  go_roundw
                  case rel => exact .inr (.inr (.inl ⟨by go_num, HN, HBY.out.1, HBY.out.2⟩))
                  case measure => simp [intOf]
              · go_upto_region 11 with fail
                refine wp_region_autoL 46 [.o (eqV (.int .u8 84)), .b false, .b false, .u, .u, .u, .u, .b false, .b false, .o (eqV (.int .u8 84)), .b false, .b false, .u, .u, .u, .u, .b false, .b false, .b false, .o (eqV (.int .u8 84)), .b false, .b false, .u, .u, .u, .u, .b false, .b false, .b false, .o (eqV (.int .u8 84)), .b true, .b true, .o (eqV (.pointer (some ⟨b1, 6, none⟩))), .o (eqV (.int .i64 m.tick)), .b false, .b true, .b true, .b true, .b true, .u, .u, .u, .u, .u, .u, .u, .u, .b true, .b true, .u, .u, .u, .u, .u, .u, .u, .u, .b true, .b true, .u, .u, .u, .u, .u, .u, .u, .u, .b true] [false, false, true, true, true, true, true, true, true, false, false, true, true, true, true, true, true, true, true, false, false, true, true, true, true, true, true, true, true, false, false, true, false, false, false, true, true, true, true, true, true, true, true, true, true, true, true, true, true, true, true, true, true, true, true, true, true, true, true, true, true, true, true, true, true, true, true, true] (by kernel_rfl) rfl (by kernel_rfl) (by kernel_rfl) ⟨?_, ?_, ?_, ?_, ?_, ?_, ?_, ?_, ?_, ?_, ?_, trivial⟩ ?fin
                · intro a w hb hoth hdep
                  refine step_on (want_none rfl) ?_
                  have e7 : a.tmps[7]? = some (.int .u8 84) := ev_other hoth 7 (by kernel_rfl) rfl
                  exact step_val ((BigFrame.run_move _ rfl w).trans (by rw [ev_of e7])) rfl
                · intro a w hb hoth hdep
                  refine step_on (want_none rfl) ?_
                  obtain ⟨v0, e46, hv0⟩ := ev_dep hdep 0 46 (by kernel_rfl) (by kernel_rfl)
                  replace hv0 : v0 = .int .u8 84 := hv0
                  subst hv0
                  refine step_val (x := .bool false) ?_ rfl
                  simp [go_sem, e46]
                · intro a w hb hoth hdep
                  refine step_on ((want_dep hdep 8 54 false rfl (by kernel_rfl) (by kernel_rfl) (fun v h => h)).trans rfl) ?_
                  have e7 : a.tmps[7]? = some (.int .u8 84) := ev_other hoth 7 (by kernel_rfl) rfl
                  exact step_val ((BigFrame.run_move _ rfl w).trans (by rw [ev_of e7])) rfl
                · intro a w hb hoth hdep
                  refine step_on ((want_dep hdep 8 54 false rfl (by kernel_rfl) (by kernel_rfl) (fun v h => h)).trans rfl) ?_
                  obtain ⟨v9, e55, hv9⟩ := ev_dep hdep 9 55 (by kernel_rfl) (by kernel_rfl)
                  replace hv9 : v9 = .int .u8 84 := hv9
                  subst hv9
                  refine step_val (x := .bool false) ?_ rfl
                  simp [go_sem, e55]
                · intro a w hb hoth hdep
                  refine step_on ((want_dep hdep 18 64 false rfl (by kernel_rfl) (by kernel_rfl) (fun v h => h)).trans rfl) ?_
                  have e7 : a.tmps[7]? = some (.int .u8 84) := ev_other hoth 7 (by kernel_rfl) rfl
                  exact step_val ((BigFrame.run_move _ rfl w).trans (by rw [ev_of e7])) rfl
                · intro a w hb hoth hdep
                  refine step_on ((want_dep hdep 18 64 false rfl (by kernel_rfl) (by kernel_rfl) (fun v h => h)).trans rfl) ?_
                  obtain ⟨v19, e65, hv19⟩ := ev_dep hdep 19 65 (by kernel_rfl) (by kernel_rfl)
                  replace hv19 : v19 = .int .u8 84 := hv19
                  subst hv19
                  refine step_val (x := .bool false) ?_ rfl
                  simp [go_sem, e65]
                · intro a w hb hoth hdep
                  refine step_on ((want_dep hdep 28 74 false rfl (by kernel_rfl) (by kernel_rfl) (fun v h => h)).trans rfl) ?_
                  have e7 : a.tmps[7]? = some (.int .u8 84) := ev_other hoth 7 (by kernel_rfl) rfl
                  exact step_val ((BigFrame.run_move _ rfl w).trans (by rw [ev_of e7])) rfl
                · intro a w hb hoth hdep
                  refine step_on ((want_dep hdep 28 74 false rfl (by kernel_rfl) (by kernel_rfl) (fun v h => h)).trans rfl) ?_
                  obtain ⟨v29, e75, hv29⟩ := ev_dep hdep 29 75 (by kernel_rfl) (by kernel_rfl)
                  replace hv29 : v29 = .int .u8 84 := hv29
                  subst hv29
                  refine step_val (x := .bool true) ?_ rfl
                  simp [go_sem, e75]
                · intro a w hb hoth hdep
                  refine step_on ((want_dep hdep 31 77 true rfl (by kernel_rfl) (by kernel_rfl) (fun v h => h)).trans rfl) ?_
                  have e1 : a.tmps[1]? = some (.pointer (some ⟨b1, 0, none⟩)) := ev_other hoth 1 (by kernel_rfl) rfl
                  refine step_val (x := .pointer (some ⟨b1, 6, none⟩)) ?_ rfl
                  simp [go_sem, e1]
                · intro a w hb hoth hdep
                  refine step_on ((want_dep hdep 31 77 true rfl (by kernel_rfl) (by kernel_rfl) (fun v h => h)).trans rfl) ?_
                  obtain ⟨v32, e78, hv32⟩ := ev_dep hdep 32 78 (by kernel_rfl) (by kernel_rfl)
                  replace hv32 : v32 = .pointer (some ⟨b1, 6, none⟩) := hv32
                  subst hv32
                  have g6 : w.cell? ⟨b1, 6, none⟩ = some (.int .i64 m.tick) := ((HRr.out.below hb HRr.out.lt).cell 6).trans rfl
                  refine step_val (x := .int .i64 m.tick) ?_ rfl
                  simp [go_sem, e78, g6]
                · intro a w hb hoth hdep
                  refine step_on ((want_dep hdep 31 77 true rfl (by kernel_rfl) (by kernel_rfl) (fun v h => h)).trans rfl) ?_
                  obtain ⟨v33, e79, hv33⟩ := ev_dep hdep 33 79 (by kernel_rfl) (by kernel_rfl)
                  replace hv33 : v33 = .int .i64 m.tick := hv33
                  subst hv33
                  refine step_call (f := 79) (args := #[.int .i64 m.tick, .int .i64 0, .int .i64 1099511627776]) ?_ ?_
                  · simp [go_sem, e79]
                  · have hcx := refIn_t m.tick 0 1099511627776 w
                    rw [ht] at hcx
                    (with_reducible refine hcx.mono ?_)
                    clear hcx
                    rintro e w2 ⟨rfl, rfl⟩
                    exact ⟨_, rfl, rfl, Below.refl _ _⟩
                case fin =>
                  intro wy hby
                  iterate 68 (rintro _ rfl)
                  refine FinC.nil ?_
                  have HBY := Lib.hid (HBW.out.1.trans (hby.mono HBW.out.1.size))
                  have HN : Hid (checkM m = 1) := Lib.hid (by rw [HC.out, if_pos (.inr (.inr (by rw [HRT.out]; simp [ht])))])
                  clear ht hby
                  go_wp2_with fail
                  go_ret
                  exact ⟨ret_int HN.out.symm, HBY.out⟩
            · have HBW := Lib.hid (And.intro hbw hbz2)
              have HRr := Lib.hid (HE.out.1.below hbz2 HE.out.1.lt)
              clear hbw hbz2
              rcases Bool.eq_false_or_eq_true (rightR m.res) with ht | ht
              · go_upto_region 11 with fail
                refine wp_region_autoL 46 [.o (eqV (.int .u8 82)), .b false, .b false, .u, .u, .u, .u, .b false, .b false, .o (eqV (.int .u8 82)), .b false, .b false, .u, .u, .u, .u, .b false, .b false, .b false, .o (eqV (.int .u8 82)), .b false, .b false, .u, .u, .u, .u, .b false, .b false, .b false, .o (eqV (.int .u8 82)), .b false, .b false, .u, .u, .u, .u, .b false, .b false, .b false, .o (eqV (.int .u8 82)), .b false, .b false, .u, .u, .u, .u, .b false, .b false, .b false, .o (eqV (.int .u8 82)), .b false, .b false, .u, .u, .u, .u, .b false, .b false, .b false, .o (eqV (.int .u8 82)), .b true, .b true, .o (eqV (.pointer (some ⟨b1, 9, none⟩))), .o (eqV (aggRes m.res)), .b true, .b false, .b false, .b false] [false, false, true, true, true, true, true, true, true, false, false, true, true, true, true, true, true, true, true, false, false, true, true, true, true, true, true, true, true, false, false, true, true, true, true, true, true, true, true, false, false, true, true, true, true, true, true, true, true, false, false, true, true, true, true, true, true, true, true, false, false, true, false, false, false, true, true, true] (by kernel_rfl) rfl (by kernel_rfl) (by kernel_rfl) ⟨?_, ?_, ?_, ?_, ?_, ?_, ?_, ?_, ?_, ?_, ?_, ?_, ?_, ?_, ?_, ?_, ?_, trivial⟩ ?fin
                · intro a w hb hoth hdep
                  refine step_on (want_none rfl) ?_
                  have e7 : a.tmps[7]? = some (.int .u8 82) := ev_other hoth 7 (by kernel_rfl) rfl
                  exact step_val ((BigFrame.run_move _ rfl w).trans (by rw [ev_of e7])) rfl
                · intro a w hb hoth hdep
                  refine step_on (want_none rfl) ?_
                  obtain ⟨v0, e46, hv0⟩ := ev_dep hdep 0 46 (by kernel_rfl) (by kernel_rfl)
                  replace hv0 : v0 = .int .u8 82 := hv0
                  subst hv0
                  refine step_val (x := .bool false) ?_ rfl
                  simp [go_sem, e46]
                · intro a w hb hoth hdep
                  refine step_on ((want_dep hdep 8 54 false rfl (by kernel_rfl) (by kernel_rfl) (fun v h => h)).trans rfl) ?_
                  have e7 : a.tmps[7]? = some (.int .u8 82) := ev_other hoth 7 (by kernel_rfl) rfl
                  exact step_val ((BigFrame.run_move _ rfl w).trans (by rw [ev_of e7])) rfl
                · intro a w hb hoth hdep
                  refine step_on ((want_dep hdep 8 54 false rfl (by kernel_rfl) (by kernel_rfl) (fun v h => h)).trans rfl) ?_
                  obtain ⟨v9, e55, hv9⟩ := ev_dep hdep 9 55 (by kernel_rfl) (by kernel_rfl)
                  replace hv9 : v9 = .int .u8 82 := hv9
                  subst hv9
                  refine step_val (x := .bool false) ?_ rfl
                  simp [go_sem, e55]
                · intro a w hb hoth hdep
                  refine step_on ((want_dep hdep 18 64 false rfl (by kernel_rfl) (by kernel_rfl) (fun v h => h)).trans rfl) ?_
                  have e7 : a.tmps[7]? = some (.int .u8 82) := ev_other hoth 7 (by kernel_rfl) rfl
                  exact step_val ((BigFrame.run_move _ rfl w).trans (by rw [ev_of e7])) rfl
                · intro a w hb hoth hdep
                  refine step_on ((want_dep hdep 18 64 false rfl (by kernel_rfl) (by kernel_rfl) (fun v h => h)).trans rfl) ?_
                  obtain ⟨v19, e65, hv19⟩ := ev_dep hdep 19 65 (by kernel_rfl) (by kernel_rfl)
                  replace hv19 : v19 = .int .u8 82 := hv19
                  subst hv19
                  refine step_val (x := .bool false) ?_ rfl
                  simp [go_sem, e65]
                · intro a w hb hoth hdep
                  refine step_on ((want_dep hdep 28 74 false rfl (by kernel_rfl) (by kernel_rfl) (fun v h => h)).trans rfl) ?_
                  have e7 : a.tmps[7]? = some (.int .u8 82) := ev_other hoth 7 (by kernel_rfl) rfl
                  exact step_val ((BigFrame.run_move _ rfl w).trans (by rw [ev_of e7])) rfl
                · intro a w hb hoth hdep
                  refine step_on ((want_dep hdep 28 74 false rfl (by kernel_rfl) (by kernel_rfl) (fun v h => h)).trans rfl) ?_
                  obtain ⟨v29, e75, hv29⟩ := ev_dep hdep 29 75 (by kernel_rfl) (by kernel_rfl)
                  replace hv29 : v29 = .int .u8 82 := hv29
                  subst hv29
                  refine step_val (x := .bool false) ?_ rfl
                  simp [go_sem, e75]
                · intro a w hb hoth hdep
                  refine step_on ((want_dep hdep 38 84 false rfl (by kernel_rfl) (by kernel_rfl) (fun v h => h)).trans rfl) ?_
                  have e7 : a.tmps[7]? = some (.int .u8 82) := ev_other hoth 7 (by kernel_rfl) rfl
                  exact step_val ((BigFrame.run_move _ rfl w).trans (by rw [ev_of e7])) rfl
                · intro a w hb hoth hdep
                  refine step_on ((want_dep hdep 38 84 false rfl (by kernel_rfl) (by kernel_rfl) (fun v h => h)).trans rfl) ?_
                  obtain ⟨v39, e85, hv39⟩ := ev_dep hdep 39 85 (by kernel_rfl) (by kernel_rfl)
                  replace hv39 : v39 = .int .u8 82 := hv39
                  subst hv39
                  refine step_val (x := .bool false) ?_ rfl
                  simp [go_sem, e85]
                · intro a w hb hoth hdep
                  refine step_on ((want_dep hdep 48 94 false rfl (by kernel_rfl) (by kernel_rfl) (fun v h => h)).trans rfl) ?_
                  have e7 : a.tmps[7]? = some (.int .u8 82) := ev_other hoth 7 (by kernel_rfl) rfl
                  exact step_val ((BigFrame.run_move _ rfl w).trans (by rw [ev_of e7])) rfl
                · intro a w hb hoth hdep
                  refine step_on ((want_dep hdep 48 94 false rfl (by kernel_rfl) (by kernel_rfl) (fun v h => h)).trans rfl) ?_
                  obtain ⟨v49, e95, hv49⟩ := ev_dep hdep 49 95 (by kernel_rfl) (by kernel_rfl)
                  replace hv49 : v49 = .int .u8 82 := hv49
                  subst hv49
                  refine step_val (x := .bool false) ?_ rfl
                  simp [go_sem, e95]
                · intro a w hb hoth hdep
                  refine step_on ((want_dep hdep 58 104 false rfl (by kernel_rfl) (by kernel_rfl) (fun v h => h)).trans rfl) ?_
                  have e7 : a.tmps[7]? = some (.int .u8 82) := ev_other hoth 7 (by kernel_rfl) rfl
                  exact step_val ((BigFrame.run_move _ rfl w).trans (by rw [ev_of e7])) rfl
                · intro a w hb hoth hdep
                  refine step_on ((want_dep hdep 58 104 false rfl (by kernel_rfl) (by kernel_rfl) (fun v h => h)).trans rfl) ?_
                  obtain ⟨v59, e105, hv59⟩ := ev_dep hdep 59 105 (by kernel_rfl) (by kernel_rfl)
                  replace hv59 : v59 = .int .u8 82 := hv59
                  subst hv59
                  refine step_val (x := .bool true) ?_ rfl
                  simp [go_sem, e105]
                · intro a w hb hoth hdep
                  refine step_on ((want_dep hdep 61 107 true rfl (by kernel_rfl) (by kernel_rfl) (fun v h => h)).trans rfl) ?_
                  have e1 : a.tmps[1]? = some (.pointer (some ⟨b1, 0, none⟩)) := ev_other hoth 1 (by kernel_rfl) rfl
                  refine step_val (x := .pointer (some ⟨b1, 9, none⟩)) ?_ rfl
                  simp [go_sem, e1]
                · intro a w hb hoth hdep
                  refine step_on ((want_dep hdep 61 107 true rfl (by kernel_rfl) (by kernel_rfl) (fun v h => h)).trans rfl) ?_
                  obtain ⟨v62, e108, hv62⟩ := ev_dep hdep 62 108 (by kernel_rfl) (by kernel_rfl)
                  replace hv62 : v62 = .pointer (some ⟨b1, 9, none⟩) := hv62
                  subst hv62
                  have g9 : w.cell? ⟨b1, 9, none⟩ = some (.int .i64 m.res.a) := ((HRr.out.below hb HRr.out.lt).cell 9).trans rfl
                  have g10 : w.cell? ⟨b1, 10, none⟩ = some (.int .i64 m.res.b) := ((HRr.out.below hb HRr.out.lt).cell 10).trans rfl
                  have g11 : w.cell? ⟨b1, 11, none⟩ = some (.int .i64 m.res.c) := ((HRr.out.below hb HRr.out.lt).cell 11).trans rfl
                  refine step_val (x := aggRes m.res) ?_ rfl
                  simp [go_sem, e108, g9, g10, g11, aggRes]
                · intro a w hb hoth hdep
                  refine step_on ((want_dep hdep 61 107 true rfl (by kernel_rfl) (by kernel_rfl) (fun v h => h)).trans rfl) ?_
                  obtain ⟨v63, e109, hv63⟩ := ev_dep hdep 63 109 (by kernel_rfl) (by kernel_rfl)
                  replace hv63 : v63 = aggRes m.res := hv63
                  subst hv63
                  refine step_call (f := 68) (args := #[aggRes m.res]) ?_ ?_
                  · simp [go_sem, e109]
                  · have hcx := refRight_t m.res w
                    rw [ht] at hcx
                    (with_reducible refine hcx.mono ?_)
                    clear hcx
                    rintro e w2 ⟨rfl, rfl⟩
                    exact ⟨_, rfl, rfl, (Below.refl _ _).alloc (Nat.le_refl _) _⟩
                case fin =>
                  intro wy hby
                  iterate 68 (rintro _ rfl)
                  refine FinC.nil ?_
                  have HBY := Lib.hid (And.intro (HBW.out.1.trans (hby.mono HBW.out.1.size)) (HBW.out.2.trans (hby.mono HBW.out.2.size)))
                  have HN : Hid (inM m.inc 1 2147483647 = true ∧ inM m.tick 0 1099511627776 = true ∧ rightR m.res = true) := Lib.hid ⟨HD.out.1, HD.out.2, ht⟩
                  clear ht hby
                  go_wp2_with fail
                  go_roundw
                  case rel => exact .inr (.inr (.inr (⟨by go_num, HN, HBY.out.1, HBY.out.2⟩)))
                  case measure => simp [intOf]
              · go_upto_region 11 with fail
                refine wp_region_autoL 46 [.o (eqV (.int .u8 82)), .b false, .b false, .u, .u, .u, .u, .b false, .b false, .o (eqV (.int .u8 82)), .b false, .b false, .u, .u, .u, .u, .b false, .b false, .b false, .o (eqV (.int .u8 82)), .b false, .b false, .u, .u, .u, .u, .b false, .b false, .b false, .o (eqV (.int .u8 82)), .b false, .b false, .u, .u, .u, .u, .b false, .b false, .b false, .o (eqV (.int .u8 82)), .b false, .b false, .u, .u, .u, .u, .b false, .b false, .b false, .o (eqV (.int .u8 82)), .b false, .b false, .u, .u, .u, .u, .b false, .b false, .b false, .o (eqV (.int .u8 82)), .b true, .b true, .o (eqV (.pointer (some ⟨b1, 9, none⟩))), .o (eqV (aggRes m.res)), .b false, .b true, .b true, .b true] [false, false, true, true, true, true, true, true, true, false, false, true, true, true, true, true, true, true, true, false, false, true, true, true, true, true, true, true, true, false, false, true, true, true, true, true, true, true, true, false, false, true, true, true, true, true, true, true, true, false, false, true, true, true, true, true, true, true, true, false, false, true, false, false, false, true, true, true] (by kernel_rfl) rfl (by kernel_rfl) (by kernel_rfl) ⟨?_, ?_, ?_, ?_, ?_, ?_, ?_, ?_, ?_, ?_, ?_, ?_, ?_, ?_, ?_, ?_, ?_, trivial⟩ ?fin
                · intro a w hb hoth hdep
                  refine step_on (want_none rfl) ?_
                  have e7 : a.tmps[7]? = some (.int .u8 82) := ev_other hoth 7 (by kernel_rfl) rfl
                  exact step_val ((BigFrame.run_move _ rfl w).trans (by rw [ev_of e7])) rfl
                · intro a w hb hoth hdep
                  refine step_on (want_none rfl) ?_
                  obtain ⟨v0, e46, hv0⟩ := ev_dep hdep 0 46 (by kernel_rfl) (by kernel_rfl)
                  replace hv0 : v0 = .int .u8 82 := hv0
                  subst hv0
                  refine step_val (x := .bool false) ?_ rfl
                  simp [go_sem, e46]
                · intro a w hb hoth hdep
                  refine step_on ((want_dep hdep 8 54 false rfl (by kernel_rfl) (by kernel_rfl) (fun v h => h)).trans rfl) ?_
                  have e7 : a.tmps[7]? = some (.int .u8 82) := ev_other hoth 7 (by kernel_rfl) rfl
                  exact step_val ((BigFrame.run_move _ rfl w).trans (by rw [ev_of e7])) rfl
                · intro a w hb hoth hdep
                  refine step_on ((want_dep hdep 8 54 false rfl (by kernel_rfl) (by kernel_rfl) (fun v h => h)).trans rfl) ?_
                  obtain ⟨v9, e55, hv9⟩ := ev_dep hdep 9 55 (by kernel_rfl) (by kernel_rfl)
                  replace hv9 : v9 = .int .u8 82 := hv9
                  subst hv9
                  refine step_val (x := .bool false) ?_ rfl
                  simp [go_sem, e55]
                · intro a w hb hoth hdep
                  refine step_on ((want_dep hdep 18 64 false rfl (by kernel_rfl) (by kernel_rfl) (fun v h => h)).trans rfl) ?_
                  have e7 : a.tmps[7]? = some (.int .u8 82) := ev_other hoth 7 (by kernel_rfl) rfl
                  exact step_val ((BigFrame.run_move _ rfl w).trans (by rw [ev_of e7])) rfl
                · intro a w hb hoth hdep
                  refine step_on ((want_dep hdep 18 64 false rfl (by kernel_rfl) (by kernel_rfl) (fun v h => h)).trans rfl) ?_
                  obtain ⟨v19, e65, hv19⟩ := ev_dep hdep 19 65 (by kernel_rfl) (by kernel_rfl)
                  replace hv19 : v19 = .int .u8 82 := hv19
                  subst hv19
                  refine step_val (x := .bool false) ?_ rfl
                  simp [go_sem, e65]
                · intro a w hb hoth hdep
                  refine step_on ((want_dep hdep 28 74 false rfl (by kernel_rfl) (by kernel_rfl) (fun v h => h)).trans rfl) ?_
                  have e7 : a.tmps[7]? = some (.int .u8 82) := ev_other hoth 7 (by kernel_rfl) rfl
                  exact step_val ((BigFrame.run_move _ rfl w).trans (by rw [ev_of e7])) rfl
                · intro a w hb hoth hdep
                  refine step_on ((want_dep hdep 28 74 false rfl (by kernel_rfl) (by kernel_rfl) (fun v h => h)).trans rfl) ?_
                  obtain ⟨v29, e75, hv29⟩ := ev_dep hdep 29 75 (by kernel_rfl) (by kernel_rfl)
                  replace hv29 : v29 = .int .u8 82 := hv29
                  subst hv29
                  refine step_val (x := .bool false) ?_ rfl
                  simp [go_sem, e75]
                · intro a w hb hoth hdep
                  refine step_on ((want_dep hdep 38 84 false rfl (by kernel_rfl) (by kernel_rfl) (fun v h => h)).trans rfl) ?_
                  have e7 : a.tmps[7]? = some (.int .u8 82) := ev_other hoth 7 (by kernel_rfl) rfl
                  exact step_val ((BigFrame.run_move _ rfl w).trans (by rw [ev_of e7])) rfl
                · intro a w hb hoth hdep
                  refine step_on ((want_dep hdep 38 84 false rfl (by kernel_rfl) (by kernel_rfl) (fun v h => h)).trans rfl) ?_
                  obtain ⟨v39, e85, hv39⟩ := ev_dep hdep 39 85 (by kernel_rfl) (by kernel_rfl)
                  replace hv39 : v39 = .int .u8 82 := hv39
                  subst hv39
                  refine step_val (x := .bool false) ?_ rfl
                  simp [go_sem, e85]
                · intro a w hb hoth hdep
                  refine step_on ((want_dep hdep 48 94 false rfl (by kernel_rfl) (by kernel_rfl) (fun v h => h)).trans rfl) ?_
                  have e7 : a.tmps[7]? = some (.int .u8 82) := ev_other hoth 7 (by kernel_rfl) rfl
                  exact step_val ((BigFrame.run_move _ rfl w).trans (by rw [ev_of e7])) rfl
                · intro a w hb hoth hdep
                  refine step_on ((want_dep hdep 48 94 false rfl (by kernel_rfl) (by kernel_rfl) (fun v h => h)).trans rfl) ?_
                  obtain ⟨v49, e95, hv49⟩ := ev_dep hdep 49 95 (by kernel_rfl) (by kernel_rfl)
                  replace hv49 : v49 = .int .u8 82 := hv49
                  subst hv49
                  refine step_val (x := .bool false) ?_ rfl
                  simp [go_sem, e95]
                · intro a w hb hoth hdep
                  refine step_on ((want_dep hdep 58 104 false rfl (by kernel_rfl) (by kernel_rfl) (fun v h => h)).trans rfl) ?_
                  have e7 : a.tmps[7]? = some (.int .u8 82) := ev_other hoth 7 (by kernel_rfl) rfl
                  exact step_val ((BigFrame.run_move _ rfl w).trans (by rw [ev_of e7])) rfl
                · intro a w hb hoth hdep
                  refine step_on ((want_dep hdep 58 104 false rfl (by kernel_rfl) (by kernel_rfl) (fun v h => h)).trans rfl) ?_
                  obtain ⟨v59, e105, hv59⟩ := ev_dep hdep 59 105 (by kernel_rfl) (by kernel_rfl)
                  replace hv59 : v59 = .int .u8 82 := hv59
                  subst hv59
                  refine step_val (x := .bool true) ?_ rfl
                  simp [go_sem, e105]
                · intro a w hb hoth hdep
                  refine step_on ((want_dep hdep 61 107 true rfl (by kernel_rfl) (by kernel_rfl) (fun v h => h)).trans rfl) ?_
                  have e1 : a.tmps[1]? = some (.pointer (some ⟨b1, 0, none⟩)) := ev_other hoth 1 (by kernel_rfl) rfl
                  refine step_val (x := .pointer (some ⟨b1, 9, none⟩)) ?_ rfl
                  simp [go_sem, e1]
                · intro a w hb hoth hdep
                  refine step_on ((want_dep hdep 61 107 true rfl (by kernel_rfl) (by kernel_rfl) (fun v h => h)).trans rfl) ?_
                  obtain ⟨v62, e108, hv62⟩ := ev_dep hdep 62 108 (by kernel_rfl) (by kernel_rfl)
                  replace hv62 : v62 = .pointer (some ⟨b1, 9, none⟩) := hv62
                  subst hv62
                  have g9 : w.cell? ⟨b1, 9, none⟩ = some (.int .i64 m.res.a) := ((HRr.out.below hb HRr.out.lt).cell 9).trans rfl
                  have g10 : w.cell? ⟨b1, 10, none⟩ = some (.int .i64 m.res.b) := ((HRr.out.below hb HRr.out.lt).cell 10).trans rfl
                  have g11 : w.cell? ⟨b1, 11, none⟩ = some (.int .i64 m.res.c) := ((HRr.out.below hb HRr.out.lt).cell 11).trans rfl
                  refine step_val (x := aggRes m.res) ?_ rfl
                  simp [go_sem, e108, g9, g10, g11, aggRes]
                · intro a w hb hoth hdep
                  refine step_on ((want_dep hdep 61 107 true rfl (by kernel_rfl) (by kernel_rfl) (fun v h => h)).trans rfl) ?_
                  obtain ⟨v63, e109, hv63⟩ := ev_dep hdep 63 109 (by kernel_rfl) (by kernel_rfl)
                  replace hv63 : v63 = aggRes m.res := hv63
                  subst hv63
                  refine step_call (f := 68) (args := #[aggRes m.res]) ?_ ?_
                  · simp [go_sem, e109]
                  · have hcx := refRight_t m.res w
                    rw [ht] at hcx
                    (with_reducible refine hcx.mono ?_)
                    clear hcx
                    rintro e w2 ⟨rfl, rfl⟩
                    exact ⟨_, rfl, rfl, (Below.refl _ _).alloc (Nat.le_refl _) _⟩
                case fin =>
                  intro wy hby
                  iterate 68 (rintro _ rfl)
                  refine FinC.nil ?_
                  have HBY := Lib.hid (HBW.out.1.trans (hby.mono HBW.out.1.size))
                  have HN : Hid (checkM m = 1) := Lib.hid (by rw [HC.out, if_pos (.inr (.inr (by rw [HRT.out]; simp [ht])))])
                  clear ht hby
                  go_wp2_with fail
                  go_ret
                  exact ⟨ret_int HN.out.symm, HBY.out⟩
            · have HN : Hid (checkM m = 0) := Lib.hid (by rw [HC.out, if_neg]; rintro (h | h | h); exact h hpm; exact h hwp; rw [HRT.out, HD.out.1, HD.out.2.1, HD.out.2.2] at h; cases h)
              go_wp2
              go_ret
              exact ⟨ret_int HN.out.symm, hbw⟩
      · have hpt : (p2 != 1) = true := by simp [ht]
        have HK : Hid (checkM m = 1) := Lib.hid (by rw [HC.out, if_pos (.inr (.inl (by simp [ht])))])
        clear hf ht
        refine wp_region_autoD 19 [.o (eqV (aggMsg m)), .o (eqV (aggMsg (pureM m))), .o (eqV (aggMsg m)), .b false, .b false, .o (eqV (.pointer (some ⟨b1, 1, none⟩))), .o (eqV (.int .i64 m.frm)), .o (eqV (.int .i64 p1)), .o (eqV (.int .i64 2)), .b false, .b false, .b false, .o (eqV (.pointer (some ⟨b1, 2, none⟩))), .o (eqV (.int .i64 m.to_)), .o (eqV (.int .i64 p2)), .o (eqV (.int .i64 1)), .b true, .b true] [false, false, false, false, true, false, false, false, false, false, true, true, false, false, false, false, false, true] (by kernel_rfl) (by kernel_rfl) rfl (by kernel_rfl) (by kernel_rfl) ⟨?_, ?_, ?_, ?_, ?_, ?_, ?_, ?_, ?_, ?_, ?_, ?_, ?_, ?_, trivial⟩ ?fin
        · intro a w hb hoth hdep
          refine step_on (want_none rfl) ?_
          have e1 : a.tmps[1]? = some (.pointer (some ⟨b1, 0, none⟩)) := ev_other hoth 1 (by kernel_rfl) rfl
          obtain ⟨c0, c1, c2, c3, c4, c5, c6, c7, c8, c9, c10, c11⟩ := msgCells (HZ.out.1.below hb HZ.out.1.lt)
          refine step_val (x := aggMsg m) ?_ rfl
          simp [go_sem, e1, c0, c1, c2, c3, c4, c5, c6, c7, c8, c9, c10, c11, aggMsg]
        · intro a w hb hoth hdep
          refine step_on (want_none rfl) ?_
          obtain ⟨v0, e19, hv0⟩ := ev_dep hdep 0 19 (by kernel_rfl) (by kernel_rfl)
          replace hv0 : v0 = aggMsg m := hv0
          subst hv0
          refine step_call (f := 77) (args := #[aggMsg m]) ?_ ?_
          · simp [go_sem, e19]
          · (with_reducible refine (rpure_t m w).mono ?_)
            rintro e w2 ⟨rfl, hB⟩
            exact ⟨_, rfl, rfl, hB⟩
        · intro a w hb hoth hdep
          refine step_on (want_none rfl) ?_
          have e1 : a.tmps[1]? = some (.pointer (some ⟨b1, 0, none⟩)) := ev_other hoth 1 (by kernel_rfl) rfl
          obtain ⟨c0, c1, c2, c3, c4, c5, c6, c7, c8, c9, c10, c11⟩ := msgCells (HZ.out.1.below hb HZ.out.1.lt)
          refine step_val (x := aggMsg m) ?_ rfl
          simp [go_sem, e1, c0, c1, c2, c3, c4, c5, c6, c7, c8, c9, c10, c11, aggMsg]
        · intro a w hb hoth hdep
          refine step_on (want_none rfl) ?_
          obtain ⟨v1, e20, hv1⟩ := ev_dep hdep 1 20 (by kernel_rfl) (by kernel_rfl)
          replace hv1 : v1 = aggMsg (pureM m) := hv1
          subst hv1
          obtain ⟨v2, e21, hv2⟩ := ev_dep hdep 2 21 (by kernel_rfl) (by kernel_rfl)
          replace hv2 : v2 = aggMsg m := hv2
          subst hv2
          refine step_val (x := .bool false) ?_ rfl
          simp [go_sem, e20, e21, hnm, hgu]
        · intro a w hb hoth hdep
          refine step_on ((want_dep hdep 4 23 false rfl (by kernel_rfl) (by kernel_rfl) (fun v h => h)).trans rfl) ?_
          have e1 : a.tmps[1]? = some (.pointer (some ⟨b1, 0, none⟩)) := ev_other hoth 1 (by kernel_rfl) rfl
          refine step_val (x := .pointer (some ⟨b1, 1, none⟩)) ?_ rfl
          simp [go_sem, e1]
        · intro a w hb hoth hdep
          refine step_on ((want_dep hdep 4 23 false rfl (by kernel_rfl) (by kernel_rfl) (fun v h => h)).trans rfl) ?_
          obtain ⟨v5, e24, hv5⟩ := ev_dep hdep 5 24 (by kernel_rfl) (by kernel_rfl)
          replace hv5 : v5 = .pointer (some ⟨b1, 1, none⟩) := hv5
          subst hv5
          have c1 : w.cell? ⟨b1, 1, none⟩ = some (.int .i64 m.frm) := ((HZ.out.1.below hb HZ.out.1.lt).cell 1).trans rfl
          refine step_val (x := .int .i64 m.frm) ?_ rfl
          simp [go_sem, e24, c1]
        · intro a w hb hoth hdep
          refine step_on ((want_dep hdep 4 23 false rfl (by kernel_rfl) (by kernel_rfl) (fun v h => h)).trans rfl) ?_
          obtain ⟨v6, e25, hv6⟩ := ev_dep hdep 6 25 (by kernel_rfl) (by kernel_rfl)
          replace hv6 : v6 = .int .i64 m.frm := hv6
          subst hv6
          refine step_call (f := 78) (args := #[.int .i64 m.frm]) ?_ ?_
          · simp [go_sem, e25]
          · have hcx := refPlace_t m.frm w
            rw [HPP.out.1] at hcx
            (with_reducible refine hcx.mono ?_)
            clear hcx
            rintro e w2 ⟨rfl, rfl⟩
            exact ⟨_, rfl, rfl, Below.refl _ _⟩
        · intro a w hb hoth hdep
          refine step_on ((want_dep hdep 4 23 false rfl (by kernel_rfl) (by kernel_rfl) (fun v h => h)).trans rfl) ?_
          have e4 : a.tmps[4]? = some (.int .i64 2) := ev_other hoth 4 (by kernel_rfl) rfl
          exact step_val ((BigFrame.run_move _ rfl w).trans (by rw [ev_of e4])) rfl
        · intro a w hb hoth hdep
          refine step_on ((want_dep hdep 4 23 false rfl (by kernel_rfl) (by kernel_rfl) (fun v h => h)).trans rfl) ?_
          obtain ⟨v7, e26, hv7⟩ := ev_dep hdep 7 26 (by kernel_rfl) (by kernel_rfl)
          replace hv7 : v7 = .int .i64 p1 := hv7
          subst hv7
          obtain ⟨v8, e27, hv8⟩ := ev_dep hdep 8 27 (by kernel_rfl) (by kernel_rfl)
          replace hv8 : v8 = .int .i64 2 := hv8
          subst hv8
          refine step_val (x := .bool false) ?_ rfl
          simp [go_sem, e26, e27, hpf]
        · intro a w hb hoth hdep
          refine step_on ((want_dep hdep 11 30 false rfl (by kernel_rfl) (by kernel_rfl) (fun v h => h)).trans rfl) ?_
          have e1 : a.tmps[1]? = some (.pointer (some ⟨b1, 0, none⟩)) := ev_other hoth 1 (by kernel_rfl) rfl
          refine step_val (x := .pointer (some ⟨b1, 2, none⟩)) ?_ rfl
          simp [go_sem, e1]
        · intro a w hb hoth hdep
          refine step_on ((want_dep hdep 11 30 false rfl (by kernel_rfl) (by kernel_rfl) (fun v h => h)).trans rfl) ?_
          obtain ⟨v12, e31, hv12⟩ := ev_dep hdep 12 31 (by kernel_rfl) (by kernel_rfl)
          replace hv12 : v12 = .pointer (some ⟨b1, 2, none⟩) := hv12
          subst hv12
          have c2 : w.cell? ⟨b1, 2, none⟩ = some (.int .i64 m.to_) := ((HZ.out.1.below hb HZ.out.1.lt).cell 2).trans rfl
          refine step_val (x := .int .i64 m.to_) ?_ rfl
          simp [go_sem, e31, c2]
        · intro a w hb hoth hdep
          refine step_on ((want_dep hdep 11 30 false rfl (by kernel_rfl) (by kernel_rfl) (fun v h => h)).trans rfl) ?_
          obtain ⟨v13, e32, hv13⟩ := ev_dep hdep 13 32 (by kernel_rfl) (by kernel_rfl)
          replace hv13 : v13 = .int .i64 m.to_ := hv13
          subst hv13
          refine step_call (f := 78) (args := #[.int .i64 m.to_]) ?_ ?_
          · simp [go_sem, e32]
          · have hcx := refPlace_t m.to_ w
            rw [HPP.out.2] at hcx
            (with_reducible refine hcx.mono ?_)
            clear hcx
            rintro e w2 ⟨rfl, rfl⟩
            exact ⟨_, rfl, rfl, Below.refl _ _⟩
        · intro a w hb hoth hdep
          refine step_on ((want_dep hdep 11 30 false rfl (by kernel_rfl) (by kernel_rfl) (fun v h => h)).trans rfl) ?_
          have e5 : a.tmps[5]? = some (.int .i64 1) := ev_other hoth 5 (by kernel_rfl) rfl
          exact step_val ((BigFrame.run_move _ rfl w).trans (by rw [ev_of e5])) rfl
        · intro a w hb hoth hdep
          refine step_on ((want_dep hdep 11 30 false rfl (by kernel_rfl) (by kernel_rfl) (fun v h => h)).trans rfl) ?_
          obtain ⟨v14, e33, hv14⟩ := ev_dep hdep 14 33 (by kernel_rfl) (by kernel_rfl)
          replace hv14 : v14 = .int .i64 p2 := hv14
          subst hv14
          obtain ⟨v15, e34, hv15⟩ := ev_dep hdep 15 34 (by kernel_rfl) (by kernel_rfl)
          replace hv15 : v15 = .int .i64 1 := hv15
          subst hv15
          refine step_val (x := .bool true) ?_ rfl
          simp [go_sem, e33, e34, hpt]
        case fin =>
          intro wz hbz
          iterate 18 (rintro _ rfl)
          refine FinC.nil ?_
          have HE := Lib.hid (HZ.out.2.trans (hbz.mono HZ.out.2.size))
          clear hbz hnm hgu
          go_wp2_with fail
          go_ret
          exact ⟨ret_int HK.out.symm, HE.out⟩
    · have hpf : (p1 != 2) = true := by simp [hf]
      have HK : Hid (checkM m = 1) := Lib.hid (by rw [HC.out, if_pos (.inr (.inl (by simp [hf])))])
      clear hf
      refine wp_region_autoD 19 [.o (eqV (aggMsg m)), .o (eqV (aggMsg (pureM m))), .o (eqV (aggMsg m)), .b false, .b false, .o (eqV (.pointer (some ⟨b1, 1, none⟩))), .o (eqV (.int .i64 m.frm)), .o (eqV (.int .i64 p1)), .o (eqV (.int .i64 2)), .b true, .b true, .b true, .u, .u, .u, .u, .u, .b true] [false, false, false, false, true, false, false, false, false, false, true, true, true, true, true, true, true, true] (by kernel_rfl) (by kernel_rfl) rfl (by kernel_rfl) (by kernel_rfl) ⟨?_, ?_, ?_, ?_, ?_, ?_, ?_, ?_, ?_, trivial⟩ ?fin
      · intro a w hb hoth hdep
        refine step_on (want_none rfl) ?_
        have e1 : a.tmps[1]? = some (.pointer (some ⟨b1, 0, none⟩)) := ev_other hoth 1 (by kernel_rfl) rfl
        obtain ⟨c0, c1, c2, c3, c4, c5, c6, c7, c8, c9, c10, c11⟩ := msgCells (HZ.out.1.below hb HZ.out.1.lt)
        refine step_val (x := aggMsg m) ?_ rfl
        simp [go_sem, e1, c0, c1, c2, c3, c4, c5, c6, c7, c8, c9, c10, c11, aggMsg]
      · intro a w hb hoth hdep
        refine step_on (want_none rfl) ?_
        obtain ⟨v0, e19, hv0⟩ := ev_dep hdep 0 19 (by kernel_rfl) (by kernel_rfl)
        replace hv0 : v0 = aggMsg m := hv0
        subst hv0
        refine step_call (f := 77) (args := #[aggMsg m]) ?_ ?_
        · simp [go_sem, e19]
        · (with_reducible refine (rpure_t m w).mono ?_)
          rintro e w2 ⟨rfl, hB⟩
          exact ⟨_, rfl, rfl, hB⟩
      · intro a w hb hoth hdep
        refine step_on (want_none rfl) ?_
        have e1 : a.tmps[1]? = some (.pointer (some ⟨b1, 0, none⟩)) := ev_other hoth 1 (by kernel_rfl) rfl
        obtain ⟨c0, c1, c2, c3, c4, c5, c6, c7, c8, c9, c10, c11⟩ := msgCells (HZ.out.1.below hb HZ.out.1.lt)
        refine step_val (x := aggMsg m) ?_ rfl
        simp [go_sem, e1, c0, c1, c2, c3, c4, c5, c6, c7, c8, c9, c10, c11, aggMsg]
      · intro a w hb hoth hdep
        refine step_on (want_none rfl) ?_
        obtain ⟨v1, e20, hv1⟩ := ev_dep hdep 1 20 (by kernel_rfl) (by kernel_rfl)
        replace hv1 : v1 = aggMsg (pureM m) := hv1
        subst hv1
        obtain ⟨v2, e21, hv2⟩ := ev_dep hdep 2 21 (by kernel_rfl) (by kernel_rfl)
        replace hv2 : v2 = aggMsg m := hv2
        subst hv2
        refine step_val (x := .bool false) ?_ rfl
        simp [go_sem, e20, e21, hnm, hgu]
      · intro a w hb hoth hdep
        refine step_on ((want_dep hdep 4 23 false rfl (by kernel_rfl) (by kernel_rfl) (fun v h => h)).trans rfl) ?_
        have e1 : a.tmps[1]? = some (.pointer (some ⟨b1, 0, none⟩)) := ev_other hoth 1 (by kernel_rfl) rfl
        refine step_val (x := .pointer (some ⟨b1, 1, none⟩)) ?_ rfl
        simp [go_sem, e1]
      · intro a w hb hoth hdep
        refine step_on ((want_dep hdep 4 23 false rfl (by kernel_rfl) (by kernel_rfl) (fun v h => h)).trans rfl) ?_
        obtain ⟨v5, e24, hv5⟩ := ev_dep hdep 5 24 (by kernel_rfl) (by kernel_rfl)
        replace hv5 : v5 = .pointer (some ⟨b1, 1, none⟩) := hv5
        subst hv5
        have c1 : w.cell? ⟨b1, 1, none⟩ = some (.int .i64 m.frm) := ((HZ.out.1.below hb HZ.out.1.lt).cell 1).trans rfl
        refine step_val (x := .int .i64 m.frm) ?_ rfl
        simp [go_sem, e24, c1]
      · intro a w hb hoth hdep
        refine step_on ((want_dep hdep 4 23 false rfl (by kernel_rfl) (by kernel_rfl) (fun v h => h)).trans rfl) ?_
        obtain ⟨v6, e25, hv6⟩ := ev_dep hdep 6 25 (by kernel_rfl) (by kernel_rfl)
        replace hv6 : v6 = .int .i64 m.frm := hv6
        subst hv6
        refine step_call (f := 78) (args := #[.int .i64 m.frm]) ?_ ?_
        · simp [go_sem, e25]
        · have hcx := refPlace_t m.frm w
          rw [HPP.out.1] at hcx
          (with_reducible refine hcx.mono ?_)
          clear hcx
          rintro e w2 ⟨rfl, rfl⟩
          exact ⟨_, rfl, rfl, Below.refl _ _⟩
      · intro a w hb hoth hdep
        refine step_on ((want_dep hdep 4 23 false rfl (by kernel_rfl) (by kernel_rfl) (fun v h => h)).trans rfl) ?_
        have e4 : a.tmps[4]? = some (.int .i64 2) := ev_other hoth 4 (by kernel_rfl) rfl
        exact step_val ((BigFrame.run_move _ rfl w).trans (by rw [ev_of e4])) rfl
      · intro a w hb hoth hdep
        refine step_on ((want_dep hdep 4 23 false rfl (by kernel_rfl) (by kernel_rfl) (fun v h => h)).trans rfl) ?_
        obtain ⟨v7, e26, hv7⟩ := ev_dep hdep 7 26 (by kernel_rfl) (by kernel_rfl)
        replace hv7 : v7 = .int .i64 p1 := hv7
        subst hv7
        obtain ⟨v8, e27, hv8⟩ := ev_dep hdep 8 27 (by kernel_rfl) (by kernel_rfl)
        replace hv8 : v8 = .int .i64 2 := hv8
        subst hv8
        refine step_val (x := .bool true) ?_ rfl
        simp [go_sem, e26, e27, hpf]
      case fin =>
        intro wz hbz
        iterate 18 (rintro _ rfl)
        refine FinC.nil ?_
        have HE := Lib.hid (HZ.out.2.trans (hbz.mono HZ.out.2.size))
        clear hbz hnm hgu
        go_wp2_with fail
        go_ret
        exact ⟨ret_int HK.out.symm, HE.out⟩
  · rw [decide_eq_false hpm] at hnm
    have HK : Hid (checkM m = 1) := Lib.hid (by rw [HC.out, if_pos (.inl hpm)])
    refine wp_region_autoD 19 [.o (eqV (aggMsg m)), .o (eqV (aggMsg (pureM m))), .o (eqV (aggMsg m)), .b true, .b true, .u, .u, .u, .u, .u, .b true, .b true, .u, .u, .u, .u, .u, .b true] [false, false, false, false, true, true, true, true, true, true, true, true, true, true, true, true, true, true] (by kernel_rfl) (by kernel_rfl) rfl (by kernel_rfl) (by kernel_rfl) ⟨?_, ?_, ?_, ?_, trivial⟩ ?fin
    · intro a w hb hoth hdep
      refine step_on (want_none rfl) ?_
      have e1 : a.tmps[1]? = some (.pointer (some ⟨b1, 0, none⟩)) := ev_other hoth 1 (by kernel_rfl) rfl
      obtain ⟨c0, c1, c2, c3, c4, c5, c6, c7, c8, c9, c10, c11⟩ := msgCells (HZ.out.1.below hb HZ.out.1.lt)
      refine step_val (x := aggMsg m) ?_ rfl
      simp [go_sem, e1, c0, c1, c2, c3, c4, c5, c6, c7, c8, c9, c10, c11, aggMsg]
    · intro a w hb hoth hdep
      refine step_on (want_none rfl) ?_
      obtain ⟨v0, e19, hv0⟩ := ev_dep hdep 0 19 (by kernel_rfl) (by kernel_rfl)
      replace hv0 : v0 = aggMsg m := hv0
      subst hv0
      refine step_call (f := 77) (args := #[aggMsg m]) ?_ ?_
      · simp [go_sem, e19]
      · (with_reducible refine (rpure_t m w).mono ?_)
        rintro e w2 ⟨rfl, hB⟩
        exact ⟨_, rfl, rfl, hB⟩
    · intro a w hb hoth hdep
      refine step_on (want_none rfl) ?_
      have e1 : a.tmps[1]? = some (.pointer (some ⟨b1, 0, none⟩)) := ev_other hoth 1 (by kernel_rfl) rfl
      obtain ⟨c0, c1, c2, c3, c4, c5, c6, c7, c8, c9, c10, c11⟩ := msgCells (HZ.out.1.below hb HZ.out.1.lt)
      refine step_val (x := aggMsg m) ?_ rfl
      simp [go_sem, e1, c0, c1, c2, c3, c4, c5, c6, c7, c8, c9, c10, c11, aggMsg]
    · intro a w hb hoth hdep
      refine step_on (want_none rfl) ?_
      obtain ⟨v1, e20, hv1⟩ := ev_dep hdep 1 20 (by kernel_rfl) (by kernel_rfl)
      replace hv1 : v1 = aggMsg (pureM m) := hv1
      subst hv1
      obtain ⟨v2, e21, hv2⟩ := ev_dep hdep 2 21 (by kernel_rfl) (by kernel_rfl)
      replace hv2 : v2 = aggMsg m := hv2
      subst hv2
      refine step_val (x := .bool true) ?_ rfl
      simp [go_sem, e20, e21, hnm, hgu]
    case fin =>
      intro wz hbz
      iterate 18 (rintro _ rfl)
      refine FinC.nil ?_
      have HE := Lib.hid (HZ.out.2.trans (hbz.mono HZ.out.2.size))
      clear hbz hnm hgu
      go_wp2_with fail
      go_ret
      exact ⟨ret_int HK.out.symm, HE.out⟩
theorem sright_k5 (m : LMsg) (hk : m.kind = 5) (hp : pureM m = m) : rightM m = (inM m.inc 1 2147483647 && inM m.job 1 2147483647) := by
  have hr : rightR m.res = true := by
    have e : (pureM m).res = m.res := by rw [hp]
    unfold pureM at e
    rw [hk, if_neg (by decide)] at e
    rw [← e]
    exact (by simp [keepM, namesM, res_zero_rightS] : rightR (keepM m (namesM 5)).res = true)
  simp [rightM, bndM, okB, hk, namesM, intsM, hr]
  try (simp only [Bool.and_assoc])
set_option maxRecDepth 100000 in
set_option maxHeartbeats 12800000 in
theorem scheck_k5 (m : LMsg) (hk : m.kind = 5) (w : World) : Calls Tryd.prog 43 #[aggMsg m] w fun e w' => e = .returned (.int .i64 (checkM m)) ∧ Below w.heap.size w w' := by
  have hright := sright_k5 m hk
  have HC : Hid (checkM m = if pureM m ≠ m ∨ (placeM m.frm, placeM m.to_) ≠ (2, 1) ∨ rightM m = false then 1 else 0) := Lib.hid (by unfold checkM; rw [hk, if_neg (by decide)]; rfl)
  have h1 := Blk.new w 38 (boxMsg m)
  have hB : Below w.heap.size w (w.alloc (.cells (boxMsg m) 38)) := (Below.refl _ _).alloc (Nat.le_refl _) _
  have c0 : (w.alloc (.cells (boxMsg m) 38)).cell? ⟨w.heap.size, 0, none⟩ = some (.int .i64 5) := by rw [← hk]; exact (h1.cell 0).trans rfl
  have H0 := Lib.hid (And.intro h1 hB)
  have HK0 := Lib.hid hk
  have HRR := Lib.hid hright
  clear h1 hB hk hright
  go_enter Tryd.func43, Tryd.ntmps43
  go_wp2_with fail
  generalize w.alloc (.cells (boxMsg m) 38) = w1 at H0 c0 ⊢
  obtain ⟨b1, hb1⟩ : ∃ b1, w.heap.size = b1 := ⟨_, rfl⟩
  have h1 : Blk w1 b1 38 (boxMsg m) := by rw [← hb1]; exact H0.out.1
  rw [hb1] at c0
  try simp only [hb1]
  go_wp2_with fail
  (with_reducible refine (rnames_k5 w1).mono ?_)
  rintro e w2 ⟨rfl, hB2⟩
  have H2 := Lib.hid (And.intro (h1.below hB2 h1.lt) (H0.out.2.trans (hB2.mono H0.out.2.size)))
  have d0 : w2.cell? ⟨b1, 0, none⟩ = some (.int .i64 5) := (hB2.cell (p := ⟨b1, 0, none⟩) h1.lt).trans c0
  clear h1 hb1 H0 c0 hB2
  go_wp2_with fail
  (with_reducible refine (rends_k5 w2).mono ?_)
  rintro e w3 ⟨rfl, hB3⟩
  have HZ := Lib.hid (And.intro (H2.out.1.below hB3 H2.out.1.lt) (H2.out.2.trans (hB3.mono H2.out.2.size)))
  clear d0 hB3 H2
  go_wp2_with fail
  have hgu := fun (op : BinOp) (x y : Operand) (a b : LMsg) (W : World) => guardMsg op x y a b W
  have hnm := neqMsg (pureM m) m
  obtain ⟨p1, hp1⟩ : ∃ p, placeM m.frm = p := ⟨_, rfl⟩
  obtain ⟨p2, hp2⟩ : ∃ p, placeM m.to_ = p := ⟨_, rfl⟩
  have HPP := Lib.hid (And.intro hp1 hp2)
  rw [hp1, hp2] at HC
  clear hp1 hp2
  by_cases hpm : pureM m = m
  · rw [decide_eq_true hpm] at hnm
    by_cases hf : p1 = 2
    · have hpf : (p1 != 2) = false := by simp [hf]
      by_cases ht : p2 = 1
      · have hpt : (p2 != 1) = false := by simp [ht]
        have hwp : (p1, p2) = ((2 : Int), (1 : Int)) := by rw [hf, ht]
        clear hf ht
        refine wp_region_autoD 19 [.o (eqV (aggMsg m)), .o (eqV (aggMsg (pureM m))), .o (eqV (aggMsg m)), .b false, .b false, .o (eqV (.pointer (some ⟨b1, 1, none⟩))), .o (eqV (.int .i64 m.frm)), .o (eqV (.int .i64 p1)), .o (eqV (.int .i64 2)), .b false, .b false, .b false, .o (eqV (.pointer (some ⟨b1, 2, none⟩))), .o (eqV (.int .i64 m.to_)), .o (eqV (.int .i64 p2)), .o (eqV (.int .i64 1)), .b false, .b false] [false, false, false, false, true, false, false, false, false, false, true, true, false, false, false, false, false, true] (by kernel_rfl) (by kernel_rfl) rfl (by kernel_rfl) (by kernel_rfl) ⟨?_, ?_, ?_, ?_, ?_, ?_, ?_, ?_, ?_, ?_, ?_, ?_, ?_, ?_, trivial⟩ ?fin
        · intro a w hb hoth hdep
          refine step_on (want_none rfl) ?_
          have e1 : a.tmps[1]? = some (.pointer (some ⟨b1, 0, none⟩)) := ev_other hoth 1 (by kernel_rfl) rfl
          obtain ⟨c0, c1, c2, c3, c4, c5, c6, c7, c8, c9, c10, c11⟩ := msgCells (HZ.out.1.below hb HZ.out.1.lt)
          refine step_val (x := aggMsg m) ?_ rfl
          simp [go_sem, e1, c0, c1, c2, c3, c4, c5, c6, c7, c8, c9, c10, c11, aggMsg]
        · intro a w hb hoth hdep
          refine step_on (want_none rfl) ?_
          obtain ⟨v0, e19, hv0⟩ := ev_dep hdep 0 19 (by kernel_rfl) (by kernel_rfl)
          replace hv0 : v0 = aggMsg m := hv0
          subst hv0
          refine step_call (f := 77) (args := #[aggMsg m]) ?_ ?_
          · simp [go_sem, e19]
          · (with_reducible refine (rpure_t m w).mono ?_)
            rintro e w2 ⟨rfl, hB⟩
            exact ⟨_, rfl, rfl, hB⟩
        · intro a w hb hoth hdep
          refine step_on (want_none rfl) ?_
          have e1 : a.tmps[1]? = some (.pointer (some ⟨b1, 0, none⟩)) := ev_other hoth 1 (by kernel_rfl) rfl
          obtain ⟨c0, c1, c2, c3, c4, c5, c6, c7, c8, c9, c10, c11⟩ := msgCells (HZ.out.1.below hb HZ.out.1.lt)
          refine step_val (x := aggMsg m) ?_ rfl
          simp [go_sem, e1, c0, c1, c2, c3, c4, c5, c6, c7, c8, c9, c10, c11, aggMsg]
        · intro a w hb hoth hdep
          refine step_on (want_none rfl) ?_
          obtain ⟨v1, e20, hv1⟩ := ev_dep hdep 1 20 (by kernel_rfl) (by kernel_rfl)
          replace hv1 : v1 = aggMsg (pureM m) := hv1
          subst hv1
          obtain ⟨v2, e21, hv2⟩ := ev_dep hdep 2 21 (by kernel_rfl) (by kernel_rfl)
          replace hv2 : v2 = aggMsg m := hv2
          subst hv2
          refine step_val (x := .bool false) ?_ rfl
          simp [go_sem, e20, e21, hnm, hgu]
        · intro a w hb hoth hdep
          refine step_on ((want_dep hdep 4 23 false rfl (by kernel_rfl) (by kernel_rfl) (fun v h => h)).trans rfl) ?_
          have e1 : a.tmps[1]? = some (.pointer (some ⟨b1, 0, none⟩)) := ev_other hoth 1 (by kernel_rfl) rfl
          refine step_val (x := .pointer (some ⟨b1, 1, none⟩)) ?_ rfl
          simp [go_sem, e1]
        · intro a w hb hoth hdep
          refine step_on ((want_dep hdep 4 23 false rfl (by kernel_rfl) (by kernel_rfl) (fun v h => h)).trans rfl) ?_
          obtain ⟨v5, e24, hv5⟩ := ev_dep hdep 5 24 (by kernel_rfl) (by kernel_rfl)
          replace hv5 : v5 = .pointer (some ⟨b1, 1, none⟩) := hv5
          subst hv5
          have c1 : w.cell? ⟨b1, 1, none⟩ = some (.int .i64 m.frm) := ((HZ.out.1.below hb HZ.out.1.lt).cell 1).trans rfl
          refine step_val (x := .int .i64 m.frm) ?_ rfl
          simp [go_sem, e24, c1]
        · intro a w hb hoth hdep
          refine step_on ((want_dep hdep 4 23 false rfl (by kernel_rfl) (by kernel_rfl) (fun v h => h)).trans rfl) ?_
          obtain ⟨v6, e25, hv6⟩ := ev_dep hdep 6 25 (by kernel_rfl) (by kernel_rfl)
          replace hv6 : v6 = .int .i64 m.frm := hv6
          subst hv6
          refine step_call (f := 78) (args := #[.int .i64 m.frm]) ?_ ?_
          · simp [go_sem, e25]
          · have hcx := refPlace_t m.frm w
            rw [HPP.out.1] at hcx
            (with_reducible refine hcx.mono ?_)
            clear hcx
            rintro e w2 ⟨rfl, rfl⟩
            exact ⟨_, rfl, rfl, Below.refl _ _⟩
        · intro a w hb hoth hdep
          refine step_on ((want_dep hdep 4 23 false rfl (by kernel_rfl) (by kernel_rfl) (fun v h => h)).trans rfl) ?_
          have e4 : a.tmps[4]? = some (.int .i64 2) := ev_other hoth 4 (by kernel_rfl) rfl
          exact step_val ((BigFrame.run_move _ rfl w).trans (by rw [ev_of e4])) rfl
        · intro a w hb hoth hdep
          refine step_on ((want_dep hdep 4 23 false rfl (by kernel_rfl) (by kernel_rfl) (fun v h => h)).trans rfl) ?_
          obtain ⟨v7, e26, hv7⟩ := ev_dep hdep 7 26 (by kernel_rfl) (by kernel_rfl)
          replace hv7 : v7 = .int .i64 p1 := hv7
          subst hv7
          obtain ⟨v8, e27, hv8⟩ := ev_dep hdep 8 27 (by kernel_rfl) (by kernel_rfl)
          replace hv8 : v8 = .int .i64 2 := hv8
          subst hv8
          refine step_val (x := .bool false) ?_ rfl
          simp [go_sem, e26, e27, hpf]
        · intro a w hb hoth hdep
          refine step_on ((want_dep hdep 11 30 false rfl (by kernel_rfl) (by kernel_rfl) (fun v h => h)).trans rfl) ?_
          have e1 : a.tmps[1]? = some (.pointer (some ⟨b1, 0, none⟩)) := ev_other hoth 1 (by kernel_rfl) rfl
          refine step_val (x := .pointer (some ⟨b1, 2, none⟩)) ?_ rfl
          simp [go_sem, e1]
        · intro a w hb hoth hdep
          refine step_on ((want_dep hdep 11 30 false rfl (by kernel_rfl) (by kernel_rfl) (fun v h => h)).trans rfl) ?_
          obtain ⟨v12, e31, hv12⟩ := ev_dep hdep 12 31 (by kernel_rfl) (by kernel_rfl)
          replace hv12 : v12 = .pointer (some ⟨b1, 2, none⟩) := hv12
          subst hv12
          have c2 : w.cell? ⟨b1, 2, none⟩ = some (.int .i64 m.to_) := ((HZ.out.1.below hb HZ.out.1.lt).cell 2).trans rfl
          refine step_val (x := .int .i64 m.to_) ?_ rfl
          simp [go_sem, e31, c2]
        · intro a w hb hoth hdep
          refine step_on ((want_dep hdep 11 30 false rfl (by kernel_rfl) (by kernel_rfl) (fun v h => h)).trans rfl) ?_
          obtain ⟨v13, e32, hv13⟩ := ev_dep hdep 13 32 (by kernel_rfl) (by kernel_rfl)
          replace hv13 : v13 = .int .i64 m.to_ := hv13
          subst hv13
          refine step_call (f := 78) (args := #[.int .i64 m.to_]) ?_ ?_
          · simp [go_sem, e32]
          · have hcx := refPlace_t m.to_ w
            rw [HPP.out.2] at hcx
            (with_reducible refine hcx.mono ?_)
            clear hcx
            rintro e w2 ⟨rfl, rfl⟩
            exact ⟨_, rfl, rfl, Below.refl _ _⟩
        · intro a w hb hoth hdep
          refine step_on ((want_dep hdep 11 30 false rfl (by kernel_rfl) (by kernel_rfl) (fun v h => h)).trans rfl) ?_
          have e5 : a.tmps[5]? = some (.int .i64 1) := ev_other hoth 5 (by kernel_rfl) rfl
          exact step_val ((BigFrame.run_move _ rfl w).trans (by rw [ev_of e5])) rfl
        · intro a w hb hoth hdep
          refine step_on ((want_dep hdep 11 30 false rfl (by kernel_rfl) (by kernel_rfl) (fun v h => h)).trans rfl) ?_
          obtain ⟨v14, e33, hv14⟩ := ev_dep hdep 14 33 (by kernel_rfl) (by kernel_rfl)
          replace hv14 : v14 = .int .i64 p2 := hv14
          subst hv14
          obtain ⟨v15, e34, hv15⟩ := ev_dep hdep 15 34 (by kernel_rfl) (by kernel_rfl)
          replace hv15 : v15 = .int .i64 1 := hv15
          subst hv15
          refine step_val (x := .bool false) ?_ rfl
          simp [go_sem, e33, e34, hpt]
        case fin =>
          intro wz hbz
          iterate 18 (rintro _ rfl)
          refine FinC.nil ?_
          have HE := Lib.hid (And.intro (HZ.out.1.below hbz HZ.out.1.lt) (HZ.out.2.trans (hbz.mono HZ.out.2.size)))
          have HRT := Lib.hid (HRR.out hpm)
          clear hbz hnm hgu
          go_wp2
          go_loopw [6] (fun i wr => (i = .int .i64 0 ∧ Hid (True) ∧ Below w.heap.size w wr ∧ Below wz.heap.size wz wr) ∨ (i = .int .i64 1 ∧ Hid (inM m.inc 1 2147483647 = true) ∧ Below w.heap.size w wr ∧ Below wz.heap.size wz wr) ∨ (i = .int .i64 2 ∧ Hid (inM m.inc 1 2147483647 = true ∧ inM m.job 1 2147483647 = true) ∧ Below w.heap.size w wr ∧ Below wz.heap.size wz wr)) (fun i _ => 2 - (intOf i).toNat)
          case atStart => exact .inl ⟨rfl, Lib.hid trivial, HE.out.2, Below.refl _ _⟩
          case round =>
            rcases hrel with ⟨rfl, HD, hbw, hbz2⟩ | ⟨rfl, HD, hbw, hbz2⟩ | ⟨rfl, HD, hbw, hbz2⟩
            · have HBW := Lib.hid (And.intro hbw hbz2)
              have HRr := Lib.hid (HE.out.1.below hbz2 HE.out.1.lt)
              clear hbw hbz2
              rcases Bool.eq_false_or_eq_true (inM m.inc 1 2147483647) with ht | ht
              · go_upto_region 11 with fail
                refine wp_region_autoL 46 [.o (eqV (.int .u8 73)), .b false, .b false, .u, .u, .u, .u, .b false, .b false, .o (eqV (.int .u8 73)), .b true, .b true, .o (eqV (.pointer (some ⟨b1, 4, none⟩))), .o (eqV (.int .i64 m.inc)), .b true, .b false, .b false, .b false, .b false, .o (eqV (.int .u8 73)), .b false, .b false, .u, .u, .u, .u, .b false, .b false, .b false, .o (eqV (.int .u8 73)), .b false, .b false, .u, .u, .u, .u, .b false, .b false, .b false, .o (eqV (.int .u8 73)), .b false, .b false, .u, .u, .u, .u, .b false, .b false, .b false, .o (eqV (.int .u8 73)), .b false, .b false, .u, .u, .u, .u, .b false, .b false, .b false, .o (eqV (.int .u8 73)), .b false, .b false, .u, .u, .u, .u, .b false, .b false] [false, false, true, true, true, true, true, true, true, false, false, true, false, false, false, true, true, true, true, false, false, true, true, true, true, true, true, true, true, false, false, true, true, true, true, true, true, true, true, false, false, true, true, true, true, true, true, true, true, false, false, true, true, true, true, true, true, true, true, false, false, true, true, true, true, true, true, true] (by kernel_rfl) rfl (by kernel_rfl) (by kernel_rfl) ⟨?_, ?_, ?_, ?_, ?_, ?_, ?_, ?_, ?_, ?_, ?_, ?_, ?_, ?_, ?_, ?_, ?_, trivial⟩ ?fin
                · intro a w hb hoth hdep
                  refine step_on (want_none rfl) ?_
                  have e7 : a.tmps[7]? = some (.int .u8 73) := ev_other hoth 7 (by kernel_rfl) rfl
                  exact step_val ((BigFrame.run_move _ rfl w).trans (by rw [ev_of e7])) rfl
                · intro a w hb hoth hdep
                  refine step_on (want_none rfl) ?_
                  obtain ⟨v0, e46, hv0⟩ := ev_dep hdep 0 46 (by kernel_rfl) (by kernel_rfl)
                  replace hv0 : v0 = .int .u8 73 := hv0
                  subst hv0
                  refine step_val (x := .bool false) ?_ rfl
                  simp [go_sem, e46]
                · intro a w hb hoth hdep
                  refine step_on ((want_dep hdep 8 54 false rfl (by kernel_rfl) (by kernel_rfl) (fun v h => h)).trans rfl) ?_
                  have e7 : a.tmps[7]? = some (.int .u8 73) := ev_other hoth 7 (by kernel_rfl) rfl
                  exact step_val ((BigFrame.run_move _ rfl w).trans (by rw [ev_of e7])) rfl
                · intro a w hb hoth hdep
                  refine step_on ((want_dep hdep 8 54 false rfl (by kernel_rfl) (by kernel_rfl) (fun v h => h)).trans rfl) ?_
                  obtain ⟨v9, e55, hv9⟩ := ev_dep hdep 9 55 (by kernel_rfl) (by kernel_rfl)
                  replace hv9 : v9 = .int .u8 73 := hv9
                  subst hv9
                  refine step_val (x := .bool true) ?_ rfl
                  simp [go_sem, e55]
                · intro a w hb hoth hdep
                  refine step_on ((want_dep hdep 11 57 true rfl (by kernel_rfl) (by kernel_rfl) (fun v h => h)).trans rfl) ?_
                  have e1 : a.tmps[1]? = some (.pointer (some ⟨b1, 0, none⟩)) := ev_other hoth 1 (by kernel_rfl) rfl
                  refine step_val (x := .pointer (some ⟨b1, 4, none⟩)) ?_ rfl
                  simp [go_sem, e1]
                · intro a w hb hoth hdep
                  refine step_on ((want_dep hdep 11 57 true rfl (by kernel_rfl) (by kernel_rfl) (fun v h => h)).trans rfl) ?_
                  obtain ⟨v12, e58, hv12⟩ := ev_dep hdep 12 58 (by kernel_rfl) (by kernel_rfl)
                  replace hv12 : v12 = .pointer (some ⟨b1, 4, none⟩) := hv12
                  subst hv12
                  have g4 : w.cell? ⟨b1, 4, none⟩ = some (.int .i64 m.inc) := ((HRr.out.below hb HRr.out.lt).cell 4).trans rfl
                  refine step_val (x := .int .i64 m.inc) ?_ rfl
                  simp [go_sem, e58, g4]
                · intro a w hb hoth hdep
                  refine step_on ((want_dep hdep 11 57 true rfl (by kernel_rfl) (by kernel_rfl) (fun v h => h)).trans rfl) ?_
                  obtain ⟨v13, e59, hv13⟩ := ev_dep hdep 13 59 (by kernel_rfl) (by kernel_rfl)
                  replace hv13 : v13 = .int .i64 m.inc := hv13
                  subst hv13
                  refine step_call (f := 79) (args := #[.int .i64 m.inc, .int .i64 1, .int .i64 2147483647]) ?_ ?_
                  · simp [go_sem, e59]
                  · have hcx := refIn_t m.inc 1 2147483647 w
                    rw [ht] at hcx
                    (with_reducible refine hcx.mono ?_)
                    clear hcx
                    rintro e w2 ⟨rfl, rfl⟩
                    exact ⟨_, rfl, rfl, Below.refl _ _⟩
                · intro a w hb hoth hdep
                  refine step_on ((want_dep hdep 18 64 false rfl (by kernel_rfl) (by kernel_rfl) (fun v h => h)).trans rfl) ?_
                  have e7 : a.tmps[7]? = some (.int .u8 73) := ev_other hoth 7 (by kernel_rfl) rfl
                  exact step_val ((BigFrame.run_move _ rfl w).trans (by rw [ev_of e7])) rfl
                · intro a w hb hoth hdep
                  refine step_on ((want_dep hdep 18 64 false rfl (by kernel_rfl) (by kernel_rfl) (fun v h => h)).trans rfl) ?_
                  obtain ⟨v19, e65, hv19⟩ := ev_dep hdep 19 65 (by kernel_rfl) (by kernel_rfl)
                  replace hv19 : v19 = .int .u8 73 := hv19
                  subst hv19
                  refine step_val (x := .bool false) ?_ rfl
                  simp [go_sem, e65]
                · intro a w hb hoth hdep
                  refine step_on ((want_dep hdep 28 74 false rfl (by kernel_rfl) (by kernel_rfl) (fun v h => h)).trans rfl) ?_
                  have e7 : a.tmps[7]? = some (.int .u8 73) := ev_other hoth 7 (by kernel_rfl) rfl
                  exact step_val ((BigFrame.run_move _ rfl w).trans (by rw [ev_of e7])) rfl
                · intro a w hb hoth hdep
                  refine step_on ((want_dep hdep 28 74 false rfl (by kernel_rfl) (by kernel_rfl) (fun v h => h)).trans rfl) ?_
                  obtain ⟨v29, e75, hv29⟩ := ev_dep hdep 29 75 (by kernel_rfl) (by kernel_rfl)
                  replace hv29 : v29 = .int .u8 73 := hv29
                  subst hv29
                  refine step_val (x := .bool false) ?_ rfl
                  simp [go_sem, e75]
                · intro a w hb hoth hdep
                  refine step_on ((want_dep hdep 38 84 false rfl (by kernel_rfl) (by kernel_rfl) (fun v h => h)).trans rfl) ?_
                  have e7 : a.tmps[7]? = some (.int .u8 73) := ev_other hoth 7 (by kernel_rfl) rfl
                  exact step_val ((BigFrame.run_move _ rfl w).trans (by rw [ev_of e7])) rfl
                · intro a w hb hoth hdep
                  refine step_on ((want_dep hdep 38 84 false rfl (by kernel_rfl) (by kernel_rfl) (fun v h => h)).trans rfl) ?_
                  obtain ⟨v39, e85, hv39⟩ := ev_dep hdep 39 85 (by kernel_rfl) (by kernel_rfl)
                  replace hv39 : v39 = .int .u8 73 := hv39
                  subst hv39
                  refine step_val (x := .bool false) ?_ rfl
                  simp [go_sem, e85]
                · intro a w hb hoth hdep
                  refine step_on ((want_dep hdep 48 94 false rfl (by kernel_rfl) (by kernel_rfl) (fun v h => h)).trans rfl) ?_
                  have e7 : a.tmps[7]? = some (.int .u8 73) := ev_other hoth 7 (by kernel_rfl) rfl
                  exact step_val ((BigFrame.run_move _ rfl w).trans (by rw [ev_of e7])) rfl
                · intro a w hb hoth hdep
                  refine step_on ((want_dep hdep 48 94 false rfl (by kernel_rfl) (by kernel_rfl) (fun v h => h)).trans rfl) ?_
                  obtain ⟨v49, e95, hv49⟩ := ev_dep hdep 49 95 (by kernel_rfl) (by kernel_rfl)
                  replace hv49 : v49 = .int .u8 73 := hv49
                  subst hv49
                  refine step_val (x := .bool false) ?_ rfl
                  simp [go_sem, e95]
                · intro a w hb hoth hdep
                  refine step_on ((want_dep hdep 58 104 false rfl (by kernel_rfl) (by kernel_rfl) (fun v h => h)).trans rfl) ?_
                  have e7 : a.tmps[7]? = some (.int .u8 73) := ev_other hoth 7 (by kernel_rfl) rfl
                  exact step_val ((BigFrame.run_move _ rfl w).trans (by rw [ev_of e7])) rfl
                · intro a w hb hoth hdep
                  refine step_on ((want_dep hdep 58 104 false rfl (by kernel_rfl) (by kernel_rfl) (fun v h => h)).trans rfl) ?_
                  obtain ⟨v59, e105, hv59⟩ := ev_dep hdep 59 105 (by kernel_rfl) (by kernel_rfl)
                  replace hv59 : v59 = .int .u8 73 := hv59
                  subst hv59
                  refine step_val (x := .bool false) ?_ rfl
                  simp [go_sem, e105]
                case fin =>
                  intro wy hby
                  iterate 68 (rintro _ rfl)
                  refine FinC.nil ?_
                  have HBY := Lib.hid (And.intro (HBW.out.1.trans (hby.mono HBW.out.1.size)) (HBW.out.2.trans (hby.mono HBW.out.2.size)))
                  have HN : Hid (inM m.inc 1 2147483647 = true) := Lib.hid ht
                  clear ht hby
                  go_wp2_with fail
                  go_roundw
                  case rel => exact .inr (.inl ⟨by go_num, HN, HBY.out.1, HBY.out.2⟩)
                  case measure => simp [intOf]
              · go_upto_region 11 with fail
                refine wp_region_autoL 46 [.o (eqV (.int .u8 73)), .b false, .b false, .u, .u, .u, .u, .b false, .b false, .o (eqV (.int .u8 73)), .b true, .b true, .o (eqV (.pointer (some ⟨b1, 4, none⟩))), .o (eqV (.int .i64 m.inc)), .b false, .b true, .b true, .b true, .b true, .u, .u, .u, .u, .u, .u, .u, .u, .b true, .b true, .u, .u, .u, .u, .u, .u, .u, .u, .b true, .b true, .u, .u, .u, .u, .u, .u, .u, .u, .b true, .b true, .u, .u, .u, .u, .u, .u, .u, .u, .b true, .b true, .u, .u, .u, .u, .u, .u, .u, .u, .b true] [false, false, true, true, true, true, true, true, true, false, false, true, false, false, false, true, true, true, true, true, true, true, true, true, true, true, true, true, true, true, true, true, true, true, true, true, true, true, true, true, true, true, true, true, true, true, true, true, true, true, true, true, true, true, true, true, true, true, true, true, true, true, true, true, true, true, true, true] (by kernel_rfl) rfl (by kernel_rfl) (by kernel_rfl) ⟨?_, ?_, ?_, ?_, ?_, ?_, ?_, trivial⟩ ?fin
                · intro a w hb hoth hdep
                  refine step_on (want_none rfl) ?_
                  have e7 : a.tmps[7]? = some (.int .u8 73) := ev_other hoth 7 (by kernel_rfl) rfl
                  exact step_val ((BigFrame.run_move _ rfl w).trans (by rw [ev_of e7])) rfl
                · intro a w hb hoth hdep
                  refine step_on (want_none rfl) ?_
                  obtain ⟨v0, e46, hv0⟩ := ev_dep hdep 0 46 (by kernel_rfl) (by kernel_rfl)
                  replace hv0 : v0 = .int .u8 73 := hv0
                  subst hv0
                  refine step_val (x := .bool false) ?_ rfl
                  simp [go_sem, e46]
                · intro a w hb hoth hdep
                  refine step_on ((want_dep hdep 8 54 false rfl (by kernel_rfl) (by kernel_rfl) (fun v h => h)).trans rfl) ?_
                  have e7 : a.tmps[7]? = some (.int .u8 73) := ev_other hoth 7 (by kernel_rfl) rfl
                  exact step_val ((BigFrame.run_move _ rfl w).trans (by rw [ev_of e7])) rfl
                · intro a w hb hoth hdep
                  refine step_on ((want_dep hdep 8 54 false rfl (by kernel_rfl) (by kernel_rfl) (fun v h => h)).trans rfl) ?_
                  obtain ⟨v9, e55, hv9⟩ := ev_dep hdep 9 55 (by kernel_rfl) (by kernel_rfl)
                  replace hv9 : v9 = .int .u8 73 := hv9
                  subst hv9
                  refine step_val (x := .bool true) ?_ rfl
                  simp [go_sem, e55]
                · intro a w hb hoth hdep
                  refine step_on ((want_dep hdep 11 57 true rfl (by kernel_rfl) (by kernel_rfl) (fun v h => h)).trans rfl) ?_
                  have e1 : a.tmps[1]? = some (.pointer (some ⟨b1, 0, none⟩)) := ev_other hoth 1 (by kernel_rfl) rfl
                  refine step_val (x := .pointer (some ⟨b1, 4, none⟩)) ?_ rfl
                  simp [go_sem, e1]
                · intro a w hb hoth hdep
                  refine step_on ((want_dep hdep 11 57 true rfl (by kernel_rfl) (by kernel_rfl) (fun v h => h)).trans rfl) ?_
                  obtain ⟨v12, e58, hv12⟩ := ev_dep hdep 12 58 (by kernel_rfl) (by kernel_rfl)
                  replace hv12 : v12 = .pointer (some ⟨b1, 4, none⟩) := hv12
                  subst hv12
                  have g4 : w.cell? ⟨b1, 4, none⟩ = some (.int .i64 m.inc) := ((HRr.out.below hb HRr.out.lt).cell 4).trans rfl
                  refine step_val (x := .int .i64 m.inc) ?_ rfl
                  simp [go_sem, e58, g4]
                · intro a w hb hoth hdep
                  refine step_on ((want_dep hdep 11 57 true rfl (by kernel_rfl) (by kernel_rfl) (fun v h => h)).trans rfl) ?_
                  obtain ⟨v13, e59, hv13⟩ := ev_dep hdep 13 59 (by kernel_rfl) (by kernel_rfl)
                  replace hv13 : v13 = .int .i64 m.inc := hv13
                  subst hv13
                  refine step_call (f := 79) (args := #[.int .i64 m.inc, .int .i64 1, .int .i64 2147483647]) ?_ ?_
                  · simp [go_sem, e59]
                  · have hcx := refIn_t m.inc 1 2147483647 w
                    rw [ht] at hcx
                    (with_reducible refine hcx.mono ?_)
                    clear hcx
                    rintro e w2 ⟨rfl, rfl⟩
                    exact ⟨_, rfl, rfl, Below.refl _ _⟩
                case fin =>
                  intro wy hby
                  iterate 68 (rintro _ rfl)
                  refine FinC.nil ?_
                  have HBY := Lib.hid (HBW.out.1.trans (hby.mono HBW.out.1.size))
                  have HN : Hid (checkM m = 1) := Lib.hid (by rw [HC.out, if_pos (.inr (.inr (by rw [HRT.out]; simp [ht])))])
                  clear ht hby
                  go_wp2_with fail
                  go_ret
                  exact ⟨ret_int HN.out.symm, HBY.out⟩
            · have HBW := Lib.hid (And.intro hbw hbz2)
              have HRr := Lib.hid (HE.out.1.below hbz2 HE.out.1.lt)
              clear hbw hbz2
              rcases Bool.eq_false_or_eq_true (inM m.job 1 2147483647) with ht | ht
              · go_upto_region 11 with fail
                refine wp_region_autoL 46 [.o (eqV (.int .u8 74)), .b false, .b false, .u, .u, .u, .u, .b false, .b false, .o (eqV (.int .u8 74)), .b false, .b false, .u, .u, .u, .u, .b false, .b false, .b false, .o (eqV (.int .u8 74)), .b true, .b true, .o (eqV (.pointer (some ⟨b1, 5, none⟩))), .o (eqV (.int .i64 m.job)), .b true, .b false, .b false, .b false, .b false, .o (eqV (.int .u8 74)), .b false, .b false, .u, .u, .u, .u, .b false, .b false, .b false, .o (eqV (.int .u8 74)), .b false, .b false, .u, .u, .u, .u, .b false, .b false, .b false, .o (eqV (.int .u8 74)), .b false, .b false, .u, .u, .u, .u, .b false, .b false, .b false, .o (eqV (.int .u8 74)), .b false, .b false, .u, .u, .u, .u, .b false, .b false] [false, false, true, true, true, true, true, true, true, false, false, true, true, true, true, true, true, true, true, false, false, true, false, false, false, true, true, true, true, false, false, true, true, true, true, true, true, true, true, false, false, true, true, true, true, true, true, true, true, false, false, true, true, true, true, true, true, true, true, false, false, true, true, true, true, true, true, true] (by kernel_rfl) rfl (by kernel_rfl) (by kernel_rfl) ⟨?_, ?_, ?_, ?_, ?_, ?_, ?_, ?_, ?_, ?_, ?_, ?_, ?_, ?_, ?_, ?_, ?_, trivial⟩ ?fin
                · intro a w hb hoth hdep
                  refine step_on (want_none rfl) ?_
                  have e7 : a.tmps[7]? = some (.int .u8 74) := ev_other hoth 7 (by kernel_rfl) rfl
                  exact step_val ((BigFrame.run_move _ rfl w).trans (by rw [ev_of e7])) rfl
                · intro a w hb hoth hdep
                  refine step_on (want_none rfl) ?_
                  obtain ⟨v0, e46, hv0⟩ := ev_dep hdep 0 46 (by kernel_rfl) (by kernel_rfl)
                  replace hv0 : v0 = .int .u8 74 := hv0
                  subst hv0
                  refine step_val (x := .bool false) ?_ rfl
                  simp [go_sem, e46]
                · intro a w hb hoth hdep
                  refine step_on ((want_dep hdep 8 54 false rfl (by kernel_rfl) (by kernel_rfl) (fun v h => h)).trans rfl) ?_
                  have e7 : a.tmps[7]? = some (.int .u8 74) := ev_other hoth 7 (by kernel_rfl) rfl
                  exact step_val ((BigFrame.run_move _ rfl w).trans (by rw [ev_of e7])) rfl
                · intro a w hb hoth hdep
                  refine step_on ((want_dep hdep 8 54 false rfl (by kernel_rfl) (by kernel_rfl) (fun v h => h)).trans rfl) ?_
                  obtain ⟨v9, e55, hv9⟩ := ev_dep hdep 9 55 (by kernel_rfl) (by kernel_rfl)
                  replace hv9 : v9 = .int .u8 74 := hv9
                  subst hv9
                  refine step_val (x := .bool false) ?_ rfl
                  simp [go_sem, e55]
                · intro a w hb hoth hdep
                  refine step_on ((want_dep hdep 18 64 false rfl (by kernel_rfl) (by kernel_rfl) (fun v h => h)).trans rfl) ?_
                  have e7 : a.tmps[7]? = some (.int .u8 74) := ev_other hoth 7 (by kernel_rfl) rfl
                  exact step_val ((BigFrame.run_move _ rfl w).trans (by rw [ev_of e7])) rfl
                · intro a w hb hoth hdep
                  refine step_on ((want_dep hdep 18 64 false rfl (by kernel_rfl) (by kernel_rfl) (fun v h => h)).trans rfl) ?_
                  obtain ⟨v19, e65, hv19⟩ := ev_dep hdep 19 65 (by kernel_rfl) (by kernel_rfl)
                  replace hv19 : v19 = .int .u8 74 := hv19
                  subst hv19
                  refine step_val (x := .bool true) ?_ rfl
                  simp [go_sem, e65]
                · intro a w hb hoth hdep
                  refine step_on ((want_dep hdep 21 67 true rfl (by kernel_rfl) (by kernel_rfl) (fun v h => h)).trans rfl) ?_
                  have e1 : a.tmps[1]? = some (.pointer (some ⟨b1, 0, none⟩)) := ev_other hoth 1 (by kernel_rfl) rfl
                  refine step_val (x := .pointer (some ⟨b1, 5, none⟩)) ?_ rfl
                  simp [go_sem, e1]
                · intro a w hb hoth hdep
                  refine step_on ((want_dep hdep 21 67 true rfl (by kernel_rfl) (by kernel_rfl) (fun v h => h)).trans rfl) ?_
                  obtain ⟨v22, e68, hv22⟩ := ev_dep hdep 22 68 (by kernel_rfl) (by kernel_rfl)
                  replace hv22 : v22 = .pointer (some ⟨b1, 5, none⟩) := hv22
                  subst hv22
                  have g5 : w.cell? ⟨b1, 5, none⟩ = some (.int .i64 m.job) := ((HRr.out.below hb HRr.out.lt).cell 5).trans rfl
                  refine step_val (x := .int .i64 m.job) ?_ rfl
                  simp [go_sem, e68, g5]
                · intro a w hb hoth hdep
                  refine step_on ((want_dep hdep 21 67 true rfl (by kernel_rfl) (by kernel_rfl) (fun v h => h)).trans rfl) ?_
                  obtain ⟨v23, e69, hv23⟩ := ev_dep hdep 23 69 (by kernel_rfl) (by kernel_rfl)
                  replace hv23 : v23 = .int .i64 m.job := hv23
                  subst hv23
                  refine step_call (f := 79) (args := #[.int .i64 m.job, .int .i64 1, .int .i64 2147483647]) ?_ ?_
                  · simp [go_sem, e69]
                  · have hcx := refIn_t m.job 1 2147483647 w
                    rw [ht] at hcx
                    (with_reducible refine hcx.mono ?_)
                    clear hcx
                    rintro e w2 ⟨rfl, rfl⟩
                    exact ⟨_, rfl, rfl, Below.refl _ _⟩
                · intro a w hb hoth hdep
                  refine step_on ((want_dep hdep 28 74 false rfl (by kernel_rfl) (by kernel_rfl) (fun v h => h)).trans rfl) ?_
                  have e7 : a.tmps[7]? = some (.int .u8 74) := ev_other hoth 7 (by kernel_rfl) rfl
                  exact step_val ((BigFrame.run_move _ rfl w).trans (by rw [ev_of e7])) rfl
                · intro a w hb hoth hdep
                  refine step_on ((want_dep hdep 28 74 false rfl (by kernel_rfl) (by kernel_rfl) (fun v h => h)).trans rfl) ?_
                  obtain ⟨v29, e75, hv29⟩ := ev_dep hdep 29 75 (by kernel_rfl) (by kernel_rfl)
                  replace hv29 : v29 = .int .u8 74 := hv29
                  subst hv29
                  refine step_val (x := .bool false) ?_ rfl
                  simp [go_sem, e75]
                · intro a w hb hoth hdep
                  refine step_on ((want_dep hdep 38 84 false rfl (by kernel_rfl) (by kernel_rfl) (fun v h => h)).trans rfl) ?_
                  have e7 : a.tmps[7]? = some (.int .u8 74) := ev_other hoth 7 (by kernel_rfl) rfl
                  exact step_val ((BigFrame.run_move _ rfl w).trans (by rw [ev_of e7])) rfl
                · intro a w hb hoth hdep
                  refine step_on ((want_dep hdep 38 84 false rfl (by kernel_rfl) (by kernel_rfl) (fun v h => h)).trans rfl) ?_
                  obtain ⟨v39, e85, hv39⟩ := ev_dep hdep 39 85 (by kernel_rfl) (by kernel_rfl)
                  replace hv39 : v39 = .int .u8 74 := hv39
                  subst hv39
                  refine step_val (x := .bool false) ?_ rfl
                  simp [go_sem, e85]
                · intro a w hb hoth hdep
                  refine step_on ((want_dep hdep 48 94 false rfl (by kernel_rfl) (by kernel_rfl) (fun v h => h)).trans rfl) ?_
                  have e7 : a.tmps[7]? = some (.int .u8 74) := ev_other hoth 7 (by kernel_rfl) rfl
                  exact step_val ((BigFrame.run_move _ rfl w).trans (by rw [ev_of e7])) rfl
                · intro a w hb hoth hdep
                  refine step_on ((want_dep hdep 48 94 false rfl (by kernel_rfl) (by kernel_rfl) (fun v h => h)).trans rfl) ?_
                  obtain ⟨v49, e95, hv49⟩ := ev_dep hdep 49 95 (by kernel_rfl) (by kernel_rfl)
                  replace hv49 : v49 = .int .u8 74 := hv49
                  subst hv49
                  refine step_val (x := .bool false) ?_ rfl
                  simp [go_sem, e95]
                · intro a w hb hoth hdep
                  refine step_on ((want_dep hdep 58 104 false rfl (by kernel_rfl) (by kernel_rfl) (fun v h => h)).trans rfl) ?_
                  have e7 : a.tmps[7]? = some (.int .u8 74) := ev_other hoth 7 (by kernel_rfl) rfl
                  exact step_val ((BigFrame.run_move _ rfl w).trans (by rw [ev_of e7])) rfl
                · intro a w hb hoth hdep
                  refine step_on ((want_dep hdep 58 104 false rfl (by kernel_rfl) (by kernel_rfl) (fun v h => h)).trans rfl) ?_
                  obtain ⟨v59, e105, hv59⟩ := ev_dep hdep 59 105 (by kernel_rfl) (by kernel_rfl)
                  replace hv59 : v59 = .int .u8 74 := hv59
                  subst hv59
                  refine step_val (x := .bool false) ?_ rfl
                  simp [go_sem, e105]
                case fin =>
                  intro wy hby
                  iterate 68 (rintro _ rfl)
                  refine FinC.nil ?_
                  have HBY := Lib.hid (And.intro (HBW.out.1.trans (hby.mono HBW.out.1.size)) (HBW.out.2.trans (hby.mono HBW.out.2.size)))
                  have HN : Hid (inM m.inc 1 2147483647 = true ∧ inM m.job 1 2147483647 = true) := Lib.hid ⟨HD.out, ht⟩
                  clear ht hby
                  go_wp2_with fail
                  go_roundw
                  case rel => exact .inr (.inr (⟨by go_num, HN, HBY.out.1, HBY.out.2⟩))
                  case measure => simp [intOf]
              · go_upto_region 11 with fail
                refine wp_region_autoL 46 [.o (eqV (.int .u8 74)), .b false, .b false, .u, .u, .u, .u, .b false, .b false, .o (eqV (.int .u8 74)), .b false, .b false, .u, .u, .u, .u, .b false, .b false, .b false, .o (eqV (.int .u8 74)), .b true, .b true, .o (eqV (.pointer (some ⟨b1, 5, none⟩))), .o (eqV (.int .i64 m.job)), .b false, .b true, .b true, .b true, .b true, .u, .u, .u, .u, .u, .u, .u, .u, .b true, .b true, .u, .u, .u, .u, .u, .u, .u, .u, .b true, .b true, .u, .u, .u, .u, .u, .u, .u, .u, .b true, .b true, .u, .u, .u, .u, .u, .u, .u, .u, .b true] [false, false, true, true, true, true, true, true, true, false, false, true, true, true, true, true, true, true, true, false, false, true, false, false, false, true, true, true, true, true, true, true, true, true, true, true, true, true, true, true, true, true, true, true, true, true, true, true, true, true, true, true, true, true, true, true, true, true, true, true, true, true, true, true, true, true, true, true] (by kernel_rfl) rfl (by kernel_rfl) (by kernel_rfl) ⟨?_, ?_, ?_, ?_, ?_, ?_, ?_, ?_, ?_, trivial⟩ ?fin
                · intro a w hb hoth hdep
                  refine step_on (want_none rfl) ?_
                  have e7 : a.tmps[7]? = some (.int .u8 74) := ev_other hoth 7 (by kernel_rfl) rfl
                  exact step_val ((BigFrame.run_move _ rfl w).trans (by rw [ev_of e7])) rfl
                · intro a w hb hoth hdep
                  refine step_on (want_none rfl) ?_
                  obtain ⟨v0, e46, hv0⟩ := ev_dep hdep 0 46 (by kernel_rfl) (by kernel_rfl)
                  replace hv0 : v0 = .int .u8 74 := hv0
                  subst hv0
                  refine step_val (x := .bool false) ?_ rfl
                  simp [go_sem, e46]
                · intro a w hb hoth hdep
                  refine step_on ((want_dep hdep 8 54 false rfl (by kernel_rfl) (by kernel_rfl) (fun v h => h)).trans rfl) ?_
                  have e7 : a.tmps[7]? = some (.int .u8 74) := ev_other hoth 7 (by kernel_rfl) rfl
                  exact step_val ((BigFrame.run_move _ rfl w).trans (by rw [ev_of e7])) rfl
                · intro a w hb hoth hdep
                  refine step_on ((want_dep hdep 8 54 false rfl (by kernel_rfl) (by kernel_rfl) (fun v h => h)).trans rfl) ?_
                  obtain ⟨v9, e55, hv9⟩ := ev_dep hdep 9 55 (by kernel_rfl) (by kernel_rfl)
                  replace hv9 : v9 = .int .u8 74 := hv9
                  subst hv9
                  refine step_val (x := .bool false) ?_ rfl
                  simp [go_sem, e55]
                · intro a w hb hoth hdep
                  refine step_on ((want_dep hdep 18 64 false rfl (by kernel_rfl) (by kernel_rfl) (fun v h => h)).trans rfl) ?_
                  have e7 : a.tmps[7]? = some (.int .u8 74) := ev_other hoth 7 (by kernel_rfl) rfl
                  exact step_val ((BigFrame.run_move _ rfl w).trans (by rw [ev_of e7])) rfl
                · intro a w hb hoth hdep
                  refine step_on ((want_dep hdep 18 64 false rfl (by kernel_rfl) (by kernel_rfl) (fun v h => h)).trans rfl) ?_
                  obtain ⟨v19, e65, hv19⟩ := ev_dep hdep 19 65 (by kernel_rfl) (by kernel_rfl)
                  replace hv19 : v19 = .int .u8 74 := hv19
                  subst hv19
                  refine step_val (x := .bool true) ?_ rfl
                  simp [go_sem, e65]
                · intro a w hb hoth hdep
                  refine step_on ((want_dep hdep 21 67 true rfl (by kernel_rfl) (by kernel_rfl) (fun v h => h)).trans rfl) ?_
                  have e1 : a.tmps[1]? = some (.pointer (some ⟨b1, 0, none⟩)) := ev_other hoth 1 (by kernel_rfl) rfl
                  refine step_val (x := .pointer (some ⟨b1, 5, none⟩)) ?_ rfl
                  simp [go_sem, e1]
                · intro a w hb hoth hdep
                  refine step_on ((want_dep hdep 21 67 true rfl (by kernel_rfl) (by kernel_rfl) (fun v h => h)).trans rfl) ?_
                  obtain ⟨v22, e68, hv22⟩ := ev_dep hdep 22 68 (by kernel_rfl) (by kernel_rfl)
                  replace hv22 : v22 = .pointer (some ⟨b1, 5, none⟩) := hv22
                  subst hv22
                  have g5 : w.cell? ⟨b1, 5, none⟩ = some (.int .i64 m.job) := ((HRr.out.below hb HRr.out.lt).cell 5).trans rfl
                  refine step_val (x := .int .i64 m.job) ?_ rfl
                  simp [go_sem, e68, g5]
                · intro a w hb hoth hdep
                  refine step_on ((want_dep hdep 21 67 true rfl (by kernel_rfl) (by kernel_rfl) (fun v h => h)).trans rfl) ?_
                  obtain ⟨v23, e69, hv23⟩ := ev_dep hdep 23 69 (by kernel_rfl) (by kernel_rfl)
                  replace hv23 : v23 = .int .i64 m.job := hv23
                  subst hv23
                  refine step_call (f := 79) (args := #[.int .i64 m.job, .int .i64 1, .int .i64 2147483647]) ?_ ?_
                  · simp [go_sem, e69]
                  · have hcx := refIn_t m.job 1 2147483647 w
                    rw [ht] at hcx
                    (with_reducible refine hcx.mono ?_)
                    clear hcx
                    rintro e w2 ⟨rfl, rfl⟩
                    exact ⟨_, rfl, rfl, Below.refl _ _⟩
                case fin =>
                  intro wy hby
                  iterate 68 (rintro _ rfl)
                  refine FinC.nil ?_
                  have HBY := Lib.hid (HBW.out.1.trans (hby.mono HBW.out.1.size))
                  have HN : Hid (checkM m = 1) := Lib.hid (by rw [HC.out, if_pos (.inr (.inr (by rw [HRT.out]; simp [ht])))])
                  clear ht hby
                  go_wp2_with fail
                  go_ret
                  exact ⟨ret_int HN.out.symm, HBY.out⟩
            · have HN : Hid (checkM m = 0) := Lib.hid (by rw [HC.out, if_neg]; rintro (h | h | h); exact h hpm; exact h hwp; rw [HRT.out, HD.out.1, HD.out.2] at h; cases h)
              go_wp2
              go_ret
              exact ⟨ret_int HN.out.symm, hbw⟩
      · have hpt : (p2 != 1) = true := by simp [ht]
        have HK : Hid (checkM m = 1) := Lib.hid (by rw [HC.out, if_pos (.inr (.inl (by simp [ht])))])
        clear hf ht
        refine wp_region_autoD 19 [.o (eqV (aggMsg m)), .o (eqV (aggMsg (pureM m))), .o (eqV (aggMsg m)), .b false, .b false, .o (eqV (.pointer (some ⟨b1, 1, none⟩))), .o (eqV (.int .i64 m.frm)), .o (eqV (.int .i64 p1)), .o (eqV (.int .i64 2)), .b false, .b false, .b false, .o (eqV (.pointer (some ⟨b1, 2, none⟩))), .o (eqV (.int .i64 m.to_)), .o (eqV (.int .i64 p2)), .o (eqV (.int .i64 1)), .b true, .b true] [false, false, false, false, true, false, false, false, false, false, true, true, false, false, false, false, false, true] (by kernel_rfl) (by kernel_rfl) rfl (by kernel_rfl) (by kernel_rfl) ⟨?_, ?_, ?_, ?_, ?_, ?_, ?_, ?_, ?_, ?_, ?_, ?_, ?_, ?_, trivial⟩ ?fin
        · intro a w hb hoth hdep
          refine step_on (want_none rfl) ?_
          have e1 : a.tmps[1]? = some (.pointer (some ⟨b1, 0, none⟩)) := ev_other hoth 1 (by kernel_rfl) rfl
          obtain ⟨c0, c1, c2, c3, c4, c5, c6, c7, c8, c9, c10, c11⟩ := msgCells (HZ.out.1.below hb HZ.out.1.lt)
          refine step_val (x := aggMsg m) ?_ rfl
          simp [go_sem, e1, c0, c1, c2, c3, c4, c5, c6, c7, c8, c9, c10, c11, aggMsg]
        · intro a w hb hoth hdep
          refine step_on (want_none rfl) ?_
          obtain ⟨v0, e19, hv0⟩ := ev_dep hdep 0 19 (by kernel_rfl) (by kernel_rfl)
          replace hv0 : v0 = aggMsg m := hv0
          subst hv0
          refine step_call (f := 77) (args := #[aggMsg m]) ?_ ?_
          · simp [go_sem, e19]
          · (with_reducible refine (rpure_t m w).mono ?_)
            rintro e w2 ⟨rfl, hB⟩
            exact ⟨_, rfl, rfl, hB⟩
        · intro a w hb hoth hdep
          refine step_on (want_none rfl) ?_
          have e1 : a.tmps[1]? = some (.pointer (some ⟨b1, 0, none⟩)) := ev_other hoth 1 (by kernel_rfl) rfl
          obtain ⟨c0, c1, c2, c3, c4, c5, c6, c7, c8, c9, c10, c11⟩ := msgCells (HZ.out.1.below hb HZ.out.1.lt)
          refine step_val (x := aggMsg m) ?_ rfl
          simp [go_sem, e1, c0, c1, c2, c3, c4, c5, c6, c7, c8, c9, c10, c11, aggMsg]
        · intro a w hb hoth hdep
          refine step_on (want_none rfl) ?_
          obtain ⟨v1, e20, hv1⟩ := ev_dep hdep 1 20 (by kernel_rfl) (by kernel_rfl)
          replace hv1 : v1 = aggMsg (pureM m) := hv1
          subst hv1
          obtain ⟨v2, e21, hv2⟩ := ev_dep hdep 2 21 (by kernel_rfl) (by kernel_rfl)
          replace hv2 : v2 = aggMsg m := hv2
          subst hv2
          refine step_val (x := .bool false) ?_ rfl
          simp [go_sem, e20, e21, hnm, hgu]
        · intro a w hb hoth hdep
          refine step_on ((want_dep hdep 4 23 false rfl (by kernel_rfl) (by kernel_rfl) (fun v h => h)).trans rfl) ?_
          have e1 : a.tmps[1]? = some (.pointer (some ⟨b1, 0, none⟩)) := ev_other hoth 1 (by kernel_rfl) rfl
          refine step_val (x := .pointer (some ⟨b1, 1, none⟩)) ?_ rfl
          simp [go_sem, e1]
        · intro a w hb hoth hdep
          refine step_on ((want_dep hdep 4 23 false rfl (by kernel_rfl) (by kernel_rfl) (fun v h => h)).trans rfl) ?_
          obtain ⟨v5, e24, hv5⟩ := ev_dep hdep 5 24 (by kernel_rfl) (by kernel_rfl)
          replace hv5 : v5 = .pointer (some ⟨b1, 1, none⟩) := hv5
          subst hv5
          have c1 : w.cell? ⟨b1, 1, none⟩ = some (.int .i64 m.frm) := ((HZ.out.1.below hb HZ.out.1.lt).cell 1).trans rfl
          refine step_val (x := .int .i64 m.frm) ?_ rfl
          simp [go_sem, e24, c1]
        · intro a w hb hoth hdep
          refine step_on ((want_dep hdep 4 23 false rfl (by kernel_rfl) (by kernel_rfl) (fun v h => h)).trans rfl) ?_
          obtain ⟨v6, e25, hv6⟩ := ev_dep hdep 6 25 (by kernel_rfl) (by kernel_rfl)
          replace hv6 : v6 = .int .i64 m.frm := hv6
          subst hv6
          refine step_call (f := 78) (args := #[.int .i64 m.frm]) ?_ ?_
          · simp [go_sem, e25]
          · have hcx := refPlace_t m.frm w
            rw [HPP.out.1] at hcx
            (with_reducible refine hcx.mono ?_)
            clear hcx
            rintro e w2 ⟨rfl, rfl⟩
            exact ⟨_, rfl, rfl, Below.refl _ _⟩
        · intro a w hb hoth hdep
          refine step_on ((want_dep hdep 4 23 false rfl (by kernel_rfl) (by kernel_rfl) (fun v h => h)).trans rfl) ?_
          have e4 : a.tmps[4]? = some (.int .i64 2) := ev_other hoth 4 (by kernel_rfl) rfl
          exact step_val ((BigFrame.run_move _ rfl w).trans (by rw [ev_of e4])) rfl
        · intro a w hb hoth hdep
          refine step_on ((want_dep hdep 4 23 false rfl (by kernel_rfl) (by kernel_rfl) (fun v h => h)).trans rfl) ?_
          obtain ⟨v7, e26, hv7⟩ := ev_dep hdep 7 26 (by kernel_rfl) (by kernel_rfl)
          replace hv7 : v7 = .int .i64 p1 := hv7
          subst hv7
          obtain ⟨v8, e27, hv8⟩ := ev_dep hdep 8 27 (by kernel_rfl) (by kernel_rfl)
          replace hv8 : v8 = .int .i64 2 := hv8
          subst hv8
          refine step_val (x := .bool false) ?_ rfl
          simp [go_sem, e26, e27, hpf]
        · intro a w hb hoth hdep
          refine step_on ((want_dep hdep 11 30 false rfl (by kernel_rfl) (by kernel_rfl) (fun v h => h)).trans rfl) ?_
          have e1 : a.tmps[1]? = some (.pointer (some ⟨b1, 0, none⟩)) := ev_other hoth 1 (by kernel_rfl) rfl
          refine step_val (x := .pointer (some ⟨b1, 2, none⟩)) ?_ rfl
          simp [go_sem, e1]
        · intro a w hb hoth hdep
          refine step_on ((want_dep hdep 11 30 false rfl (by kernel_rfl) (by kernel_rfl) (fun v h => h)).trans rfl) ?_
          obtain ⟨v12, e31, hv12⟩ := ev_dep hdep 12 31 (by kernel_rfl) (by kernel_rfl)
          replace hv12 : v12 = .pointer (some ⟨b1, 2, none⟩) := hv12
          subst hv12
          have c2 : w.cell? ⟨b1, 2, none⟩ = some (.int .i64 m.to_) := ((HZ.out.1.below hb HZ.out.1.lt).cell 2).trans rfl
          refine step_val (x := .int .i64 m.to_) ?_ rfl
          simp [go_sem, e31, c2]
        · intro a w hb hoth hdep
          refine step_on ((want_dep hdep 11 30 false rfl (by kernel_rfl) (by kernel_rfl) (fun v h => h)).trans rfl) ?_
          obtain ⟨v13, e32, hv13⟩ := ev_dep hdep 13 32 (by kernel_rfl) (by kernel_rfl)
          replace hv13 : v13 = .int .i64 m.to_ := hv13
          subst hv13
          refine step_call (f := 78) (args := #[.int .i64 m.to_]) ?_ ?_
          · simp [go_sem, e32]
          · have hcx := refPlace_t m.to_ w
            rw [HPP.out.2] at hcx
            (with_reducible refine hcx.mono ?_)
            clear hcx
            rintro e w2 ⟨rfl, rfl⟩
            exact ⟨_, rfl, rfl, Below.refl _ _⟩
        · intro a w hb hoth hdep
          refine step_on ((want_dep hdep 11 30 false rfl (by kernel_rfl) (by kernel_rfl) (fun v h => h)).trans rfl) ?_
          have e5 : a.tmps[5]? = some (.int .i64 1) := ev_other hoth 5 (by kernel_rfl) rfl
          exact step_val ((BigFrame.run_move _ rfl w).trans (by rw [ev_of e5])) rfl
        · intro a w hb hoth hdep
          refine step_on ((want_dep hdep 11 30 false rfl (by kernel_rfl) (by kernel_rfl) (fun v h => h)).trans rfl) ?_
          obtain ⟨v14, e33, hv14⟩ := ev_dep hdep 14 33 (by kernel_rfl) (by kernel_rfl)
          replace hv14 : v14 = .int .i64 p2 := hv14
          subst hv14
          obtain ⟨v15, e34, hv15⟩ := ev_dep hdep 15 34 (by kernel_rfl) (by kernel_rfl)
          replace hv15 : v15 = .int .i64 1 := hv15
          subst hv15
          refine step_val (x := .bool true) ?_ rfl
          simp [go_sem, e33, e34, hpt]
        case fin =>
          intro wz hbz
          iterate 18 (rintro _ rfl)
          refine FinC.nil ?_
          have HE := Lib.hid (HZ.out.2.trans (hbz.mono HZ.out.2.size))
          clear hbz hnm hgu
          go_wp2_with fail
          go_ret
          exact ⟨ret_int HK.out.symm, HE.out⟩
    · have hpf : (p1 != 2) = true := by simp [hf]
      have HK : Hid (checkM m = 1) := Lib.hid (by rw [HC.out, if_pos (.inr (.inl (by simp [hf])))])
      clear hf
      refine wp_region_autoD 19 [.o (eqV (aggMsg m)), .o (eqV (aggMsg (pureM m))), .o (eqV (aggMsg m)), .b false, .b false, .o (eqV (.pointer (some ⟨b1, 1, none⟩))), .o (eqV (.int .i64 m.frm)), .o (eqV (.int .i64 p1)), .o (eqV (.int .i64 2)), .b true, .b true, .b true, .u, .u, .u, .u, .u, .b true] [false, false, false, false, true, false, false, false, false, false, true, true, true, true, true, true, true, true] (by kernel_rfl) (by kernel_rfl) rfl (by kernel_rfl) (by kernel_rfl) ⟨?_, ?_, ?_, ?_, ?_, ?_, ?_, ?_, ?_, trivial⟩ ?fin
      · intro a w hb hoth hdep
        refine step_on (want_none rfl) ?_
        have e1 : a.tmps[1]? = some (.pointer (some ⟨b1, 0, none⟩)) := ev_other hoth 1 (by kernel_rfl) rfl
        obtain ⟨c0, c1, c2, c3, c4, c5, c6, c7, c8, c9, c10, c11⟩ := msgCells (HZ.out.1.below hb HZ.out.1.lt)
        refine step_val (x := aggMsg m) ?_ rfl
        simp [go_sem, e1, c0, c1, c2, c3, c4, c5, c6, c7, c8, c9, c10, c11, aggMsg]
      · intro a w hb hoth hdep
        refine step_on (want_none rfl) ?_
        obtain ⟨v0, e19, hv0⟩ := ev_dep hdep 0 19 (by kernel_rfl) (by kernel_rfl)
        replace hv0 : v0 = aggMsg m := hv0
        subst hv0
        refine step_call (f := 77) (args := #[aggMsg m]) ?_ ?_
        · simp [go_sem, e19]
        · (with_reducible refine (rpure_t m w).mono ?_)
          rintro e w2 ⟨rfl, hB⟩
          exact ⟨_, rfl, rfl, hB⟩
      · intro a w hb hoth hdep
        refine step_on (want_none rfl) ?_
        have e1 : a.tmps[1]? = some (.pointer (some ⟨b1, 0, none⟩)) := ev_other hoth 1 (by kernel_rfl) rfl
        obtain ⟨c0, c1, c2, c3, c4, c5, c6, c7, c8, c9, c10, c11⟩ := msgCells (HZ.out.1.below hb HZ.out.1.lt)
        refine step_val (x := aggMsg m) ?_ rfl
        simp [go_sem, e1, c0, c1, c2, c3, c4, c5, c6, c7, c8, c9, c10, c11, aggMsg]
      · intro a w hb hoth hdep
        refine step_on (want_none rfl) ?_
        obtain ⟨v1, e20, hv1⟩ := ev_dep hdep 1 20 (by kernel_rfl) (by kernel_rfl)
        replace hv1 : v1 = aggMsg (pureM m) := hv1
        subst hv1
        obtain ⟨v2, e21, hv2⟩ := ev_dep hdep 2 21 (by kernel_rfl) (by kernel_rfl)
        replace hv2 : v2 = aggMsg m := hv2
        subst hv2
        refine step_val (x := .bool false) ?_ rfl
        simp [go_sem, e20, e21, hnm, hgu]
      · intro a w hb hoth hdep
        refine step_on ((want_dep hdep 4 23 false rfl (by kernel_rfl) (by kernel_rfl) (fun v h => h)).trans rfl) ?_
        have e1 : a.tmps[1]? = some (.pointer (some ⟨b1, 0, none⟩)) := ev_other hoth 1 (by kernel_rfl) rfl
        refine step_val (x := .pointer (some ⟨b1, 1, none⟩)) ?_ rfl
        simp [go_sem, e1]
      · intro a w hb hoth hdep
        refine step_on ((want_dep hdep 4 23 false rfl (by kernel_rfl) (by kernel_rfl) (fun v h => h)).trans rfl) ?_
        obtain ⟨v5, e24, hv5⟩ := ev_dep hdep 5 24 (by kernel_rfl) (by kernel_rfl)
        replace hv5 : v5 = .pointer (some ⟨b1, 1, none⟩) := hv5
        subst hv5
        have c1 : w.cell? ⟨b1, 1, none⟩ = some (.int .i64 m.frm) := ((HZ.out.1.below hb HZ.out.1.lt).cell 1).trans rfl
        refine step_val (x := .int .i64 m.frm) ?_ rfl
        simp [go_sem, e24, c1]
      · intro a w hb hoth hdep
        refine step_on ((want_dep hdep 4 23 false rfl (by kernel_rfl) (by kernel_rfl) (fun v h => h)).trans rfl) ?_
        obtain ⟨v6, e25, hv6⟩ := ev_dep hdep 6 25 (by kernel_rfl) (by kernel_rfl)
        replace hv6 : v6 = .int .i64 m.frm := hv6
        subst hv6
        refine step_call (f := 78) (args := #[.int .i64 m.frm]) ?_ ?_
        · simp [go_sem, e25]
        · have hcx := refPlace_t m.frm w
          rw [HPP.out.1] at hcx
          (with_reducible refine hcx.mono ?_)
          clear hcx
          rintro e w2 ⟨rfl, rfl⟩
          exact ⟨_, rfl, rfl, Below.refl _ _⟩
      · intro a w hb hoth hdep
        refine step_on ((want_dep hdep 4 23 false rfl (by kernel_rfl) (by kernel_rfl) (fun v h => h)).trans rfl) ?_
        have e4 : a.tmps[4]? = some (.int .i64 2) := ev_other hoth 4 (by kernel_rfl) rfl
        exact step_val ((BigFrame.run_move _ rfl w).trans (by rw [ev_of e4])) rfl
      · intro a w hb hoth hdep
        refine step_on ((want_dep hdep 4 23 false rfl (by kernel_rfl) (by kernel_rfl) (fun v h => h)).trans rfl) ?_
        obtain ⟨v7, e26, hv7⟩ := ev_dep hdep 7 26 (by kernel_rfl) (by kernel_rfl)
        replace hv7 : v7 = .int .i64 p1 := hv7
        subst hv7
        obtain ⟨v8, e27, hv8⟩ := ev_dep hdep 8 27 (by kernel_rfl) (by kernel_rfl)
        replace hv8 : v8 = .int .i64 2 := hv8
        subst hv8
        refine step_val (x := .bool true) ?_ rfl
        simp [go_sem, e26, e27, hpf]
      case fin =>
        intro wz hbz
        iterate 18 (rintro _ rfl)
        refine FinC.nil ?_
        have HE := Lib.hid (HZ.out.2.trans (hbz.mono HZ.out.2.size))
        clear hbz hnm hgu
        go_wp2_with fail
        go_ret
        exact ⟨ret_int HK.out.symm, HE.out⟩
  · rw [decide_eq_false hpm] at hnm
    have HK : Hid (checkM m = 1) := Lib.hid (by rw [HC.out, if_pos (.inl hpm)])
    refine wp_region_autoD 19 [.o (eqV (aggMsg m)), .o (eqV (aggMsg (pureM m))), .o (eqV (aggMsg m)), .b true, .b true, .u, .u, .u, .u, .u, .b true, .b true, .u, .u, .u, .u, .u, .b true] [false, false, false, false, true, true, true, true, true, true, true, true, true, true, true, true, true, true] (by kernel_rfl) (by kernel_rfl) rfl (by kernel_rfl) (by kernel_rfl) ⟨?_, ?_, ?_, ?_, trivial⟩ ?fin
    · intro a w hb hoth hdep
      refine step_on (want_none rfl) ?_
      have e1 : a.tmps[1]? = some (.pointer (some ⟨b1, 0, none⟩)) := ev_other hoth 1 (by kernel_rfl) rfl
      obtain ⟨c0, c1, c2, c3, c4, c5, c6, c7, c8, c9, c10, c11⟩ := msgCells (HZ.out.1.below hb HZ.out.1.lt)
      refine step_val (x := aggMsg m) ?_ rfl
      simp [go_sem, e1, c0, c1, c2, c3, c4, c5, c6, c7, c8, c9, c10, c11, aggMsg]
    · intro a w hb hoth hdep
      refine step_on (want_none rfl) ?_
      obtain ⟨v0, e19, hv0⟩ := ev_dep hdep 0 19 (by kernel_rfl) (by kernel_rfl)
      replace hv0 : v0 = aggMsg m := hv0
      subst hv0
      refine step_call (f := 77) (args := #[aggMsg m]) ?_ ?_
      · simp [go_sem, e19]
      · (with_reducible refine (rpure_t m w).mono ?_)
        rintro e w2 ⟨rfl, hB⟩
        exact ⟨_, rfl, rfl, hB⟩
    · intro a w hb hoth hdep
      refine step_on (want_none rfl) ?_
      have e1 : a.tmps[1]? = some (.pointer (some ⟨b1, 0, none⟩)) := ev_other hoth 1 (by kernel_rfl) rfl
      obtain ⟨c0, c1, c2, c3, c4, c5, c6, c7, c8, c9, c10, c11⟩ := msgCells (HZ.out.1.below hb HZ.out.1.lt)
      refine step_val (x := aggMsg m) ?_ rfl
      simp [go_sem, e1, c0, c1, c2, c3, c4, c5, c6, c7, c8, c9, c10, c11, aggMsg]
    · intro a w hb hoth hdep
      refine step_on (want_none rfl) ?_
      obtain ⟨v1, e20, hv1⟩ := ev_dep hdep 1 20 (by kernel_rfl) (by kernel_rfl)
      replace hv1 : v1 = aggMsg (pureM m) := hv1
      subst hv1
      obtain ⟨v2, e21, hv2⟩ := ev_dep hdep 2 21 (by kernel_rfl) (by kernel_rfl)
      replace hv2 : v2 = aggMsg m := hv2
      subst hv2
      refine step_val (x := .bool true) ?_ rfl
      simp [go_sem, e20, e21, hnm, hgu]
    case fin =>
      intro wz hbz
      iterate 18 (rintro _ rfl)
      refine FinC.nil ?_
      have HE := Lib.hid (HZ.out.2.trans (hbz.mono HZ.out.2.size))
      clear hbz hnm hgu
      go_wp2_with fail
      go_ret
      exact ⟨ret_int HK.out.symm, HE.out⟩
end Go.Proofs.YthhnocnkicoimaaDoor
