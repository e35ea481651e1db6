/-
  LAYER 45: the reference: why, Check.
-/
import Derived.Test.YtaajlegdcgfcgaaRef45g
import Derived.StillTailTactics
set_option linter.unusedVariables false
set_option linter.unusedSimpArgs false
namespace Go.Proofs.Ytaajlegdcgfcgaa
open Go.RowKit Go.Maps

theorem wrapEq (x : Int) : IntKind.i64.wrap x = wrap64 x := by rw [IntKind.wrap_i64]; unfold wrap64; rfl
theorem quiet_l {P : Program} {f : FuncId} {args : Array Value} {w : World} {n : Nat} {v : Value} (h : Calls P f args (w.drewN n) fun e w' => e = .returned v ∧ w.drewN n = w') : Calls P f args (w.drewN n) fun e w'' => e = .returned v ∧ ∃ m, w'' = w.drewN m :=
  h.mono fun e w'' ⟨he, hw⟩ => ⟨he, n, hw.symm⟩

set_option maxRecDepth 100000 in
set_option maxHeartbeats 3200000 in
theorem why_t (A : Option Addr) (n c : Nat) (l : List LRow) (r : LRow) (w : World) (h : Rd encR 7 w A n l) (hn : n ≤ 100000) :
    Calls Try.prog 85 #[.slice A n c, aggR r] w fun e w' => e = .returned (.int .i64 (whyE l r)) ∧ Below w.heap.size w w' := by
  have HH := Lib.hid h
  clear h
  by_cases h1 : r.kind < 1
  · have HV := Lib.hid (show whyE l r = 5 by rw [whyE, if_pos (.inl h1)])
    have hd : decide (r.kind < 1) = true := decide_eq_true h1
    clear h1
    go_enter Try.func85, Try.ntmps85
    go_wp2
    go_ret
    exact ⟨ret_int HV.out.symm, (Below.refl _ _).alloc (Nat.le_refl _) _⟩
  have d1 : decide (r.kind < 1) = false := decide_eq_false h1
  by_cases h2 : 5 < r.kind
  · have HV := Lib.hid (show whyE l r = 5 by rw [whyE, if_pos (.inr h2)])
    have hd : decide (5 < r.kind) = true := decide_eq_true h2
    clear h1 h2
    go_enter Try.func85, Try.ntmps85
    go_wp2
    go_ret
    exact ⟨ret_int HV.out.symm, (Below.refl _ _).alloc (Nat.le_refl _) _⟩
  have d2 : decide (5 < r.kind) = false := decide_eq_false h2
  have N1 := Lib.hid (show ¬ (r.kind < 1 ∨ 5 < r.kind) from fun h => h.elim h1 h2)
  clear h1 h2
  rcases Nat.eq_zero_or_pos n with h0 | h0
  · subst h0
    have hl0 : l = [] := List.eq_nil_of_length_eq_zero HH.out.len
    have N2 := Lib.hid (show ¬ (∃ t, l.getLast? = some t ∧ r.tick < t.tick) by rw [hl0]; rintro ⟨t, e, _⟩; cases e)
    clear hl0
    go_enter Try.func85, Try.ntmps85
    go_wp2
    go_quiet (fail)
    go_wp2_with fail
    with_reducible refine (holders_t r.job A 0 c l _ ((HH.out.alloc _).drewN _) (by omega)).mono ?_
    rintro e w2 ⟨A2, m2, c2, rfl, hR2, hm2, hmc2, hB2⟩
    have hbx : Blk w2 w.heap.size 146 #[.int .i64 r.tick, .int .i64 r.kind, .int .i64 r.place, .int .i64 r.epoch, .int .i64 r.inc, .int .i64 r.job, .int .i64 r.code] := Eq.trans (hB2.block w.heap.size (by simp)) (heap_alloc_new w (boxR r))
    have HL2 := Lib.hid (((HH.out.alloc _).drewN _).below hB2)
    have HBW := Lib.hid ((((Below.refl w.heap.size w).alloc (Nat.le_refl _) (boxR r)).trans (below_dN _)).trans (hB2.mono (by simp)))
    have g1 := hbx.cell 1
    have g2 := hbx.cell 2
    have g3 := hbx.cell 3
    have HR2 := Lib.hid hR2
    obtain ⟨hs, hhs⟩ : ∃ hs, holdersL r.job l = hs := ⟨_, rfl⟩
    rw [hhs] at HR2
    have HHS := Lib.hid hhs
    clear hR2 hB2 hbx hhs
    skip
    go_wp2
    go_loopw [6, 7] (fun b i wq => ∃ (k d : Nat) (v : Bool), k ≤ m2 ∧ i = .int .i64 k ∧ b = .bool v ∧ Hid (v = decide (r.place ∈ hs.take k)) ∧ wq = w2.drewN d) (fun _ i _ => m2 - (intOf i).toNat)
    case atStart => exact ⟨0, 0, false, Nat.zero_le _, rfl, rfl, Lib.hid (by simp), rfl⟩
    case round =>
      obtain ⟨k, d, v, hk, rfl, rfl, HV0, rfl⟩ := hrel
      by_cases hlt : k < m2
      · obtain ⟨yb, yo, x, rfl, hx, hcl⟩ := RdI.at_ HR2.out hlt
        have HX := Lib.hid hx
        clear hx
        cases v with
        | true =>
          go_wp2
          go_quiet (fail)
          go_wp2
          go_roundw
          case rel =>
            refine ⟨k + 1, d + nq, true, by omega, by go_num, rfl, Lib.hid ?_, by first | rfl | exact World.drewN_drewN ..⟩
            have := of_decide_eq_true HV0.out.symm
            rw [take_succ_of _ _ _ HX.out]
            exact (decide_eq_true (List.mem_append_left _ this)).symm
          case measure => simp [intOf]; omega
        | false =>
          cases hxp : (x == r.place)
          all_goals
            go_wp2
            go_quiet (fail)
            go_wp2
            go_roundw
            case rel =>
              refine ⟨k + 1, d + nq, _, by omega, by go_num, rfl, Lib.hid ?_, by first | rfl | exact World.drewN_drewN ..⟩
              have h0 := of_decide_eq_false HV0.out.symm
              rw [take_succ_of _ _ _ HX.out]
              first
                | exact (decide_eq_true (List.mem_append_right _ (by rw [beq_iff_eq.1 hxp]; simp))).symm
                | exact (decide_eq_false (fun hm => (List.mem_append.1 hm).elim h0 (fun hm => by rw [List.mem_singleton] at hm; rw [hm] at hxp; simp at hxp))).symm
            case measure => simp [intOf]; omega
      · have hkm : k = m2 := by omega
        subst hkm
        have hfull : hs.take k = hs := List.take_of_length_le (by have := HR2.out.len; omega)
        rw [hfull] at HV0
        have q1 : (w2.drewN d).cell? ⟨w.heap.size, 1, none⟩ = some (.int .i64 r.kind) := g1
        have q2 : (w2.drewN d).cell? ⟨w.heap.size, 2, none⟩ = some (.int .i64 r.place) := g2
        have q3 : (w2.drewN d).cell? ⟨w.heap.size, 3, none⟩ = some (.int .i64 r.epoch) := g3
        have HL3 := Lib.hid (HL2.out.drewN d)
        have HB := Lib.hid (HBW.out.trans (below_dN (w := w2) d))
        have HR4 := Lib.hid HR2.out.len
        clear g1 g2 g3 HL2 HBW HR2 hfull
        generalize w2.drewN d = wz at q1 q2 q3 HL3 HB ⊢
        by_cases k1 : r.kind = 1
        · have t1 : (r.kind == 1) = true := by simp [k1]
          by_cases he : r.epoch = wrap64 (ledE l + 1)
          · have hd0 : (r.epoch != wrap64 (ledE l + 1)) = false := by simp [← he]
            have hd : (r.epoch != IntKind.i64.wrap (ledE l + 1)) = false := by rw [wrapEq]; exact hd0
            have HV := Lib.hid (show whyE l r = 0 by rw [whyE, if_neg N1.out, if_neg N2.out, if_pos k1, if_pos he])
            clear k1 he
            go_wp2
            go_quiet ((go_at_call 112; with_reducible exact quiet_l (last_t A 0 c l (wz.drewN _) (HL3.out.drewN _) (by omega))))
            go_wp2
            go_ret
            exact ⟨ret_int HV.out.symm, HB.out.trans (below_dN _)⟩
          · have hd0 : (r.epoch != wrap64 (ledE l + 1)) = true := by simpa using he
            have hd : (r.epoch != IntKind.i64.wrap (ledE l + 1)) = true := by rw [wrapEq]; exact hd0
            have HV := Lib.hid (show whyE l r = 11 by rw [whyE, if_neg N1.out, if_neg N2.out, if_pos k1, if_neg he])
            clear k1 he
            go_wp2
            go_quiet ((go_at_call 112; with_reducible exact quiet_l (last_t A 0 c l (wz.drewN _) (HL3.out.drewN _) (by omega))))
            go_wp2
            go_ret
            exact ⟨ret_int HV.out.symm, HB.out.trans (below_dN _)⟩
        · have t1 : (r.kind == 1) = false := by simp [k1]
          by_cases k2 : r.kind = 2
          · have t2 : (r.kind == 2) = true := by simp [k2]
            have HW := Lib.hid (show whyE l r = if (∃ n, heedE l r.place = some n ∧ r.epoch < n) ∨ ledE l < r.epoch then 11 else 0 by rw [whyE, if_neg N1.out, if_neg N2.out, if_neg k1, if_pos k2])
            clear k1 k2
            have hcx := heed_t A 0 c l r.place wz HL3.out (by omega)
            cases hh : heedE l r.place with
            | none =>
              rw [hh] at hcx
              by_cases hl : ledE l < r.epoch
              · have hd : decide (ledE l < r.epoch) = true := decide_eq_true hl
                have HV := Lib.hid (show whyE l r = 11 by rw [HW.out, if_pos (.inr hl)])
                clear hl
                go_wp2_with fail
                (with_reducible refine hcx.mono ?_)
                clear hcx
                rintro e w5 ⟨rfl, rfl⟩
                go_wp2
                go_quiet ((go_at_call 112; with_reducible exact quiet_l (last_t A 0 c l (wz.drewN _) (HL3.out.drewN _) (by omega))))
                go_wp2
                go_ret
                exact ⟨ret_int HV.out.symm, HB.out.trans (below_dN _)⟩
              · have hd : decide (ledE l < r.epoch) = false := decide_eq_false hl
                have HV := Lib.hid (show whyE l r = 0 by rw [HW.out, if_neg (by rintro (⟨n, e, _⟩ | e); (rw [hh] at e; cases e); exact hl e)])
                clear hl
                go_wp2_with fail
                (with_reducible refine hcx.mono ?_)
                clear hcx
                rintro e w5 ⟨rfl, rfl⟩
                go_wp2
                go_quiet ((go_at_call 112; with_reducible exact quiet_l (last_t A 0 c l (wz.drewN _) (HL3.out.drewN _) (by omega))))
                go_wp2
                go_ret
                exact ⟨ret_int HV.out.symm, HB.out.trans (below_dN _)⟩
            | some x =>
              rw [hh] at hcx
              simp only [Option.getD_some, Option.isSome_some] at hcx
              by_cases hx : r.epoch < x
              · have hd : decide (r.epoch < x) = true := decide_eq_true hx
                have HV := Lib.hid (show whyE l r = 11 by rw [HW.out, if_pos (.inl ⟨x, hh, hx⟩)])
                clear hx hh
                go_wp2_with fail
                (with_reducible refine hcx.mono ?_)
                clear hcx
                rintro e w5 ⟨rfl, rfl⟩
                go_wp2
                go_quiet ((go_at_call 112; with_reducible exact quiet_l (last_t A 0 c l (wz.drewN _) (HL3.out.drewN _) (by omega))))
                go_wp2
                go_ret
                exact ⟨ret_int HV.out.symm, HB.out.trans (below_dN _)⟩
              · have hd : decide (r.epoch < x) = false := decide_eq_false hx
                by_cases hl : ledE l < r.epoch
                · have hd2 : decide (ledE l < r.epoch) = true := decide_eq_true hl
                  have HV := Lib.hid (show whyE l r = 11 by rw [HW.out, if_pos (.inr hl)])
                  clear hl hx hh
                  go_wp2_with fail
                  (with_reducible refine hcx.mono ?_)
                  clear hcx
                  rintro e w5 ⟨rfl, rfl⟩
                  go_wp2
                  go_quiet ((go_at_call 112; with_reducible exact quiet_l (last_t A 0 c l (wz.drewN _) (HL3.out.drewN _) (by omega))))
                  go_wp2
                  go_ret
                  exact ⟨ret_int HV.out.symm, HB.out.trans (below_dN _)⟩
                · have hd2 : decide (ledE l < r.epoch) = false := decide_eq_false hl
                  have HV := Lib.hid (show whyE l r = 0 by rw [HW.out, if_neg (by rintro (⟨n, e, e2⟩ | e); (rw [hh] at e; cases e; exact hx e2); exact hl e)])
                  clear hl hx hh
                  go_wp2_with fail
                  (with_reducible refine hcx.mono ?_)
                  clear hcx
                  rintro e w5 ⟨rfl, rfl⟩
                  go_wp2
                  go_quiet ((go_at_call 112; with_reducible exact quiet_l (last_t A 0 c l (wz.drewN _) (HL3.out.drewN _) (by omega))))
                  go_wp2
                  go_ret
                  exact ⟨ret_int HV.out.symm, HB.out.trans (below_dN _)⟩
          · have t2 : (r.kind == 2) = false := by simp [k2]
            have hlen := HR4.out
            by_cases k4 : r.kind = 4
            · have t4 : (r.kind == 4) = true := by simp [k4]
              by_cases hz : k = 0
              · have HV := Lib.hid (show whyE l r = 0 by rw [whyE, if_neg N1.out, if_neg N2.out, if_neg k1, if_neg k2, if_pos k4, if_pos (by rw [HHS.out]; exact List.eq_nil_of_length_eq_zero (hlen.trans hz))])
                have hdz : decide ((0 : Int) < (k : Int)) = false := decide_eq_false (by omega)
                clear k1 k2 k4 hlen
                go_wp2
                go_ret
                exact ⟨ret_int HV.out.symm, HB.out⟩
              · exfalso; omega
            · have t4 : (r.kind == 4) = false := by simp [k4]
              by_cases k5 : r.kind = 5
              · have t5 : (r.kind == 5) = true := by simp [k5]
                cases v with
                | true =>
                  have HV := Lib.hid (show whyE l r = 0 by rw [whyE, if_neg N1.out, if_neg N2.out, if_neg k1, if_neg k2, if_neg k4, if_pos k5, if_pos (by rw [HHS.out]; exact of_decide_eq_true HV0.out.symm)])
                  clear k1 k2 k4 k5 hlen
                  go_wp2
                  go_ret
                  exact ⟨ret_int HV.out.symm, HB.out⟩
                | false =>
                  have HV := Lib.hid (show whyE l r = 7 by rw [whyE, if_neg N1.out, if_neg N2.out, if_neg k1, if_neg k2, if_neg k4, if_pos k5, if_neg (by rw [HHS.out]; exact of_decide_eq_false HV0.out.symm)])
                  clear k1 k2 k4 k5 hlen
                  go_wp2
                  go_ret
                  exact ⟨ret_int HV.out.symm, HB.out⟩
              · have t5 : (r.kind == 5) = false := by simp [k5]
                have HV := Lib.hid (show whyE l r = 0 by rw [whyE, if_neg N1.out, if_neg N2.out, if_neg k1, if_neg k2, if_neg k4, if_neg k5])
                clear k1 k2 k4 k5 hlen
                go_wp2
                go_ret
                exact ⟨ret_int HV.out.symm, HB.out⟩
  · obtain ⟨m, rfl⟩ : ∃ m, n = m + 1 := ⟨n - 1, by omega⟩
    obtain ⟨ab, ao, t, rfl, ht, hal, hcells⟩ := HH.out.at_ (show m < m + 1 by omega)
    have hlast : l.getLast? = some t := by rw [List.getLast?_eq_getElem?, HH.out.len]; exact ht
    have e0 : w.cell? ⟨ab, ao + m * 7, none⟩ = some (.int .i64 t.tick) := hcells 0 _ rfl
    clear hcells ht
    by_cases htt : r.tick < t.tick
    · have HV := Lib.hid (show whyE l r = 10 by rw [whyE, if_neg N1.out, if_pos ⟨t, hlast, htt⟩])
      have hd : decide (r.tick < t.tick) = true := decide_eq_true htt
      clear htt hlast h0
      go_enter Try.func85, Try.ntmps85
      go_wp2
      go_quiet (fail)
      go_wp2
      go_ret
      exact ⟨ret_int HV.out.symm, ((Below.refl _ _).alloc (Nat.le_refl _) _).trans (below_dN _)⟩
    · have N2 := Lib.hid (show ¬ (∃ t, l.getLast? = some t ∧ r.tick < t.tick) by rw [hlast]; rintro ⟨t', e, e2⟩; cases e; exact htt e2)
      have hd : decide (r.tick < t.tick) = false := decide_eq_false htt
      clear htt hlast h0
      obtain ⟨n, hnm⟩ : ∃ n, n = m + 1 := ⟨_, rfl⟩
      go_enter Try.func85, Try.ntmps85
      go_wp2
      go_quiet (fail)
      obtain ⟨A, hA⟩ : ∃ A : Option Addr, A = some ⟨ab, ao, none⟩ := ⟨_, rfl⟩
      clear hnm
      clear n
      go_wp2_with fail
      with_reducible refine (holders_t r.job (some ⟨ab, ao, none⟩) (m + 1) c l _ ((HH.out.alloc _).drewN _) (by omega)).mono ?_
      rintro e w2 ⟨A2, m2, c2, rfl, hR2, hm2, hmc2, hB2⟩
      have hbx : Blk w2 w.heap.size 146 #[.int .i64 r.tick, .int .i64 r.kind, .int .i64 r.place, .int .i64 r.epoch, .int .i64 r.inc, .int .i64 r.job, .int .i64 r.code] := Eq.trans (hB2.block w.heap.size (by simp)) (heap_alloc_new w (boxR r))
      have HL2 := Lib.hid (((HH.out.alloc _).drewN _).below hB2)
      have HBW := Lib.hid ((((Below.refl w.heap.size w).alloc (Nat.le_refl _) (boxR r)).trans (below_dN _)).trans (hB2.mono (by simp)))
      have g1 := hbx.cell 1
      have g2 := hbx.cell 2
      have g3 := hbx.cell 3
      have HR2 := Lib.hid hR2
      obtain ⟨hs, hhs⟩ : ∃ hs, holdersL r.job l = hs := ⟨_, rfl⟩
      rw [hhs] at HR2
      have HHS := Lib.hid hhs
      clear hR2 hB2 hbx hhs
      skip
      go_wp2
      go_loopw [6, 7] (fun b i wq => ∃ (k d : Nat) (v : Bool), k ≤ m2 ∧ i = .int .i64 k ∧ b = .bool v ∧ Hid (v = decide (r.place ∈ hs.take k)) ∧ wq = w2.drewN d) (fun _ i _ => m2 - (intOf i).toNat)
      case atStart => exact ⟨0, 0, false, Nat.zero_le _, rfl, rfl, Lib.hid (by simp), rfl⟩
      case round =>
        obtain ⟨k, d, v, hk, rfl, rfl, HV0, rfl⟩ := hrel
        by_cases hlt : k < m2
        · obtain ⟨yb, yo, x, rfl, hx, hcl⟩ := RdI.at_ HR2.out hlt
          have HX := Lib.hid hx
          clear hx
          cases v with
          | true =>
            go_wp2
            go_quiet (fail)
            go_wp2
            go_roundw
            case rel =>
              refine ⟨k + 1, d + nq, true, by omega, by go_num, rfl, Lib.hid ?_, by first | rfl | exact World.drewN_drewN ..⟩
              have := of_decide_eq_true HV0.out.symm
              rw [take_succ_of _ _ _ HX.out]
              exact (decide_eq_true (List.mem_append_left _ this)).symm
            case measure => simp [intOf]; omega
          | false =>
            cases hxp : (x == r.place)
            all_goals
              go_wp2
              go_quiet (fail)
              go_wp2
              go_roundw
              case rel =>
                refine ⟨k + 1, d + nq, _, by omega, by go_num, rfl, Lib.hid ?_, by first | rfl | exact World.drewN_drewN ..⟩
                have h0 := of_decide_eq_false HV0.out.symm
                rw [take_succ_of _ _ _ HX.out]
                first
                  | exact (decide_eq_true (List.mem_append_right _ (by rw [beq_iff_eq.1 hxp]; simp))).symm
                  | exact (decide_eq_false (fun hm => (List.mem_append.1 hm).elim h0 (fun hm => by rw [List.mem_singleton] at hm; rw [hm] at hxp; simp at hxp))).symm
              case measure => simp [intOf]; omega
        · have hkm : k = m2 := by omega
          subst hkm
          have hfull : hs.take k = hs := List.take_of_length_le (by have := HR2.out.len; omega)
          rw [hfull] at HV0
          have q1 : (w2.drewN d).cell? ⟨w.heap.size, 1, none⟩ = some (.int .i64 r.kind) := g1
          have q2 : (w2.drewN d).cell? ⟨w.heap.size, 2, none⟩ = some (.int .i64 r.place) := g2
          have q3 : (w2.drewN d).cell? ⟨w.heap.size, 3, none⟩ = some (.int .i64 r.epoch) := g3
          have HL3 := Lib.hid (HL2.out.drewN d)
          have HB := Lib.hid (HBW.out.trans (below_dN (w := w2) d))
          have HR4 := Lib.hid HR2.out.len
          clear g1 g2 g3 HL2 HBW HR2 hfull
          generalize w2.drewN d = wz at q1 q2 q3 HL3 HB ⊢
          by_cases k1 : r.kind = 1
          · have t1 : (r.kind == 1) = true := by simp [k1]
            by_cases he : r.epoch = wrap64 (ledE l + 1)
            · have hd0 : (r.epoch != wrap64 (ledE l + 1)) = false := by simp [← he]
              have hd : (r.epoch != IntKind.i64.wrap (ledE l + 1)) = false := by rw [wrapEq]; exact hd0
              have HV := Lib.hid (show whyE l r = 0 by rw [whyE, if_neg N1.out, if_neg N2.out, if_pos k1, if_pos he])
              clear k1 he
              go_wp2
              go_quiet ((go_at_call 112; with_reducible exact quiet_l (last_t (some ⟨ab, ao, none⟩) (m + 1) c l (wz.drewN _) (HL3.out.drewN _) (by omega))))
              go_wp2
              go_ret
              exact ⟨ret_int HV.out.symm, HB.out.trans (below_dN _)⟩
            · have hd0 : (r.epoch != wrap64 (ledE l + 1)) = true := by simpa using he
              have hd : (r.epoch != IntKind.i64.wrap (ledE l + 1)) = true := by rw [wrapEq]; exact hd0
              have HV := Lib.hid (show whyE l r = 11 by rw [whyE, if_neg N1.out, if_neg N2.out, if_pos k1, if_neg he])
              clear k1 he
              go_wp2
              go_quiet ((go_at_call 112; with_reducible exact quiet_l (last_t (some ⟨ab, ao, none⟩) (m + 1) c l (wz.drewN _) (HL3.out.drewN _) (by omega))))
              go_wp2
              go_ret
              exact ⟨ret_int HV.out.symm, HB.out.trans (below_dN _)⟩
          · have t1 : (r.kind == 1) = false := by simp [k1]
            by_cases k2 : r.kind = 2
            · have t2 : (r.kind == 2) = true := by simp [k2]
              have HW := Lib.hid (show whyE l r = if (∃ n, heedE l r.place = some n ∧ r.epoch < n) ∨ ledE l < r.epoch then 11 else 0 by rw [whyE, if_neg N1.out, if_neg N2.out, if_neg k1, if_pos k2])
              clear k1 k2
              have hcx := heed_t (some ⟨ab, ao, none⟩) (m + 1) c l r.place wz HL3.out (by omega)
              cases hh : heedE l r.place with
              | none =>
                rw [hh] at hcx
                by_cases hl : ledE l < r.epoch
                · have hd : decide (ledE l < r.epoch) = true := decide_eq_true hl
                  have HV := Lib.hid (show whyE l r = 11 by rw [HW.out, if_pos (.inr hl)])
                  clear hl
                  go_wp2_with fail
                  (with_reducible refine hcx.mono ?_)
                  clear hcx
                  rintro e w5 ⟨rfl, rfl⟩
                  go_wp2
                  go_quiet ((go_at_call 112; with_reducible exact quiet_l (last_t (some ⟨ab, ao, none⟩) (m + 1) c l (wz.drewN _) (HL3.out.drewN _) (by omega))))
                  go_wp2
                  go_ret
                  exact ⟨ret_int HV.out.symm, HB.out.trans (below_dN _)⟩
                · have hd : decide (ledE l < r.epoch) = false := decide_eq_false hl
                  have HV := Lib.hid (show whyE l r = 0 by rw [HW.out, if_neg (by rintro (⟨n, e, _⟩ | e); (rw [hh] at e; cases e); exact hl e)])
                  clear hl
                  go_wp2_with fail
                  (with_reducible refine hcx.mono ?_)
                  clear hcx
                  rintro e w5 ⟨rfl, rfl⟩
                  go_wp2
                  go_quiet ((go_at_call 112; with_reducible exact quiet_l (last_t (some ⟨ab, ao, none⟩) (m + 1) c l (wz.drewN _) (HL3.out.drewN _) (by omega))))
                  go_wp2
                  go_ret
                  exact ⟨ret_int HV.out.symm, HB.out.trans (below_dN _)⟩
              | some x =>
                rw [hh] at hcx
                simp only [Option.getD_some, Option.isSome_some] at hcx
                by_cases hx : r.epoch < x
                · have hd : decide (r.epoch < x) = true := decide_eq_true hx
                  have HV := Lib.hid (show whyE l r = 11 by rw [HW.out, if_pos (.inl ⟨x, hh, hx⟩)])
                  clear hx hh
                  go_wp2_with fail
                  (with_reducible refine hcx.mono ?_)
                  clear hcx
                  rintro e w5 ⟨rfl, rfl⟩
                  go_wp2
                  go_quiet ((go_at_call 112; with_reducible exact quiet_l (last_t (some ⟨ab, ao, none⟩) (m + 1) c l (wz.drewN _) (HL3.out.drewN _) (by omega))))
                  go_wp2
                  go_ret
                  exact ⟨ret_int HV.out.symm, HB.out.trans (below_dN _)⟩
                · have hd : decide (r.epoch < x) = false := decide_eq_false hx
                  by_cases hl : ledE l < r.epoch
                  · have hd2 : decide (ledE l < r.epoch) = true := decide_eq_true hl
                    have HV := Lib.hid (show whyE l r = 11 by rw [HW.out, if_pos (.inr hl)])
                    clear hl hx hh
                    go_wp2_with fail
                    (with_reducible refine hcx.mono ?_)
                    clear hcx
                    rintro e w5 ⟨rfl, rfl⟩
                    go_wp2
                    go_quiet ((go_at_call 112; with_reducible exact quiet_l (last_t (some ⟨ab, ao, none⟩) (m + 1) c l (wz.drewN _) (HL3.out.drewN _) (by omega))))
                    go_wp2
                    go_ret
                    exact ⟨ret_int HV.out.symm, HB.out.trans (below_dN _)⟩
                  · have hd2 : decide (ledE l < r.epoch) = false := decide_eq_false hl
                    have HV := Lib.hid (show whyE l r = 0 by rw [HW.out, if_neg (by rintro (⟨n, e, e2⟩ | e); (rw [hh] at e; cases e; exact hx e2); exact hl e)])
                    clear hl hx hh
                    go_wp2_with fail
                    (with_reducible refine hcx.mono ?_)
                    clear hcx
                    rintro e w5 ⟨rfl, rfl⟩
                    go_wp2
                    go_quiet ((go_at_call 112; with_reducible exact quiet_l (last_t (some ⟨ab, ao, none⟩) (m + 1) c l (wz.drewN _) (HL3.out.drewN _) (by omega))))
                    go_wp2
                    go_ret
                    exact ⟨ret_int HV.out.symm, HB.out.trans (below_dN _)⟩
            · have t2 : (r.kind == 2) = false := by simp [k2]
              have hlen := HR4.out
              by_cases k4 : r.kind = 4
              · have t4 : (r.kind == 4) = true := by simp [k4]
                by_cases hz : k = 0
                · have HV := Lib.hid (show whyE l r = 0 by rw [whyE, if_neg N1.out, if_neg N2.out, if_neg k1, if_neg k2, if_pos k4, if_pos (by rw [HHS.out]; exact List.eq_nil_of_length_eq_zero (hlen.trans hz))])
                  have hdz : decide ((0 : Int) < (k : Int)) = false := decide_eq_false (by omega)
                  clear k1 k2 k4 hlen
                  go_wp2
                  go_ret
                  exact ⟨ret_int HV.out.symm, HB.out⟩
                · have HV := Lib.hid (show whyE l r = 12 by rw [whyE, if_neg N1.out, if_neg N2.out, if_neg k1, if_neg k2, if_pos k4, if_neg (by rw [HHS.out]; intro e; rw [e] at hlen; exact hz hlen.symm)])
                  have hdz : decide ((0 : Int) < (k : Int)) = true := decide_eq_true (by omega)
                  clear k1 k2 k4 hlen
                  go_wp2
                  go_ret
                  exact ⟨ret_int HV.out.symm, HB.out⟩
              · have t4 : (r.kind == 4) = false := by simp [k4]
                by_cases k5 : r.kind = 5
                · have t5 : (r.kind == 5) = true := by simp [k5]
                  cases v with
                  | true =>
                    have HV := Lib.hid (show whyE l r = 0 by rw [whyE, if_neg N1.out, if_neg N2.out, if_neg k1, if_neg k2, if_neg k4, if_pos k5, if_pos (by rw [HHS.out]; exact of_decide_eq_true HV0.out.symm)])
                    clear k1 k2 k4 k5 hlen
                    go_wp2
                    go_ret
                    exact ⟨ret_int HV.out.symm, HB.out⟩
                  | false =>
                    have HV := Lib.hid (show whyE l r = 7 by rw [whyE, if_neg N1.out, if_neg N2.out, if_neg k1, if_neg k2, if_neg k4, if_pos k5, if_neg (by rw [HHS.out]; exact of_decide_eq_false HV0.out.symm)])
                    clear k1 k2 k4 k5 hlen
                    go_wp2
                    go_ret
                    exact ⟨ret_int HV.out.symm, HB.out⟩
                · have t5 : (r.kind == 5) = false := by simp [k5]
                  have HV := Lib.hid (show whyE l r = 0 by rw [whyE, if_neg N1.out, if_neg N2.out, if_neg k1, if_neg k2, if_neg k4, if_neg k5])
                  clear k1 k2 k4 k5 hlen
                  go_wp2
                  go_ret
                  exact ⟨ret_int HV.out.symm, HB.out⟩

end Go.Proofs.Ytaajlegdcgfcgaa
