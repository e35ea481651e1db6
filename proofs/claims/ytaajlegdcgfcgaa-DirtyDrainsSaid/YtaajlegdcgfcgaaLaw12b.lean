/-
  LAYER 12 (dirty): the walk of DirtyDrains.
-/
import Derived.Test.YtaajlegdcgfcgaaLaw12
set_option linter.unusedVariables false
set_option linter.unusedSimpArgs false
namespace Go.Proofs.Ytaajlegdcgfcgaa
open Go.RowKit Go.Maps Go.Sort

theorem markAll_turn (l : List Int) (j : Nat) : markAll (markAll [] (l.drop j)) (l.take j) = markAll [] l := by
  refine rising_ext (rising_markAll (rising_markAll List.Pairwise.nil _) _) (rising_markAll List.Pairwise.nil _) (fun x => ?_)
  rw [mem_markAll, mem_markAll, mem_markAll]
  constructor
  · rintro (h | h | h)
    · exact .inl (List.mem_of_mem_take h)
    · exact .inl (List.mem_of_mem_drop h)
    · exact .inr h
  · rintro (h | h)
    · rw [← List.take_append_drop j l] at h
      rcases List.mem_append.1 h with h | h
      · exact .inl h
      · exact .inr (.inl h)
    · exact .inr (.inr h)
theorem has12_t (A : Option Addr) (n c : Nat) (l : List Int) (x : Int) (w : World) (h : RdI w A n l) (hn : n ≤ 140737488351232) (hx : x ∈ l) :
    Calls Try.prog 21 #[.slice A n c, .int .i64 x] w fun e w' => e = .returned (.bool true) ∧ w = w' :=
  (has12 A n c l x w h hn).mono fun e w' hh => ⟨hh.1.trans (ret_bool (decide_eq_true hx)), hh.2⟩
theorem rising_at {l : List Int} (h : Rising l) {i : Nat} {x y : Int} (hx : l[i]? = some x) (hy : l[i + 1]? = some y) : x < y := by
  obtain ⟨h1, rfl⟩ := List.getElem?_eq_some_iff.1 hx
  obtain ⟨h2, rfl⟩ := List.getElem?_eq_some_iff.1 hy
  exact List.pairwise_iff_getElem.1 h i (i + 1) h1 h2 (by omega)

set_option maxRecDepth 100000 in
set_option maxHeartbeats 1000000 in
/-- reevelaw12.DirtyDrains -/
theorem drains12 (A : Option Addr) (n c : Nat) (l : List Int) (tn : Nat) (w : World) (h : RdI w A n l) (hw : ∀ a ∈ l, wf64 a) (hnc : n ≤ c) (ht : tn ≤ 255) :
    Calls Try.prog 6 #[.slice A n c, .int .u8 (tn : Int)] w fun e w' => e = .returned (.bool true) ∧ Below w.heap.size w w' := by
  by_cases hbig : 200 < n
  · go_enter Try.func6, Try.ntmps6
    go_wp2_with (go_at_call 19; with_reducible refine (awake12 _).mono ?_; rintro e w' ⟨rfl, hb⟩)
    go_ret
    exact ⟨rfl, hb⟩
  · have hsm : n ≤ 200 := by omega
    have hn : n ≤ 140737488351232 := by omega
    clear hbig
    obtain ⟨i0, hi, hz0, hz1, hz2⟩ := info_parts Try.infoInt
    obtain ⟨q, hq⟩ : ∃ q, (markAll [] l).length = q := ⟨_, rfl⟩
    have hqn := length_markAll_le [] l
    have hln := h.len
    have HQ := Lib.hid (And.intro hq (And.intro hqn hln))
    have hq200 : q ≤ 200 := by simp at hqn; omega
    have HW := Lib.hid hw
    clear hw hq hqn hln
    obtain ⟨j, hjn, hj⟩ : ∃ j : Nat, j ≤ n ∧ ((n = 0 ∧ j = 0) ∨ (0 < n ∧ (tn : Int) % (n : Int) = (j : Int))) := by
      rcases Nat.eq_zero_or_pos n with h0 | h0
      · exact ⟨0, by omega, .inl ⟨h0, rfl⟩⟩
      · exact ⟨tn % n, Nat.le_of_lt (Nat.mod_lt _ h0), .inr ⟨h0, by omega⟩⟩
    obtain ⟨q1, hq1⟩ : ∃ q1, (markAll [] (l.drop j)).length = q1 := ⟨_, rfl⟩
    have hq1n := length_markAll_le [] (l.drop j)
    have hq1b : q1 ≤ 200 := by have := HQ.out.2.2; simp at hq1n; omega
    have hturn := markAll_turn l j
    have HQ1 := Lib.hid (And.intro hq1 hturn)
    clear hq1 hq1n hturn
    have hcut := cut_to (P := Try.prog) 27 3 .i64 Try.underlying27 hi A n c j hjn hnc
    obtain ⟨A2, hcut2, hrd2⟩ := cut_from (P := Try.prog) 27 3 .i64 Try.underlying27 hi hz1 A n c j hjn hnc
    have hr1 := Rd.take h hjn
    have hr2 := hrd2 _ _ _ _ h
    clear hrd2
    have hadd : IntKind.i64.wrap ((q1 : Int) + ((q : Int) - (q1 : Int))) = (q : Int) := by rw [IntWalk.i64_in _ (by omega)]; omega
    have hqq : (((q : Nat) : Int) != ((q : Nat) : Int)) = false := bne_self_eq_false _
    rcases hj with ⟨hn0, hj0⟩ | ⟨hn0, hj0⟩
    · subst hj0
      have hge : ¬ 0 < n := by omega
      clear hn0
      replace hcut : ∀ W : World, (Instr.slice 27 (.slice A n c) none (some (.int .i64 0)) none).run Try.prog W = .ok (.slice A 0 c) W := hcut
      replace hcut2 : ∀ W : World, (Instr.slice 27 (.slice A n c) (some (.int .i64 0)) none none).run Try.prog W = .ok (.slice A2 n c) W := hcut2
      replace hr2 : RdI w A2 n (l.drop 0) := hr2
      go_enter Try.func6, Try.ntmps6
      go_wp2_with fail
      with_reducible refine (dNew _).mono ?_
      rintro e w' ⟨rfl, rfl⟩
      go_wp2_with fail
      with_reducible refine (dNew _).mono ?_
      rintro e w' ⟨rfl, rfl⟩
      have hI : Two12 w w.heap.size (w.heap.size + 1) [] [] none none ((w.alloc (.cells #[.map none] 47)).alloc (.cells #[.map none] 47)) :=
        ⟨⟨(Blk.new w _ _).alloc _, MapSet.nil _⟩, ⟨by have := Blk.new (w.alloc (.cells #[.map none] 47)) 47 #[.map none]; simpa using this, MapSet.nil _⟩, (fun b e => by cases e), (fun b e => by cases e), (fun b e => by cases e),
          ⟨Nat.le_refl _, by omega, by omega⟩, ((Below.refl w.heap.size w).alloc (Nat.le_refl _) _).alloc (by simp) _⟩
      go_wp2_with fail
      have hcx := two_mark hI (c := c) (h.below hI.below) HW.out (by simp; omega) _ rfl (q : Int) (by have := HQ.out.1; simp; omega)
      with_reducible refine hcx.mono ?_
      clear hcx
      rintro e w1 ⟨rfl, ms1, hI1, hk1⟩
      have hB1 := hI1.below
      clear hI hk1
      go_wp2_with fail
      go_region_held3 (fun _ => True) (exact trivial)
        (first
          | (go_at_call 23; have hcx := two_mark (hI1.swap.step (w' := w1.drew) (Below.refl _ w1).drew) (c := c) ((hr2.below hB1).drew) (fun x hx => HW.out x (List.mem_of_mem_drop hx)) (by simp; omega) _ rfl (q1 : Int) (by have := HQ1.out.1; simp only [List.length_nil]; omega); (with_reducible refine hcx.mono ?_); clear hcx; rintro e w2 ⟨rfl, mz2, hI2, hk2⟩; have hB2 := hI2.below; clear hk2)
          | (go_at_call 23; have hcx := two_mark hI2 (c := c) (hr1.below hB2) (fun x hx => HW.out x (List.mem_of_mem_take hx)) (by have := HQ1.out.1; omega) _ HQ1.out.2 ((q : Int) - (q1 : Int)) (by have := HQ1.out.1; have := HQ.out.1; omega); (with_reducible refine hcx.mono ?_); clear hcx; rintro e w3 ⟨rfl, mz3, hI3, hk3⟩; have hB3 := hI3.below; clear hk3))
      clear hB1 hB2 hI1 hI2 hcut hcut2 hr1 hr2 hadd
      go_wp2_with fail
      have hcx := two_drain hI3.swap (by have := HQ.out.1; omega)
      with_reducible refine hcx.mono ?_
      clear hcx
      rintro e w4 ⟨A4, n4, c4, rfl, ho4, ms4, hI4, hk4⟩
      obtain rfl : n4 = q := by have := ho4.len; have := HQ.out.1; omega
      clear hk4 hI3 hB3
      go_wp2_with fail
      have hcx := two_drain hI4.swap (by have := HQ.out.1; omega)
      with_reducible refine hcx.mono ?_
      clear hcx
      rintro e w5 ⟨A5, n5, c5, rfl, ho5, mz5, hI5, hk5⟩
      obtain rfl : n5 = n4 := by have := ho5.len; have := HQ.out.1; omega
      have ho4' := hk5 _ _ _ ho4
      clear hk5 ho4 hI4
      go_wp2_with fail
      have hcx := same01_t A4 A5 n5 c4 n5 c5 (markAll [] l) _ ho4' ho5 (by omega) (by omega)
      with_reducible refine hcx.mono ?_
      clear hcx
      rintro e w' ⟨rfl, p6, rfl⟩
      have hI6 := hI5.swap.drewN p6
      have ho6 := ho4'.drewN p6
      clear hI5 ho4' ho5
      go_wp2_with fail
      have hcx := two_len hI6 0 rfl
      with_reducible refine hcx.mono ?_
      clear hcx
      rintro e w' ⟨rfl, rfl⟩
      go_wp2_with fail
      have hcx := two_drain hI6 (by simp)
      with_reducible refine hcx.mono ?_
      clear hcx
      rintro e w7 ⟨A7, n7, c7, rfl, ho7, ms7, hI7, hk7⟩
      obtain rfl : n7 = 0 := ho7.len.symm
      have ho8 := hk7 _ _ _ ho6
      have hB7 := hI7.below
      have hl7 := h.below hB7
      clear hk7 ho6 hI6 ho7 hI7
      go_wp2
      go_loopw [12] (fun i wr => ∃ k : Nat, k ≤ n5 ∧ i = .int .i64 k ∧ RdI wr A4 n5 (markAll [] l) ∧ RdI wr A n l ∧ Below w.heap.size w wr) (fun i _ => n5 - (intOf i).toNat)
      case atStart => exact ⟨0, Nat.zero_le _, rfl, ho8, hl7, hB7⟩
      case round =>
        clear ho8 hl7 hB7
        obtain ⟨k, hk, rfl, ho8, hl7, hB7⟩ := hrel
        by_cases hlt : k < n5
        · obtain ⟨ab, ao, y, rfl, hy, hcy⟩ := RdI.at_ ho8 hlt
          have hyl : y ∈ l := by
            have := (mem_markAll [] l y).1 (List.mem_of_getElem? hy)
            simpa using this
          cases k with
          | zero =>
            have hcy' : wr.cell? ⟨ab, ao, none⟩ = some (.int .i64 y) := by simpa using hcy
            clear hy hcy
            have HYL := Lib.hid hyl
            clear hyl
            go_wp2_with fail
            go_quiet ((go_at_call 21; with_reducible exact quiet_l (has12_t A n c l y _ (hl7.drewN _) hn HYL.out)))
            go_wp2
            go_roundw
            case rel => exact ⟨1, by omega, by go_num, ho8.drewN _, hl7.drewN _, hB7.trans (below_drewN _)⟩
            case measure => simp [intOf]; omega
          | succ k =>
            obtain ⟨ab', ao', x, hA', hx, hcx⟩ := RdI.at_ ho8 (show k < n5 by omega)
            cases hA'
            have hxy := rising_at (rising_markAll List.Pairwise.nil l) hx hy
            have hlt2 : k < n5 := by omega
            have hge : decide (x ≥ y) = false := decide_eq_false (by omega)
            have hge2 : ¬ (y ≤ x) := by omega
            clear hxy
            have HYL := Lib.hid (And.intro hyl (And.intro hx hy))
            clear hyl hx hy
            have hs1 : IntKind.i64.wrap ((k : Int) + 1 - 1) = (k : Int) := by rw [IntWalk.i64_in _ (by omega)]; omega
            have hcy' : wr.cell? ⟨ab, ao + k + 1, none⟩ = some (.int .i64 y) := hcy
            go_wp2_with fail
            go_quiet ((go_at_call 21; with_reducible exact quiet_l (has12_t A n c l y _ (hl7.drewN _) hn HYL.out.1)))
            go_wp2
            go_roundw
            case rel => exact ⟨k + 1 + 1, by omega, by go_num, ho8.drewN _, hl7.drewN _, hB7.trans (below_drewN _)⟩
            case measure => simp [intOf]; omega
        · go_wp2
          clear hlt hk
          go_loopw [13] (fun i wr => ∃ k : Nat, k ≤ n ∧ i = .int .i64 k ∧ RdI wr A4 n5 (markAll [] l) ∧ RdI wr A n l ∧ Below w.heap.size w wr) (fun i _ => n - (intOf i).toNat)
          case atStart => exact ⟨0, Nat.zero_le _, rfl, ho8, hl7, hB7⟩
          case round =>
            clear ho8 hl7 hB7
            obtain ⟨k2, hk2, rfl, ho8, hl7, hB7⟩ := hrel
            by_cases hlt : k2 < n
            · obtain ⟨ab, ao, y, rfl, hy, hcy⟩ := RdI.at_ hl7 hlt
              have hyl : y ∈ markAll [] l := (mem_markAll [] l y).2 (.inl (List.mem_of_getElem? hy))
              have HYL := Lib.hid hyl
              clear hyl hy
              go_wp2_with (go_at_call 21; have hcx := has12_t A4 n5 c4 (markAll [] l) y _ ho8 (by omega) HYL.out; (with_reducible refine hcx.mono ?_); clear hcx; rintro e w' ⟨rfl, rfl⟩)
              go_roundw
              case rel => exact ⟨k2 + 1, by omega, by go_num, ho8, hl7, hB7⟩
              case measure => simp [intOf]; omega
            · go_wp2_with (go_at_call 19; with_reducible refine (awake12 _).mono ?_; rintro e w9 ⟨rfl, hb9⟩)
              go_ret
              exact ⟨rfl, hB7.trans (hb9.mono hB7.size)⟩
    · go_enter Try.func6, Try.ntmps6
      go_wp2_with fail
      with_reducible refine (dNew _).mono ?_
      rintro e w' ⟨rfl, rfl⟩
      go_wp2_with fail
      with_reducible refine (dNew _).mono ?_
      rintro e w' ⟨rfl, rfl⟩
      have hI : Two12 w w.heap.size (w.heap.size + 1) [] [] none none ((w.alloc (.cells #[.map none] 47)).alloc (.cells #[.map none] 47)) :=
        ⟨⟨(Blk.new w _ _).alloc _, MapSet.nil _⟩, ⟨by have := Blk.new (w.alloc (.cells #[.map none] 47)) 47 #[.map none]; simpa using this, MapSet.nil _⟩, (fun b e => by cases e), (fun b e => by cases e), (fun b e => by cases e),
          ⟨Nat.le_refl _, by omega, by omega⟩, ((Below.refl w.heap.size w).alloc (Nat.le_refl _) _).alloc (by simp) _⟩
      go_wp2_with fail
      have hcx := two_mark hI (c := c) (h.below hI.below) HW.out (by simp; omega) _ rfl (q : Int) (by have := HQ.out.1; simp; omega)
      with_reducible refine hcx.mono ?_
      clear hcx
      rintro e w1 ⟨rfl, ms1, hI1, hk1⟩
      have hB1 := hI1.below
      clear hI hk1
      go_wp2_with fail
      go_region_held3 (fun _ => True) (exact trivial)
        (first
          | (go_at_call 23; have hcx := two_mark (hI1.swap.step (w' := w1.drew) (Below.refl _ w1).drew) (c := c - j) ((hr2.below hB1).drew) (fun x hx => HW.out x (List.mem_of_mem_drop hx)) (by simp; omega) _ rfl (q1 : Int) (by have := HQ1.out.1; simp only [List.length_nil]; omega); (with_reducible refine hcx.mono ?_); clear hcx; rintro e w2 ⟨rfl, mz2, hI2, hk2⟩; have hB2 := hI2.below; clear hk2)
          | (go_at_call 23; have hcx := two_mark hI2 (c := c) (hr1.below hB2) (fun x hx => HW.out x (List.mem_of_mem_take hx)) (by have := HQ1.out.1; omega) _ HQ1.out.2 ((q : Int) - (q1 : Int)) (by have := HQ1.out.1; have := HQ.out.1; omega); (with_reducible refine hcx.mono ?_); clear hcx; rintro e w3 ⟨rfl, mz3, hI3, hk3⟩; have hB3 := hI3.below; clear hk3))
      clear hB1 hB2 hI1 hI2 hcut hcut2 hr1 hr2 hadd hj0
      go_wp2_with fail
      have hcx := two_drain hI3.swap (by have := HQ.out.1; omega)
      with_reducible refine hcx.mono ?_
      clear hcx
      rintro e w4 ⟨A4, n4, c4, rfl, ho4, ms4, hI4, hk4⟩
      obtain rfl : n4 = q := by have := ho4.len; have := HQ.out.1; omega
      clear hk4 hI3 hB3
      go_wp2_with fail
      have hcx := two_drain hI4.swap (by have := HQ.out.1; omega)
      with_reducible refine hcx.mono ?_
      clear hcx
      rintro e w5 ⟨A5, n5, c5, rfl, ho5, mz5, hI5, hk5⟩
      obtain rfl : n5 = n4 := by have := ho5.len; have := HQ.out.1; omega
      have ho4' := hk5 _ _ _ ho4
      clear hk5 ho4 hI4
      go_wp2_with fail
      have hcx := same01_t A4 A5 n5 c4 n5 c5 (markAll [] l) _ ho4' ho5 (by omega) (by omega)
      with_reducible refine hcx.mono ?_
      clear hcx
      rintro e w' ⟨rfl, p6, rfl⟩
      have hI6 := hI5.swap.drewN p6
      have ho6 := ho4'.drewN p6
      clear hI5 ho4' ho5
      go_wp2_with fail
      have hcx := two_len hI6 0 rfl
      with_reducible refine hcx.mono ?_
      clear hcx
      rintro e w' ⟨rfl, rfl⟩
      go_wp2_with fail
      have hcx := two_drain hI6 (by simp)
      with_reducible refine hcx.mono ?_
      clear hcx
      rintro e w7 ⟨A7, n7, c7, rfl, ho7, ms7, hI7, hk7⟩
      obtain rfl : n7 = 0 := ho7.len.symm
      have ho8 := hk7 _ _ _ ho6
      have hB7 := hI7.below
      have hl7 := h.below hB7
      clear hk7 ho6 hI6 ho7 hI7
      go_wp2
      go_loopw [12] (fun i wr => ∃ k : Nat, k ≤ n5 ∧ i = .int .i64 k ∧ RdI wr A4 n5 (markAll [] l) ∧ RdI wr A n l ∧ Below w.heap.size w wr) (fun i _ => n5 - (intOf i).toNat)
      case atStart => exact ⟨0, Nat.zero_le _, rfl, ho8, hl7, hB7⟩
      case round =>
        clear ho8 hl7 hB7
        obtain ⟨k, hk, rfl, ho8, hl7, hB7⟩ := hrel
        by_cases hlt : k < n5
        · obtain ⟨ab, ao, y, rfl, hy, hcy⟩ := RdI.at_ ho8 hlt
          have hyl : y ∈ l := by
            have := (mem_markAll [] l y).1 (List.mem_of_getElem? hy)
            simpa using this
          cases k with
          | zero =>
            have hcy' : wr.cell? ⟨ab, ao, none⟩ = some (.int .i64 y) := by simpa using hcy
            clear hy hcy
            have HYL := Lib.hid hyl
            clear hyl
            go_wp2_with fail
            go_quiet ((go_at_call 21; with_reducible exact quiet_l (has12_t A n c l y _ (hl7.drewN _) hn HYL.out)))
            go_wp2
            go_roundw
            case rel => exact ⟨1, by omega, by go_num, ho8.drewN _, hl7.drewN _, hB7.trans (below_drewN _)⟩
            case measure => simp [intOf]; omega
          | succ k =>
            obtain ⟨ab', ao', x, hA', hx, hcx⟩ := RdI.at_ ho8 (show k < n5 by omega)
            cases hA'
            have hxy := rising_at (rising_markAll List.Pairwise.nil l) hx hy
            have hlt2 : k < n5 := by omega
            have hge : decide (x ≥ y) = false := decide_eq_false (by omega)
            have hge2 : ¬ (y ≤ x) := by omega
            clear hxy
            have HYL := Lib.hid (And.intro hyl (And.intro hx hy))
            clear hyl hx hy
            have hs1 : IntKind.i64.wrap ((k : Int) + 1 - 1) = (k : Int) := by rw [IntWalk.i64_in _ (by omega)]; omega
            have hcy' : wr.cell? ⟨ab, ao + k + 1, none⟩ = some (.int .i64 y) := hcy
            go_wp2_with fail
            go_quiet ((go_at_call 21; with_reducible exact quiet_l (has12_t A n c l y _ (hl7.drewN _) hn HYL.out.1)))
            go_wp2
            go_roundw
            case rel => exact ⟨k + 1 + 1, by omega, by go_num, ho8.drewN _, hl7.drewN _, hB7.trans (below_drewN _)⟩
            case measure => simp [intOf]; omega
        · go_wp2
          clear hlt hk
          go_loopw [13] (fun i wr => ∃ k : Nat, k ≤ n ∧ i = .int .i64 k ∧ RdI wr A4 n5 (markAll [] l) ∧ RdI wr A n l ∧ Below w.heap.size w wr) (fun i _ => n - (intOf i).toNat)
          case atStart => exact ⟨0, Nat.zero_le _, rfl, ho8, hl7, hB7⟩
          case round =>
            clear ho8 hl7 hB7
            obtain ⟨k2, hk2, rfl, ho8, hl7, hB7⟩ := hrel
            by_cases hlt : k2 < n
            · obtain ⟨ab, ao, y, rfl, hy, hcy⟩ := RdI.at_ hl7 hlt
              have hyl : y ∈ markAll [] l := (mem_markAll [] l y).2 (.inl (List.mem_of_getElem? hy))
              have HYL := Lib.hid hyl
              clear hyl hy
              go_wp2_with (go_at_call 21; have hcx := has12_t A4 n5 c4 (markAll [] l) y _ ho8 (by omega) HYL.out; (with_reducible refine hcx.mono ?_); clear hcx; rintro e w' ⟨rfl, rfl⟩)
              go_roundw
              case rel => exact ⟨k2 + 1, by omega, by go_num, ho8, hl7, hB7⟩
              case measure => simp [intOf]; omega
            · go_wp2_with (go_at_call 19; with_reducible refine (awake12 _).mono ?_; rintro e w9 ⟨rfl, hb9⟩)
              go_ret
              exact ⟨rfl, hB7.trans (hb9.mono hB7.size)⟩

end Go.Proofs.Ytaajlegdcgfcgaa
