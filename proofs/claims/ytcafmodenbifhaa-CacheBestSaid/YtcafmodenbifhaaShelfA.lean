/-
  LAYER 31 (shelf): New, Put, Best; LAYER 10 (rank): NodeKey; a counter (sync/atomic.Int64); LAYER 32 (cache): hold.
-/
import Derived.Test.YtcafmodenbifhaaHeapQ
import Derived.Test.YtcafmodenbifhaaCacheN
import Derived.Test.YtcafmodenbifhaaAnySeg
import Derived.Laws.LoneSync
set_option linter.unusedVariables false
set_option linter.unusedSimpArgs false
namespace Go.Proofs.Ytcafmodenbifhaa
open Go.RowKit Go.Maps

theorem len_le_of_sub {l m : List Int} (h : l.Nodup) (hs : ∀ x ∈ l, x ∈ m) : l.length ≤ m.length := by
  induction l generalizing m with
  | nil => simp
  | cons x r ih =>
    obtain ⟨h1, h2⟩ := List.nodup_cons.1 h
    have hx := hs x List.mem_cons_self
    have := ih (m := m.erase x) h2 (fun y hy => (List.mem_erase_of_ne (fun e => h1 (by rw [← e]; exact hy))).2 (hs y (List.mem_cons_of_mem _ hy)))
    rw [List.length_erase_of_mem hx] at this
    have hm : 0 < m.length := List.length_pos_of_mem hx
    rw [List.length_cons]
    omega
theorem HpO.rising {w : World} {c : Nat} {t : TypeId} {tl : List Value} {row : List Int} {T : LTh → Prop} {S : Nat → Prop} (h : HpO w c t tl row T S) : Rising row := by
  obtain ⟨A, n, cap, l, mo, g, h1, _, _⟩ := h
  exact h1.map.rising
theorem HpO.row_le {w : World} {c : Nat} {t : TypeId} {tl : List Value} {row : List Int} {T : LTh → Prop} {S : Nat → Prop} (h : HpO w c t tl row T S) {m : List Int} (hm : ∀ a, T a → a.id ∈ m) : row.length ≤ m.length :=
  len_le_of_sub (rising_nodup h.rising) (fun z hz => by obtain ⟨a, ha, e⟩ := h.mem z hz; rw [← e]; exact hm a ha)
set_option maxRecDepth 100000 in
theorem nodeKey_t (n : LNode) (w : World) : Calls Try.prog 87 #[aggNode n] w fun e w' => e = .returned (aggRes ⟨n.load, n.id, 0⟩) ∧ Below w.heap.size w w' := by
  go_enter Try.func87, Try.ntmps87
  go_wp2
  exact bodyPost_ret (v := aggRes ⟨n.load, n.id, 0⟩) (by simp [results, Try.results87, go_sem]) rfl ⟨rfl, ((Below.refl _ _).alloc (Nat.le_refl _) _).alloc (by simp) _⟩
theorem shNew_t (r : LRes) (w : World) : Calls Try.prog 54 #[aggRes r] w fun e w' => ∃ s, e = .returned (.pointer (some ⟨s, 0, none⟩)) ∧ w.heap.size ≤ s ∧ HpO w' s 118 (needT r) [] (fun _ => False) (fun k => k = s) ∧ Below w.heap.size w w' := by
  go_enter Try.func54, Try.ntmps54
  go_wp2
  go_ret
  have hm := HpO.made (w.alloc (.cells (boxRes r) 53)) 118 (needT r) (by decide)
  rw [show (w.alloc (.cells (boxRes r) 53)).heap.size = w.heap.size + 1 by simp] at hm
  exact ⟨_, rfl, by omega, hm, ((Below.refl _ _).alloc (Nat.le_refl _) _).alloc (by simp) _⟩
theorem enters_add64 {b o : Nat} {x : Int} {w : World} (hc : w.cell? ⟨b, o, none⟩ = some (.int .i64 x)) (hz : w.frozen? ⟨b, o, none⟩ = false) (h1 : -9223372036854775808 ≤ x + 1 ∧ x + 1 ≤ 9223372036854775807) :
    (callFunc 88 #[.pointer (some ⟨b, o, none⟩), .int .i64 1]).run Try.prog w = .ok (.value (.int .i64 (x + 1))) (w.setCell ⟨b, o, none⟩ (.int .i64 (x + 1))) :=
  run_call_add (P := Try.prog) Try.func88 (by kernel_rfl) (by kernel_rfl) (by kernel_rfl) .i64 (by kernel_rfl) (y := 1) (s := x + 1) hc hz (by have := IntWalk.i64_in (x + 1) h1; simp [go_sem, this])
theorem atAdd_t {b o : Nat} {t : TypeId} {cs : Array Value} {x : Int} {w : World} (hb : Blk w b t cs) (ho : cs[o]? = some (.int .i64 x)) (h1 : -9223372036854775808 ≤ x + 1 ∧ x + 1 ≤ 9223372036854775807) :
    Calls Try.prog 74 #[.pointer (some ⟨b, o, none⟩), .int .i64 1] w fun e w' => e = .returned (.int .i64 (x + 1)) ∧ w' = w.setCell ⟨b, o, none⟩ (.int .i64 (x + 1)) := by
  have hadd := enters_add64 ((hb.cell o).trans ho) (hb.frozen o) h1
  clear hb ho h1
  go_enter Try.func74, Try.ntmps74
  go_wp2
  go_ret
  exact ⟨rfl, rfl⟩
theorem enters_load64 {b o : Nat} {x : Int} {w : World} (hc : w.cell? ⟨b, o, none⟩ = some (.int .i64 x)) :
    (callFunc 56 #[.pointer (some ⟨b, o, none⟩)]).run Try.prog w = .ok (.value (.int .i64 x)) w :=
  run_call_load (P := Try.prog) Try.func56 (by kernel_rfl) (by kernel_rfl) (by kernel_rfl) .i64 (by kernel_rfl) hc
theorem atLoad_t {b o : Nat} {t : TypeId} {cs : Array Value} {x : Int} {w : World} (hb : Blk w b t cs) (ho : cs[o]? = some (.int .i64 x)) :
    Calls Try.prog 41 #[.pointer (some ⟨b, o, none⟩)] w fun e w' => e = .returned (.int .i64 x) ∧ w' = w := by
  have hadd := enters_load64 ((hb.cell o).trans ho)
  clear hb ho
  go_enter Try.func41, Try.ntmps41
  go_wp2
  go_ret
  exact ⟨rfl, rfl⟩
theorem HpO.ne_ {w : World} {c : Nat} {t : TypeId} {tl : List Value} {row : List Int} {T : LTh → Prop} {S : Nat → Prop} (h : HpO w c t tl row T S) : ∃ A n cap mo, Blk w c t (.slice A n cap :: .map mo :: tl).toArray := by
  obtain ⟨A, n, cap, l, mo, g, h1, _, _⟩ := h
  exact ⟨_, _, _, _, h1.blk⟩
set_option maxRecDepth 100000 in
set_option maxHeartbeats 3200000 in
theorem shPut_t {s : Nat} {r : LRes} {row : List Int} {T : LTh → Prop} {S : Nat → Prop} {w : World} (h : HpO w s 118 (needT r) row T S) (n : LNode) (hid : wf64 n.id) (hn : row.length ≤ 100000) :
    Calls Try.prog 73 #[.pointer (some ⟨s, 0, none⟩), aggNode n] w fun e w' => e = .returned (.bool (takesN n r)) ∧ ∃ row' S', HpO w' s 118 (needT r) row' (shPut T n r) S' ∧ Turned S S' w w' := by
  have hB : Below w.heap.size w (w.alloc (.cells (boxNode n) 55)) := (Below.refl _ _).alloc (Nat.le_refl _) _
  have H1 : Hid (HpO (w.alloc (.cells (boxNode n) 55)) s 118 (needT r) row T S ∧ Blk (w.alloc (.cells (boxNode n) 55)) w.heap.size 55 (boxNode n) ∧ Turned S S w (w.alloc (.cells (boxNode n) 55))) := Lib.hid ⟨h.below hB, Blk.new w _ _, .of_below hB⟩
  have HW := Lib.hid (And.intro hid hn)
  clear h hB hid hn
  obtain ⟨tk, htk⟩ : ∃ b, takesN n r = b := ⟨_, rfl⟩
  rw [htk]
  have HTK := Lib.hid htk
  clear htk
  go_enter Try.func73, Try.ntmps73
  go_upto_region 3 with fail
  obtain ⟨nb, hnb⟩ : ∃ nb, w.heap.size = nb := ⟨_, rfl⟩
  rw [hnb] at H1
  generalize (w.alloc (.cells (boxNode n) 55)) = w1 at H1 ⊢
  try rw [hnb]
  clear hnb
  cases tk with
  | false =>
    refine Cont.start (by kernel_rfl) ?_
    have HD := Lib.hid (And.intro (H1.out.1.below (Below.refl w1.heap.size w1).drew) (And.intro (H1.out.2.1.below (Below.refl w1.heap.size w1).drew H1.out.2.1.lt) (H1.out.2.2.trans (Turned.of_below (S := S) (Below.refl w1.heap.size w1).drew))))
    clear H1
    generalize w1.drew = wd at HD ⊢
    refine cont_free 0 7 7 [] [.o (eqV (aggNode n)), .o (eqV (.pointer (some ⟨s, 0, none⟩))), .o (eqV (.pointer (some ⟨s, 0, none⟩))), .o (eqV (.pointer (some ⟨s, 2, none⟩))), .o (eqV (aggRes r)), .b false, .b true] [false, false, false, false, false, false, true] (by kernel_rfl) (by kernel_rfl) (by kernel_rfl) (by kernel_rfl) (by kernel_rfl) (by kernel_rfl) (by kernel_rfl) rfl (by kernel_rfl) (by kernel_rfl) ⟨?_, ?_, ?_, ?_, ?_, ?_, trivial⟩ ?fin
    · intro a w hb hoth hdep
      refine step_on (want_none rfl) ?_
      have e3 : a.tmps[3]? = some (.pointer (some ⟨nb, 0, none⟩)) := ev_seg hoth 3 (by kernel_rfl) rfl
      have z0 := ((HD.out.2.1.below hb HD.out.2.1.lt)).cell 0
      have z1 := ((HD.out.2.1.below hb HD.out.2.1.lt)).cell 1
      have z2 := ((HD.out.2.1.below hb HD.out.2.1.lt)).cell 2
      have z3 := ((HD.out.2.1.below hb HD.out.2.1.lt)).cell 3
      have z4 := ((HD.out.2.1.below hb HD.out.2.1.lt)).cell 4
      have z5 := ((HD.out.2.1.below hb HD.out.2.1.lt)).cell 5
      have z6 := ((HD.out.2.1.below hb HD.out.2.1.lt)).cell 6
      have z7 := ((HD.out.2.1.below hb HD.out.2.1.lt)).cell 7
      have z8 := ((HD.out.2.1.below hb HD.out.2.1.lt)).cell 8
      have z9 := ((HD.out.2.1.below hb HD.out.2.1.lt)).cell 9
      simp only [List.getElem?_toArray, List.getElem?_cons_zero, List.getElem?_cons_succ] at z0 z1 z2 z3 z4 z5 z6 z7 z8 z9
      refine step_val (x := aggNode n) ?_ rfl
      simp [go_sem, e3, z0, z1, z2, z3, z4, z5, z6, z7, z8, z9, aggNode]
    · intro a w hb hoth hdep
      refine step_on (want_none rfl) ?_
      have e0 : a.tmps[0]? = some (.pointer (some ⟨s, 0, none⟩)) := ev_seg hoth 0 (by kernel_rfl) rfl
      exact step_val ((BigFrame.run_move _ rfl w).trans (by rw [ev_of e0])) rfl
    · intro a w hb hoth hdep
      refine step_on (want_none rfl) ?_
      obtain ⟨v1, e8, hv1⟩ := ev_dep hdep 1 8 (by kernel_rfl) (by kernel_rfl)
      replace hv1 : v1 = .pointer (some ⟨s, 0, none⟩) := hv1
      subst hv1
      refine step_val (x := .pointer (some ⟨s, 0, none⟩)) ?_ rfl
      simp [go_sem, e8]
    · intro a w hb hoth hdep
      refine step_on (want_none rfl) ?_
      obtain ⟨v2, e9, hv2⟩ := ev_dep hdep 2 9 (by kernel_rfl) (by kernel_rfl)
      replace hv2 : v2 = .pointer (some ⟨s, 0, none⟩) := hv2
      subst hv2
      refine step_val (x := .pointer (some ⟨s, 2, none⟩)) ?_ rfl
      simp [go_sem, e9]
    · intro a w hb hoth hdep
      refine step_on (want_none rfl) ?_
      obtain ⟨v3, e10, hv3⟩ := ev_dep hdep 3 10 (by kernel_rfl) (by kernel_rfl)
      replace hv3 : v3 = .pointer (some ⟨s, 2, none⟩) := hv3
      subst hv3
      obtain ⟨A_, n_, cap_, mo_, hq_⟩ := (HD.out.1.below hb).ne_
      have r0 := hq_.cell 2
      have r1 := hq_.cell 3
      have r2 := hq_.cell 4
      simp only [needT, List.getElem?_toArray, List.getElem?_cons_zero, List.getElem?_cons_succ] at r0 r1 r2
      refine step_val (x := aggRes r) ?_ rfl
      simp [go_sem, e10, r0, r1, r2, aggRes]
    · intro a w hb hoth hdep
      refine step_on (want_none rfl) ?_
      obtain ⟨v0, e7, hv0⟩ := ev_dep hdep 0 7 (by kernel_rfl) (by kernel_rfl)
      replace hv0 : v0 = aggNode n := hv0
      subst hv0
      obtain ⟨v4, e11, hv4⟩ := ev_dep hdep 4 11 (by kernel_rfl) (by kernel_rfl)
      replace hv4 : v4 = aggRes r := hv4
      subst hv4
      refine step_call (f := 57) (args := #[aggNode n, aggRes r]) ?_ ?_
      · simp [go_sem, e7, e11]
      · have hcx := takes_t n r w
        rw [HTK.out] at hcx
        (with_reducible refine hcx.mono ?_)
        clear hcx
        rintro e w2 ⟨rfl, hB⟩
        exact ⟨_, rfl, rfl, hB⟩
    case fin =>
      intro wz hbz
      iterate 7 (rintro _ rfl)
      refine FinC.nil ?_
      refine cont_end (by kernel_rfl) ?_
      have H1 := Lib.hid (And.intro (HD.out.1.below hbz) (And.intro (HD.out.2.1.below hbz HD.out.2.1.lt) (HD.out.2.2.trans (Turned.of_below (S := S) hbz))))
      clear hbz HD
      go_upto_region 4 with fail
      refine Cont.start (by kernel_rfl) ?_
      have HD := Lib.hid (And.intro (H1.out.1.below (Below.refl wz.heap.size wz).drew) (And.intro (H1.out.2.1.below (Below.refl wz.heap.size wz).drew H1.out.2.1.lt) (H1.out.2.2.trans (Turned.of_below (S := S) (Below.refl wz.heap.size wz).drew))))
      clear H1
      generalize wz.drew = wd at HD ⊢
      refine cont_free 0 5 14 [] [.o (eqV (.pointer (some ⟨s, 0, none⟩))), .o (eqV (.pointer (some ⟨s, 0, none⟩))), .o (eqV (.pointer (some ⟨s, 0, none⟩))), .o (eqV (.pointer (some ⟨nb, 0, none⟩))), .o (eqV (.int .i64 n.id))] [false, false, false, false, false] (by kernel_rfl) (by kernel_rfl) (by kernel_rfl) (by kernel_rfl) (by kernel_rfl) (by kernel_rfl) (by kernel_rfl) rfl (by kernel_rfl) (by kernel_rfl) ⟨?_, ?_, ?_, ?_, ?_, trivial⟩ ?fin
      · intro a w hb hoth hdep
        refine step_on (want_none rfl) ?_
        have e0 : a.tmps[0]? = some (.pointer (some ⟨s, 0, none⟩)) := ev_seg hoth 0 (by kernel_rfl) rfl
        exact step_val ((BigFrame.run_move _ rfl w).trans (by rw [ev_of e0])) rfl
      · intro a w hb hoth hdep
        refine step_on (want_none rfl) ?_
        obtain ⟨v0, e14, hv0⟩ := ev_dep hdep 0 14 (by kernel_rfl) (by kernel_rfl)
        replace hv0 : v0 = .pointer (some ⟨s, 0, none⟩) := hv0
        subst hv0
        refine step_val (x := .pointer (some ⟨s, 0, none⟩)) ?_ rfl
        simp [go_sem, e14]
      · intro a w hb hoth hdep
        refine step_on (want_none rfl) ?_
        obtain ⟨v1, e15, hv1⟩ := ev_dep hdep 1 15 (by kernel_rfl) (by kernel_rfl)
        replace hv1 : v1 = .pointer (some ⟨s, 0, none⟩) := hv1
        subst hv1
        refine step_val (x := .pointer (some ⟨s, 0, none⟩)) ?_ rfl
        simp [go_sem, e15]
      · intro a w hb hoth hdep
        refine step_on (want_none rfl) ?_
        have e3 : a.tmps[3]? = some (.pointer (some ⟨nb, 0, none⟩)) := ev_seg hoth 3 (by kernel_rfl) rfl
        refine step_val (x := .pointer (some ⟨nb, 0, none⟩)) ?_ rfl
        simp [go_sem, e3]
      · intro a w hb hoth hdep
        refine step_on (want_none rfl) ?_
        obtain ⟨v3, e17, hv3⟩ := ev_dep hdep 3 17 (by kernel_rfl) (by kernel_rfl)
        replace hv3 : v3 = .pointer (some ⟨nb, 0, none⟩) := hv3
        subst hv3
        have z0 := ((HD.out.2.1.below hb HD.out.2.1.lt)).cell 0
        have z1 := ((HD.out.2.1.below hb HD.out.2.1.lt)).cell 1
        have z2 := ((HD.out.2.1.below hb HD.out.2.1.lt)).cell 2
        have z3 := ((HD.out.2.1.below hb HD.out.2.1.lt)).cell 3
        have z4 := ((HD.out.2.1.below hb HD.out.2.1.lt)).cell 4
        have z5 := ((HD.out.2.1.below hb HD.out.2.1.lt)).cell 5
        have z6 := ((HD.out.2.1.below hb HD.out.2.1.lt)).cell 6
        have z7 := ((HD.out.2.1.below hb HD.out.2.1.lt)).cell 7
        have z8 := ((HD.out.2.1.below hb HD.out.2.1.lt)).cell 8
        have z9 := ((HD.out.2.1.below hb HD.out.2.1.lt)).cell 9
        simp only [List.getElem?_toArray, List.getElem?_cons_zero, List.getElem?_cons_succ] at z0 z1 z2 z3 z4 z5 z6 z7 z8 z9
        refine step_val (x := .int .i64 n.id) ?_ rfl
        simp [go_sem, e17, z0, z1, z2, z3, z4, z5, z6, z7, z8, z9]
      case fin =>
        intro wz hbz
        iterate 5 (rintro _ rfl)
        refine FinC.nil ?_
        have H1 := Lib.hid (And.intro (HD.out.1.below hbz) (And.intro (HD.out.2.1.below hbz HD.out.2.1.lt) (HD.out.2.2.trans (Turned.of_below (S := S) hbz))))
        clear hbz HD
        refine cont_line 5 1 (by kernel_rfl) (by kernel_rfl) (by kernel_rfl) ?_
        change wpList _ _ _ [_] _ _
        have hcx := hDrop_o H1.out.1 n.id HW.out.1 HW.out.2
        go_wp2_with fail
        (with_reducible refine hcx.mono ?_)
        clear hcx
        rintro e w9 ⟨rfl, S9, h9, ht9⟩
        have HE : Hid (∃ row' S', HpO w9 s 118 (needT r) row' (shPut T n r) S' ∧ Turned S S' w w9) := Lib.hid ⟨_, S9, h9.congr rfl (fun a => by show ((T a ∧ a.id ≠ n.id) ∨ (takesN n r = true ∧ a = keyT n)) ↔ (T a ∧ a.id ≠ n.id); rw [HTK.out]; simp), H1.out.2.2.trans ht9⟩
        clear h9 ht9 H1
        go_wp2_with fail
        show Cont _ _ _ _ _ _
        refine cont_end (by kernel_rfl) ?_
        go_wp2
        go_ret
        exact ⟨rfl, HE.out⟩
  | true =>
    refine Cont.start (by kernel_rfl) ?_
    have HD := Lib.hid (And.intro (H1.out.1.below (Below.refl w1.heap.size w1).drew) (And.intro (H1.out.2.1.below (Below.refl w1.heap.size w1).drew H1.out.2.1.lt) (H1.out.2.2.trans (Turned.of_below (S := S) (Below.refl w1.heap.size w1).drew))))
    clear H1
    generalize w1.drew = wd at HD ⊢
    refine cont_free 0 7 7 [] [.o (eqV (aggNode n)), .o (eqV (.pointer (some ⟨s, 0, none⟩))), .o (eqV (.pointer (some ⟨s, 0, none⟩))), .o (eqV (.pointer (some ⟨s, 2, none⟩))), .o (eqV (aggRes r)), .b true, .b false] [false, false, false, false, false, false, true] (by kernel_rfl) (by kernel_rfl) (by kernel_rfl) (by kernel_rfl) (by kernel_rfl) (by kernel_rfl) (by kernel_rfl) rfl (by kernel_rfl) (by kernel_rfl) ⟨?_, ?_, ?_, ?_, ?_, ?_, trivial⟩ ?fin
    · intro a w hb hoth hdep
      refine step_on (want_none rfl) ?_
      have e3 : a.tmps[3]? = some (.pointer (some ⟨nb, 0, none⟩)) := ev_seg hoth 3 (by kernel_rfl) rfl
      have z0 := ((HD.out.2.1.below hb HD.out.2.1.lt)).cell 0
      have z1 := ((HD.out.2.1.below hb HD.out.2.1.lt)).cell 1
      have z2 := ((HD.out.2.1.below hb HD.out.2.1.lt)).cell 2
      have z3 := ((HD.out.2.1.below hb HD.out.2.1.lt)).cell 3
      have z4 := ((HD.out.2.1.below hb HD.out.2.1.lt)).cell 4
      have z5 := ((HD.out.2.1.below hb HD.out.2.1.lt)).cell 5
      have z6 := ((HD.out.2.1.below hb HD.out.2.1.lt)).cell 6
      have z7 := ((HD.out.2.1.below hb HD.out.2.1.lt)).cell 7
      have z8 := ((HD.out.2.1.below hb HD.out.2.1.lt)).cell 8
      have z9 := ((HD.out.2.1.below hb HD.out.2.1.lt)).cell 9
      simp only [List.getElem?_toArray, List.getElem?_cons_zero, List.getElem?_cons_succ] at z0 z1 z2 z3 z4 z5 z6 z7 z8 z9
      refine step_val (x := aggNode n) ?_ rfl
      simp [go_sem, e3, z0, z1, z2, z3, z4, z5, z6, z7, z8, z9, aggNode]
    · intro a w hb hoth hdep
      refine step_on (want_none rfl) ?_
      have e0 : a.tmps[0]? = some (.pointer (some ⟨s, 0, none⟩)) := ev_seg hoth 0 (by kernel_rfl) rfl
      exact step_val ((BigFrame.run_move _ rfl w).trans (by rw [ev_of e0])) rfl
    · intro a w hb hoth hdep
      refine step_on (want_none rfl) ?_
      obtain ⟨v1, e8, hv1⟩ := ev_dep hdep 1 8 (by kernel_rfl) (by kernel_rfl)
      replace hv1 : v1 = .pointer (some ⟨s, 0, none⟩) := hv1
      subst hv1
      refine step_val (x := .pointer (some ⟨s, 0, none⟩)) ?_ rfl
      simp [go_sem, e8]
    · intro a w hb hoth hdep
      refine step_on (want_none rfl) ?_
      obtain ⟨v2, e9, hv2⟩ := ev_dep hdep 2 9 (by kernel_rfl) (by kernel_rfl)
      replace hv2 : v2 = .pointer (some ⟨s, 0, none⟩) := hv2
      subst hv2
      refine step_val (x := .pointer (some ⟨s, 2, none⟩)) ?_ rfl
      simp [go_sem, e9]
    · intro a w hb hoth hdep
      refine step_on (want_none rfl) ?_
      obtain ⟨v3, e10, hv3⟩ := ev_dep hdep 3 10 (by kernel_rfl) (by kernel_rfl)
      replace hv3 : v3 = .pointer (some ⟨s, 2, none⟩) := hv3
      subst hv3
      obtain ⟨A_, n_, cap_, mo_, hq_⟩ := (HD.out.1.below hb).ne_
      have r0 := hq_.cell 2
      have r1 := hq_.cell 3
      have r2 := hq_.cell 4
      simp only [needT, List.getElem?_toArray, List.getElem?_cons_zero, List.getElem?_cons_succ] at r0 r1 r2
      refine step_val (x := aggRes r) ?_ rfl
      simp [go_sem, e10, r0, r1, r2, aggRes]
    · intro a w hb hoth hdep
      refine step_on (want_none rfl) ?_
      obtain ⟨v0, e7, hv0⟩ := ev_dep hdep 0 7 (by kernel_rfl) (by kernel_rfl)
      replace hv0 : v0 = aggNode n := hv0
      subst hv0
      obtain ⟨v4, e11, hv4⟩ := ev_dep hdep 4 11 (by kernel_rfl) (by kernel_rfl)
      replace hv4 : v4 = aggRes r := hv4
      subst hv4
      refine step_call (f := 57) (args := #[aggNode n, aggRes r]) ?_ ?_
      · simp [go_sem, e7, e11]
      · have hcx := takes_t n r w
        rw [HTK.out] at hcx
        (with_reducible refine hcx.mono ?_)
        clear hcx
        rintro e w2 ⟨rfl, hB⟩
        exact ⟨_, rfl, rfl, hB⟩
    case fin =>
      intro wz hbz
      iterate 7 (rintro _ rfl)
      refine FinC.nil ?_
      refine cont_end (by kernel_rfl) ?_
      have H1 := Lib.hid (And.intro (HD.out.1.below hbz) (And.intro (HD.out.2.1.below hbz HD.out.2.1.lt) (HD.out.2.2.trans (Turned.of_below (S := S) hbz))))
      clear hbz HD
      go_upto_region 6 with fail
      refine Cont.start (by kernel_rfl) ?_
      have HD := Lib.hid (And.intro (H1.out.1.below (Below.refl wz.heap.size wz).drew) (And.intro (H1.out.2.1.below (Below.refl wz.heap.size wz).drew H1.out.2.1.lt) (H1.out.2.2.trans (Turned.of_below (S := S) (Below.refl wz.heap.size wz).drew))))
      clear H1
      generalize wz.drew = wd at HD ⊢
      refine cont_free 0 7 20 [] [.o (eqV (.pointer (some ⟨s, 0, none⟩))), .o (eqV (.pointer (some ⟨s, 0, none⟩))), .o (eqV (.pointer (some ⟨s, 0, none⟩))), .o (eqV (.pointer (some ⟨nb, 0, none⟩))), .o (eqV (.int .i64 n.id)), .o (eqV (aggNode n)), .o (eqV (aggRes ⟨n.load, n.id, 0⟩))] [false, false, false, false, false, false, false] (by kernel_rfl) (by kernel_rfl) (by kernel_rfl) (by kernel_rfl) (by kernel_rfl) (by kernel_rfl) (by kernel_rfl) rfl (by kernel_rfl) (by kernel_rfl) ⟨?_, ?_, ?_, ?_, ?_, ?_, ?_, trivial⟩ ?fin
      · intro a w hb hoth hdep
        refine step_on (want_none rfl) ?_
        have e0 : a.tmps[0]? = some (.pointer (some ⟨s, 0, none⟩)) := ev_seg hoth 0 (by kernel_rfl) rfl
        exact step_val ((BigFrame.run_move _ rfl w).trans (by rw [ev_of e0])) rfl
      · intro a w hb hoth hdep
        refine step_on (want_none rfl) ?_
        obtain ⟨v0, e20, hv0⟩ := ev_dep hdep 0 20 (by kernel_rfl) (by kernel_rfl)
        replace hv0 : v0 = .pointer (some ⟨s, 0, none⟩) := hv0
        subst hv0
        refine step_val (x := .pointer (some ⟨s, 0, none⟩)) ?_ rfl
        simp [go_sem, e20]
      · intro a w hb hoth hdep
        refine step_on (want_none rfl) ?_
        obtain ⟨v1, e21, hv1⟩ := ev_dep hdep 1 21 (by kernel_rfl) (by kernel_rfl)
        replace hv1 : v1 = .pointer (some ⟨s, 0, none⟩) := hv1
        subst hv1
        refine step_val (x := .pointer (some ⟨s, 0, none⟩)) ?_ rfl
        simp [go_sem, e21]
      · intro a w hb hoth hdep
        refine step_on (want_none rfl) ?_
        have e3 : a.tmps[3]? = some (.pointer (some ⟨nb, 0, none⟩)) := ev_seg hoth 3 (by kernel_rfl) rfl
        refine step_val (x := .pointer (some ⟨nb, 0, none⟩)) ?_ rfl
        simp [go_sem, e3]
      · intro a w hb hoth hdep
        refine step_on (want_none rfl) ?_
        obtain ⟨v3, e23, hv3⟩ := ev_dep hdep 3 23 (by kernel_rfl) (by kernel_rfl)
        replace hv3 : v3 = .pointer (some ⟨nb, 0, none⟩) := hv3
        subst hv3
        have z0 := ((HD.out.2.1.below hb HD.out.2.1.lt)).cell 0
        have z1 := ((HD.out.2.1.below hb HD.out.2.1.lt)).cell 1
        have z2 := ((HD.out.2.1.below hb HD.out.2.1.lt)).cell 2
        have z3 := ((HD.out.2.1.below hb HD.out.2.1.lt)).cell 3
        have z4 := ((HD.out.2.1.below hb HD.out.2.1.lt)).cell 4
        have z5 := ((HD.out.2.1.below hb HD.out.2.1.lt)).cell 5
        have z6 := ((HD.out.2.1.below hb HD.out.2.1.lt)).cell 6
        have z7 := ((HD.out.2.1.below hb HD.out.2.1.lt)).cell 7
        have z8 := ((HD.out.2.1.below hb HD.out.2.1.lt)).cell 8
        have z9 := ((HD.out.2.1.below hb HD.out.2.1.lt)).cell 9
        simp only [List.getElem?_toArray, List.getElem?_cons_zero, List.getElem?_cons_succ] at z0 z1 z2 z3 z4 z5 z6 z7 z8 z9
        refine step_val (x := .int .i64 n.id) ?_ rfl
        simp [go_sem, e23, z0, z1, z2, z3, z4, z5, z6, z7, z8, z9]
      · intro a w hb hoth hdep
        refine step_on (want_none rfl) ?_
        have e3 : a.tmps[3]? = some (.pointer (some ⟨nb, 0, none⟩)) := ev_seg hoth 3 (by kernel_rfl) rfl
        have z0 := ((HD.out.2.1.below hb HD.out.2.1.lt)).cell 0
        have z1 := ((HD.out.2.1.below hb HD.out.2.1.lt)).cell 1
        have z2 := ((HD.out.2.1.below hb HD.out.2.1.lt)).cell 2
        have z3 := ((HD.out.2.1.below hb HD.out.2.1.lt)).cell 3
        have z4 := ((HD.out.2.1.below hb HD.out.2.1.lt)).cell 4
        have z5 := ((HD.out.2.1.below hb HD.out.2.1.lt)).cell 5
        have z6 := ((HD.out.2.1.below hb HD.out.2.1.lt)).cell 6
        have z7 := ((HD.out.2.1.below hb HD.out.2.1.lt)).cell 7
        have z8 := ((HD.out.2.1.below hb HD.out.2.1.lt)).cell 8
        have z9 := ((HD.out.2.1.below hb HD.out.2.1.lt)).cell 9
        simp only [List.getElem?_toArray, List.getElem?_cons_zero, List.getElem?_cons_succ] at z0 z1 z2 z3 z4 z5 z6 z7 z8 z9
        refine step_val (x := aggNode n) ?_ rfl
        simp [go_sem, e3, z0, z1, z2, z3, z4, z5, z6, z7, z8, z9, aggNode]
      · intro a w hb hoth hdep
        refine step_on (want_none rfl) ?_
        obtain ⟨v5, e25, hv5⟩ := ev_dep hdep 5 25 (by kernel_rfl) (by kernel_rfl)
        replace hv5 : v5 = aggNode n := hv5
        subst hv5
        refine step_call (f := 87) (args := #[aggNode n]) ?_ ?_
        · simp [go_sem, e25]
        · have hcx := nodeKey_t n w
          (with_reducible refine hcx.mono ?_)
          clear hcx
          rintro e w2 ⟨rfl, hB⟩
          exact ⟨_, rfl, rfl, hB⟩
      case fin =>
        intro wz hbz
        iterate 7 (rintro _ rfl)
        refine FinC.nil ?_
        have H1 := Lib.hid (And.intro (HD.out.1.below hbz) (And.intro (HD.out.2.1.below hbz HD.out.2.1.lt) (HD.out.2.2.trans (Turned.of_below (S := S) hbz))))
        clear hbz HD
        refine cont_line 7 1 (by kernel_rfl) (by kernel_rfl) (by kernel_rfl) ?_
        change wpList _ _ _ [_] _ _
        have hcx := hPut_o H1.out.1 n.id ⟨n.load, n.id, 0⟩ HW.out.1 HW.out.2
        go_wp2_with fail
        (with_reducible refine hcx.mono ?_)
        clear hcx
        rintro e w9 ⟨rfl, S9, h9, ht9⟩
        have HE : Hid (∃ row' S', HpO w9 s 118 (needT r) row' (shPut T n r) S' ∧ Turned S S' w w9) := Lib.hid ⟨_, S9, h9.congr rfl (fun a => by show ((T a ∧ a.id ≠ n.id) ∨ (takesN n r = true ∧ a = keyT n)) ↔ ((T a ∧ a.id ≠ n.id) ∨ a = ⟨n.id, n.load, n.id, 0⟩); rw [HTK.out]; simp [keyT]), H1.out.2.2.trans ht9⟩
        clear h9 ht9 H1
        go_wp2_with fail
        show Cont _ _ _ _ _ _
        refine cont_end (by kernel_rfl) ?_
        go_wp2
        go_ret
        exact ⟨rfl, HE.out⟩
end Go.Proofs.Ytcafmodenbifhaa
