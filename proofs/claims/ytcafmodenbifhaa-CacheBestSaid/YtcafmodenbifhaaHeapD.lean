/-
  LAYER 9 (heap): a thing sinks in a heap in memory: down.
-/
import Derived.Test.YtcafmodenbifhaaHeapU
set_option linter.unusedVariables false
set_option linter.unusedSimpArgs false
namespace Go.Proofs.Ytcafmodenbifhaa
open Go.RowKit Go.Maps

theorem upd_ne {u : Nat → LTh} {k i : Nat} {x : LTh} (h : i ≠ k) : updF u k x i = u i := by unfold updF; rw [if_neg h]
theorem upd_eq (u : Nat → LTh) (k : Nat) (x : LTh) : updF u k x k = x := by unfold updF; rw [if_pos rfl]
set_option maxRecDepth 100000 in
set_option maxHeartbeats 6400000 in
theorem hDown_t {base c : Nat} {t : TypeId} {cs : Array Value} {A : Option Addr} {n cap : Nat} {mb : Nat} {row : List Int} {w : World} {k : Nat} {x : LTh} {l : List LTh} {g : Int → Int} (h : HU w base c t cs A n cap mb row k x l g) (hk : k < n) (hD0 : DF ltP (updF (uL l) k x) n k) (hwf : n ≤ 1000000 ∧ row.length ≤ 1000000) :
    Calls Try.prog 125 #[.pointer (some ⟨c, 0, none⟩), .int .i64 ((k : Nat) : Int), aggTh x] w fun e w' => ∃ (k2 : Nat) (l2 : List LTh) (g2 : Int → Int), e = .returned (.int .i64 k2) ∧ k2 < n ∧ HU w' base c t cs A n cap mb row k2 x l2 g2 ∧ Kept (HpS A mb) w w' ∧ (∀ a, (∃ i, i < n ∧ updF (uL l2) k2 x i = a) ↔ ∃ i, i < n ∧ updF (uL l) k x i = a) ∧ HeapF ltP (updF (uL l2) k2 x) n := by
  obtain ⟨rb, hA⟩ : ∃ rb, A = some ⟨rb, 0, none⟩ := by obtain ⟨rb, hA, _⟩ := h.at_.own.put (fun _ => rfl) hk x; exact ⟨rb, hA⟩
  have hB : Below w.heap.size w (w.alloc (.cells (boxTh x) 137)) := (Below.refl _ _).alloc (Nat.le_refl _) _
  have hbx := Blk.new w 137 (boxTh x)
  have hnb : ¬ HpS A mb w.heap.size := by
    rintro (e | ⟨ad, ha, e⟩)
    · have := h.at_.map.lt mb rfl; omega
    · have := (h.at_.own.at_base ad ha).2; omega
  have HX := Lib.hid (And.intro (h.below hB) (And.intro hbx (And.intro hD0 (And.intro hnb (Kept.of_below (F := HpS A mb) hB)))))
  have HWF := Lib.hid hwf
  clear h hB hbx hD0 hnb hwf
  go_enter Try.func125, Try.ntmps125
  obtain ⟨b, hb0⟩ : ∃ b, w.heap.size = b := ⟨_, rfl⟩
  rw [hb0] at HX
  have HX2 := Lib.hid hb0
  clear hb0
  go_wp2
  try simp only [HX2.out]
  go_loopw [1] (fun kv wr => ∃ (k2 : Nat) (l2 : List LTh) (g2 : Int → Int), kv = .int .i64 k2 ∧ k2 < n ∧ HU wr base c t cs A n cap mb row k2 x l2 g2 ∧ Blk wr b 137 (boxTh x) ∧ Kept (HpS A mb) w wr ∧ (∀ a, (∃ i, i < n ∧ updF (uL l2) k2 x i = a) ↔ ∃ i, i < n ∧ updF (uL l) k x i = a) ∧ DF ltP (updF (uL l2) k2 x) n k2) (fun kv _ => n - (intOf kv).toNat)
  case atStart => exact ⟨k, l, g, rfl, hk, HX.out.1, HX.out.2.1, HX.out.2.2.2.2, fun _ => Iff.rfl, HX.out.2.2.1⟩
  case round =>
    obtain ⟨k2, l2, g2, rfl, hk2, hU, hbk, hKp, hmem, hst⟩ := hrel
    have HU2 := Lib.hid (And.intro hU (And.intro hbk (And.intro hKp (And.intro hmem hst))))
    clear hU hbk hKp hmem hst
    obtain ⟨kd, hkdd⟩ : ∃ kd, 2 * k2 + 1 = kd := ⟨_, rfl⟩
    have t9 : IntKind.i64.wrap (2 * (k2 : Int)) = 2 * (k2 : Int) := IntWalk.i64_in _ (by have := HWF.out.1; omega)
    have t10 : IntKind.i64.wrap (2 * (k2 : Int) + 1) = ((kd : Nat) : Int) := (IntWalk.i64_in _ (by have := HWF.out.1; omega)).trans (by omega)
    have x0 : wr.cell? ⟨c, 0, none⟩ = some (.slice A n cap) := (HU2.out.1.at_.blk.cell 0).trans HU2.out.1.at_.c0
    have xl := HU2.out.1.at_.blk.lt
    by_cases hkd : kd < n
    · go_upto_region 4 with fail
      clear x0 xl t9 t10
      have hk1 : par kd = k2 := by unfold par; omega
      obtain ⟨kd1, hkd1⟩ : ∃ kd1, kd + 1 = kd1 := ⟨_, rfl⟩
      have t11 : IntKind.i64.wrap ((kd : Int) + 1) = ((kd1 : Nat) : Int) := (IntWalk.i64_in _ (by have := HWF.out.1; omega)).trans (by omega)
      have t12 : wrap64 ((kd : Int) + 1) = ((kd1 : Nat) : Int) := by unfold wrap64; have := HWF.out.1; omega
      have HD : Hid (HU wr base c t cs A n cap mb row k2 x l2 g2 ∧ Blk wr b 137 (boxTh x)) := Lib.hid ⟨HU2.out.1, HU2.out.2.1⟩
      obtain ⟨dv, hdv⟩ : ∃ dv, (decide (kd1 < n) && ltTh (uL l2 kd1) (uL l2 kd)) = dv := ⟨_, rfl⟩
      have HDV := Lib.hid hdv
      clear hdv
      go_cut [44] from 19 to 43 (fun v44 wx => v44 = .bool dv ∧ HU wx base c t cs A n cap mb row k2 x l2 g2 ∧ Blk wx b 137 (boxTh x) ∧ Kept (HpS A mb) w wx)
      case first =>
        by_cases hlt2 : kd1 < n
        · obtain ⟨lv, hlv⟩ : ∃ lv, ltTh (uL l2 kd1) (uL l2 kd) = lv := ⟨_, rfl⟩
          have HLV := Lib.hid hlv
          clear hlv
          cases lv
          · refine wp_region_autoD 19 [.o (eqV (.int .i64 ((kd : Nat) : Int))), .o (eqV (.int .i64 ((kd1 : Nat) : Int))), .o (eqV (.pointer (some ⟨c, 0, none⟩))), .o (eqV (.pointer (some ⟨c, 0, none⟩))), .o (eqV (.pointer (some ⟨c, 0, none⟩))), .o (eqV (.slice (some ⟨rb, 0, none⟩) n cap)), .o (eqV (.int .i64 n)), .b true, .b true, .o (eqV (.pointer (some ⟨c, 0, none⟩))), .o (eqV (.pointer (some ⟨c, 0, none⟩))), .o (eqV (.pointer (some ⟨c, 0, none⟩))), .o (eqV (.slice (some ⟨rb, 0, none⟩) n cap)), .o (eqV (.int .i64 ((kd : Nat) : Int))), .o (eqV (.int .i64 ((kd1 : Nat) : Int))), .o (eqV (.pointer (some ⟨rb, kd1 * 4, none⟩))), .o (eqV (aggTh (uL l2 kd1))), .o (eqV (.pointer (some ⟨c, 0, none⟩))), .o (eqV (.pointer (some ⟨c, 0, none⟩))), .o (eqV (.pointer (some ⟨c, 0, none⟩))), .o (eqV (.slice (some ⟨rb, 0, none⟩) n cap)), .o (eqV (.int .i64 ((kd : Nat) : Int))), .o (eqV (.pointer (some ⟨rb, kd * 4, none⟩))), .o (eqV (aggTh (uL l2 kd))), .b false, .b false] [false, false, false, false, false, false, false, false, true, false, false, false, false, false, false, false, false, false, false, false, false, false, false, false, false, true] (by kernel_rfl) (by kernel_rfl) rfl (by kernel_rfl) (by kernel_rfl) ⟨?_, ?_, ?_, ?_, ?_, ?_, ?_, ?_, ?_, ?_, ?_, ?_, ?_, ?_, ?_, ?_, ?_, ?_, ?_, ?_, ?_, ?_, ?_, ?_, trivial⟩ ?fin
            · intro a w hb hoth hdep
              refine step_on (want_none rfl) ?_
              have e7 : a.tmps[7]? = some (.int .i64 ((kd : Nat) : Int)) := ev_other hoth 7 (by kernel_rfl) rfl
              exact step_val ((BigFrame.run_move _ rfl w).trans (by rw [ev_of e7])) rfl
            · intro a w hb hoth hdep
              refine step_on (want_none rfl) ?_
              obtain ⟨v0, e19, hv0⟩ := ev_dep hdep 0 19 (by kernel_rfl) (by kernel_rfl)
              replace hv0 : v0 = .int .i64 ((kd : Nat) : Int) := hv0
              subst hv0
              refine step_val (x := .int .i64 ((kd1 : Nat) : Int)) ?_ rfl
              simp [go_sem, e19, t11]
            · intro a w hb hoth hdep
              refine step_on (want_none rfl) ?_
              have e0 : a.tmps[0]? = some (.pointer (some ⟨c, 0, none⟩)) := ev_other hoth 0 (by kernel_rfl) rfl
              exact step_val ((BigFrame.run_move _ rfl w).trans (by rw [ev_of e0])) rfl
            · intro a w hb hoth hdep
              refine step_on (want_none rfl) ?_
              obtain ⟨v2, e21, hv2⟩ := ev_dep hdep 2 21 (by kernel_rfl) (by kernel_rfl)
              replace hv2 : v2 = .pointer (some ⟨c, 0, none⟩) := hv2
              subst hv2
              refine step_val (x := .pointer (some ⟨c, 0, none⟩)) ?_ rfl
              simp [go_sem, e21]
            · intro a w hb hoth hdep
              refine step_on (want_none rfl) ?_
              obtain ⟨v3, e22, hv3⟩ := ev_dep hdep 3 22 (by kernel_rfl) (by kernel_rfl)
              replace hv3 : v3 = .pointer (some ⟨c, 0, none⟩) := hv3
              subst hv3
              refine step_val (x := .pointer (some ⟨c, 0, none⟩)) ?_ rfl
              simp [go_sem, e22]
            · intro a w hb hoth hdep
              refine step_on (want_none rfl) ?_
              obtain ⟨v4, e23, hv4⟩ := ev_dep hdep 4 23 (by kernel_rfl) (by kernel_rfl)
              replace hv4 : v4 = .pointer (some ⟨c, 0, none⟩) := hv4
              subst hv4
              have x0 : w.cell? ⟨c, 0, none⟩ = some (.slice A n cap) := ((HD.out.1.at_.below hb).blk.cell 0).trans HD.out.1.at_.c0
              rw [hA] at x0
              refine step_val (x := .slice (some ⟨rb, 0, none⟩) n cap) ?_ rfl
              simp [go_sem, e23, x0]
            · intro a w hb hoth hdep
              refine step_on (want_none rfl) ?_
              obtain ⟨v5, e24, hv5⟩ := ev_dep hdep 5 24 (by kernel_rfl) (by kernel_rfl)
              replace hv5 : v5 = .slice (some ⟨rb, 0, none⟩) n cap := hv5
              subst hv5
              refine step_val (x := .int .i64 n) ?_ rfl
              simp [go_sem, e24, Try.underlying114]
            · intro a w hb hoth hdep
              refine step_on (want_none rfl) ?_
              obtain ⟨v1, e20, hv1⟩ := ev_dep hdep 1 20 (by kernel_rfl) (by kernel_rfl)
              replace hv1 : v1 = .int .i64 ((kd1 : Nat) : Int) := hv1
              subst hv1
              obtain ⟨v6, e25, hv6⟩ := ev_dep hdep 6 25 (by kernel_rfl) (by kernel_rfl)
              replace hv6 : v6 = .int .i64 n := hv6
              subst hv6
              refine step_val (x := .bool true) ?_ rfl
              simp [go_sem, e20, e25, hlt2]
            · intro a w hb hoth hdep
              refine step_on ((want_dep hdep 8 27 true rfl (by kernel_rfl) (by kernel_rfl) (fun v h => h)).trans rfl) ?_
              have e0 : a.tmps[0]? = some (.pointer (some ⟨c, 0, none⟩)) := ev_other hoth 0 (by kernel_rfl) rfl
              exact step_val ((BigFrame.run_move _ rfl w).trans (by rw [ev_of e0])) rfl
            · intro a w hb hoth hdep
              refine step_on ((want_dep hdep 8 27 true rfl (by kernel_rfl) (by kernel_rfl) (fun v h => h)).trans rfl) ?_
              obtain ⟨v9, e28, hv9⟩ := ev_dep hdep 9 28 (by kernel_rfl) (by kernel_rfl)
              replace hv9 : v9 = .pointer (some ⟨c, 0, none⟩) := hv9
              subst hv9
              refine step_val (x := .pointer (some ⟨c, 0, none⟩)) ?_ rfl
              simp [go_sem, e28]
            · intro a w hb hoth hdep
              refine step_on ((want_dep hdep 8 27 true rfl (by kernel_rfl) (by kernel_rfl) (fun v h => h)).trans rfl) ?_
              obtain ⟨v10, e29, hv10⟩ := ev_dep hdep 10 29 (by kernel_rfl) (by kernel_rfl)
              replace hv10 : v10 = .pointer (some ⟨c, 0, none⟩) := hv10
              subst hv10
              refine step_val (x := .pointer (some ⟨c, 0, none⟩)) ?_ rfl
              simp [go_sem, e29]
            · intro a w hb hoth hdep
              refine step_on ((want_dep hdep 8 27 true rfl (by kernel_rfl) (by kernel_rfl) (fun v h => h)).trans rfl) ?_
              obtain ⟨v11, e30, hv11⟩ := ev_dep hdep 11 30 (by kernel_rfl) (by kernel_rfl)
              replace hv11 : v11 = .pointer (some ⟨c, 0, none⟩) := hv11
              subst hv11
              have x0 : w.cell? ⟨c, 0, none⟩ = some (.slice A n cap) := ((HD.out.1.at_.below hb).blk.cell 0).trans HD.out.1.at_.c0
              rw [hA] at x0
              refine step_val (x := .slice (some ⟨rb, 0, none⟩) n cap) ?_ rfl
              simp [go_sem, e30, x0]
            · intro a w hb hoth hdep
              refine step_on ((want_dep hdep 8 27 true rfl (by kernel_rfl) (by kernel_rfl) (fun v h => h)).trans rfl) ?_
              have e7 : a.tmps[7]? = some (.int .i64 ((kd : Nat) : Int)) := ev_other hoth 7 (by kernel_rfl) rfl
              exact step_val ((BigFrame.run_move _ rfl w).trans (by rw [ev_of e7])) rfl
            · intro a w hb hoth hdep
              refine step_on ((want_dep hdep 8 27 true rfl (by kernel_rfl) (by kernel_rfl) (fun v h => h)).trans rfl) ?_
              obtain ⟨v13, e32, hv13⟩ := ev_dep hdep 13 32 (by kernel_rfl) (by kernel_rfl)
              replace hv13 : v13 = .int .i64 ((kd : Nat) : Int) := hv13
              subst hv13
              refine step_val (x := .int .i64 ((kd1 : Nat) : Int)) ?_ rfl
              simp [go_sem, e32, t11]
            · intro a w hb hoth hdep
              refine step_on ((want_dep hdep 8 27 true rfl (by kernel_rfl) (by kernel_rfl) (fun v h => h)).trans rfl) ?_
              obtain ⟨v12, e31, hv12⟩ := ev_dep hdep 12 31 (by kernel_rfl) (by kernel_rfl)
              replace hv12 : v12 = .slice (some ⟨rb, 0, none⟩) n cap := hv12
              subst hv12
              obtain ⟨v14, e33, hv14⟩ := ev_dep hdep 14 33 (by kernel_rfl) (by kernel_rfl)
              replace hv14 : v14 = .int .i64 ((kd1 : Nat) : Int) := hv14
              subst hv14
              refine step_val (x := .pointer (some ⟨rb, kd1 * 4, none⟩)) ?_ rfl
              simp [go_sem, e31, e33, hlt2, Try.underlying114]
            · intro a w hb hoth hdep
              refine step_on ((want_dep hdep 8 27 true rfl (by kernel_rfl) (by kernel_rfl) (fun v h => h)).trans rfl) ?_
              obtain ⟨v15, e34, hv15⟩ := ev_dep hdep 15 34 (by kernel_rfl) (by kernel_rfl)
              replace hv15 : v15 = .pointer (some ⟨rb, kd1 * 4, none⟩) := hv15
              subst hv15
              obtain ⟨y0, y1, y2, y3⟩ := thCells (HD.out.1.at_.below hb) hA hlt2
              refine step_val (x := aggTh (uL l2 kd1)) ?_ rfl
              simp [go_sem, e34, y0, y1, y2, y3, aggTh]
            · intro a w hb hoth hdep
              refine step_on ((want_dep hdep 8 27 true rfl (by kernel_rfl) (by kernel_rfl) (fun v h => h)).trans rfl) ?_
              have e0 : a.tmps[0]? = some (.pointer (some ⟨c, 0, none⟩)) := ev_other hoth 0 (by kernel_rfl) rfl
              exact step_val ((BigFrame.run_move _ rfl w).trans (by rw [ev_of e0])) rfl
            · intro a w hb hoth hdep
              refine step_on ((want_dep hdep 8 27 true rfl (by kernel_rfl) (by kernel_rfl) (fun v h => h)).trans rfl) ?_
              obtain ⟨v17, e36, hv17⟩ := ev_dep hdep 17 36 (by kernel_rfl) (by kernel_rfl)
              replace hv17 : v17 = .pointer (some ⟨c, 0, none⟩) := hv17
              subst hv17
              refine step_val (x := .pointer (some ⟨c, 0, none⟩)) ?_ rfl
              simp [go_sem, e36]
            · intro a w hb hoth hdep
              refine step_on ((want_dep hdep 8 27 true rfl (by kernel_rfl) (by kernel_rfl) (fun v h => h)).trans rfl) ?_
              obtain ⟨v18, e37, hv18⟩ := ev_dep hdep 18 37 (by kernel_rfl) (by kernel_rfl)
              replace hv18 : v18 = .pointer (some ⟨c, 0, none⟩) := hv18
              subst hv18
              refine step_val (x := .pointer (some ⟨c, 0, none⟩)) ?_ rfl
              simp [go_sem, e37]
            · intro a w hb hoth hdep
              refine step_on ((want_dep hdep 8 27 true rfl (by kernel_rfl) (by kernel_rfl) (fun v h => h)).trans rfl) ?_
              obtain ⟨v19, e38, hv19⟩ := ev_dep hdep 19 38 (by kernel_rfl) (by kernel_rfl)
              replace hv19 : v19 = .pointer (some ⟨c, 0, none⟩) := hv19
              subst hv19
              have x0 : w.cell? ⟨c, 0, none⟩ = some (.slice A n cap) := ((HD.out.1.at_.below hb).blk.cell 0).trans HD.out.1.at_.c0
              rw [hA] at x0
              refine step_val (x := .slice (some ⟨rb, 0, none⟩) n cap) ?_ rfl
              simp [go_sem, e38, x0]
            · intro a w hb hoth hdep
              refine step_on ((want_dep hdep 8 27 true rfl (by kernel_rfl) (by kernel_rfl) (fun v h => h)).trans rfl) ?_
              have e7 : a.tmps[7]? = some (.int .i64 ((kd : Nat) : Int)) := ev_other hoth 7 (by kernel_rfl) rfl
              exact step_val ((BigFrame.run_move _ rfl w).trans (by rw [ev_of e7])) rfl
            · intro a w hb hoth hdep
              refine step_on ((want_dep hdep 8 27 true rfl (by kernel_rfl) (by kernel_rfl) (fun v h => h)).trans rfl) ?_
              obtain ⟨v20, e39, hv20⟩ := ev_dep hdep 20 39 (by kernel_rfl) (by kernel_rfl)
              replace hv20 : v20 = .slice (some ⟨rb, 0, none⟩) n cap := hv20
              subst hv20
              obtain ⟨v21, e40, hv21⟩ := ev_dep hdep 21 40 (by kernel_rfl) (by kernel_rfl)
              replace hv21 : v21 = .int .i64 ((kd : Nat) : Int) := hv21
              subst hv21
              refine step_val (x := .pointer (some ⟨rb, kd * 4, none⟩)) ?_ rfl
              simp [go_sem, e39, e40, hkd, Try.underlying114]
            · intro a w hb hoth hdep
              refine step_on ((want_dep hdep 8 27 true rfl (by kernel_rfl) (by kernel_rfl) (fun v h => h)).trans rfl) ?_
              obtain ⟨v22, e41, hv22⟩ := ev_dep hdep 22 41 (by kernel_rfl) (by kernel_rfl)
              replace hv22 : v22 = .pointer (some ⟨rb, kd * 4, none⟩) := hv22
              subst hv22
              obtain ⟨y0, y1, y2, y3⟩ := thCells (HD.out.1.at_.below hb) hA hkd
              refine step_val (x := aggTh (uL l2 kd)) ?_ rfl
              simp [go_sem, e41, y0, y1, y2, y3, aggTh]
            · intro a w hb hoth hdep
              refine step_on ((want_dep hdep 8 27 true rfl (by kernel_rfl) (by kernel_rfl) (fun v h => h)).trans rfl) ?_
              obtain ⟨v16, e35, hv16⟩ := ev_dep hdep 16 35 (by kernel_rfl) (by kernel_rfl)
              replace hv16 : v16 = aggTh (uL l2 kd1) := hv16
              subst hv16
              obtain ⟨v23, e42, hv23⟩ := ev_dep hdep 23 42 (by kernel_rfl) (by kernel_rfl)
              replace hv23 : v23 = aggTh (uL l2 kd) := hv23
              subst hv23
              refine step_call (f := 136) (args := #[aggTh (uL l2 kd1), aggTh (uL l2 kd)]) ?_ ?_
              · simp [go_sem, e35, e42]
              · have hcx := thLess_t (uL l2 kd1) (uL l2 kd) w
                rw [HLV.out] at hcx
                (with_reducible refine hcx.mono ?_)
                clear hcx
                rintro e w9 ⟨rfl, hb9⟩
                exact ⟨_, rfl, rfl, hb9⟩
            case fin =>
              intro wz hbz
              iterate 26 (rintro _ rfl)
              refine FinC.nil ?_
              have HF : Hid (HU wz base c t cs A n cap mb row k2 x l2 g2 ∧ Blk wz b 137 (boxTh x) ∧ Kept (HpS A mb) w wz) := Lib.hid ⟨HU2.out.1.below hbz, HU2.out.2.1.below hbz HU2.out.2.1.lt, HU2.out.2.2.1.trans (Kept.of_below (F := HpS A mb) hbz) (fun _ _ h => h)⟩
              have hdd : dv = false := by rw [← HDV.out]; rw [HLV.out]; simp
              clear hbz HD
              go_wp2_with fail
              go_meet
              exact ⟨by rw [hdd], HF.out⟩
          · refine wp_region_autoD 19 [.o (eqV (.int .i64 ((kd : Nat) : Int))), .o (eqV (.int .i64 ((kd1 : Nat) : Int))), .o (eqV (.pointer (some ⟨c, 0, none⟩))), .o (eqV (.pointer (some ⟨c, 0, none⟩))), .o (eqV (.pointer (some ⟨c, 0, none⟩))), .o (eqV (.slice (some ⟨rb, 0, none⟩) n cap)), .o (eqV (.int .i64 n)), .b true, .b true, .o (eqV (.pointer (some ⟨c, 0, none⟩))), .o (eqV (.pointer (some ⟨c, 0, none⟩))), .o (eqV (.pointer (some ⟨c, 0, none⟩))), .o (eqV (.slice (some ⟨rb, 0, none⟩) n cap)), .o (eqV (.int .i64 ((kd : Nat) : Int))), .o (eqV (.int .i64 ((kd1 : Nat) : Int))), .o (eqV (.pointer (some ⟨rb, kd1 * 4, none⟩))), .o (eqV (aggTh (uL l2 kd1))), .o (eqV (.pointer (some ⟨c, 0, none⟩))), .o (eqV (.pointer (some ⟨c, 0, none⟩))), .o (eqV (.pointer (some ⟨c, 0, none⟩))), .o (eqV (.slice (some ⟨rb, 0, none⟩) n cap)), .o (eqV (.int .i64 ((kd : Nat) : Int))), .o (eqV (.pointer (some ⟨rb, kd * 4, none⟩))), .o (eqV (aggTh (uL l2 kd))), .b true, .b true] [false, false, false, false, false, false, false, false, true, false, false, false, false, false, false, false, false, false, false, false, false, false, false, false, false, true] (by kernel_rfl) (by kernel_rfl) rfl (by kernel_rfl) (by kernel_rfl) ⟨?_, ?_, ?_, ?_, ?_, ?_, ?_, ?_, ?_, ?_, ?_, ?_, ?_, ?_, ?_, ?_, ?_, ?_, ?_, ?_, ?_, ?_, ?_, ?_, trivial⟩ ?fin
            · intro a w hb hoth hdep
              refine step_on (want_none rfl) ?_
              have e7 : a.tmps[7]? = some (.int .i64 ((kd : Nat) : Int)) := ev_other hoth 7 (by kernel_rfl) rfl
              exact step_val ((BigFrame.run_move _ rfl w).trans (by rw [ev_of e7])) rfl
            · intro a w hb hoth hdep
              refine step_on (want_none rfl) ?_
              obtain ⟨v0, e19, hv0⟩ := ev_dep hdep 0 19 (by kernel_rfl) (by kernel_rfl)
              replace hv0 : v0 = .int .i64 ((kd : Nat) : Int) := hv0
              subst hv0
              refine step_val (x := .int .i64 ((kd1 : Nat) : Int)) ?_ rfl
              simp [go_sem, e19, t11]
            · intro a w hb hoth hdep
              refine step_on (want_none rfl) ?_
              have e0 : a.tmps[0]? = some (.pointer (some ⟨c, 0, none⟩)) := ev_other hoth 0 (by kernel_rfl) rfl
              exact step_val ((BigFrame.run_move _ rfl w).trans (by rw [ev_of e0])) rfl
            · intro a w hb hoth hdep
              refine step_on (want_none rfl) ?_
              obtain ⟨v2, e21, hv2⟩ := ev_dep hdep 2 21 (by kernel_rfl) (by kernel_rfl)
              replace hv2 : v2 = .pointer (some ⟨c, 0, none⟩) := hv2
              subst hv2
              refine step_val (x := .pointer (some ⟨c, 0, none⟩)) ?_ rfl
              simp [go_sem, e21]
            · intro a w hb hoth hdep
              refine step_on (want_none rfl) ?_
              obtain ⟨v3, e22, hv3⟩ := ev_dep hdep 3 22 (by kernel_rfl) (by kernel_rfl)
              replace hv3 : v3 = .pointer (some ⟨c, 0, none⟩) := hv3
              subst hv3
              refine step_val (x := .pointer (some ⟨c, 0, none⟩)) ?_ rfl
              simp [go_sem, e22]
            · intro a w hb hoth hdep
              refine step_on (want_none rfl) ?_
              obtain ⟨v4, e23, hv4⟩ := ev_dep hdep 4 23 (by kernel_rfl) (by kernel_rfl)
              replace hv4 : v4 = .pointer (some ⟨c, 0, none⟩) := hv4
              subst hv4
              have x0 : w.cell? ⟨c, 0, none⟩ = some (.slice A n cap) := ((HD.out.1.at_.below hb).blk.cell 0).trans HD.out.1.at_.c0
              rw [hA] at x0
              refine step_val (x := .slice (some ⟨rb, 0, none⟩) n cap) ?_ rfl
              simp [go_sem, e23, x0]
            · intro a w hb hoth hdep
              refine step_on (want_none rfl) ?_
              obtain ⟨v5, e24, hv5⟩ := ev_dep hdep 5 24 (by kernel_rfl) (by kernel_rfl)
              replace hv5 : v5 = .slice (some ⟨rb, 0, none⟩) n cap := hv5
              subst hv5
              refine step_val (x := .int .i64 n) ?_ rfl
              simp [go_sem, e24, Try.underlying114]
            · intro a w hb hoth hdep
              refine step_on (want_none rfl) ?_
              obtain ⟨v1, e20, hv1⟩ := ev_dep hdep 1 20 (by kernel_rfl) (by kernel_rfl)
              replace hv1 : v1 = .int .i64 ((kd1 : Nat) : Int) := hv1
              subst hv1
              obtain ⟨v6, e25, hv6⟩ := ev_dep hdep 6 25 (by kernel_rfl) (by kernel_rfl)
              replace hv6 : v6 = .int .i64 n := hv6
              subst hv6
              refine step_val (x := .bool true) ?_ rfl
              simp [go_sem, e20, e25, hlt2]
            · intro a w hb hoth hdep
              refine step_on ((want_dep hdep 8 27 true rfl (by kernel_rfl) (by kernel_rfl) (fun v h => h)).trans rfl) ?_
              have e0 : a.tmps[0]? = some (.pointer (some ⟨c, 0, none⟩)) := ev_other hoth 0 (by kernel_rfl) rfl
              exact step_val ((BigFrame.run_move _ rfl w).trans (by rw [ev_of e0])) rfl
            · intro a w hb hoth hdep
              refine step_on ((want_dep hdep 8 27 true rfl (by kernel_rfl) (by kernel_rfl) (fun v h => h)).trans rfl) ?_
              obtain ⟨v9, e28, hv9⟩ := ev_dep hdep 9 28 (by kernel_rfl) (by kernel_rfl)
              replace hv9 : v9 = .pointer (some ⟨c, 0, none⟩) := hv9
              subst hv9
              refine step_val (x := .pointer (some ⟨c, 0, none⟩)) ?_ rfl
              simp [go_sem, e28]
            · intro a w hb hoth hdep
              refine step_on ((want_dep hdep 8 27 true rfl (by kernel_rfl) (by kernel_rfl) (fun v h => h)).trans rfl) ?_
              obtain ⟨v10, e29, hv10⟩ := ev_dep hdep 10 29 (by kernel_rfl) (by kernel_rfl)
              replace hv10 : v10 = .pointer (some ⟨c, 0, none⟩) := hv10
              subst hv10
              refine step_val (x := .pointer (some ⟨c, 0, none⟩)) ?_ rfl
              simp [go_sem, e29]
            · intro a w hb hoth hdep
              refine step_on ((want_dep hdep 8 27 true rfl (by kernel_rfl) (by kernel_rfl) (fun v h => h)).trans rfl) ?_
              obtain ⟨v11, e30, hv11⟩ := ev_dep hdep 11 30 (by kernel_rfl) (by kernel_rfl)
              replace hv11 : v11 = .pointer (some ⟨c, 0, none⟩) := hv11
              subst hv11
              have x0 : w.cell? ⟨c, 0, none⟩ = some (.slice A n cap) := ((HD.out.1.at_.below hb).blk.cell 0).trans HD.out.1.at_.c0
              rw [hA] at x0
              refine step_val (x := .slice (some ⟨rb, 0, none⟩) n cap) ?_ rfl
              simp [go_sem, e30, x0]
            · intro a w hb hoth hdep
              refine step_on ((want_dep hdep 8 27 true rfl (by kernel_rfl) (by kernel_rfl) (fun v h => h)).trans rfl) ?_
              have e7 : a.tmps[7]? = some (.int .i64 ((kd : Nat) : Int)) := ev_other hoth 7 (by kernel_rfl) rfl
              exact step_val ((BigFrame.run_move _ rfl w).trans (by rw [ev_of e7])) rfl
            · intro a w hb hoth hdep
              refine step_on ((want_dep hdep 8 27 true rfl (by kernel_rfl) (by kernel_rfl) (fun v h => h)).trans rfl) ?_
              obtain ⟨v13, e32, hv13⟩ := ev_dep hdep 13 32 (by kernel_rfl) (by kernel_rfl)
              replace hv13 : v13 = .int .i64 ((kd : Nat) : Int) := hv13
              subst hv13
              refine step_val (x := .int .i64 ((kd1 : Nat) : Int)) ?_ rfl
              simp [go_sem, e32, t11]
            · intro a w hb hoth hdep
              refine step_on ((want_dep hdep 8 27 true rfl (by kernel_rfl) (by kernel_rfl) (fun v h => h)).trans rfl) ?_
              obtain ⟨v12, e31, hv12⟩ := ev_dep hdep 12 31 (by kernel_rfl) (by kernel_rfl)
              replace hv12 : v12 = .slice (some ⟨rb, 0, none⟩) n cap := hv12
              subst hv12
              obtain ⟨v14, e33, hv14⟩ := ev_dep hdep 14 33 (by kernel_rfl) (by kernel_rfl)
              replace hv14 : v14 = .int .i64 ((kd1 : Nat) : Int) := hv14
              subst hv14
              refine step_val (x := .pointer (some ⟨rb, kd1 * 4, none⟩)) ?_ rfl
              simp [go_sem, e31, e33, hlt2, Try.underlying114]
            · intro a w hb hoth hdep
              refine step_on ((want_dep hdep 8 27 true rfl (by kernel_rfl) (by kernel_rfl) (fun v h => h)).trans rfl) ?_
              obtain ⟨v15, e34, hv15⟩ := ev_dep hdep 15 34 (by kernel_rfl) (by kernel_rfl)
              replace hv15 : v15 = .pointer (some ⟨rb, kd1 * 4, none⟩) := hv15
              subst hv15
              obtain ⟨y0, y1, y2, y3⟩ := thCells (HD.out.1.at_.below hb) hA hlt2
              refine step_val (x := aggTh (uL l2 kd1)) ?_ rfl
              simp [go_sem, e34, y0, y1, y2, y3, aggTh]
            · intro a w hb hoth hdep
              refine step_on ((want_dep hdep 8 27 true rfl (by kernel_rfl) (by kernel_rfl) (fun v h => h)).trans rfl) ?_
              have e0 : a.tmps[0]? = some (.pointer (some ⟨c, 0, none⟩)) := ev_other hoth 0 (by kernel_rfl) rfl
              exact step_val ((BigFrame.run_move _ rfl w).trans (by rw [ev_of e0])) rfl
            · intro a w hb hoth hdep
              refine step_on ((want_dep hdep 8 27 true rfl (by kernel_rfl) (by kernel_rfl) (fun v h => h)).trans rfl) ?_
              obtain ⟨v17, e36, hv17⟩ := ev_dep hdep 17 36 (by kernel_rfl) (by kernel_rfl)
              replace hv17 : v17 = .pointer (some ⟨c, 0, none⟩) := hv17
              subst hv17
              refine step_val (x := .pointer (some ⟨c, 0, none⟩)) ?_ rfl
              simp [go_sem, e36]
            · intro a w hb hoth hdep
              refine step_on ((want_dep hdep 8 27 true rfl (by kernel_rfl) (by kernel_rfl) (fun v h => h)).trans rfl) ?_
              obtain ⟨v18, e37, hv18⟩ := ev_dep hdep 18 37 (by kernel_rfl) (by kernel_rfl)
              replace hv18 : v18 = .pointer (some ⟨c, 0, none⟩) := hv18
              subst hv18
              refine step_val (x := .pointer (some ⟨c, 0, none⟩)) ?_ rfl
              simp [go_sem, e37]
            · intro a w hb hoth hdep
              refine step_on ((want_dep hdep 8 27 true rfl (by kernel_rfl) (by kernel_rfl) (fun v h => h)).trans rfl) ?_
              obtain ⟨v19, e38, hv19⟩ := ev_dep hdep 19 38 (by kernel_rfl) (by kernel_rfl)
              replace hv19 : v19 = .pointer (some ⟨c, 0, none⟩) := hv19
              subst hv19
              have x0 : w.cell? ⟨c, 0, none⟩ = some (.slice A n cap) := ((HD.out.1.at_.below hb).blk.cell 0).trans HD.out.1.at_.c0
              rw [hA] at x0
              refine step_val (x := .slice (some ⟨rb, 0, none⟩) n cap) ?_ rfl
              simp [go_sem, e38, x0]
            · intro a w hb hoth hdep
              refine step_on ((want_dep hdep 8 27 true rfl (by kernel_rfl) (by kernel_rfl) (fun v h => h)).trans rfl) ?_
              have e7 : a.tmps[7]? = some (.int .i64 ((kd : Nat) : Int)) := ev_other hoth 7 (by kernel_rfl) rfl
              exact step_val ((BigFrame.run_move _ rfl w).trans (by rw [ev_of e7])) rfl
            · intro a w hb hoth hdep
              refine step_on ((want_dep hdep 8 27 true rfl (by kernel_rfl) (by kernel_rfl) (fun v h => h)).trans rfl) ?_
              obtain ⟨v20, e39, hv20⟩ := ev_dep hdep 20 39 (by kernel_rfl) (by kernel_rfl)
              replace hv20 : v20 = .slice (some ⟨rb, 0, none⟩) n cap := hv20
              subst hv20
              obtain ⟨v21, e40, hv21⟩ := ev_dep hdep 21 40 (by kernel_rfl) (by kernel_rfl)
              replace hv21 : v21 = .int .i64 ((kd : Nat) : Int) := hv21
              subst hv21
              refine step_val (x := .pointer (some ⟨rb, kd * 4, none⟩)) ?_ rfl
              simp [go_sem, e39, e40, hkd, Try.underlying114]
            · intro a w hb hoth hdep
              refine step_on ((want_dep hdep 8 27 true rfl (by kernel_rfl) (by kernel_rfl) (fun v h => h)).trans rfl) ?_
              obtain ⟨v22, e41, hv22⟩ := ev_dep hdep 22 41 (by kernel_rfl) (by kernel_rfl)
              replace hv22 : v22 = .pointer (some ⟨rb, kd * 4, none⟩) := hv22
              subst hv22
              obtain ⟨y0, y1, y2, y3⟩ := thCells (HD.out.1.at_.below hb) hA hkd
              refine step_val (x := aggTh (uL l2 kd)) ?_ rfl
              simp [go_sem, e41, y0, y1, y2, y3, aggTh]
            · intro a w hb hoth hdep
              refine step_on ((want_dep hdep 8 27 true rfl (by kernel_rfl) (by kernel_rfl) (fun v h => h)).trans rfl) ?_
              obtain ⟨v16, e35, hv16⟩ := ev_dep hdep 16 35 (by kernel_rfl) (by kernel_rfl)
              replace hv16 : v16 = aggTh (uL l2 kd1) := hv16
              subst hv16
              obtain ⟨v23, e42, hv23⟩ := ev_dep hdep 23 42 (by kernel_rfl) (by kernel_rfl)
              replace hv23 : v23 = aggTh (uL l2 kd) := hv23
              subst hv23
              refine step_call (f := 136) (args := #[aggTh (uL l2 kd1), aggTh (uL l2 kd)]) ?_ ?_
              · simp [go_sem, e35, e42]
              · have hcx := thLess_t (uL l2 kd1) (uL l2 kd) w
                rw [HLV.out] at hcx
                (with_reducible refine hcx.mono ?_)
                clear hcx
                rintro e w9 ⟨rfl, hb9⟩
                exact ⟨_, rfl, rfl, hb9⟩
            case fin =>
              intro wz hbz
              iterate 26 (rintro _ rfl)
              refine FinC.nil ?_
              have HF : Hid (HU wz base c t cs A n cap mb row k2 x l2 g2 ∧ Blk wz b 137 (boxTh x) ∧ Kept (HpS A mb) w wz) := Lib.hid ⟨HU2.out.1.below hbz, HU2.out.2.1.below hbz HU2.out.2.1.lt, HU2.out.2.2.1.trans (Kept.of_below (F := HpS A mb) hbz) (fun _ _ h => h)⟩
              have hdd : dv = true := by rw [← HDV.out]; rw [HLV.out]; simp [hlt2]
              clear hbz HD
              go_wp2_with fail
              go_meet
              exact ⟨by rw [hdd], HF.out⟩
        · refine wp_region_autoD 19 [.o (eqV (.int .i64 ((kd : Nat) : Int))), .o (eqV (.int .i64 ((kd1 : Nat) : Int))), .o (eqV (.pointer (some ⟨c, 0, none⟩))), .o (eqV (.pointer (some ⟨c, 0, none⟩))), .o (eqV (.pointer (some ⟨c, 0, none⟩))), .o (eqV (.slice (some ⟨rb, 0, none⟩) n cap)), .o (eqV (.int .i64 n)), .b false, .b false, .u, .u, .u, .u, .u, .u, .u, .u, .u, .u, .u, .u, .u, .u, .u, .u, .b false] [false, false, false, false, false, false, false, false, true, true, true, true, true, true, true, true, true, true, true, true, true, true, true, true, true, true] (by kernel_rfl) (by kernel_rfl) rfl (by kernel_rfl) (by kernel_rfl) ⟨?_, ?_, ?_, ?_, ?_, ?_, ?_, ?_, trivial⟩ ?fin
          · intro a w hb hoth hdep
            refine step_on (want_none rfl) ?_
            have e7 : a.tmps[7]? = some (.int .i64 ((kd : Nat) : Int)) := ev_other hoth 7 (by kernel_rfl) rfl
            exact step_val ((BigFrame.run_move _ rfl w).trans (by rw [ev_of e7])) rfl
          · intro a w hb hoth hdep
            refine step_on (want_none rfl) ?_
            obtain ⟨v0, e19, hv0⟩ := ev_dep hdep 0 19 (by kernel_rfl) (by kernel_rfl)
            replace hv0 : v0 = .int .i64 ((kd : Nat) : Int) := hv0
            subst hv0
            refine step_val (x := .int .i64 ((kd1 : Nat) : Int)) ?_ rfl
            simp [go_sem, e19, t11]
          · intro a w hb hoth hdep
            refine step_on (want_none rfl) ?_
            have e0 : a.tmps[0]? = some (.pointer (some ⟨c, 0, none⟩)) := ev_other hoth 0 (by kernel_rfl) rfl
            exact step_val ((BigFrame.run_move _ rfl w).trans (by rw [ev_of e0])) rfl
          · intro a w hb hoth hdep
            refine step_on (want_none rfl) ?_
            obtain ⟨v2, e21, hv2⟩ := ev_dep hdep 2 21 (by kernel_rfl) (by kernel_rfl)
            replace hv2 : v2 = .pointer (some ⟨c, 0, none⟩) := hv2
            subst hv2
            refine step_val (x := .pointer (some ⟨c, 0, none⟩)) ?_ rfl
            simp [go_sem, e21]
          · intro a w hb hoth hdep
            refine step_on (want_none rfl) ?_
            obtain ⟨v3, e22, hv3⟩ := ev_dep hdep 3 22 (by kernel_rfl) (by kernel_rfl)
            replace hv3 : v3 = .pointer (some ⟨c, 0, none⟩) := hv3
            subst hv3
            refine step_val (x := .pointer (some ⟨c, 0, none⟩)) ?_ rfl
            simp [go_sem, e22]
          · intro a w hb hoth hdep
            refine step_on (want_none rfl) ?_
            obtain ⟨v4, e23, hv4⟩ := ev_dep hdep 4 23 (by kernel_rfl) (by kernel_rfl)
            replace hv4 : v4 = .pointer (some ⟨c, 0, none⟩) := hv4
            subst hv4
            have x0 : w.cell? ⟨c, 0, none⟩ = some (.slice A n cap) := ((HD.out.1.at_.below hb).blk.cell 0).trans HD.out.1.at_.c0
            rw [hA] at x0
            refine step_val (x := .slice (some ⟨rb, 0, none⟩) n cap) ?_ rfl
            simp [go_sem, e23, x0]
          · intro a w hb hoth hdep
            refine step_on (want_none rfl) ?_
            obtain ⟨v5, e24, hv5⟩ := ev_dep hdep 5 24 (by kernel_rfl) (by kernel_rfl)
            replace hv5 : v5 = .slice (some ⟨rb, 0, none⟩) n cap := hv5
            subst hv5
            refine step_val (x := .int .i64 n) ?_ rfl
            simp [go_sem, e24, Try.underlying114]
          · intro a w hb hoth hdep
            refine step_on (want_none rfl) ?_
            obtain ⟨v1, e20, hv1⟩ := ev_dep hdep 1 20 (by kernel_rfl) (by kernel_rfl)
            replace hv1 : v1 = .int .i64 ((kd1 : Nat) : Int) := hv1
            subst hv1
            obtain ⟨v6, e25, hv6⟩ := ev_dep hdep 6 25 (by kernel_rfl) (by kernel_rfl)
            replace hv6 : v6 = .int .i64 n := hv6
            subst hv6
            refine step_val (x := .bool false) ?_ rfl
            simp [go_sem, e20, e25, hlt2]
          case fin =>
            intro wz hbz
            iterate 26 (rintro _ rfl)
            refine FinC.nil ?_
            have HF : Hid (HU wz base c t cs A n cap mb row k2 x l2 g2 ∧ Blk wz b 137 (boxTh x) ∧ Kept (HpS A mb) w wz) := Lib.hid ⟨HU2.out.1.below hbz, HU2.out.2.1.below hbz HU2.out.2.1.lt, HU2.out.2.2.1.trans (Kept.of_below (F := HpS A mb) hbz) (fun _ _ h => h)⟩
            have hdd : dv = false := by rw [← HDV.out]; simp [hlt2]
            clear hbz HD
            go_wp2_with fail
            go_meet
            exact ⟨by rw [hdd], HF.out⟩
      case rest =>
        obtain ⟨rfl, hcu, hcb, hck⟩ := hcut
        have HC := Lib.hid (And.intro hcu (And.intro hcb hck))
        clear hcu hcb hck HD
        go_upto_if 44 with (fail)
        go_cut [7] from 44 to 46 (fun v7 wx => ∃ m : Nat, v7 = .int .i64 m ∧ m < n ∧ par m = k2 ∧ 0 < m ∧ (∀ o, 0 < o → o < n → par o = k2 → ¬ ltP (uL l2 o) (uL l2 m)) ∧ HU wx base c t cs A n cap mb row k2 x l2 g2 ∧ Blk wx b 137 (boxTh x) ∧ Kept (HpS A mb) w wx)
        case first =>
          cases dv
          · have HF : Hid (kd < n ∧ par (kd) = k2 ∧ 0 < kd ∧ (∀ o, 0 < o → o < n → par o = k2 → ¬ ltP (uL l2 o) (uL l2 (kd)))) := Lib.hid (by
              refine ⟨by omega, by unfold par; omega, by omega, fun o h1 h2 h3 e => ?_⟩
              have h9 : o = kd ∨ o = kd1 := by unfold par at h3; omega
              rcases h9 with h9 | h9
              · rw [h9] at e; exact ltP_an _ _ e e
              · rw [h9] at e h2
                have h8 := HDV.out
                rw [show ltTh (uL l2 kd1) (uL l2 kd) = true from e, decide_eq_true h2] at h8
                cases h8)
            go_wp2_with fail
            go_meet
            exact ⟨kd, rfl, HF.out.1, HF.out.2.1, HF.out.2.2.1, HF.out.2.2.2, HC.out⟩
          · have HF : Hid (kd1 < n ∧ par (kd1) = k2 ∧ 0 < kd1 ∧ (∀ o, 0 < o → o < n → par o = k2 → ¬ ltP (uL l2 o) (uL l2 (kd1)))) := Lib.hid (by
              have h8 := HDV.out
              simp only [Bool.and_eq_true, decide_eq_true_eq] at h8
              refine ⟨h8.1, by unfold par; omega, by omega, fun o h1 h2 h3 e => ?_⟩
              have h9 : o = kd ∨ o = kd1 := by unfold par at h3; omega
              rcases h9 with h9 | h9
              · rw [h9] at e; exact ltP_an _ _ h8.2 e
              · rw [h9] at e; exact ltP_an _ _ e e)
            go_wp2_with fail
            go_meet
            exact ⟨kd1, rfl, HF.out.1, HF.out.2.1, HF.out.2.2.1, HF.out.2.2.2, HC.out⟩
        case rest =>
          obtain ⟨m, rfl, hm, hpm, hm0, hmin, hcu, hcb, hck⟩ := hcut
          have hmk : m ≠ k2 := by unfold par at hpm; omega
          have HV := Lib.hid (And.intro hmin (And.intro hcu (And.intro hcb hck)))
          have HD : Hid (HU wc base c t cs A n cap mb row k2 x l2 g2 ∧ Blk wc b 137 (boxTh x)) := Lib.hid ⟨hcu, hcb⟩
          clear hmin hcu hcb hck t11 t12 hkd
          go_upto_region 6 with fail
          obtain ⟨lv, hlv⟩ : ∃ lv, ltTh (uL l2 m) x = lv := ⟨_, rfl⟩
          have HLV := Lib.hid hlv
          clear hlv
          cases lv
          · refine wp_region_autoD 47 [.o (eqV (.pointer (some ⟨c, 0, none⟩))), .o (eqV (.pointer (some ⟨c, 0, none⟩))), .o (eqV (.pointer (some ⟨c, 0, none⟩))), .o (eqV (.slice (some ⟨rb, 0, none⟩) n cap)), .o (eqV (.int .i64 ((m : Nat) : Int))), .o (eqV (.pointer (some ⟨rb, m * 4, none⟩))), .o (eqV (aggTh (uL l2 m))), .o (eqV (aggTh x)), .b false, .b true] [false, false, false, false, false, false, false, false, false, true] (by kernel_rfl) (by kernel_rfl) rfl (by kernel_rfl) (by kernel_rfl) ⟨?_, ?_, ?_, ?_, ?_, ?_, ?_, ?_, ?_, trivial⟩ ?fin
            · intro a w hb hoth hdep
              refine step_on (want_none rfl) ?_
              have e0 : a.tmps[0]? = some (.pointer (some ⟨c, 0, none⟩)) := ev_other hoth 0 (by kernel_rfl) rfl
              exact step_val ((BigFrame.run_move _ rfl w).trans (by rw [ev_of e0])) rfl
            · intro a w hb hoth hdep
              refine step_on (want_none rfl) ?_
              obtain ⟨v0, e47, hv0⟩ := ev_dep hdep 0 47 (by kernel_rfl) (by kernel_rfl)
              replace hv0 : v0 = .pointer (some ⟨c, 0, none⟩) := hv0
              subst hv0
              refine step_val (x := .pointer (some ⟨c, 0, none⟩)) ?_ rfl
              simp [go_sem, e47]
            · intro a w hb hoth hdep
              refine step_on (want_none rfl) ?_
              obtain ⟨v1, e48, hv1⟩ := ev_dep hdep 1 48 (by kernel_rfl) (by kernel_rfl)
              replace hv1 : v1 = .pointer (some ⟨c, 0, none⟩) := hv1
              subst hv1
              refine step_val (x := .pointer (some ⟨c, 0, none⟩)) ?_ rfl
              simp [go_sem, e48]
            · intro a w hb hoth hdep
              refine step_on (want_none rfl) ?_
              obtain ⟨v2, e49, hv2⟩ := ev_dep hdep 2 49 (by kernel_rfl) (by kernel_rfl)
              replace hv2 : v2 = .pointer (some ⟨c, 0, none⟩) := hv2
              subst hv2
              have x0 : w.cell? ⟨c, 0, none⟩ = some (.slice A n cap) := ((HD.out.1.at_.below hb).blk.cell 0).trans HD.out.1.at_.c0
              rw [hA] at x0
              refine step_val (x := .slice (some ⟨rb, 0, none⟩) n cap) ?_ rfl
              simp [go_sem, e49, x0]
            · intro a w hb hoth hdep
              refine step_on (want_none rfl) ?_
              have e7 : a.tmps[7]? = some (.int .i64 ((m : Nat) : Int)) := ev_other hoth 7 (by kernel_rfl) rfl
              exact step_val ((BigFrame.run_move _ rfl w).trans (by rw [ev_of e7])) rfl
            · intro a w hb hoth hdep
              refine step_on (want_none rfl) ?_
              obtain ⟨v3, e50, hv3⟩ := ev_dep hdep 3 50 (by kernel_rfl) (by kernel_rfl)
              replace hv3 : v3 = .slice (some ⟨rb, 0, none⟩) n cap := hv3
              subst hv3
              obtain ⟨v4, e51, hv4⟩ := ev_dep hdep 4 51 (by kernel_rfl) (by kernel_rfl)
              replace hv4 : v4 = .int .i64 ((m : Nat) : Int) := hv4
              subst hv4
              refine step_val (x := .pointer (some ⟨rb, m * 4, none⟩)) ?_ rfl
              simp [go_sem, e50, e51, hm, Try.underlying114]
            · intro a w hb hoth hdep
              refine step_on (want_none rfl) ?_
              obtain ⟨v5, e52, hv5⟩ := ev_dep hdep 5 52 (by kernel_rfl) (by kernel_rfl)
              replace hv5 : v5 = .pointer (some ⟨rb, m * 4, none⟩) := hv5
              subst hv5
              obtain ⟨y0, y1, y2, y3⟩ := thCells (HD.out.1.at_.below hb) hA hm
              refine step_val (x := aggTh (uL l2 m)) ?_ rfl
              simp [go_sem, e52, y0, y1, y2, y3, aggTh]
            · intro a w hb hoth hdep
              refine step_on (want_none rfl) ?_
              have e5 : a.tmps[5]? = some (.pointer (some ⟨b, 0, none⟩)) := ev_other hoth 5 (by kernel_rfl) rfl
              obtain ⟨b0, b1_, b2, b3⟩ : w.cell? ⟨b, 0, none⟩ = some (.int .i64 x.id) ∧ w.cell? ⟨b, 1, none⟩ = some (.int .i64 x.a) ∧ w.cell? ⟨b, 2, none⟩ = some (.int .i64 x.b) ∧ w.cell? ⟨b, 3, none⟩ = some (.int .i64 x.c) := ⟨((HD.out.2.below hb HD.out.2.lt).cell 0).trans rfl, ((HD.out.2.below hb HD.out.2.lt).cell 1).trans rfl, ((HD.out.2.below hb HD.out.2.lt).cell 2).trans rfl, ((HD.out.2.below hb HD.out.2.lt).cell 3).trans rfl⟩
              refine step_val (x := aggTh x) ?_ rfl
              simp [go_sem, e5, b0, b1_, b2, b3, aggTh]
            · intro a w hb hoth hdep
              refine step_on (want_none rfl) ?_
              obtain ⟨v6, e53, hv6⟩ := ev_dep hdep 6 53 (by kernel_rfl) (by kernel_rfl)
              replace hv6 : v6 = aggTh (uL l2 m) := hv6
              subst hv6
              obtain ⟨v7, e54, hv7⟩ := ev_dep hdep 7 54 (by kernel_rfl) (by kernel_rfl)
              replace hv7 : v7 = aggTh x := hv7
              subst hv7
              refine step_call (f := 136) (args := #[aggTh (uL l2 m), aggTh x]) ?_ ?_
              · simp [go_sem, e53, e54]
              · have hcx := thLess_t (uL l2 m) x w
                rw [HLV.out] at hcx
                (with_reducible refine hcx.mono ?_)
                clear hcx
                rintro e w9 ⟨rfl, hb9⟩
                exact ⟨_, rfl, rfl, hb9⟩
            case fin =>
              intro wz hbz
              iterate 10 (rintro _ rfl)
              refine FinC.nil ?_
              have HST : Hid (HeapF ltP (updF (uL l2) k2 x) n) := Lib.hid (HU2.out.2.2.2.2.end_ (fun c2 h1 h2 h3 => by have hc : c2 ≠ k2 := (by unfold par at h3; omega); rw [upd_ne hc, upd_eq]; exact ltP_tr x (uL l2 m) (uL l2 c2) (fun e => by have h8 := HLV.out; rw [show ltTh (uL l2 m) x = true from e] at h8; cases h8) (HV.out.1 c2 h1 h2 h3)))
              have HZ := Lib.hid (And.intro (HV.out.2.1.below hbz) (HV.out.2.2.2.trans (Kept.of_below (F := HpS A mb) hbz) (fun _ _ h => h)))
              clear hbz HD
              go_wp2_with fail
              go_ret
              exact ⟨k2, l2, g2, rfl, hk2, HZ.out.1, HZ.out.2, HU2.out.2.2.2.1, HST.out⟩
          · refine wp_region_autoD 47 [.o (eqV (.pointer (some ⟨c, 0, none⟩))), .o (eqV (.pointer (some ⟨c, 0, none⟩))), .o (eqV (.pointer (some ⟨c, 0, none⟩))), .o (eqV (.slice (some ⟨rb, 0, none⟩) n cap)), .o (eqV (.int .i64 ((m : Nat) : Int))), .o (eqV (.pointer (some ⟨rb, m * 4, none⟩))), .o (eqV (aggTh (uL l2 m))), .o (eqV (aggTh x)), .b true, .b false] [false, false, false, false, false, false, false, false, false, true] (by kernel_rfl) (by kernel_rfl) rfl (by kernel_rfl) (by kernel_rfl) ⟨?_, ?_, ?_, ?_, ?_, ?_, ?_, ?_, ?_, trivial⟩ ?fin
            · intro a w hb hoth hdep
              refine step_on (want_none rfl) ?_
              have e0 : a.tmps[0]? = some (.pointer (some ⟨c, 0, none⟩)) := ev_other hoth 0 (by kernel_rfl) rfl
              exact step_val ((BigFrame.run_move _ rfl w).trans (by rw [ev_of e0])) rfl
            · intro a w hb hoth hdep
              refine step_on (want_none rfl) ?_
              obtain ⟨v0, e47, hv0⟩ := ev_dep hdep 0 47 (by kernel_rfl) (by kernel_rfl)
              replace hv0 : v0 = .pointer (some ⟨c, 0, none⟩) := hv0
              subst hv0
              refine step_val (x := .pointer (some ⟨c, 0, none⟩)) ?_ rfl
              simp [go_sem, e47]
            · intro a w hb hoth hdep
              refine step_on (want_none rfl) ?_
              obtain ⟨v1, e48, hv1⟩ := ev_dep hdep 1 48 (by kernel_rfl) (by kernel_rfl)
              replace hv1 : v1 = .pointer (some ⟨c, 0, none⟩) := hv1
              subst hv1
              refine step_val (x := .pointer (some ⟨c, 0, none⟩)) ?_ rfl
              simp [go_sem, e48]
            · intro a w hb hoth hdep
              refine step_on (want_none rfl) ?_
              obtain ⟨v2, e49, hv2⟩ := ev_dep hdep 2 49 (by kernel_rfl) (by kernel_rfl)
              replace hv2 : v2 = .pointer (some ⟨c, 0, none⟩) := hv2
              subst hv2
              have x0 : w.cell? ⟨c, 0, none⟩ = some (.slice A n cap) := ((HD.out.1.at_.below hb).blk.cell 0).trans HD.out.1.at_.c0
              rw [hA] at x0
              refine step_val (x := .slice (some ⟨rb, 0, none⟩) n cap) ?_ rfl
              simp [go_sem, e49, x0]
            · intro a w hb hoth hdep
              refine step_on (want_none rfl) ?_
              have e7 : a.tmps[7]? = some (.int .i64 ((m : Nat) : Int)) := ev_other hoth 7 (by kernel_rfl) rfl
              exact step_val ((BigFrame.run_move _ rfl w).trans (by rw [ev_of e7])) rfl
            · intro a w hb hoth hdep
              refine step_on (want_none rfl) ?_
              obtain ⟨v3, e50, hv3⟩ := ev_dep hdep 3 50 (by kernel_rfl) (by kernel_rfl)
              replace hv3 : v3 = .slice (some ⟨rb, 0, none⟩) n cap := hv3
              subst hv3
              obtain ⟨v4, e51, hv4⟩ := ev_dep hdep 4 51 (by kernel_rfl) (by kernel_rfl)
              replace hv4 : v4 = .int .i64 ((m : Nat) : Int) := hv4
              subst hv4
              refine step_val (x := .pointer (some ⟨rb, m * 4, none⟩)) ?_ rfl
              simp [go_sem, e50, e51, hm, Try.underlying114]
            · intro a w hb hoth hdep
              refine step_on (want_none rfl) ?_
              obtain ⟨v5, e52, hv5⟩ := ev_dep hdep 5 52 (by kernel_rfl) (by kernel_rfl)
              replace hv5 : v5 = .pointer (some ⟨rb, m * 4, none⟩) := hv5
              subst hv5
              obtain ⟨y0, y1, y2, y3⟩ := thCells (HD.out.1.at_.below hb) hA hm
              refine step_val (x := aggTh (uL l2 m)) ?_ rfl
              simp [go_sem, e52, y0, y1, y2, y3, aggTh]
            · intro a w hb hoth hdep
              refine step_on (want_none rfl) ?_
              have e5 : a.tmps[5]? = some (.pointer (some ⟨b, 0, none⟩)) := ev_other hoth 5 (by kernel_rfl) rfl
              obtain ⟨b0, b1_, b2, b3⟩ : w.cell? ⟨b, 0, none⟩ = some (.int .i64 x.id) ∧ w.cell? ⟨b, 1, none⟩ = some (.int .i64 x.a) ∧ w.cell? ⟨b, 2, none⟩ = some (.int .i64 x.b) ∧ w.cell? ⟨b, 3, none⟩ = some (.int .i64 x.c) := ⟨((HD.out.2.below hb HD.out.2.lt).cell 0).trans rfl, ((HD.out.2.below hb HD.out.2.lt).cell 1).trans rfl, ((HD.out.2.below hb HD.out.2.lt).cell 2).trans rfl, ((HD.out.2.below hb HD.out.2.lt).cell 3).trans rfl⟩
              refine step_val (x := aggTh x) ?_ rfl
              simp [go_sem, e5, b0, b1_, b2, b3, aggTh]
            · intro a w hb hoth hdep
              refine step_on (want_none rfl) ?_
              obtain ⟨v6, e53, hv6⟩ := ev_dep hdep 6 53 (by kernel_rfl) (by kernel_rfl)
              replace hv6 : v6 = aggTh (uL l2 m) := hv6
              subst hv6
              obtain ⟨v7, e54, hv7⟩ := ev_dep hdep 7 54 (by kernel_rfl) (by kernel_rfl)
              replace hv7 : v7 = aggTh x := hv7
              subst hv7
              refine step_call (f := 136) (args := #[aggTh (uL l2 m), aggTh x]) ?_ ?_
              · simp [go_sem, e53, e54]
              · have hcx := thLess_t (uL l2 m) x w
                rw [HLV.out] at hcx
                (with_reducible refine hcx.mono ?_)
                clear hcx
                rintro e w9 ⟨rfl, hb9⟩
                exact ⟨_, rfl, rfl, hb9⟩
            case fin =>
              intro wz hbz
              iterate 10 (rintro _ rfl)
              refine FinC.nil ?_
              have HZ := Lib.hid (HV.out.2.1.below hbz)
              have HBZ := Lib.hid (HV.out.2.2.1.below hbz HV.out.2.2.1.lt)
              have HKZ := Lib.hid (HV.out.2.2.2.trans (Kept.of_below (F := HpS A mb) hbz) (fun _ _ h => h))
              clear hbz HD
              have x0 : wz.cell? ⟨c, 0, none⟩ = some (.slice A n cap) := (HZ.out.at_.blk.cell 0).trans HZ.out.at_.c0
              rw [hA] at x0
              have cl := HZ.out.at_.blk.lt
              obtain ⟨y0, y1, y2, y3⟩ := thCells HZ.out.at_ hA hm
              have hyw : wf64 (uL l2 m).id := (HZ.out.at_.map.wf _ (HZ.out.ids _ hm hmk)).1
              have hcx := hSet_t HZ.out.at_ hk2 (uL l2 m) hyw (wf64_mk (by have := HWF.out.1; omega)) (by have := HWF.out.2; omega)
              clear hyw
              go_wp2_with fail
              (with_reducible refine hcx.mono ?_)
              clear hcx x0 cl y0 y1 y2 y3
              rintro e w5 ⟨rfl, h5, hk5⟩
              have hstep := HZ.out.step hk2 hm hmk h5
              have hl : ltP (updF (uL l2) k2 x m) (updF (uL l2) k2 x k2) := by rw [upd_ne hmk, upd_eq]; exact HLV.out
              have HN : Hid (HU w5 base c t cs A n cap mb row m x (l2.set k2 (uL l2 m)) (fun z => if z = (uL l2 m).id then (k2 : Int) else g2 z) ∧ Blk w5 b 137 (boxTh x) ∧ Kept (HpS A mb) w w5 ∧ (∀ a, (∃ i, i < n ∧ updF (uL (l2.set k2 (uL l2 m))) m x i = a) ↔ ∃ i, i < n ∧ updF (uL l) k x i = a) ∧ DF ltP (updF (uL (l2.set k2 (uL l2 m))) m x) n m) := Lib.hid (by
                refine ⟨hstep.1, HBZ.out.kept hk5 HX.out.2.2.2.1, HKZ.out.trans hk5 (fun _ _ h => h), ?_, ?_⟩
                · rw [hstep.2]
                  intro a
                  exact (swp_mem _ hk2 hm a).trans (HU2.out.2.2.2.1 a)
                · rw [hstep.2]
                  refine HU2.out.2.2.2.2.down ltP_tr ltP_an hk2 hm hpm hm0 (fun o h1 h2 h3 => ?_) hl
                  have hc : o ≠ k2 := by unfold par at h3; omega
                  rw [upd_ne hc, upd_ne hmk]
                  exact HV.out.1 o h1 h2 h3)
              have hlt9 : k2 < m := by unfold par at hpm; omega
              clear h5 hk5 hstep hl HZ HBZ HKZ HU2 HV
              go_wp2_with fail
              go_roundw
              case rel => exact ⟨m, _, _, rfl, hm, HN.out⟩
              case measure => simp [intOf]; omega
    · have HST : Hid (HeapF ltP (updF (uL l2) k2 x) n) := Lib.hid (HU2.out.2.2.2.2.end_ (fun c2 h1 h2 h3 => by unfold par at h3; omega))
      go_wp2_with fail
      clear x0 xl
      go_ret
      exact ⟨k2, l2, g2, rfl, hk2, HU2.out.1, HU2.out.2.2.1, HU2.out.2.2.2.1, HST.out⟩
end Go.Proofs.Ytcafmodenbifhaa
