/-
  LAYER 9 (heap): a thing rises in a heap in memory: up.
-/
import Derived.Test.YtcafmodenbifhaaHeapO
set_option linter.unusedVariables false
set_option linter.unusedSimpArgs false
namespace Go.Proofs.Ytcafmodenbifhaa
open Go.RowKit Go.Maps

/-- A heap in memory, the thing at place k held back. -/
structure HU (w : World) (base c : Nat) (t : TypeId) (cs : Array Value) (A : Option Addr) (n cap : Nat) (mb : Nat) (row : List Int) (k : Nat) (x : LTh) (l : List LTh) (g : Int → Int) : Prop where
  at_ : HeapAt w base c t cs A n cap l mb row g
  hm : HM LTh.id n k x (uL l) g
  ids : ∀ i, i < n → i ≠ k → (uL l i).id ∈ row
theorem putR_mem_ {l : List Int} {x : Int} (h : x ∈ l) : putR l x = l := by unfold putR; rw [if_pos h]
theorem thCells {w : World} {base c : Nat} {t : TypeId} {cs : Array Value} {A : Option Addr} {n cap : Nat} {mb : Nat} {row : List Int} {l : List LTh} {g : Int → Int} (h : HeapAt w base c t cs A n cap l mb row g) {rb : Nat} (hA : A = some ⟨rb, 0, none⟩) {j : Nat} (hj : j < n) :
    w.cell? ⟨rb, j * 4, none⟩ = some (.int .i64 (uL l j).id) ∧ w.cell? ⟨rb, j * 4 + 1, none⟩ = some (.int .i64 (uL l j).a) ∧ w.cell? ⟨rb, j * 4 + 2, none⟩ = some (.int .i64 (uL l j).b) ∧ w.cell? ⟨rb, j * 4 + 3, none⟩ = some (.int .i64 (uL l j).c) := by
  obtain ⟨b, o, x, e, hx, _, hc⟩ := Rd.at_ (h.own.rd (enc := encTh) (sz := 4) (fun _ => rfl)) hj
  rw [hA] at e
  cases e
  rw [uL_get hx]
  have e0 := hc 0 _ rfl
  have e1 := hc 1 _ rfl
  have e2 := hc 2 _ rfl
  have e3 := hc 3 _ rfl
  simp only [Nat.zero_add, Nat.add_zero] at e0 e1 e2 e3
  exact ⟨e0, e1, e2, e3⟩
section
variable {base c : Nat} {t : TypeId} {cs : Array Value} {A : Option Addr} {n cap : Nat} {mb : Nat} {row : List Int} {w w' : World} {k j : Nat} {x : LTh} {l : List LTh} {g : Int → Int}
theorem HU.len (h : HU w base c t cs A n cap mb row k x l g) : l.length = n := h.at_.own.len
theorem HU.below (h : HU w base c t cs A n cap mb row k x l g) (hb : Below w.heap.size w w') : HU w' base c t cs A n cap mb row k x l g := ⟨h.at_.below hb, h.hm, h.ids⟩
theorem HU.step (h : HU w base c t cs A n cap mb row k x l g) (hk : k < n) (hj : j < n) (hne : j ≠ k) (h2 : HeapAt w' base c t cs A n cap (l.set k (uL l j)) mb (putR row (uL l j).id) (fun z => if z = (uL l j).id then (k : Int) else g z)) :
    HU w' base c t cs A n cap mb row j x (l.set k (uL l j)) (fun z => if z = (uL l j).id then (k : Int) else g z) ∧ updF (uL (l.set k (uL l j))) j x = swp (updF (uL l) k x) k j := by
  have hl : k < l.length := by rw [h.len]; exact hk
  have e := uL_set (uL l j) hl
  have hm := h.hm.step hk hj hne
  rw [putR_mem_ (h.ids j hj hne)] at h2
  refine ⟨⟨h2, by rw [e]; exact hm, fun i hi h1 => ?_⟩, by rw [e]; exact vir_step (uL l) x hne⟩
  rw [e]
  unfold updF
  by_cases h3 : i = k
  · rw [if_pos h3]; exact h.ids j hj hne
  · rw [if_neg h3]; exact h.ids i hi h3
end
set_option maxRecDepth 100000 in
set_option maxHeartbeats 3200000 in
theorem hUp_t {base c : Nat} {t : TypeId} {cs : Array Value} {A : Option Addr} {n cap : Nat} {mb : Nat} {row : List Int} {w : World} {k : Nat} {x : LTh} {l : List LTh} {g : Int → Int} (h : HU w base c t cs A n cap mb row k x l g) (hk : k < n) (hA0 : AF ltP (updF (uL l) k x) n k) (hwf : n ≤ 1000000 ∧ row.length ≤ 1000000) :
    Calls Try.prog 124 #[.pointer (some ⟨c, 0, none⟩), .int .i64 ((k : Nat) : Int), aggTh x] w fun e w' => ∃ (k2 : Nat) (l2 : List LTh) (g2 : Int → Int), e = .returned (.int .i64 k2) ∧ k2 < n ∧ HU w' base c t cs A n cap mb row k2 x l2 g2 ∧ Kept (HpS A mb) w w' ∧ (∀ a, (∃ i, i < n ∧ updF (uL l2) k2 x i = a) ↔ ∃ i, i < n ∧ updF (uL l) k x i = a) ∧ ((k2 = k ∧ DF ltP (updF (uL l2) k2 x) n k2) ∨ (k2 ≠ k ∧ HeapF ltP (updF (uL l2) k2 x) n)) := by
  obtain ⟨rb, hA⟩ : ∃ rb, A = some ⟨rb, 0, none⟩ := by obtain ⟨rb, hA, _⟩ := h.at_.own.put (fun _ => rfl) hk x; exact ⟨rb, hA⟩
  have hB : Below w.heap.size w (w.alloc (.cells (boxTh x) 137)) := (Below.refl _ _).alloc (Nat.le_refl _) _
  have hbx := Blk.new w 137 (boxTh x)
  have hnb : ¬ HpS A mb w.heap.size := by
    rintro (e | ⟨ad, ha, e⟩)
    · have := h.at_.map.lt mb rfl; omega
    · have := (h.at_.own.at_base ad ha).2; omega
  have HX := Lib.hid (And.intro (h.below hB) (And.intro hbx (And.intro hA0 (And.intro hnb (Kept.of_below (F := HpS A mb) hB)))))
  have HWF := Lib.hid hwf
  clear h hB hbx hA0 hnb hwf
  go_enter Try.func124, Try.ntmps124
  obtain ⟨b, hb0⟩ : ∃ b, w.heap.size = b := ⟨_, rfl⟩
  rw [hb0] at HX
  have HX2 := Lib.hid hb0
  clear hb0
  go_wp2
  try simp only [HX2.out]
  go_loopw [1] (fun kv wr => ∃ (k2 : Nat) (l2 : List LTh) (g2 : Int → Int), kv = .int .i64 k2 ∧ k2 < n ∧ HU wr base c t cs A n cap mb row k2 x l2 g2 ∧ Blk wr b 137 (boxTh x) ∧ Kept (HpS A mb) w wr ∧ (∀ a, (∃ i, i < n ∧ updF (uL l2) k2 x i = a) ↔ ∃ i, i < n ∧ updF (uL l) k x i = a) ∧ ((k2 = k ∧ AF ltP (updF (uL l2) k2 x) n k2) ∨ (k2 < k ∧ UF ltP (updF (uL l2) k2 x) n k2))) (fun kv _ => (intOf kv).toNat)
  case atStart => exact ⟨k, l, g, rfl, hk, HX.out.1, HX.out.2.1, HX.out.2.2.2.2, fun _ => Iff.rfl, .inl ⟨rfl, HX.out.2.2.1⟩⟩
  case round =>
    obtain ⟨k2, l2, g2, rfl, hk2, hU, hbk, hKp, hmem, hst⟩ := hrel
    have HU2 := Lib.hid (And.intro hU (And.intro hbk (And.intro hKp (And.intro hmem hst))))
    clear hU hbk hKp hmem hst
    go_upto_region 1 with fail
    have HD : Hid (HU wr base c t cs A n cap mb row k2 x l2 g2 ∧ Blk wr b 137 (boxTh x)) := Lib.hid ⟨HU2.out.1, HU2.out.2.1⟩
    by_cases h0 : k2 = 0
    · have t1 : decide ((0 : Int) < (k2 : Int)) = false := decide_eq_false (by omega)
      refine wp_region_autoD 7 [.o (eqV (.int .i64 ((k2 : Nat) : Int))), .b false, .b false, .u, .u, .u, .u, .u, .u, .u, .u, .u, .u, .u, .b false] [false, false, true, true, true, true, true, true, true, true, true, true, true, true, true] (by kernel_rfl) (by kernel_rfl) rfl (by kernel_rfl) (by kernel_rfl) ⟨?_, ?_, trivial⟩ ?fin
      · intro a w hb hoth hdep
        refine step_on (want_none rfl) ?_
        have e1 : a.tmps[1]? = some (.int .i64 ((k2 : Nat) : Int)) := ev_other hoth 1 (by kernel_rfl) rfl
        exact step_val ((BigFrame.run_move _ rfl w).trans (by rw [ev_of e1])) rfl
      · intro a w hb hoth hdep
        refine step_on (want_none rfl) ?_
        obtain ⟨v0, e7, hv0⟩ := ev_dep hdep 0 7 (by kernel_rfl) (by kernel_rfl)
        replace hv0 : v0 = .int .i64 ((k2 : Nat) : Int) := hv0
        subst hv0
        refine step_val (x := .bool false) ?_ rfl
        simp [go_sem, e7, t1, h0]
      case fin =>
        intro wz hbz
        iterate 15 (rintro _ rfl)
        refine FinC.nil ?_
        have HZ := Lib.hid (HU2.out.1.below hbz)
        have HKZ := Lib.hid (HU2.out.2.2.1.trans (Kept.of_below (F := HpS A mb) hbz) (fun _ _ h => h))
        have HST : Hid ((k2 = k ∧ DF ltP (updF (uL l2) k2 x) n k2) ∨ (k2 ≠ k ∧ HeapF ltP (updF (uL l2) k2 x) n)) := Lib.hid (by
          rcases HU2.out.2.2.2.2 with ⟨e, ha⟩ | ⟨e, ha⟩
          · exact .inl ⟨e, ha.down (.inl h0)⟩
          · exact .inr ⟨by omega, ha.end_ (.inl h0)⟩)
        clear hbz HD
        go_wp2_with fail
        go_ret
        exact ⟨k2, l2, g2, by first | rfl | (rw [h0]; rfl), hk2, HZ.out, HKZ.out, HU2.out.2.2.2.1, HST.out⟩
    · have t1 : decide ((0 : Int) < (k2 : Int)) = true := decide_eq_true (by omega)
      have hpn : par k2 < n := by unfold par; omega
      have hpk : par k2 ≠ k2 := by unfold par; omega
      have hkp : 0 < k2 := by omega
      have t11 : IntKind.i64.wrap ((par k2 : Nat) : Int) = ((par k2 : Nat) : Int) := IntWalk.i64_in _ (by have := HWF.out.1; omega)
      have t12 : wrap64 ((par k2 : Nat) : Int) = ((par k2 : Nat) : Int) := by unfold wrap64; have := HWF.out.1; omega
      have t9 : IntKind.i64.wrap ((k2 : Int) - 1) = (k2 : Int) - 1 := IntWalk.i64_in _ (by have := HWF.out.1; omega)
      have t10 : Int.tdiv ((k2 : Int) - 1) 2 = ((par k2 : Nat) : Int) := by unfold par; rw [Int.tdiv_eq_ediv_of_nonneg (by omega)]; omega
      obtain ⟨y, hy⟩ : ∃ y, uL l2 (par k2) = y := ⟨_, rfl⟩
      have HYE := Lib.hid hy
      have HY : Hid (∀ W : World, HeapAt W base c t cs A n cap l2 mb row g2 → W.cell? ⟨rb, par k2 * 4, none⟩ = some (.int .i64 y.id) ∧ W.cell? ⟨rb, par k2 * 4 + 1, none⟩ = some (.int .i64 y.a) ∧ W.cell? ⟨rb, par k2 * 4 + 2, none⟩ = some (.int .i64 y.b) ∧ W.cell? ⟨rb, par k2 * 4 + 3, none⟩ = some (.int .i64 y.c)) := Lib.hid (fun W hW => by rw [← hy]; exact thCells hW hA hpn)
      obtain ⟨lv, hlv⟩ : ∃ lv, ltTh x y = lv := ⟨_, rfl⟩
      have HLV := Lib.hid hlv
      clear hy hlv
      cases lv
      · refine wp_region_autoD 7 [.o (eqV (.int .i64 ((k2 : Nat) : Int))), .b true, .b true, .o (eqV (aggTh x)), .o (eqV (.pointer (some ⟨c, 0, none⟩))), .o (eqV (.pointer (some ⟨c, 0, none⟩))), .o (eqV (.pointer (some ⟨c, 0, none⟩))), .o (eqV (.slice (some ⟨rb, 0, none⟩) n cap)), .o (eqV (.int .i64 ((k2 : Nat) : Int))), .o (eqV (.int .i64 ((k2 : Int) - 1))), .o (eqV (.int .i64 ((par k2 : Nat) : Int))), .o (eqV (.pointer (some ⟨rb, par k2 * 4, none⟩))), .o (eqV (aggTh y)), .o (eqV (.bool false)), .o (eqV (.bool false))] [false, false, true, false, false, false, false, false, false, false, false, false, false, false, false] (by kernel_rfl) (by kernel_rfl) rfl (by kernel_rfl) (by kernel_rfl) ⟨?_, ?_, ?_, ?_, ?_, ?_, ?_, ?_, ?_, ?_, ?_, ?_, ?_, ?_, trivial⟩ ?fin
        · intro a w hb hoth hdep
          refine step_on (want_none rfl) ?_
          have e1 : a.tmps[1]? = some (.int .i64 ((k2 : Nat) : Int)) := ev_other hoth 1 (by kernel_rfl) rfl
          exact step_val ((BigFrame.run_move _ rfl w).trans (by rw [ev_of e1])) rfl
        · intro a w hb hoth hdep
          refine step_on (want_none rfl) ?_
          obtain ⟨v0, e7, hv0⟩ := ev_dep hdep 0 7 (by kernel_rfl) (by kernel_rfl)
          replace hv0 : v0 = .int .i64 ((k2 : Nat) : Int) := hv0
          subst hv0
          refine step_val (x := .bool true) ?_ rfl
          simp [go_sem, e7, t1, hkp]
        · intro a w hb hoth hdep
          refine step_on ((want_dep hdep 2 9 true rfl (by kernel_rfl) (by kernel_rfl) (fun v h => h)).trans rfl) ?_
          have e5 : a.tmps[5]? = some (.pointer (some ⟨b, 0, none⟩)) := ev_other hoth 5 (by kernel_rfl) rfl
          obtain ⟨b0, b1_, b2, b3⟩ : w.cell? ⟨b, 0, none⟩ = some (.int .i64 x.id) ∧ w.cell? ⟨b, 1, none⟩ = some (.int .i64 x.a) ∧ w.cell? ⟨b, 2, none⟩ = some (.int .i64 x.b) ∧ w.cell? ⟨b, 3, none⟩ = some (.int .i64 x.c) := ⟨((HD.out.2.below hb HD.out.2.lt).cell 0).trans rfl, ((HD.out.2.below hb HD.out.2.lt).cell 1).trans rfl, ((HD.out.2.below hb HD.out.2.lt).cell 2).trans rfl, ((HD.out.2.below hb HD.out.2.lt).cell 3).trans rfl⟩
          refine step_val (x := aggTh x) ?_ rfl
          simp [go_sem, e5, b0, b1_, b2, b3, aggTh]
        · intro a w hb hoth hdep
          refine step_on ((want_dep hdep 2 9 true rfl (by kernel_rfl) (by kernel_rfl) (fun v h => h)).trans rfl) ?_
          have e0 : a.tmps[0]? = some (.pointer (some ⟨c, 0, none⟩)) := ev_other hoth 0 (by kernel_rfl) rfl
          exact step_val ((BigFrame.run_move _ rfl w).trans (by rw [ev_of e0])) rfl
        · intro a w hb hoth hdep
          refine step_on ((want_dep hdep 2 9 true rfl (by kernel_rfl) (by kernel_rfl) (fun v h => h)).trans rfl) ?_
          obtain ⟨v4, e11, hv4⟩ := ev_dep hdep 4 11 (by kernel_rfl) (by kernel_rfl)
          replace hv4 : v4 = .pointer (some ⟨c, 0, none⟩) := hv4
          subst hv4
          refine step_val (x := .pointer (some ⟨c, 0, none⟩)) ?_ rfl
          simp [go_sem, e11]
        · intro a w hb hoth hdep
          refine step_on ((want_dep hdep 2 9 true rfl (by kernel_rfl) (by kernel_rfl) (fun v h => h)).trans rfl) ?_
          obtain ⟨v5, e12, hv5⟩ := ev_dep hdep 5 12 (by kernel_rfl) (by kernel_rfl)
          replace hv5 : v5 = .pointer (some ⟨c, 0, none⟩) := hv5
          subst hv5
          refine step_val (x := .pointer (some ⟨c, 0, none⟩)) ?_ rfl
          simp [go_sem, e12]
        · intro a w hb hoth hdep
          refine step_on ((want_dep hdep 2 9 true rfl (by kernel_rfl) (by kernel_rfl) (fun v h => h)).trans rfl) ?_
          obtain ⟨v6, e13, hv6⟩ := ev_dep hdep 6 13 (by kernel_rfl) (by kernel_rfl)
          replace hv6 : v6 = .pointer (some ⟨c, 0, none⟩) := hv6
          subst hv6
          have x0 : w.cell? ⟨c, 0, none⟩ = some (.slice A n cap) := ((HD.out.1.at_.below hb).blk.cell 0).trans HD.out.1.at_.c0
          rw [hA] at x0
          refine step_val (x := .slice (some ⟨rb, 0, none⟩) n cap) ?_ rfl
          simp [go_sem, e13, x0]
        · intro a w hb hoth hdep
          refine step_on ((want_dep hdep 2 9 true rfl (by kernel_rfl) (by kernel_rfl) (fun v h => h)).trans rfl) ?_
          have e1 : a.tmps[1]? = some (.int .i64 ((k2 : Nat) : Int)) := ev_other hoth 1 (by kernel_rfl) rfl
          exact step_val ((BigFrame.run_move _ rfl w).trans (by rw [ev_of e1])) rfl
        · intro a w hb hoth hdep
          refine step_on ((want_dep hdep 2 9 true rfl (by kernel_rfl) (by kernel_rfl) (fun v h => h)).trans rfl) ?_
          obtain ⟨v8, e15, hv8⟩ := ev_dep hdep 8 15 (by kernel_rfl) (by kernel_rfl)
          replace hv8 : v8 = .int .i64 ((k2 : Nat) : Int) := hv8
          subst hv8
          refine step_val (x := .int .i64 ((k2 : Int) - 1)) ?_ rfl
          simp [go_sem, e15, t9]
        · intro a w hb hoth hdep
          refine step_on ((want_dep hdep 2 9 true rfl (by kernel_rfl) (by kernel_rfl) (fun v h => h)).trans rfl) ?_
          obtain ⟨v9, e16, hv9⟩ := ev_dep hdep 9 16 (by kernel_rfl) (by kernel_rfl)
          replace hv9 : v9 = .int .i64 ((k2 : Int) - 1) := hv9
          subst hv9
          refine step_val (x := .int .i64 ((par k2 : Nat) : Int)) ?_ rfl
          simp [go_sem, e16, t10, t11]
        · intro a w hb hoth hdep
          refine step_on ((want_dep hdep 2 9 true rfl (by kernel_rfl) (by kernel_rfl) (fun v h => h)).trans rfl) ?_
          obtain ⟨v7, e14, hv7⟩ := ev_dep hdep 7 14 (by kernel_rfl) (by kernel_rfl)
          replace hv7 : v7 = .slice (some ⟨rb, 0, none⟩) n cap := hv7
          subst hv7
          obtain ⟨v10, e17, hv10⟩ := ev_dep hdep 10 17 (by kernel_rfl) (by kernel_rfl)
          replace hv10 : v10 = .int .i64 ((par k2 : Nat) : Int) := hv10
          subst hv10
          refine step_val (x := .pointer (some ⟨rb, par k2 * 4, none⟩)) ?_ rfl
          simp [go_sem, e14, e17, hpn, Try.underlying114]
        · intro a w hb hoth hdep
          refine step_on ((want_dep hdep 2 9 true rfl (by kernel_rfl) (by kernel_rfl) (fun v h => h)).trans rfl) ?_
          obtain ⟨v11, e18, hv11⟩ := ev_dep hdep 11 18 (by kernel_rfl) (by kernel_rfl)
          replace hv11 : v11 = .pointer (some ⟨rb, par k2 * 4, none⟩) := hv11
          subst hv11
          obtain ⟨y0, y1, y2, y3⟩ := HY.out w (HD.out.1.at_.below hb)
          refine step_val (x := aggTh y) ?_ rfl
          simp [go_sem, e18, y0, y1, y2, y3, aggTh]
        · intro a w hb hoth hdep
          refine step_on ((want_dep hdep 2 9 true rfl (by kernel_rfl) (by kernel_rfl) (fun v h => h)).trans rfl) ?_
          obtain ⟨v3, e10, hv3⟩ := ev_dep hdep 3 10 (by kernel_rfl) (by kernel_rfl)
          replace hv3 : v3 = aggTh x := hv3
          subst hv3
          obtain ⟨v12, e19, hv12⟩ := ev_dep hdep 12 19 (by kernel_rfl) (by kernel_rfl)
          replace hv12 : v12 = aggTh y := hv12
          subst hv12
          refine step_call (f := 136) (args := #[aggTh x, aggTh y]) ?_ ?_
          · simp [go_sem, e10, e19]
          · have hcx := thLess_t x y w
            rw [HLV.out] at hcx
            (with_reducible refine hcx.mono ?_)
            clear hcx
            rintro e w9 ⟨rfl, hb9⟩
            exact ⟨_, rfl, rfl, hb9⟩
        · intro a w hb hoth hdep
          refine step_on (want_none rfl) ?_
          obtain ⟨v2, e9, hv2⟩ := ev_dep hdep 2 9 (by kernel_rfl) (by kernel_rfl)
          replace hv2 : v2 = .bool true := hv2
          subst hv2
          obtain ⟨v13, e20, hv13⟩ := ev_dep hdep 13 20 (by kernel_rfl) (by kernel_rfl)
          replace hv13 : v13 = .bool false := hv13
          subst hv13
          refine step_val (x := .bool false) ?_ rfl
          simp [go_sem, e9, e20]
        case fin =>
          intro wz hbz
          iterate 15 (rintro _ rfl)
          refine FinC.nil ?_
          have HZ := Lib.hid (HU2.out.1.below hbz)
          have HKZ := Lib.hid (HU2.out.2.2.1.trans (Kept.of_below (F := HpS A mb) hbz) (fun _ _ h => h))
          have HST : Hid ((k2 = k ∧ DF ltP (updF (uL l2) k2 x) n k2) ∨ (k2 ≠ k ∧ HeapF ltP (updF (uL l2) k2 x) n)) := Lib.hid (by
            rcases HU2.out.2.2.2.2 with ⟨e, ha⟩ | ⟨e, ha⟩
            · exact .inl ⟨e, ha.down (.inr (by rw [show updF (uL l2) k2 x k2 = x by unfold updF; rw [if_pos rfl], show updF (uL l2) k2 x (par k2) = y by unfold updF; rw [if_neg hpk]; exact HYE.out]; intro e; rw [show ltTh x y = true from e] at HLV; cases HLV.out))⟩
            · exact .inr ⟨by omega, ha.end_ (.inr (by rw [show updF (uL l2) k2 x k2 = x by unfold updF; rw [if_pos rfl], show updF (uL l2) k2 x (par k2) = y by unfold updF; rw [if_neg hpk]; exact HYE.out]; intro e; rw [show ltTh x y = true from e] at HLV; cases HLV.out))⟩)
          clear hbz HD
          go_wp2_with fail
          go_ret
          exact ⟨k2, l2, g2, by first | rfl | (rw [h0]; rfl), hk2, HZ.out, HKZ.out, HU2.out.2.2.2.1, HST.out⟩
      · refine wp_region_autoD 7 [.o (eqV (.int .i64 ((k2 : Nat) : Int))), .b true, .b true, .o (eqV (aggTh x)), .o (eqV (.pointer (some ⟨c, 0, none⟩))), .o (eqV (.pointer (some ⟨c, 0, none⟩))), .o (eqV (.pointer (some ⟨c, 0, none⟩))), .o (eqV (.slice (some ⟨rb, 0, none⟩) n cap)), .o (eqV (.int .i64 ((k2 : Nat) : Int))), .o (eqV (.int .i64 ((k2 : Int) - 1))), .o (eqV (.int .i64 ((par k2 : Nat) : Int))), .o (eqV (.pointer (some ⟨rb, par k2 * 4, none⟩))), .o (eqV (aggTh y)), .o (eqV (.bool true)), .o (eqV (.bool true))] [false, false, true, false, false, false, false, false, false, false, false, false, false, false, false] (by kernel_rfl) (by kernel_rfl) rfl (by kernel_rfl) (by kernel_rfl) ⟨?_, ?_, ?_, ?_, ?_, ?_, ?_, ?_, ?_, ?_, ?_, ?_, ?_, ?_, trivial⟩ ?fin
        · intro a w hb hoth hdep
          refine step_on (want_none rfl) ?_
          have e1 : a.tmps[1]? = some (.int .i64 ((k2 : Nat) : Int)) := ev_other hoth 1 (by kernel_rfl) rfl
          exact step_val ((BigFrame.run_move _ rfl w).trans (by rw [ev_of e1])) rfl
        · intro a w hb hoth hdep
          refine step_on (want_none rfl) ?_
          obtain ⟨v0, e7, hv0⟩ := ev_dep hdep 0 7 (by kernel_rfl) (by kernel_rfl)
          replace hv0 : v0 = .int .i64 ((k2 : Nat) : Int) := hv0
          subst hv0
          refine step_val (x := .bool true) ?_ rfl
          simp [go_sem, e7, t1, hkp]
        · intro a w hb hoth hdep
          refine step_on ((want_dep hdep 2 9 true rfl (by kernel_rfl) (by kernel_rfl) (fun v h => h)).trans rfl) ?_
          have e5 : a.tmps[5]? = some (.pointer (some ⟨b, 0, none⟩)) := ev_other hoth 5 (by kernel_rfl) rfl
          obtain ⟨b0, b1_, b2, b3⟩ : w.cell? ⟨b, 0, none⟩ = some (.int .i64 x.id) ∧ w.cell? ⟨b, 1, none⟩ = some (.int .i64 x.a) ∧ w.cell? ⟨b, 2, none⟩ = some (.int .i64 x.b) ∧ w.cell? ⟨b, 3, none⟩ = some (.int .i64 x.c) := ⟨((HD.out.2.below hb HD.out.2.lt).cell 0).trans rfl, ((HD.out.2.below hb HD.out.2.lt).cell 1).trans rfl, ((HD.out.2.below hb HD.out.2.lt).cell 2).trans rfl, ((HD.out.2.below hb HD.out.2.lt).cell 3).trans rfl⟩
          refine step_val (x := aggTh x) ?_ rfl
          simp [go_sem, e5, b0, b1_, b2, b3, aggTh]
        · intro a w hb hoth hdep
          refine step_on ((want_dep hdep 2 9 true rfl (by kernel_rfl) (by kernel_rfl) (fun v h => h)).trans rfl) ?_
          have e0 : a.tmps[0]? = some (.pointer (some ⟨c, 0, none⟩)) := ev_other hoth 0 (by kernel_rfl) rfl
          exact step_val ((BigFrame.run_move _ rfl w).trans (by rw [ev_of e0])) rfl
        · intro a w hb hoth hdep
          refine step_on ((want_dep hdep 2 9 true rfl (by kernel_rfl) (by kernel_rfl) (fun v h => h)).trans rfl) ?_
          obtain ⟨v4, e11, hv4⟩ := ev_dep hdep 4 11 (by kernel_rfl) (by kernel_rfl)
          replace hv4 : v4 = .pointer (some ⟨c, 0, none⟩) := hv4
          subst hv4
          refine step_val (x := .pointer (some ⟨c, 0, none⟩)) ?_ rfl
          simp [go_sem, e11]
        · intro a w hb hoth hdep
          refine step_on ((want_dep hdep 2 9 true rfl (by kernel_rfl) (by kernel_rfl) (fun v h => h)).trans rfl) ?_
          obtain ⟨v5, e12, hv5⟩ := ev_dep hdep 5 12 (by kernel_rfl) (by kernel_rfl)
          replace hv5 : v5 = .pointer (some ⟨c, 0, none⟩) := hv5
          subst hv5
          refine step_val (x := .pointer (some ⟨c, 0, none⟩)) ?_ rfl
          simp [go_sem, e12]
        · intro a w hb hoth hdep
          refine step_on ((want_dep hdep 2 9 true rfl (by kernel_rfl) (by kernel_rfl) (fun v h => h)).trans rfl) ?_
          obtain ⟨v6, e13, hv6⟩ := ev_dep hdep 6 13 (by kernel_rfl) (by kernel_rfl)
          replace hv6 : v6 = .pointer (some ⟨c, 0, none⟩) := hv6
          subst hv6
          have x0 : w.cell? ⟨c, 0, none⟩ = some (.slice A n cap) := ((HD.out.1.at_.below hb).blk.cell 0).trans HD.out.1.at_.c0
          rw [hA] at x0
          refine step_val (x := .slice (some ⟨rb, 0, none⟩) n cap) ?_ rfl
          simp [go_sem, e13, x0]
        · intro a w hb hoth hdep
          refine step_on ((want_dep hdep 2 9 true rfl (by kernel_rfl) (by kernel_rfl) (fun v h => h)).trans rfl) ?_
          have e1 : a.tmps[1]? = some (.int .i64 ((k2 : Nat) : Int)) := ev_other hoth 1 (by kernel_rfl) rfl
          exact step_val ((BigFrame.run_move _ rfl w).trans (by rw [ev_of e1])) rfl
        · intro a w hb hoth hdep
          refine step_on ((want_dep hdep 2 9 true rfl (by kernel_rfl) (by kernel_rfl) (fun v h => h)).trans rfl) ?_
          obtain ⟨v8, e15, hv8⟩ := ev_dep hdep 8 15 (by kernel_rfl) (by kernel_rfl)
          replace hv8 : v8 = .int .i64 ((k2 : Nat) : Int) := hv8
          subst hv8
          refine step_val (x := .int .i64 ((k2 : Int) - 1)) ?_ rfl
          simp [go_sem, e15, t9]
        · intro a w hb hoth hdep
          refine step_on ((want_dep hdep 2 9 true rfl (by kernel_rfl) (by kernel_rfl) (fun v h => h)).trans rfl) ?_
          obtain ⟨v9, e16, hv9⟩ := ev_dep hdep 9 16 (by kernel_rfl) (by kernel_rfl)
          replace hv9 : v9 = .int .i64 ((k2 : Int) - 1) := hv9
          subst hv9
          refine step_val (x := .int .i64 ((par k2 : Nat) : Int)) ?_ rfl
          simp [go_sem, e16, t10, t11]
        · intro a w hb hoth hdep
          refine step_on ((want_dep hdep 2 9 true rfl (by kernel_rfl) (by kernel_rfl) (fun v h => h)).trans rfl) ?_
          obtain ⟨v7, e14, hv7⟩ := ev_dep hdep 7 14 (by kernel_rfl) (by kernel_rfl)
          replace hv7 : v7 = .slice (some ⟨rb, 0, none⟩) n cap := hv7
          subst hv7
          obtain ⟨v10, e17, hv10⟩ := ev_dep hdep 10 17 (by kernel_rfl) (by kernel_rfl)
          replace hv10 : v10 = .int .i64 ((par k2 : Nat) : Int) := hv10
          subst hv10
          refine step_val (x := .pointer (some ⟨rb, par k2 * 4, none⟩)) ?_ rfl
          simp [go_sem, e14, e17, hpn, Try.underlying114]
        · intro a w hb hoth hdep
          refine step_on ((want_dep hdep 2 9 true rfl (by kernel_rfl) (by kernel_rfl) (fun v h => h)).trans rfl) ?_
          obtain ⟨v11, e18, hv11⟩ := ev_dep hdep 11 18 (by kernel_rfl) (by kernel_rfl)
          replace hv11 : v11 = .pointer (some ⟨rb, par k2 * 4, none⟩) := hv11
          subst hv11
          obtain ⟨y0, y1, y2, y3⟩ := HY.out w (HD.out.1.at_.below hb)
          refine step_val (x := aggTh y) ?_ rfl
          simp [go_sem, e18, y0, y1, y2, y3, aggTh]
        · intro a w hb hoth hdep
          refine step_on ((want_dep hdep 2 9 true rfl (by kernel_rfl) (by kernel_rfl) (fun v h => h)).trans rfl) ?_
          obtain ⟨v3, e10, hv3⟩ := ev_dep hdep 3 10 (by kernel_rfl) (by kernel_rfl)
          replace hv3 : v3 = aggTh x := hv3
          subst hv3
          obtain ⟨v12, e19, hv12⟩ := ev_dep hdep 12 19 (by kernel_rfl) (by kernel_rfl)
          replace hv12 : v12 = aggTh y := hv12
          subst hv12
          refine step_call (f := 136) (args := #[aggTh x, aggTh y]) ?_ ?_
          · simp [go_sem, e10, e19]
          · have hcx := thLess_t x y w
            rw [HLV.out] at hcx
            (with_reducible refine hcx.mono ?_)
            clear hcx
            rintro e w9 ⟨rfl, hb9⟩
            exact ⟨_, rfl, rfl, hb9⟩
        · intro a w hb hoth hdep
          refine step_on (want_none rfl) ?_
          obtain ⟨v2, e9, hv2⟩ := ev_dep hdep 2 9 (by kernel_rfl) (by kernel_rfl)
          replace hv2 : v2 = .bool true := hv2
          subst hv2
          obtain ⟨v13, e20, hv13⟩ := ev_dep hdep 13 20 (by kernel_rfl) (by kernel_rfl)
          replace hv13 : v13 = .bool true := hv13
          subst hv13
          refine step_val (x := .bool true) ?_ rfl
          simp [go_sem, e9, e20]
        case fin =>
          intro wz hbz
          iterate 15 (rintro _ rfl)
          refine FinC.nil ?_
          have HZ := Lib.hid (HU2.out.1.below hbz)
          have HBZ := Lib.hid (HU2.out.2.1.below hbz HU2.out.2.1.lt)
          have HKZ := Lib.hid (HU2.out.2.2.1.trans (Kept.of_below (F := HpS A mb) hbz) (fun _ _ h => h))
          clear hbz HD
          have x0 : wz.cell? ⟨c, 0, none⟩ = some (.slice A n cap) := (HZ.out.at_.blk.cell 0).trans HZ.out.at_.c0
          rw [hA] at x0
          have cl := HZ.out.at_.blk.lt
          obtain ⟨y0, y1, y2, y3⟩ := HY.out wz HZ.out.at_
          have hyw : wf64 y.id := by rw [← HYE.out]; exact (HZ.out.at_.map.wf _ (HZ.out.ids _ hpn hpk)).1
          have hcx := hSet_t HZ.out.at_ hk2 y hyw (wf64_mk (by have := HWF.out.1; omega)) (by have := HWF.out.2; omega)
          have HYW := Lib.hid hyw
          clear hyw
          go_wp2_with fail
          (with_reducible refine hcx.mono ?_)
          clear hcx x0 cl y0 y1 y2 y3
          rintro e w5 ⟨rfl, h5, hk5⟩
          have hstep := HZ.out.step hk2 hpn hpk (by rw [HYE.out]; exact h5)
          have hl : ltP (updF (uL l2) k2 x k2) (updF (uL l2) k2 x (par k2)) := by
            rw [show updF (uL l2) k2 x k2 = x by unfold updF; rw [if_pos rfl], show updF (uL l2) k2 x (par k2) = y by unfold updF; rw [if_neg hpk]; exact HYE.out]
            exact HLV.out
          have HN : Hid (HU w5 base c t cs A n cap mb row (par k2) x (l2.set k2 (uL l2 (par k2))) (fun z => if z = (uL l2 (par k2)).id then (k2 : Int) else g2 z) ∧ Blk w5 b 137 (boxTh x) ∧ Kept (HpS A mb) w w5 ∧ (∀ a, (∃ i, i < n ∧ updF (uL (l2.set k2 (uL l2 (par k2)))) (par k2) x i = a) ↔ ∃ i, i < n ∧ updF (uL l) k x i = a) ∧ (par k2 < k ∧ UF ltP (updF (uL (l2.set k2 (uL l2 (par k2)))) (par k2) x) n (par k2))) := Lib.hid (by
            refine ⟨hstep.1, HBZ.out.kept hk5 HX.out.2.2.2.1, HKZ.out.trans hk5 (fun _ _ h => h), ?_, ?_⟩
            · rw [hstep.2]
              intro a
              exact (swp_mem _ hk2 hpn a).trans (HU2.out.2.2.2.1 a)
            · rw [hstep.2]
              rcases HU2.out.2.2.2.2 with ⟨e, ha⟩ | ⟨e, ha⟩
              · exact ⟨by unfold par; omega, ha.up ltP_tr ltP_an hkp hk2 hl⟩
              · exact ⟨by unfold par; omega, ha.up ltP_tr ltP_an hkp hk2 hl⟩)
          clear h5 hk5 hstep hl HZ HBZ HKZ HU2
          go_wp2_with fail
          go_roundw
          case rel => exact ⟨par k2, _, _, by first | rfl | go_num, hpn, HN.out.1, HN.out.2.1, HN.out.2.2.1, HN.out.2.2.2.1, .inr HN.out.2.2.2.2⟩
          case measure => simp [intOf]; unfold par; omega
end Go.Proofs.Ytcafmodenbifhaa
