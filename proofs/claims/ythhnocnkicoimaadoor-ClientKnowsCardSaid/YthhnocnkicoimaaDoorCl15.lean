/-
  LAYER 41: the document's client: Ask, where it is heard.
  LAYER 41: the document's client: Hear, where it is heeded.
-/
import Derived.Test.YthhnocnkicoimaaDoorCl14
import Derived.Test.YthhnocnkicoimaaDoorRow12s
import Derived.Test.YthhnocnkicoimaaDoorAnyTail
set_option linter.unusedVariables false
set_option linter.unusedSimpArgs false
namespace Go.Proofs.YthhnocnkicoimaaDoor
open Go.RowKit

/-- A row that is the elder one or lies in memory that was made since. -/
def putV (l : List Int) (A0 : Option Addr) (n0 : Nat) (base : Nat) : MV :=
  ⟨fun v w => ∃ A n c, v = .slice A n c ∧ RdI w A n l ∧ n ≤ c ∧ ((A = A0 ∧ n = n0) ∨ ∀ ad, A = some ad → base ≤ ad.block ∧ ad.block < w.heap.size),
    fun _ _ _ ⟨A, n, c, e, h, hn, hp⟩ hb => ⟨A, n, c, e, h.below hb, hn, hp.imp id (fun h ad ha => ⟨(h ad ha).1, Nat.lt_of_lt_of_le (h ad ha).2 hb.size⟩)⟩⟩
theorem XI.drew {w0 wr : World} {b : Nat} {m : LMsg} {cs : Array Value} (h : XI w0 wr b m cs) : XI w0 wr.drew b m cs := h.below (Below.refl _ _).drew
theorem Rd.far_ {w w2 : World} {A A' : Option Addr} {n n' : Nat} {l : List Int} (h : RdI w A n l) (hp : (A' = A ∧ n' = n) ∨ ∀ ad, A' = some ad → w2.heap.size ≤ ad.block) {k : Nat} (h1 : w.heap.size ≤ k) (h2 : k < w2.heap.size) : 0 < n' → ∀ ad, A' = some ad → ¬ ad.block = k := by
  intro hn ad ha e
  rcases hp with ⟨rfl, rfl⟩ | hp
  · have := h.lt_ hn ad ha; omega
  · have := hp ad ha; omega
theorem RdI.ne_slices {w : World} {A : Option Addr} {n g : Nat} {l : List Int} {t : TypeId} {cs : Array Value} (h : RdI w A n l) (hb : Blk w g t cs) (hc : ∀ (i : Nat) (x : Int), cs[i]? ≠ some (Value.int .i64 x)) : 0 < n → ∀ ad, A = some ad → ¬ ad.block = g := by
  intro hn ad hA e
  obtain ⟨b', o', x, hA', _, hcell⟩ := RdI.at_ h hn
  rw [hA] at hA'
  cases hA'
  simp only at e
  subst e
  rw [hb.cell] at hcell
  exact hc _ _ hcell
theorem boxX_no_int (A : Option Addr) (an ac : Nat) (O : Option Addr) (on oc : Nat) (R : Option Addr) (rn rc : Nat) : ∀ (i : Nat) (x : Int), (boxX A an ac O on oc R rn rc)[i]? ≠ some (Value.int .i64 x) := by
  intro i x h
  match i with
  | 0 => cases h
  | 1 => cases h
  | 2 => cases h
  | i + 3 => simp [boxX] at h
set_option maxRecDepth 100000 in
set_option maxHeartbeats 6400000 in
theorem refAsk_yes (A : Option Addr) (an ac : Nat) (O : Option Addr) (on oc : Nat) (R : Option Addr) (rn rc : Nat) (asked opens : List Int) (m : LMsg) (w : World) (hk : checkM m = 0) (hA : RdI w A an asked) (hO : RdI w O on opens) (ha : an ≤ ac) (ho : on ≤ oc) (han : an ≤ 1000) (hon : on ≤ 1000) :
    Calls Tryd.prog 10 #[.agg (boxX A an ac O on oc R rn rc), aggMsg m] w fun e w' => ∃ A' an' ac' O' on' oc', e = .returned (.tuple #[.agg (boxX A' an' ac' O' on' oc' R rn rc), aggMsg m, .int .i64 0]) ∧ RdI w' A' an' (putR asked m.job) ∧ RdI w' O' on' (putR opens m.job) ∧ an' ≤ ac' ∧ on' ≤ oc' ∧
      ((A' = A ∧ an' = an) ∨ ∀ ad, A' = some ad → w.heap.size ≤ ad.block ∧ ad.block < w'.heap.size) ∧ ((O' = O ∧ on' = on) ∨ ∀ ad, O' = some ad → w.heap.size ≤ ad.block ∧ ad.block < w'.heap.size) ∧ Below w.heap.size w w' := by
  have HC := Lib.hid hk
  have HAO := Lib.hid (And.intro hA (And.intro hO (And.intro (And.intro ha ho) (And.intro han hon))))
  clear hk hA hO ha ho han hon
  have H0 := Lib.hid (XI.start A an ac O on oc R rn rc m w)
  go_enter Tryd.func10, Tryd.ntmps10
  go_upto_region 1 with fail
  generalize ((((w.alloc (.cells (boxX A an ac O on oc R rn rc) 34)).alloc (.cells (boxMsg m) 38)).alloc (.cells #[.slice none 0 0, .slice none 0 0, .slice none 0 0] 34)).alloc (.cells #[.int .i64 0, .int .i64 0, .int .i64 0, .int .i64 0, .int .i64 0, .int .i64 0, .int .i64 0, .int .i64 0, .int .i64 0, .int .i64 0, .int .i64 0, .int .i64 0] 38)) = w1 at H0 ⊢
  obtain ⟨b, hb⟩ : ∃ b, w.heap.size = b := ⟨_, rfl⟩
  have HI : Hid (XI w w1 b m (boxX A an ac O on oc R rn rc)) := Lib.hid (by rw [← hb]; exact H0.out)
  try simp only [hb]
  clear hb H0
  obtain ⟨c0, c1, c2, c3, c4, c5, c6, c7, c8, c9, c10, c11⟩ := msgCells HI.out.msg
  have lq := HI.out.msg.lt
  have hcx := refCheck_t m w1
  rw [HC.out] at hcx
  go_wp2_with fail
  (with_reducible refine hcx.mono ?_)
  clear hcx lq c0 c1 c2 c3 c4 c5 c6 c7 c8 c9 c10 c11
  rintro e w2 ⟨rfl, hB2⟩
  have H2 := Lib.hid (HI.out.below hB2)
  clear hB2 HI
  go_upto_region 3 with fail
  refine wp_region_tailD 11 12 [.o (eqV (.pointer (some ⟨b, 0, none⟩))), .o (eqV (.slice A an ac)), .o (eqV (.pointer (some ⟨b + 1, 5, none⟩))), .o (eqV (.int .i64 m.job)), .o (putV (putR asked m.job) A an w2.heap.size), .o (eqV (.pointer (some ⟨b, 1, none⟩))), .o (eqV (.slice O on oc)), .o (eqV (.pointer (some ⟨b + 1, 5, none⟩))), .o (eqV (.int .i64 m.job)), .o (putV (putR opens m.job) O on w2.heap.size), .o (eqV (.pointer (some ⟨b, 0, none⟩)))] [false, false, false, false, false, false, false, false, false, false, false] (by kernel_rfl) rfl (by kernel_rfl) (by kernel_rfl) (by kernel_rfl) rfl (by kernel_rfl) (by kernel_rfl) ⟨?_, ?_, ?_, ?_, ?_, ?_, ?_, ?_, ?_, ?_, ?_, trivial⟩ ?fin
  · intro a w hb hoth hdep
    refine step_on (want_none rfl) ?_
    have e2 : a.tmps[2]? = some (.pointer (some ⟨b, 0, none⟩)) := ev_other hoth 2 (by kernel_rfl) rfl
    refine step_val (x := .pointer (some ⟨b, 0, none⟩)) ?_ rfl
    simp [go_sem, e2]
  · intro a w hb hoth hdep
    refine step_on (want_none rfl) ?_
    obtain ⟨v0, e12, hv0⟩ := ev_dep hdep 0 12 (by kernel_rfl) (by kernel_rfl)
    replace hv0 : v0 = .pointer (some ⟨b, 0, none⟩) := hv0
    subst hv0
    have x0 : w.cell? ⟨b, 0, none⟩ = some (.slice A an ac) := ((H2.out.x.below hb H2.out.x.lt).cell 0).trans rfl
    refine step_val (x := .slice A an ac) ?_ rfl
    simp [go_sem, e12, x0]
  · intro a w hb hoth hdep
    refine step_on (want_none rfl) ?_
    have e3 : a.tmps[3]? = some (.pointer (some ⟨b + 1, 0, none⟩)) := ev_other hoth 3 (by kernel_rfl) rfl
    refine step_val (x := .pointer (some ⟨b + 1, 5, none⟩)) ?_ rfl
    simp [go_sem, e3]
  · intro a w hb hoth hdep
    refine step_on (want_none rfl) ?_
    obtain ⟨v2, e14, hv2⟩ := ev_dep hdep 2 14 (by kernel_rfl) (by kernel_rfl)
    replace hv2 : v2 = .pointer (some ⟨b + 1, 5, none⟩) := hv2
    subst hv2
    have c5 : w.cell? ⟨b + 1, 5, none⟩ = some (.int .i64 m.job) := ((H2.out.msg.below hb H2.out.msg.lt).cell 5).trans rfl
    refine step_val (x := .int .i64 m.job) ?_ rfl
    simp [go_sem, e14, c5]
  · intro a w hb hoth hdep
    refine step_on (want_none rfl) ?_
    obtain ⟨v1, e13, hv1⟩ := ev_dep hdep 1 13 (by kernel_rfl) (by kernel_rfl)
    replace hv1 : v1 = .slice A an ac := hv1
    subst hv1
    obtain ⟨v3, e15, hv3⟩ := ev_dep hdep 3 15 (by kernel_rfl) (by kernel_rfl)
    replace hv3 : v3 = .int .i64 m.job := hv3
    subst hv3
    refine step_call (f := 44) (args := #[.slice A an ac, .int .i64 m.job]) ?_ ?_
    · simp [go_sem, e13, e15]
    · have hcx := put12s A an ac asked m.job w ((HAO.out.1.below H2.out.bel).below hb) (by have := HAO.out.2.2.2.1; omega) HAO.out.2.2.1.1
      (with_reducible refine hcx.mono ?_)
      clear hcx
      rintro e wq ⟨A', n', c', rfl, h1, h2, h3, h4⟩
      exact ⟨_, rfl, ⟨A', n', c', rfl, h1, h2, h4.imp id (fun h ad ha => ⟨Nat.le_trans hb.size (h ad ha).1, (h ad ha).2⟩)⟩, h3⟩
  · intro a w hb hoth hdep
    refine step_on (want_none rfl) ?_
    have e2 : a.tmps[2]? = some (.pointer (some ⟨b, 0, none⟩)) := ev_other hoth 2 (by kernel_rfl) rfl
    refine step_val (x := .pointer (some ⟨b, 1, none⟩)) ?_ rfl
    simp [go_sem, e2]
  · intro a w hb hoth hdep
    refine step_on (want_none rfl) ?_
    obtain ⟨v5, e17, hv5⟩ := ev_dep hdep 5 17 (by kernel_rfl) (by kernel_rfl)
    replace hv5 : v5 = .pointer (some ⟨b, 1, none⟩) := hv5
    subst hv5
    have x1 : w.cell? ⟨b, 1, none⟩ = some (.slice O on oc) := ((H2.out.x.below hb H2.out.x.lt).cell 1).trans rfl
    refine step_val (x := .slice O on oc) ?_ rfl
    simp [go_sem, e17, x1]
  · intro a w hb hoth hdep
    refine step_on (want_none rfl) ?_
    have e3 : a.tmps[3]? = some (.pointer (some ⟨b + 1, 0, none⟩)) := ev_other hoth 3 (by kernel_rfl) rfl
    refine step_val (x := .pointer (some ⟨b + 1, 5, none⟩)) ?_ rfl
    simp [go_sem, e3]
  · intro a w hb hoth hdep
    refine step_on (want_none rfl) ?_
    obtain ⟨v7, e19, hv7⟩ := ev_dep hdep 7 19 (by kernel_rfl) (by kernel_rfl)
    replace hv7 : v7 = .pointer (some ⟨b + 1, 5, none⟩) := hv7
    subst hv7
    have c5 : w.cell? ⟨b + 1, 5, none⟩ = some (.int .i64 m.job) := ((H2.out.msg.below hb H2.out.msg.lt).cell 5).trans rfl
    refine step_val (x := .int .i64 m.job) ?_ rfl
    simp [go_sem, e19, c5]
  · intro a w hb hoth hdep
    refine step_on (want_none rfl) ?_
    obtain ⟨v6, e18, hv6⟩ := ev_dep hdep 6 18 (by kernel_rfl) (by kernel_rfl)
    replace hv6 : v6 = .slice O on oc := hv6
    subst hv6
    obtain ⟨v8, e20, hv8⟩ := ev_dep hdep 8 20 (by kernel_rfl) (by kernel_rfl)
    replace hv8 : v8 = .int .i64 m.job := hv8
    subst hv8
    refine step_call (f := 44) (args := #[.slice O on oc, .int .i64 m.job]) ?_ ?_
    · simp [go_sem, e18, e20]
    · have hcx := put12s O on oc opens m.job w ((HAO.out.2.1.below H2.out.bel).below hb) (by have := HAO.out.2.2.2.2; omega) HAO.out.2.2.1.2
      (with_reducible refine hcx.mono ?_)
      clear hcx
      rintro e wq ⟨A', n', c', rfl, h1, h2, h3, h4⟩
      exact ⟨_, rfl, ⟨A', n', c', rfl, h1, h2, h4.imp id (fun h ad ha => ⟨Nat.le_trans hb.size (h ad ha).1, (h ad ha).2⟩)⟩, h3⟩
  · intro a w hb hoth hdep
    refine step_on (want_none rfl) ?_
    have e2 : a.tmps[2]? = some (.pointer (some ⟨b, 0, none⟩)) := ev_other hoth 2 (by kernel_rfl) rfl
    refine step_val (x := .pointer (some ⟨b, 0, none⟩)) ?_ rfl
    simp [go_sem, e2]
  case fin =>
    intro wz hbz
    iterate 4 (rintro _ rfl)
    rintro _ ⟨A3, n3, k3, rfl, hr3, hc3, hp3⟩
    iterate 4 (rintro _ rfl)
    rintro _ ⟨O4, n4, k4, rfl, hr4, hc4, hp4⟩
    iterate 1 (rintro _ rfl)
    refine FinC.nil ?_
    have HZ := Lib.hid (H2.out.below hbz)
    have HP := Lib.hid (And.intro (And.intro hr3 (And.intro hc3 hp3)) (And.intro hr4 (And.intro hc4 hp4)))
    clear hr3 hc3 hp3 hr4 hc4 hp4
    have x0 : wz.cell? ⟨b, 0, none⟩ = some (.slice A an ac) := (HZ.out.x.cell 0).trans rfl
    have x1 : wz.cell? ⟨b, 1, none⟩ = some (.slice O on oc) := (HZ.out.x.cell 1).trans rfl
    have xf := HZ.out.x.frozen
    have xl := HZ.out.x.lt
    have hS := H2.out.bel.size
    have hS2 := H2.out.rm.lt
    have HSZ := Lib.hid (And.intro hS hS2)
    clear hS hS2 hbz H2
    go_upto_region 4 with fail
    clear x0 x1 xf xl
    have hx4 : Blk ((wz.setCell ⟨b, 0, none⟩ (.slice A3 n3 k3)).setCell ⟨b, 1, none⟩ (.slice O4 n4 k4)) b 34 (boxX A3 n3 k3 O4 n4 k4 R rn rc) := by
      have h2 := (HZ.out.x.set_ 0 (.slice A3 n3 k3)).set_ 1 (.slice O4 n4 k4)
      simp only [List.setIfInBounds_toArray, List.set_cons_zero, List.set_cons_succ] at h2
      exact h2
    have hk4 : Kept (fun k => k = b) wz ((wz.setCell ⟨b, 0, none⟩ (.slice A3 n3 k3)).setCell ⟨b, 1, none⟩ (.slice O4 n4 k4)) := Kept.setCell (F := fun k => k = b) (p := ⟨b, 1, none⟩) (Kept.setCell (F := fun k => k = b) (Kept.refl _ wz) (p := ⟨b, 0, none⟩) (fun _ => rfl) _) (fun _ => rfl) _
    have hr3 := Rd.kept HP.out.1.1 hk4 (RdI.ne_slices HP.out.1.1 HZ.out.x (boxX_no_int _ _ _ _ _ _ _ _ _))
    have hr4 := Rd.kept HP.out.2.1 hk4 (RdI.ne_slices HP.out.2.1 HZ.out.x (boxX_no_int _ _ _ _ _ _ _ _ _))
    have hs4 : ((wz.setCell ⟨b, 0, none⟩ (.slice A3 n3 k3)).setCell ⟨b, 1, none⟩ (.slice O4 n4 k4)).heap.size = wz.heap.size := by simp [World.setCell]
    have hXI4 : XI w ((wz.setCell ⟨b, 0, none⟩ (.slice A3 n3 k3)).setCell ⟨b, 1, none⟩ (.slice O4 n4 k4)) b m (boxX A3 n3 k3 O4 n4 k4 R rn rc) := ⟨hx4, HZ.out.msg.kept hk4 (by omega), HZ.out.rx.kept hk4 (by omega), HZ.out.rm.kept hk4 (by omega), HZ.out.ge, (HZ.out.bel.setCell (p := ⟨b, 0, none⟩) HZ.out.ge _).setCell (p := ⟨b, 1, none⟩) HZ.out.ge _⟩
    have hpl3 := HP.out.1.2.2
    have hpl4 := HP.out.2.2.2
    rw [← hs4] at hpl3 hpl4
    have H4 := Lib.hid (And.intro hXI4 (And.intro (And.intro hr3 (And.intro HP.out.1.2.1 hpl3)) (And.intro hr4 (And.intro HP.out.2.2.1 hpl4))))
    clear hx4 hk4 hr3 hr4 hs4 hXI4 hpl3 hpl4 HZ HP
    generalize ((wz.setCell ⟨b, 0, none⟩ (.slice A3 n3 k3)).setCell ⟨b, 1, none⟩ (.slice O4 n4 k4)) = w4 at H4 ⊢
    obtain ⟨c0, c1, c2, c3, c4, c5, c6, c7, c8, c9, c10, c11⟩ := msgCells H4.out.1.msg
    have lq := H4.out.1.msg.lt
    have lx := H4.out.1.x.lt
    have x0 : w4.cell? ⟨b, 0, none⟩ = some (.slice A3 n3 k3) := (H4.out.1.x.cell 0).trans rfl
    have x1 : w4.cell? ⟨b, 1, none⟩ = some (.slice O4 n4 k4) := (H4.out.1.x.cell 1).trans rfl
    have x2 : w4.cell? ⟨b, 2, none⟩ = some (.slice R rn rc) := (H4.out.1.x.cell 2).trans rfl
    have zr := H4.out.1.rx.frozen
    have zm := H4.out.1.rm.frozen
    have lr := H4.out.1.rx.lt
    have lm := H4.out.1.rm.lt
    have p0 := H4.out.1.rx.cell 0
    have p1 := H4.out.1.rx.cell 1
    have p2 := H4.out.1.rx.cell 2
    have y0 := H4.out.1.rm.cell 0
    have y1 := H4.out.1.rm.cell 1
    have y2 := H4.out.1.rm.cell 2
    have y3 := H4.out.1.rm.cell 3
    have y4 := H4.out.1.rm.cell 4
    have y5 := H4.out.1.rm.cell 5
    have y6 := H4.out.1.rm.cell 6
    have y7 := H4.out.1.rm.cell 7
    have y8 := H4.out.1.rm.cell 8
    have y9 := H4.out.1.rm.cell 9
    have y10 := H4.out.1.rm.cell 10
    have y11 := H4.out.1.rm.cell 11
    simp only [List.getElem?_toArray, List.getElem?_cons_zero, List.getElem?_cons_succ] at p0 p1 p2 y0 y1 y2 y3 y4 y5 y6 y7 y8 y9 y10 y11
    go_region
    all_goals
      go_wp2_with fail
      have hbx : Blk (((w4.setCell ⟨b + 2, 0, none⟩ (.slice A3 n3 k3)).setCell ⟨b + 2, 1, none⟩ (.slice O4 n4 k4)).setCell ⟨b + 2, 2, none⟩ (.slice R rn rc)) (b + 2) 34 (boxX A3 n3 k3 O4 n4 k4 R rn rc) := by
        have h2 := ((H4.out.1.rx.set_ 0 (.slice A3 n3 k3)).set_ 1 (.slice O4 n4 k4)).set_ 2 (.slice R rn rc)
        simp only [List.setIfInBounds_toArray, List.set_cons_zero, List.set_cons_succ] at h2
        exact h2
      have hbm := lay12c ((((H4.out.1.rm).far (p := ⟨b + 2, 0, none⟩) (show b + 3 ≠ b + 2 by omega) (.slice A3 n3 k3)).far (p := ⟨b + 2, 1, none⟩) (show b + 3 ≠ b + 2 by omega) (.slice O4 n4 k4)).far (p := ⟨b + 2, 2, none⟩) (show b + 3 ≠ b + 2 by omega) (.slice R rn rc)) (.int .i64 m.kind) (.int .i64 m.frm) (.int .i64 m.to_) (.int .i64 m.epoch) (.int .i64 m.inc) (.int .i64 m.job) (.int .i64 m.tick) (.int .i64 m.prio) (.int .i64 m.code) (.int .i64 m.res.a) (.int .i64 m.res.b) (.int .i64 m.res.c)
      have hbx2 := ((((((((((((hbx.far (p := ⟨b + 3, 0, none⟩) (show b + 2 ≠ b + 3 by omega) (.int .i64 m.kind)).far (p := ⟨b + 3, 1, none⟩) (show b + 2 ≠ b + 3 by omega) (.int .i64 m.frm)).far (p := ⟨b + 3, 2, none⟩) (show b + 2 ≠ b + 3 by omega) (.int .i64 m.to_)).far (p := ⟨b + 3, 3, none⟩) (show b + 2 ≠ b + 3 by omega) (.int .i64 m.epoch)).far (p := ⟨b + 3, 4, none⟩) (show b + 2 ≠ b + 3 by omega) (.int .i64 m.inc)).far (p := ⟨b + 3, 5, none⟩) (show b + 2 ≠ b + 3 by omega) (.int .i64 m.job)).far (p := ⟨b + 3, 6, none⟩) (show b + 2 ≠ b + 3 by omega) (.int .i64 m.tick)).far (p := ⟨b + 3, 7, none⟩) (show b + 2 ≠ b + 3 by omega) (.int .i64 m.prio)).far (p := ⟨b + 3, 8, none⟩) (show b + 2 ≠ b + 3 by omega) (.int .i64 m.code)).far (p := ⟨b + 3, 9, none⟩) (show b + 2 ≠ b + 3 by omega) (.int .i64 m.res.a)).far (p := ⟨b + 3, 10, none⟩) (show b + 2 ≠ b + 3 by omega) (.int .i64 m.res.b)).far (p := ⟨b + 3, 11, none⟩) (show b + 2 ≠ b + 3 by omega) (.int .i64 m.res.c))
      have HE := Lib.hid ((((((((((((((((H4.out.1.bel).setCell (p := ⟨b + 2, 0, none⟩) (show w.heap.size ≤ b + 2 by have := H4.out.1.ge; omega) (.slice A3 n3 k3)).setCell (p := ⟨b + 2, 1, none⟩) (show w.heap.size ≤ b + 2 by have := H4.out.1.ge; omega) (.slice O4 n4 k4)).setCell (p := ⟨b + 2, 2, none⟩) (show w.heap.size ≤ b + 2 by have := H4.out.1.ge; omega) (.slice R rn rc)).setCell (p := ⟨b + 3, 0, none⟩) (show w.heap.size ≤ b + 3 by have := H4.out.1.ge; omega) (.int .i64 m.kind)).setCell (p := ⟨b + 3, 1, none⟩) (show w.heap.size ≤ b + 3 by have := H4.out.1.ge; omega) (.int .i64 m.frm)).setCell (p := ⟨b + 3, 2, none⟩) (show w.heap.size ≤ b + 3 by have := H4.out.1.ge; omega) (.int .i64 m.to_)).setCell (p := ⟨b + 3, 3, none⟩) (show w.heap.size ≤ b + 3 by have := H4.out.1.ge; omega) (.int .i64 m.epoch)).setCell (p := ⟨b + 3, 4, none⟩) (show w.heap.size ≤ b + 3 by have := H4.out.1.ge; omega) (.int .i64 m.inc)).setCell (p := ⟨b + 3, 5, none⟩) (show w.heap.size ≤ b + 3 by have := H4.out.1.ge; omega) (.int .i64 m.job)).setCell (p := ⟨b + 3, 6, none⟩) (show w.heap.size ≤ b + 3 by have := H4.out.1.ge; omega) (.int .i64 m.tick)).setCell (p := ⟨b + 3, 7, none⟩) (show w.heap.size ≤ b + 3 by have := H4.out.1.ge; omega) (.int .i64 m.prio)).setCell (p := ⟨b + 3, 8, none⟩) (show w.heap.size ≤ b + 3 by have := H4.out.1.ge; omega) (.int .i64 m.code)).setCell (p := ⟨b + 3, 9, none⟩) (show w.heap.size ≤ b + 3 by have := H4.out.1.ge; omega) (.int .i64 m.res.a)).setCell (p := ⟨b + 3, 10, none⟩) (show w.heap.size ≤ b + 3 by have := H4.out.1.ge; omega) (.int .i64 m.res.b)).setCell (p := ⟨b + 3, 11, none⟩) (show w.heap.size ≤ b + 3 by have := H4.out.1.ge; omega) (.int .i64 m.res.c))
      have hkk := (Kept.setCell (F := fun k => k = b + 2 ∨ k = b + 3) (Kept.setCell (F := fun k => k = b + 2 ∨ k = b + 3) (Kept.setCell (F := fun k => k = b + 2 ∨ k = b + 3) (Kept.setCell (F := fun k => k = b + 2 ∨ k = b + 3) (Kept.setCell (F := fun k => k = b + 2 ∨ k = b + 3) (Kept.setCell (F := fun k => k = b + 2 ∨ k = b + 3) (Kept.setCell (F := fun k => k = b + 2 ∨ k = b + 3) (Kept.setCell (F := fun k => k = b + 2 ∨ k = b + 3) (Kept.setCell (F := fun k => k = b + 2 ∨ k = b + 3) (Kept.setCell (F := fun k => k = b + 2 ∨ k = b + 3) (Kept.setCell (F := fun k => k = b + 2 ∨ k = b + 3) (Kept.setCell (F := fun k => k = b + 2 ∨ k = b + 3) (Kept.setCell (F := fun k => k = b + 2 ∨ k = b + 3) (Kept.setCell (F := fun k => k = b + 2 ∨ k = b + 3) (Kept.setCell (F := fun k => k = b + 2 ∨ k = b + 3) (Kept.refl (fun k => k = b + 2 ∨ k = b + 3) w4) (p := ⟨b + 2, 0, none⟩) (fun _ => .inl rfl) (.slice A3 n3 k3)) (p := ⟨b + 2, 1, none⟩) (fun _ => .inl rfl) (.slice O4 n4 k4)) (p := ⟨b + 2, 2, none⟩) (fun _ => .inl rfl) (.slice R rn rc)) (p := ⟨b + 3, 0, none⟩) (fun _ => .inr rfl) (.int .i64 m.kind)) (p := ⟨b + 3, 1, none⟩) (fun _ => .inr rfl) (.int .i64 m.frm)) (p := ⟨b + 3, 2, none⟩) (fun _ => .inr rfl) (.int .i64 m.to_)) (p := ⟨b + 3, 3, none⟩) (fun _ => .inr rfl) (.int .i64 m.epoch)) (p := ⟨b + 3, 4, none⟩) (fun _ => .inr rfl) (.int .i64 m.inc)) (p := ⟨b + 3, 5, none⟩) (fun _ => .inr rfl) (.int .i64 m.job)) (p := ⟨b + 3, 6, none⟩) (fun _ => .inr rfl) (.int .i64 m.tick)) (p := ⟨b + 3, 7, none⟩) (fun _ => .inr rfl) (.int .i64 m.prio)) (p := ⟨b + 3, 8, none⟩) (fun _ => .inr rfl) (.int .i64 m.code)) (p := ⟨b + 3, 9, none⟩) (fun _ => .inr rfl) (.int .i64 m.res.a)) (p := ⟨b + 3, 10, none⟩) (fun _ => .inr rfl) (.int .i64 m.res.b)) (p := ⟨b + 3, 11, none⟩) (fun _ => .inr rfl) (.int .i64 m.res.c))
      have hge := H4.out.1.ge
      have hr3 := Rd.kept H4.out.2.1.1 hkk (fun hn ad ha e => e.elim (RdI.ne_slices H4.out.2.1.1 H4.out.1.rx (boxX_no_int _ _ _ _ _ _ _ _ _) hn ad ha) (Rd.far_ HAO.out.1 (H4.out.2.1.2.2.imp id (fun h ad ha => (h ad ha).1)) (by omega) HSZ.out.2 hn ad ha))
      have hr4 := Rd.kept H4.out.2.2.1 hkk (fun hn ad ha e => e.elim (RdI.ne_slices H4.out.2.2.1 H4.out.1.rx (boxX_no_int _ _ _ _ _ _ _ _ _) hn ad ha) (Rd.far_ HAO.out.2.1 (H4.out.2.2.2.2.imp id (fun h ad ha => (h ad ha).1)) (by omega) HSZ.out.2 hn ad ha))
      have hp3 := H4.out.2.1.2.2.imp id (fun h ad ha => (⟨Nat.le_trans HSZ.out.1 (h ad ha).1, Nat.lt_of_lt_of_le (h ad ha).2 hkk.size⟩ : w.heap.size ≤ ad.block ∧ ad.block < _))
      have hp4 := H4.out.2.2.2.2.imp id (fun h ad ha => (⟨Nat.le_trans HSZ.out.1 (h ad ha).1, Nat.lt_of_lt_of_le (h ad ha).2 hkk.size⟩ : w.heap.size ≤ ad.block ∧ ad.block < _))
      have HF := Lib.hid (And.intro (And.intro hr3 hp3) (And.intro hr4 hp4))
      clear hr3 hp3 hr4 hp4 hkk hge
      clear hbx x0 x1 x2 lx lq zr zm lr lm p0 p1 p2 y0 y1 y2 y3 y4 y5 y6 y7 y8 y9 y10 y11
      clear c0 c1 c2 c3 c4 c5 c6 c7 c8 c9 c10 c11
      generalize (((((((((((((((w4.setCell ⟨b + 2, 0, none⟩ (.slice A3 n3 k3)).setCell ⟨b + 2, 1, none⟩ (.slice O4 n4 k4)).setCell ⟨b + 2, 2, none⟩ (.slice R rn rc)).setCell ⟨b + 3, 0, none⟩ (.int .i64 m.kind)).setCell ⟨b + 3, 1, none⟩ (.int .i64 m.frm)).setCell ⟨b + 3, 2, none⟩ (.int .i64 m.to_)).setCell ⟨b + 3, 3, none⟩ (.int .i64 m.epoch)).setCell ⟨b + 3, 4, none⟩ (.int .i64 m.inc)).setCell ⟨b + 3, 5, none⟩ (.int .i64 m.job)).setCell ⟨b + 3, 6, none⟩ (.int .i64 m.tick)).setCell ⟨b + 3, 7, none⟩ (.int .i64 m.prio)).setCell ⟨b + 3, 8, none⟩ (.int .i64 m.code)).setCell ⟨b + 3, 9, none⟩ (.int .i64 m.res.a)).setCell ⟨b + 3, 10, none⟩ (.int .i64 m.res.b)).setCell ⟨b + 3, 11, none⟩ (.int .i64 m.res.c)) = wy at hbm hbx2 HE HF ⊢
      have hdr := (Below.refl wy.heap.size wy).drew
      replace hbm := hbm.below hdr hbm.lt
      replace hbx2 := hbx2.below hdr hbx2.lt
      have d0 := hbm.cell 0
      have d1 := hbm.cell 1
      have d2 := hbm.cell 2
      have d3 := hbm.cell 3
      have d4 := hbm.cell 4
      have d5 := hbm.cell 5
      have d6 := hbm.cell 6
      have d7 := hbm.cell 7
      have d8 := hbm.cell 8
      have d9 := hbm.cell 9
      have d10 := hbm.cell 10
      have d11 := hbm.cell 11
      have e0 := hbx2.cell 0
      have e1 := hbx2.cell 1
      have e2 := hbx2.cell 2
      simp only [List.getElem?_toArray, List.getElem?_cons_zero, List.getElem?_cons_succ] at e0 e1 e2 d0 d1 d2 d3 d4 d5 d6 d7 d8 d9 d10 d11
      try go_wp2_with fail
      refine bodyPost_ret (v := .tuple #[.agg (boxX A3 n3 k3 O4 n4 k4 R rn rc), aggMsg m, .int .i64 0]) (by simp [results, Tryd.results10, go_sem, aggMsg, boxX, e0, e1, e2, d0, d1, d2, d3, d4, d5, d6, d7, d8, d9, d10, d11]) rfl ⟨A3, n3, k3, O4, n4, k4, rfl, HF.out.1.1.drew, HF.out.2.1.drew, H4.out.2.1.2.1, H4.out.2.2.2.1, HF.out.1.2, HF.out.2.2, HE.out.drew⟩
end Go.Proofs.YthhnocnkicoimaaDoor
namespace Go.Proofs.YthhnocnkicoimaaDoor
open Go.RowKit

set_option maxRecDepth 100000 in
set_option maxHeartbeats 6400000 in
theorem refHear_yes (A : Option Addr) (an ac : Nat) (O : Option Addr) (on oc : Nat) (R : Option Addr) (rn rc : Nat) (asked opens : List Int) (reps : List LReply) (m : LMsg) (w : World) (hA : RdI w A an asked) (hO : RdI w O on opens) (hR : Rd encReply 2 w R rn reps) (han : an ≤ 1000) (hon : on ≤ 1000) (hrn : rn ≤ 1000) (hck1 : checkM m = 0) (hk8 : m.kind = 8) (hin : m.job ∈ asked) :
    Calls Tryd.prog 13 #[.agg (boxX A an ac O on oc R rn rc), aggMsg m] w fun e w' => ∃ O' on' oc' R' rc', e = .returned (.tuple #[.agg (boxX A an ac O' on' oc' R' (rn + 1) rc'), .bool true]) ∧ RdI w' O' on' (opens.filter (· != m.job)) ∧ on' ≤ oc' ∧ Rd encReply 2 w' R' (rn + 1) (reps ++ [⟨m.job, m.code⟩]) ∧ (∀ ad, O' = some ad → w.heap.size ≤ ad.block ∧ ad.block < w'.heap.size) ∧ (∀ ad, R' = some ad → w.heap.size ≤ ad.block ∧ ad.block < w'.heap.size) ∧ Below w.heap.size w w' := by
  have HAS := Lib.hid (And.intro hA han)
  have HOR := Lib.hid (And.intro hO (And.intro hR (And.intro hon hrn)))
  obtain ⟨ck, hck0⟩ : ∃ ck, checkM m = ck := ⟨_, rfl⟩
  rw [hck0] at hck1
  have hck : (ck != 0) = false := by simp [hck1]
  have hkd : (m.kind != 8) = false := by simp [hk8]
  have HCK := Lib.hid hck0
  have H0 := Lib.hid (XH.start A an ac O on oc R rn rc m w)
  clear hA han hO hR hon hrn hck0 hck1 hk8
  go_enter Tryd.func13, Tryd.ntmps13
  go_upto_region 1 with fail
  generalize (((w.alloc (.cells (boxX A an ac O on oc R rn rc) 34)).alloc (.cells (boxMsg m) 38)).alloc (.cells #[.slice none 0 0, .slice none 0 0, .slice none 0 0] 34)) = w1 at H0 ⊢
  obtain ⟨b, hb⟩ : ∃ b, w.heap.size = b := ⟨_, rfl⟩
  have HI : Hid (XH w w1 b m (boxX A an ac O on oc R rn rc)) := Lib.hid (by rw [← hb]; exact H0.out)
  try simp only [hb]
  clear hb H0
  refine wp_region_autoL 7 [.o (eqV (aggMsg m)), .o (eqV (.int .i64 ck)), .b false, .b false, .o (eqV (.pointer (some ⟨b + 1, 0, none⟩))), .o (eqV (.int .i64 m.kind)), .b false, .b false, .b false, .o (eqV (.pointer (some ⟨b, 0, none⟩))), .o (eqV (.slice A an ac)), .o (eqV (.pointer (some ⟨b + 1, 5, none⟩))), .o (eqV (.int .i64 m.job)), .b true, .b false, .b false] [false, false, false, true, false, false, false, true, true, false, false, false, false, false, true, true] (by kernel_rfl) rfl (by kernel_rfl) (by kernel_rfl) ⟨?_, ?_, ?_, ?_, ?_, ?_, ?_, ?_, ?_, ?_, ?_, trivial⟩ ?fin
  · intro a w hb hoth hdep
    refine step_on (want_none rfl) ?_
    have e3 : a.tmps[3]? = some (.pointer (some ⟨b + 1, 0, none⟩)) := ev_other hoth 3 (by kernel_rfl) rfl
    obtain ⟨c0, c1, c2, c3, c4, c5, c6, c7, c8, c9, c10, c11⟩ := msgCells (HI.out.msg.below hb HI.out.msg.lt)
    refine step_val (x := aggMsg m) ?_ rfl
    simp [go_sem, e3, c0, c1, c2, c3, c4, c5, c6, c7, c8, c9, c10, c11, aggMsg]
  · intro a w hb hoth hdep
    refine step_on (want_none rfl) ?_
    obtain ⟨v0, e7, hv0⟩ := ev_dep hdep 0 7 (by kernel_rfl) (by kernel_rfl)
    replace hv0 : v0 = aggMsg m := hv0
    subst hv0
    refine step_call (f := 43) (args := #[aggMsg m]) ?_ ?_
    · simp [go_sem, e7]
    · have hcx := refCheck_t m w
      rw [HCK.out] at hcx
      (with_reducible refine hcx.mono ?_)
      clear hcx
      rintro e w2 ⟨rfl, hB⟩
      exact ⟨_, rfl, rfl, hB⟩
  · intro a w hb hoth hdep
    refine step_on (want_none rfl) ?_
    obtain ⟨v1, e8, hv1⟩ := ev_dep hdep 1 8 (by kernel_rfl) (by kernel_rfl)
    replace hv1 : v1 = .int .i64 ck := hv1
    subst hv1
    refine step_val (x := .bool false) ?_ rfl
    simp [go_sem, e8, hck]
  · intro a w hb hoth hdep
    refine step_on ((want_dep hdep 3 10 false rfl (by kernel_rfl) (by kernel_rfl) (fun v h => h)).trans rfl) ?_
    have e3 : a.tmps[3]? = some (.pointer (some ⟨b + 1, 0, none⟩)) := ev_other hoth 3 (by kernel_rfl) rfl
    refine step_val (x := .pointer (some ⟨b + 1, 0, none⟩)) ?_ rfl
    simp [go_sem, e3]
  · intro a w hb hoth hdep
    refine step_on ((want_dep hdep 3 10 false rfl (by kernel_rfl) (by kernel_rfl) (fun v h => h)).trans rfl) ?_
    obtain ⟨v4, e11, hv4⟩ := ev_dep hdep 4 11 (by kernel_rfl) (by kernel_rfl)
    replace hv4 : v4 = .pointer (some ⟨b + 1, 0, none⟩) := hv4
    subst hv4
    have c0 : w.cell? ⟨b + 1, 0, none⟩ = some (.int .i64 m.kind) := ((HI.out.msg.below hb HI.out.msg.lt).cell 0).trans rfl
    refine step_val (x := .int .i64 m.kind) ?_ rfl
    simp [go_sem, e11, c0]
  · intro a w hb hoth hdep
    refine step_on ((want_dep hdep 3 10 false rfl (by kernel_rfl) (by kernel_rfl) (fun v h => h)).trans rfl) ?_
    obtain ⟨v5, e12, hv5⟩ := ev_dep hdep 5 12 (by kernel_rfl) (by kernel_rfl)
    replace hv5 : v5 = .int .i64 m.kind := hv5
    subst hv5
    refine step_val (x := .bool false) ?_ rfl
    simp [go_sem, e12, hkd]
  · intro a w hb hoth hdep
    refine step_on ((want_dep hdep 8 15 false rfl (by kernel_rfl) (by kernel_rfl) (fun v h => h)).trans rfl) ?_
    have e2 : a.tmps[2]? = some (.pointer (some ⟨b, 0, none⟩)) := ev_other hoth 2 (by kernel_rfl) rfl
    refine step_val (x := .pointer (some ⟨b, 0, none⟩)) ?_ rfl
    simp [go_sem, e2]
  · intro a w hb hoth hdep
    refine step_on ((want_dep hdep 8 15 false rfl (by kernel_rfl) (by kernel_rfl) (fun v h => h)).trans rfl) ?_
    obtain ⟨v9, e16, hv9⟩ := ev_dep hdep 9 16 (by kernel_rfl) (by kernel_rfl)
    replace hv9 : v9 = .pointer (some ⟨b, 0, none⟩) := hv9
    subst hv9
    have x0 : w.cell? ⟨b, 0, none⟩ = some (.slice A an ac) := ((HI.out.x.below hb HI.out.x.lt).cell 0).trans rfl
    refine step_val (x := .slice A an ac) ?_ rfl
    simp [go_sem, e16, x0]
  · intro a w hb hoth hdep
    refine step_on ((want_dep hdep 8 15 false rfl (by kernel_rfl) (by kernel_rfl) (fun v h => h)).trans rfl) ?_
    have e3 : a.tmps[3]? = some (.pointer (some ⟨b + 1, 0, none⟩)) := ev_other hoth 3 (by kernel_rfl) rfl
    refine step_val (x := .pointer (some ⟨b + 1, 5, none⟩)) ?_ rfl
    simp [go_sem, e3]
  · intro a w hb hoth hdep
    refine step_on ((want_dep hdep 8 15 false rfl (by kernel_rfl) (by kernel_rfl) (fun v h => h)).trans rfl) ?_
    obtain ⟨v11, e18, hv11⟩ := ev_dep hdep 11 18 (by kernel_rfl) (by kernel_rfl)
    replace hv11 : v11 = .pointer (some ⟨b + 1, 5, none⟩) := hv11
    subst hv11
    have c5 : w.cell? ⟨b + 1, 5, none⟩ = some (.int .i64 m.job) := ((HI.out.msg.below hb HI.out.msg.lt).cell 5).trans rfl
    refine step_val (x := .int .i64 m.job) ?_ rfl
    simp [go_sem, e18, c5]
  · intro a w hb hoth hdep
    refine step_on ((want_dep hdep 8 15 false rfl (by kernel_rfl) (by kernel_rfl) (fun v h => h)).trans rfl) ?_
    obtain ⟨v10, e17, hv10⟩ := ev_dep hdep 10 17 (by kernel_rfl) (by kernel_rfl)
    replace hv10 : v10 = .slice A an ac := hv10
    subst hv10
    obtain ⟨v12, e19, hv12⟩ := ev_dep hdep 12 19 (by kernel_rfl) (by kernel_rfl)
    replace hv12 : v12 = .int .i64 m.job := hv12
    subst hv12
    refine step_call (f := 21) (args := #[.slice A an ac, .int .i64 m.job]) ?_ ?_
    · simp [go_sem, e17, e19]
    · have hcx := has12 A an ac asked m.job w ((HAS.out.1.below HI.out.bel).below hb) (by have := HAS.out.2; omega)
      rw [decide_eq_true hin] at hcx
      (with_reducible refine hcx.mono ?_)
      clear hcx
      rintro e w2 ⟨rfl, rfl⟩
      exact ⟨_, rfl, rfl, Below.refl _ _⟩
  case fin =>
    intro wz hbz
    iterate 16 (rintro _ rfl)
    refine FinC.nil ?_
    have HZ := Lib.hid (HI.out.below hbz)
    clear hbz hck hkd hin HCK HI
    obtain ⟨x0, x1, x2, lx, j5, j8, lj⟩ : wz.cell? ⟨b, 0, none⟩ = some (.slice A an ac) ∧ wz.cell? ⟨b, 1, none⟩ = some (.slice O on oc) ∧ wz.cell? ⟨b, 2, none⟩ = some (.slice R rn rc) ∧ b < wz.heap.size ∧ wz.cell? ⟨b + 1, 5, none⟩ = some (.int .i64 m.job) ∧ wz.cell? ⟨b + 1, 8, none⟩ = some (.int .i64 m.code) ∧ b + 1 < wz.heap.size := ⟨(HZ.out.x.cell 0).trans rfl, (HZ.out.x.cell 1).trans rfl, (HZ.out.x.cell 2).trans rfl, HZ.out.x.lt, (HZ.out.msg.cell 5).trans rfl, (HZ.out.msg.cell 8).trans rfl, HZ.out.msg.lt⟩
    have hcx := drop12s O on oc opens m.job wz (HOR.out.1.below HZ.out.bel) (by have := HOR.out.2.2.1; omega)
    go_wp2_with fail
    (with_reducible refine hcx.mono ?_)
    clear hcx x0 x1 x2 lx j5 j8 lj
    rintro e w3 ⟨O3, n3, c3, rfl, hr3, hc3, hb3, hp3⟩
    have hp3 : ∀ ad, O3 = some ad → w.heap.size ≤ ad.block ∧ ad.block < w3.heap.size := fun ad ha => ⟨Nat.le_trans HZ.out.bel.size (hp3 ad ha).1, (hp3 ad ha).2⟩
    have H3 := Lib.hid (And.intro (HZ.out.below hb3) (And.intro hr3 (And.intro hc3 hp3)))
    clear hr3 hc3 hb3 hp3 HZ
    obtain ⟨x1, lx, fz⟩ : w3.cell? ⟨b, 1, none⟩ = some (.slice O on oc) ∧ b < w3.heap.size ∧ w3.frozen? ⟨b, 1, none⟩ = false := ⟨(H3.out.1.x.cell 1).trans rfl, H3.out.1.x.lt, H3.out.1.x.frozen 1⟩
    have hx4 : Blk (w3.setCell ⟨b, 1, none⟩ (.slice O3 n3 c3)) b 34 #[.slice A an ac, .slice O3 n3 c3, .slice R rn rc] := H3.out.1.x.set_ 1 _
    have hk4 : Kept (fun k => k = b) w3 (w3.setCell ⟨b, 1, none⟩ (.slice O3 n3 c3)) := Kept.setCell (F := fun k => k = b) (Kept.refl _ w3) (p := ⟨b, 1, none⟩) (fun _ => rfl) _
    have hr4 := Rd.kept H3.out.2.1 hk4 (RdI.ne_slices H3.out.2.1 H3.out.1.x (boxX_no_int _ _ _ _ _ _ _ _ _))
    have hXH4 : XH w (w3.setCell ⟨b, 1, none⟩ (.slice O3 n3 c3)) b m #[.slice A an ac, .slice O3 n3 c3, .slice R rn rc] := ⟨hx4, H3.out.1.msg.kept hk4 (by omega), H3.out.1.rx.kept hk4 (by omega), H3.out.1.ge, H3.out.1.bel.setCell (p := ⟨b, 1, none⟩) H3.out.1.ge _⟩
    have hs4 : (w3.setCell ⟨b, 1, none⟩ (.slice O3 n3 c3)).heap.size = w3.heap.size := by simp [World.setCell]
    have hp4 := H3.out.2.2.2
    rw [← hs4] at hp4
    have H4 := Lib.hid (And.intro hXH4 (And.intro hr4 (And.intro H3.out.2.2.1 hp4)))
    clear hx4 hk4 hr4 hXH4 hs4 hp4
    go_upto_region 4 with fail
    clear x1 lx fz H3
    generalize w3.setCell ⟨b, 1, none⟩ (.slice O3 n3 c3) = w4 at H4 ⊢
    have x2 : w4.cell? ⟨b, 2, none⟩ = some (.slice R rn rc) := (H4.out.1.x.cell 2).trans rfl
    have lx := H4.out.1.x.lt
    go_upto_region 7 with (first
        | (at_builtin; refine wp_app (enc := encReply) (fun _ => rfl) Reply_one rfl (.tmp 30) (.tmp 32) 30 rfl 98 (.agg #[.int .i64 0, .int .i64 0]) 16 Tryd.underlying30 Tryd.infoReply rfl (by decide) w4.heap.size none 0 0 [] rfl (OwnL.nil _ _) R rn rc reps rfl (HOR.out.2.1.below H4.out.1.bel) rn (by omega) reps (by rw [List.nil_append]) (by have := HOR.out.2.2.2; omega) (by have := HOR.out.2.2.2; omega) (Nat.le_refl _) ?_; intro A5 c5 w5 ho5 hg5 _; have hb5 := (Below.refl w4.heap.size w4).grown hg5 (Nat.le_refl _) (by simp [Value.ownBlock]); have H5 := Lib.hid (And.intro (H4.out.1.below hb5) (And.intro ho5 hb5)); clear ho5 hg5 hb5; have y5 : w5.cell? ⟨b + 1, 5, none⟩ = some (.int .i64 m.job) := (H5.out.1.msg.cell 5).trans rfl; have y8 : w5.cell? ⟨b + 1, 8, none⟩ = some (.int .i64 m.code) := (H5.out.1.msg.cell 8).trans rfl; have ly : b + 1 < w5.heap.size := H5.out.1.msg.lt)
        | (at_builtin; refine wp_app (enc := encReply) (fun _ => rfl) Reply_one rfl (.tmp 34) (.tmp 40) 30 rfl 98 (.agg #[.int .i64 0, .int .i64 0]) 16 Tryd.underlying30 Tryd.infoReply rfl (by decide) w4.heap.size A5 rn c5 reps rfl (H5.out.2.1.alloc _) _ 1 _ [⟨m.job, m.code⟩] rfl (Rd.new1 _ _ _ _ _ rfl) (rn + 1) rfl _ rfl (by have := HOR.out.2.2.2; omega) (by have := HOR.out.2.2.2; omega) (by have := H5.out.2.2.size; simp; omega) ?_; intro A6 c6 w6 ho6 hg6 _; have hb6 := (H5.out.2.2.alloc H5.out.2.2.size _).grown hg6 (by have := H5.out.2.2.size; simp; omega) (own_block_ge H5.out.2.1); have H6 := Lib.hid (And.intro (H4.out.1.below hb6) (And.intro ho6 (And.intro (H4.out.2.1.below hb6) hb6.size))); clear ho6 hg6 hb6; have q2 : w6.cell? ⟨b, 2, none⟩ = some (.slice R rn rc) := (H6.out.1.x.cell 2).trans rfl; have qf := H6.out.1.x.frozen; have ql := H6.out.1.x.lt))
    have hx7 : Blk (w6.setCell ⟨b, 2, none⟩ (.slice A6 (rn + 1) c6)) b 34 #[.slice A an ac, .slice O3 n3 c3, .slice A6 (rn + 1) c6] := by
      have h2 := H6.out.1.x.set_ 2 (.slice A6 (rn + 1) c6)
      simp only [List.setIfInBounds_toArray, List.set_cons_zero, List.set_cons_succ] at h2
      exact h2
    have hk7 : Kept (fun k => k = b) w6 (w6.setCell ⟨b, 2, none⟩ (.slice A6 (rn + 1) c6)) := Kept.setCell (F := fun k => k = b) (Kept.refl _ w6) (p := ⟨b, 2, none⟩) (fun _ => rfl) _
    have hr7 := Rd.kept H6.out.2.2.1 hk7 (RdI.ne_slices H6.out.2.2.1 H6.out.1.x (boxX_no_int _ _ _ _ _ _ _ _ _))
    have hq7 := Rd.kept (H6.out.2.1.rd (enc := encReply) (sz := 2) (fun _ => rfl)) hk7 (fun _ ad ha e => by have h1 := (H6.out.2.1.at_base ad ha).1; have h2 := H4.out.1.x.lt; omega)
    have hs7 : (w6.setCell ⟨b, 2, none⟩ (.slice A6 (rn + 1) c6)).heap.size = w6.heap.size := by simp [World.setCell]
    have hXH7 : XH w (w6.setCell ⟨b, 2, none⟩ (.slice A6 (rn + 1) c6)) b m #[.slice A an ac, .slice O3 n3 c3, .slice A6 (rn + 1) c6] := ⟨hx7, H6.out.1.msg.kept hk7 (by omega), H6.out.1.rx.kept hk7 (by omega), H6.out.1.ge, H6.out.1.bel.setCell (p := ⟨b, 2, none⟩) H6.out.1.ge _⟩
    have hp7 : (∀ ad, O3 = some ad → w.heap.size ≤ ad.block ∧ ad.block < (w6.setCell ⟨b, 2, none⟩ (.slice A6 (rn + 1) c6)).heap.size) ∧ ∀ ad, A6 = some ad → w4.heap.size ≤ ad.block ∧ ad.block < (w6.setCell ⟨b, 2, none⟩ (.slice A6 (rn + 1) c6)).heap.size := by
      rw [hs7]
      refine ⟨fun ad ha => ⟨(H4.out.2.2.2 ad ha).1, ?_⟩, fun ad ha => H6.out.2.1.at_base ad ha⟩
      have h1 := (H4.out.2.2.2 ad ha).2
      have h2 := H6.out.2.2.2
      omega
    have hg7 := H4.out.1.rx.lt
    have hg8 := H4.out.1.bel.size
    have H7 := Lib.hid (And.intro hXH7 (And.intro (And.intro hr7 hq7) (And.intro hp7 (And.intro hg7 hg8))))
    have HC3 := Lib.hid H4.out.2.2.1
    clear hx7 hk7 hr7 hq7 hs7 hXH7 hp7 hg7 hg8 x2 lx y5 y8 ly q2 qf ql H4 H5 H6
    generalize (w6.setCell ⟨b, 2, none⟩ (.slice A6 (rn + 1) c6)) = w7 at H7 ⊢
    obtain ⟨x0, x1, x2, lx⟩ : w7.cell? ⟨b, 0, none⟩ = some (.slice A an ac) ∧ w7.cell? ⟨b, 1, none⟩ = some (.slice O3 n3 c3) ∧ w7.cell? ⟨b, 2, none⟩ = some (.slice A6 (rn + 1) c6) ∧ b < w7.heap.size := ⟨(H7.out.1.x.cell 0).trans rfl, (H7.out.1.x.cell 1).trans rfl, (H7.out.1.x.cell 2).trans rfl, H7.out.1.x.lt⟩
    have zr := H7.out.1.rx.frozen
    have lr := H7.out.1.rx.lt
    have p0 := H7.out.1.rx.cell 0
    have p1 := H7.out.1.rx.cell 1
    have p2 := H7.out.1.rx.cell 2
    simp only [List.getElem?_toArray, List.getElem?_cons_zero, List.getElem?_cons_succ] at p0 p1 p2
    go_wp2_with fail
    have HE := Lib.hid (((H7.out.1.bel.setCell (p := ⟨b + 1 + 1, 0, none⟩) (show w.heap.size ≤ b + 1 + 1 by have := H7.out.1.ge; omega) (.slice A an ac)).setCell (p := ⟨b + 1 + 1, 1, none⟩) (show w.heap.size ≤ b + 1 + 1 by have := H7.out.1.ge; omega) (.slice O3 n3 c3)).setCell (p := ⟨b + 1 + 1, 2, none⟩) (show w.heap.size ≤ b + 1 + 1 by have := H7.out.1.ge; omega) (.slice A6 (rn + 1) c6))
    have hkk := (Kept.setCell (F := fun k => k = b + 1 + 1) (Kept.setCell (F := fun k => k = b + 1 + 1) (Kept.setCell (F := fun k => k = b + 1 + 1) (Kept.refl (fun k => k = b + 1 + 1) w7) (p := ⟨b + 1 + 1, 0, none⟩) (fun _ => rfl) (.slice A an ac)) (p := ⟨b + 1 + 1, 1, none⟩) (fun _ => rfl) (.slice O3 n3 c3)) (p := ⟨b + 1 + 1, 2, none⟩) (fun _ => rfl) (.slice A6 (rn + 1) c6))
    have hbx : Blk (((w7.setCell ⟨b + 1 + 1, 0, none⟩ (.slice A an ac)).setCell ⟨b + 1 + 1, 1, none⟩ (.slice O3 n3 c3)).setCell ⟨b + 1 + 1, 2, none⟩ (.slice A6 (rn + 1) c6)) (b + 1 + 1) 34 #[.slice A an ac, .slice O3 n3 c3, .slice A6 (rn + 1) c6] := by
      have h2 := ((H7.out.1.rx.set_ 0 (.slice A an ac)).set_ 1 (.slice O3 n3 c3)).set_ 2 (.slice A6 (rn + 1) c6)
      simp only [List.setIfInBounds_toArray, List.set_cons_zero, List.set_cons_succ] at h2
      exact h2
    have hr8 := Rd.kept H7.out.2.1.1 hkk (RdI.ne_slices H7.out.2.1.1 H7.out.1.rx (boxX_no_int _ _ _ _ _ _ _ _ _))
    have hq8 := Rd.kept H7.out.2.1.2 hkk (fun _ ad ha e => by have h1 := (H7.out.2.2.1.2 ad ha).1; have h2 := H7.out.2.2.2.1; omega)
    have hp8 := (fun ad ha => ⟨(H7.out.2.2.1.1 ad ha).1, Nat.lt_of_lt_of_le (H7.out.2.2.1.1 ad ha).2 hkk.size⟩ : ∀ ad, O3 = some ad → w.heap.size ≤ ad.block ∧ ad.block < _)
    have hp9 := (fun ad ha => ⟨Nat.le_trans H7.out.2.2.2.2 (H7.out.2.2.1.2 ad ha).1, Nat.lt_of_lt_of_le (H7.out.2.2.1.2 ad ha).2 hkk.size⟩ : ∀ ad, A6 = some ad → w.heap.size ≤ ad.block ∧ ad.block < _)
    have HF := Lib.hid (And.intro (And.intro hr8 hq8) (And.intro hp8 hp9))
    clear hr8 hq8 hp8 hp9 hkk
    clear x0 x1 x2 lx zr lr p0 p1 p2
    generalize (((w7.setCell ⟨b + 1 + 1, 0, none⟩ (.slice A an ac)).setCell ⟨b + 1 + 1, 1, none⟩ (.slice O3 n3 c3)).setCell ⟨b + 1 + 1, 2, none⟩ (.slice A6 (rn + 1) c6)) = wy at HE HF hbx ⊢
    have e0 := hbx.cell 0
    have e1 := hbx.cell 1
    have e2 := hbx.cell 2
    simp only [List.getElem?_toArray, List.getElem?_cons_zero, List.getElem?_cons_succ] at e0 e1 e2
    try go_wp2_with fail
    refine bodyPost_ret (v := .tuple #[.agg (boxX A an ac O3 n3 c3 A6 (rn + 1) c6), .bool true]) (by simp [results, Tryd.results13, go_sem, boxX, e0, e1, e2]) rfl ⟨O3, n3, c3, A6, c6, rfl, HF.out.1.1, HC3.out, HF.out.1.2, HF.out.2.1, HF.out.2.2, HE.out⟩
end Go.Proofs.YthhnocnkicoimaaDoor
