/-
  LAYER 41: the document's client: Ask.
  LAYER 41: the document's client: Hear, where it is not heeded.
-/
import Derived.Test.YthhnocnkicoimaaDoorCl11
import Derived.Deep.Cut
import Derived.Deep.RegionHeld3
import Derived.Test.YthhnocnkicoimaaDoorHas12
set_option linter.unusedVariables false
set_option linter.unusedSimpArgs false
namespace Go.Proofs.YthhnocnkicoimaaDoor
open Go.RowKit

/-- The four boxes of Ask. -/
structure XI (w0 wr : World) (b : Nat) (m : LMsg) (cs : Array Value) : Prop where
  x : Blk wr b 34 cs
  msg : Blk wr (b + 1) 38 (boxMsg m)
  rx : Blk wr (b + 2) 34 #[.slice none 0 0, .slice none 0 0, .slice none 0 0]
  rm : Blk wr (b + 3) 38 #[.int .i64 0, .int .i64 0, .int .i64 0, .int .i64 0, .int .i64 0, .int .i64 0, .int .i64 0, .int .i64 0, .int .i64 0, .int .i64 0, .int .i64 0, .int .i64 0]
  ge : w0.heap.size ≤ b
  bel : Below w0.heap.size w0 wr
theorem XI.below {w0 wr w' : World} {b : Nat} {m : LMsg} {cs : Array Value} (h : XI w0 wr b m cs) (hb : Below wr.heap.size wr w') : XI w0 w' b m cs :=
  ⟨h.x.below hb h.x.lt, h.msg.below hb h.msg.lt, h.rx.below hb h.rx.lt, h.rm.below hb h.rm.lt, h.ge, h.bel.trans (hb.mono h.bel.size)⟩
theorem XI.start (A : Option Addr) (an ac : Nat) (O : Option Addr) (on oc : Nat) (R : Option Addr) (rn rc : Nat) (m : LMsg) (w : World) : XI w ((((w.alloc (.cells (boxX A an ac O on oc R rn rc) 34)).alloc (.cells (boxMsg m) 38)).alloc (.cells #[.slice none 0 0, .slice none 0 0, .slice none 0 0] 34)).alloc (.cells #[.int .i64 0, .int .i64 0, .int .i64 0, .int .i64 0, .int .i64 0, .int .i64 0, .int .i64 0, .int .i64 0, .int .i64 0, .int .i64 0, .int .i64 0, .int .i64 0] 38)) w.heap.size m (boxX A an ac O on oc R rn rc) := by
  have s1 : (w.alloc (.cells (boxX A an ac O on oc R rn rc) 34)).heap.size = w.heap.size + 1 := by simp
  have s2 : ((w.alloc (.cells (boxX A an ac O on oc R rn rc) 34)).alloc (.cells (boxMsg m) 38)).heap.size = w.heap.size + 2 := by simp
  have s3 : (((w.alloc (.cells (boxX A an ac O on oc R rn rc) 34)).alloc (.cells (boxMsg m) 38)).alloc (.cells #[.slice none 0 0, .slice none 0 0, .slice none 0 0] 34)).heap.size = w.heap.size + 3 := by simp
  have h2 := Blk.new (w.alloc (.cells (boxX A an ac O on oc R rn rc) 34)) 38 (boxMsg m)
  have h3 := Blk.new ((w.alloc (.cells (boxX A an ac O on oc R rn rc) 34)).alloc (.cells (boxMsg m) 38)) 34 #[.slice none 0 0, .slice none 0 0, .slice none 0 0]
  have h4 := Blk.new (((w.alloc (.cells (boxX A an ac O on oc R rn rc) 34)).alloc (.cells (boxMsg m) 38)).alloc (.cells #[.slice none 0 0, .slice none 0 0, .slice none 0 0] 34)) 38 #[.int .i64 0, .int .i64 0, .int .i64 0, .int .i64 0, .int .i64 0, .int .i64 0, .int .i64 0, .int .i64 0, .int .i64 0, .int .i64 0, .int .i64 0, .int .i64 0]
  rw [s1] at h2
  rw [s2] at h3
  rw [s3] at h4
  exact ⟨(((Blk.new w _ _).alloc _).alloc _).alloc _, (h2.alloc _).alloc _, h3.alloc _, h4, Nat.le_refl _, ((((Below.refl _ _).alloc (Nat.le_refl _) _).alloc (by simp) _).alloc (by simp; omega) _).alloc (by simp; omega) _⟩
set_option maxRecDepth 100000 in
set_option maxHeartbeats 3200000 in
theorem refAsk_no (A : Option Addr) (an ac : Nat) (O : Option Addr) (on oc : Nat) (R : Option Addr) (rn rc : Nat) (m : LMsg) (w : World) (hk : checkM m ≠ 0) : Calls Tryd.prog 10 #[.agg (boxX A an ac O on oc R rn rc), aggMsg m] w fun e w' => e = .returned (.tuple #[.agg (boxX A an ac O on oc R rn rc), aggMsg zeroLMsg, .int .i64 1]) ∧ Below w.heap.size w w' := by
  obtain ⟨ck, hck⟩ : ∃ ck, checkM m = ck := ⟨_, rfl⟩
  rw [hck] at hk
  have HC := Lib.hid hck
  have hne : (ck != 0) = true := by simp [hk]
  clear hck hk
  have H0 := Lib.hid (XI.start A an ac O on oc R rn rc m w)
  go_enter Tryd.func10, Tryd.ntmps10
  go_upto_region 1 with fail
  generalize ((((w.alloc (.cells (boxX A an ac O on oc R rn rc) 34)).alloc (.cells (boxMsg m) 38)).alloc (.cells #[.slice none 0 0, .slice none 0 0, .slice none 0 0] 34)).alloc (.cells #[.int .i64 0, .int .i64 0, .int .i64 0, .int .i64 0, .int .i64 0, .int .i64 0, .int .i64 0, .int .i64 0, .int .i64 0, .int .i64 0, .int .i64 0, .int .i64 0] 38)) = w1 at H0 ⊢
  obtain ⟨b, hb⟩ : ∃ b, w.heap.size = b := ⟨_, rfl⟩
  have HI : Hid (XI w w1 b m (boxX A an ac O on oc R rn rc)) := Lib.hid (by rw [← hb]; exact H0.out)
  try simp only [hb]
  clear hb H0
  obtain ⟨c0, c1, c2, c3, c4, c5, c6, c7, c8, c9, c10, c11⟩ := msgCells HI.out.msg
  have lq := HI.out.msg.lt
  have hcx := refCheck_t m w1
  rw [HC.out] at hcx
  go_wp2_with fail
  (with_reducible refine hcx.mono ?_)
  clear hcx lq c0 c1 c2 c3 c4 c5 c6 c7 c8 c9 c10 c11
  rintro e w2 ⟨rfl, hB2⟩
  have H2 := Lib.hid (HI.out.below hB2)
  clear hB2 HI
  have lx := H2.out.x.lt
  have x0 : w2.cell? ⟨b, 0, none⟩ = some (.slice A an ac) := (H2.out.x.cell 0).trans rfl
  have x1 : w2.cell? ⟨b, 1, none⟩ = some (.slice O on oc) := (H2.out.x.cell 1).trans rfl
  have x2 : w2.cell? ⟨b, 2, none⟩ = some (.slice R rn rc) := (H2.out.x.cell 2).trans rfl
  have zr := H2.out.rx.frozen
  have zm := H2.out.rm.frozen
  have lr := H2.out.rx.lt
  have lm := H2.out.rm.lt
  have p0 := H2.out.rx.cell 0
  have p1 := H2.out.rx.cell 1
  have p2 := H2.out.rx.cell 2
  have y0 := H2.out.rm.cell 0
  have y1 := H2.out.rm.cell 1
  have y2 := H2.out.rm.cell 2
  have y3 := H2.out.rm.cell 3
  have y4 := H2.out.rm.cell 4
  have y5 := H2.out.rm.cell 5
  have y6 := H2.out.rm.cell 6
  have y7 := H2.out.rm.cell 7
  have y8 := H2.out.rm.cell 8
  have y9 := H2.out.rm.cell 9
  have y10 := H2.out.rm.cell 10
  have y11 := H2.out.rm.cell 11
  simp only [List.getElem?_toArray, List.getElem?_cons_zero, List.getElem?_cons_succ] at p0 p1 p2 y0 y1 y2 y3 y4 y5 y6 y7 y8 y9 y10 y11
  go_wp2_with fail
  have hbx : Blk (((w2.setCell ⟨b + 2, 0, none⟩ (.slice A an ac)).setCell ⟨b + 2, 1, none⟩ (.slice O on oc)).setCell ⟨b + 2, 2, none⟩ (.slice R rn rc)) (b + 2) 34 (boxX A an ac O on oc R rn rc) := by
    have h2 := ((H2.out.rx.set_ 0 (.slice A an ac)).set_ 1 (.slice O on oc)).set_ 2 (.slice R rn rc)
    simp only [List.setIfInBounds_toArray, List.set_cons_zero, List.set_cons_succ] at h2
    exact h2
  have hbm := lay12c (((H2.out.rm.far (p := ⟨b + 2, 0, none⟩) (show b + 3 ≠ b + 2 by omega) (.slice A an ac)).far (p := ⟨b + 2, 1, none⟩) (show b + 3 ≠ b + 2 by omega) (.slice O on oc)).far (p := ⟨b + 2, 2, none⟩) (show b + 3 ≠ b + 2 by omega) (.slice R rn rc)) (.int .i64 0) (.int .i64 0) (.int .i64 0) (.int .i64 0) (.int .i64 0) (.int .i64 0) (.int .i64 0) (.int .i64 0) (.int .i64 0) (.int .i64 0) (.int .i64 0) (.int .i64 0)
  have hbx2 := ((((((((((((hbx.far (p := ⟨b + 3, 0, none⟩) (show b + 2 ≠ b + 3 by omega) (.int .i64 0)).far (p := ⟨b + 3, 1, none⟩) (show b + 2 ≠ b + 3 by omega) (.int .i64 0)).far (p := ⟨b + 3, 2, none⟩) (show b + 2 ≠ b + 3 by omega) (.int .i64 0)).far (p := ⟨b + 3, 3, none⟩) (show b + 2 ≠ b + 3 by omega) (.int .i64 0)).far (p := ⟨b + 3, 4, none⟩) (show b + 2 ≠ b + 3 by omega) (.int .i64 0)).far (p := ⟨b + 3, 5, none⟩) (show b + 2 ≠ b + 3 by omega) (.int .i64 0)).far (p := ⟨b + 3, 6, none⟩) (show b + 2 ≠ b + 3 by omega) (.int .i64 0)).far (p := ⟨b + 3, 7, none⟩) (show b + 2 ≠ b + 3 by omega) (.int .i64 0)).far (p := ⟨b + 3, 8, none⟩) (show b + 2 ≠ b + 3 by omega) (.int .i64 0)).far (p := ⟨b + 3, 9, none⟩) (show b + 2 ≠ b + 3 by omega) (.int .i64 0)).far (p := ⟨b + 3, 10, none⟩) (show b + 2 ≠ b + 3 by omega) (.int .i64 0)).far (p := ⟨b + 3, 11, none⟩) (show b + 2 ≠ b + 3 by omega) (.int .i64 0))
  have HE := Lib.hid (((((((((((((((H2.out.bel.setCell (p := ⟨b + 2, 0, none⟩) (show w.heap.size ≤ b + 2 by have := H2.out.ge; omega) (.slice A an ac)).setCell (p := ⟨b + 2, 1, none⟩) (show w.heap.size ≤ b + 2 by have := H2.out.ge; omega) (.slice O on oc)).setCell (p := ⟨b + 2, 2, none⟩) (show w.heap.size ≤ b + 2 by have := H2.out.ge; omega) (.slice R rn rc)).setCell (p := ⟨b + 3, 0, none⟩) (show w.heap.size ≤ b + 3 by have := H2.out.ge; omega) (.int .i64 0)).setCell (p := ⟨b + 3, 1, none⟩) (show w.heap.size ≤ b + 3 by have := H2.out.ge; omega) (.int .i64 0)).setCell (p := ⟨b + 3, 2, none⟩) (show w.heap.size ≤ b + 3 by have := H2.out.ge; omega) (.int .i64 0)).setCell (p := ⟨b + 3, 3, none⟩) (show w.heap.size ≤ b + 3 by have := H2.out.ge; omega) (.int .i64 0)).setCell (p := ⟨b + 3, 4, none⟩) (show w.heap.size ≤ b + 3 by have := H2.out.ge; omega) (.int .i64 0)).setCell (p := ⟨b + 3, 5, none⟩) (show w.heap.size ≤ b + 3 by have := H2.out.ge; omega) (.int .i64 0)).setCell (p := ⟨b + 3, 6, none⟩) (show w.heap.size ≤ b + 3 by have := H2.out.ge; omega) (.int .i64 0)).setCell (p := ⟨b + 3, 7, none⟩) (show w.heap.size ≤ b + 3 by have := H2.out.ge; omega) (.int .i64 0)).setCell (p := ⟨b + 3, 8, none⟩) (show w.heap.size ≤ b + 3 by have := H2.out.ge; omega) (.int .i64 0)).setCell (p := ⟨b + 3, 9, none⟩) (show w.heap.size ≤ b + 3 by have := H2.out.ge; omega) (.int .i64 0)).setCell (p := ⟨b + 3, 10, none⟩) (show w.heap.size ≤ b + 3 by have := H2.out.ge; omega) (.int .i64 0)).setCell (p := ⟨b + 3, 11, none⟩) (show w.heap.size ≤ b + 3 by have := H2.out.ge; omega) (.int .i64 0))
  clear hbx x0 x1 x2 lx zr zm lr lm p0 p1 p2 y0 y1 y2 y3 y4 y5 y6 y7 y8 y9 y10 y11
  generalize (((((((((((((((w2.setCell ⟨b + 2, 0, none⟩ (.slice A an ac)).setCell ⟨b + 2, 1, none⟩ (.slice O on oc)).setCell ⟨b + 2, 2, none⟩ (.slice R rn rc)).setCell ⟨b + 3, 0, none⟩ (.int .i64 0)).setCell ⟨b + 3, 1, none⟩ (.int .i64 0)).setCell ⟨b + 3, 2, none⟩ (.int .i64 0)).setCell ⟨b + 3, 3, none⟩ (.int .i64 0)).setCell ⟨b + 3, 4, none⟩ (.int .i64 0)).setCell ⟨b + 3, 5, none⟩ (.int .i64 0)).setCell ⟨b + 3, 6, none⟩ (.int .i64 0)).setCell ⟨b + 3, 7, none⟩ (.int .i64 0)).setCell ⟨b + 3, 8, none⟩ (.int .i64 0)).setCell ⟨b + 3, 9, none⟩ (.int .i64 0)).setCell ⟨b + 3, 10, none⟩ (.int .i64 0)).setCell ⟨b + 3, 11, none⟩ (.int .i64 0)) = wz at hbm hbx2 HE ⊢
  have d0 := hbm.cell 0
  have d1 := hbm.cell 1
  have d2 := hbm.cell 2
  have d3 := hbm.cell 3
  have d4 := hbm.cell 4
  have d5 := hbm.cell 5
  have d6 := hbm.cell 6
  have d7 := hbm.cell 7
  have d8 := hbm.cell 8
  have d9 := hbm.cell 9
  have d10 := hbm.cell 10
  have d11 := hbm.cell 11
  have e0 := hbx2.cell 0
  have e1 := hbx2.cell 1
  have e2 := hbx2.cell 2
  simp only [List.getElem?_toArray, List.getElem?_cons_zero, List.getElem?_cons_succ] at e0 e1 e2 d0 d1 d2 d3 d4 d5 d6 d7 d8 d9 d10 d11
  try go_wp2_with fail
  refine bodyPost_ret (v := .tuple #[.agg (boxX A an ac O on oc R rn rc), aggMsg zeroLMsg, .int .i64 1]) (by simp [results, Tryd.results10, go_sem, zeroLMsg, boxX, e0, e1, e2, d0, d1, d2, d3, d4, d5, d6, d7, d8, d9, d10, d11]) rfl ⟨rfl, HE.out⟩
end Go.Proofs.YthhnocnkicoimaaDoor
namespace Go.Proofs.YthhnocnkicoimaaDoor
open Go.RowKit

/-- The three boxes of the document's Hear. -/
structure XH (w0 wr : World) (b : Nat) (m : LMsg) (cs : Array Value) : Prop where
  x : Blk wr b 34 cs
  msg : Blk wr (b + 1) 38 (boxMsg m)
  rx : Blk wr (b + 1 + 1) 34 #[.slice none 0 0, .slice none 0 0, .slice none 0 0]
  ge : w0.heap.size ≤ b
  bel : Below w0.heap.size w0 wr
theorem XH.below {w0 wr w' : World} {b : Nat} {m : LMsg} {cs : Array Value} (h : XH w0 wr b m cs) (hb : Below wr.heap.size wr w') : XH w0 w' b m cs :=
  ⟨h.x.below hb h.x.lt, h.msg.below hb h.msg.lt, h.rx.below hb h.rx.lt, h.ge, h.bel.trans (hb.mono h.bel.size)⟩
theorem XH.start (A : Option Addr) (an ac : Nat) (O : Option Addr) (on oc : Nat) (R : Option Addr) (rn rc : Nat) (m : LMsg) (w : World) : XH w (((w.alloc (.cells (boxX A an ac O on oc R rn rc) 34)).alloc (.cells (boxMsg m) 38)).alloc (.cells #[.slice none 0 0, .slice none 0 0, .slice none 0 0] 34)) w.heap.size m (boxX A an ac O on oc R rn rc) := by
  have s1 : (w.alloc (.cells (boxX A an ac O on oc R rn rc) 34)).heap.size = w.heap.size + 1 := by simp
  have s2 : ((w.alloc (.cells (boxX A an ac O on oc R rn rc) 34)).alloc (.cells (boxMsg m) 38)).heap.size = w.heap.size + 1 + 1 := by simp
  have h2 := Blk.new (w.alloc (.cells (boxX A an ac O on oc R rn rc) 34)) 38 (boxMsg m)
  have h3 := Blk.new ((w.alloc (.cells (boxX A an ac O on oc R rn rc) 34)).alloc (.cells (boxMsg m) 38)) 34 #[.slice none 0 0, .slice none 0 0, .slice none 0 0]
  rw [s1] at h2
  rw [s2] at h3
  exact ⟨((Blk.new w _ _).alloc _).alloc _, h2.alloc _, h3, Nat.le_refl _, (((Below.refl _ _).alloc (Nat.le_refl _) _).alloc (by simp) _).alloc (by simp; omega) _⟩
set_option maxRecDepth 100000 in
set_option maxHeartbeats 6400000 in
theorem refHear_no (A : Option Addr) (an ac : Nat) (O : Option Addr) (on oc : Nat) (R : Option Addr) (rn rc : Nat) (asked : List Int) (m : LMsg) (w : World) (hA : RdI w A an asked) (han : an ≤ 1000) (hno : checkM m ≠ 0 ∨ m.kind ≠ 8 ∨ m.job ∉ asked) :
    Calls Tryd.prog 13 #[.agg (boxX A an ac O on oc R rn rc), aggMsg m] w fun e w' => e = .returned (.tuple #[.agg (boxX A an ac O on oc R rn rc), .bool false]) ∧ Below w.heap.size w w' := by
  have HAS := Lib.hid (And.intro hA han)
  obtain ⟨ck, hck0⟩ : ∃ ck, checkM m = ck := ⟨_, rfl⟩
  rw [hck0] at hno
  have HCK := Lib.hid hck0
  have H0 := Lib.hid (XH.start A an ac O on oc R rn rc m w)
  clear hA han hck0
  go_enter Tryd.func13, Tryd.ntmps13
  go_upto_region 1 with fail
  generalize (((w.alloc (.cells (boxX A an ac O on oc R rn rc) 34)).alloc (.cells (boxMsg m) 38)).alloc (.cells #[.slice none 0 0, .slice none 0 0, .slice none 0 0] 34)) = w1 at H0 ⊢
  obtain ⟨b, hb⟩ : ∃ b, w.heap.size = b := ⟨_, rfl⟩
  have HI : Hid (XH w w1 b m (boxX A an ac O on oc R rn rc)) := Lib.hid (by rw [← hb]; exact H0.out)
  try simp only [hb]
  clear hb H0
  by_cases hc0 : ck = 0
  · have hck : (ck != 0) = false := by simp [hc0]
    by_cases hk8 : m.kind = 8
    · have hkd : (m.kind != 8) = false := by simp [hk8]
      have hin : m.job ∉ asked := by
        rcases hno with h | h | h
        · exact absurd hc0 h
        · exact absurd hk8 h
        · exact h
      clear hno hc0 hk8
      refine wp_region_autoL 7 [.o (eqV (aggMsg m)), .o (eqV (.int .i64 ck)), .b false, .b false, .o (eqV (.pointer (some ⟨b + 1, 0, none⟩))), .o (eqV (.int .i64 m.kind)), .b false, .b false, .b false, .o (eqV (.pointer (some ⟨b, 0, none⟩))), .o (eqV (.slice A an ac)), .o (eqV (.pointer (some ⟨b + 1, 5, none⟩))), .o (eqV (.int .i64 m.job)), .b false, .b true, .b true] [false, false, false, true, false, false, false, true, true, false, false, false, false, false, true, true] (by kernel_rfl) rfl (by kernel_rfl) (by kernel_rfl) ⟨?_, ?_, ?_, ?_, ?_, ?_, ?_, ?_, ?_, ?_, ?_, trivial⟩ ?fin
      · intro a w hb hoth hdep
        refine step_on (want_none rfl) ?_
        have e3 : a.tmps[3]? = some (.pointer (some ⟨b + 1, 0, none⟩)) := ev_other hoth 3 (by kernel_rfl) rfl
        obtain ⟨c0, c1, c2, c3, c4, c5, c6, c7, c8, c9, c10, c11⟩ := msgCells (HI.out.msg.below hb HI.out.msg.lt)
        refine step_val (x := aggMsg m) ?_ rfl
        simp [go_sem, e3, c0, c1, c2, c3, c4, c5, c6, c7, c8, c9, c10, c11, aggMsg]
      · intro a w hb hoth hdep
        refine step_on (want_none rfl) ?_
        obtain ⟨v0, e7, hv0⟩ := ev_dep hdep 0 7 (by kernel_rfl) (by kernel_rfl)
        replace hv0 : v0 = aggMsg m := hv0
        subst hv0
        refine step_call (f := 43) (args := #[aggMsg m]) ?_ ?_
        · simp [go_sem, e7]
        · have hcx := refCheck_t m w
          rw [HCK.out] at hcx
          (with_reducible refine hcx.mono ?_)
          clear hcx
          rintro e w2 ⟨rfl, hB⟩
          exact ⟨_, rfl, rfl, hB⟩
      · intro a w hb hoth hdep
        refine step_on (want_none rfl) ?_
        obtain ⟨v1, e8, hv1⟩ := ev_dep hdep 1 8 (by kernel_rfl) (by kernel_rfl)
        replace hv1 : v1 = .int .i64 ck := hv1
        subst hv1
        refine step_val (x := .bool false) ?_ rfl
        simp [go_sem, e8, hck]
      · intro a w hb hoth hdep
        refine step_on ((want_dep hdep 3 10 false rfl (by kernel_rfl) (by kernel_rfl) (fun v h => h)).trans rfl) ?_
        have e3 : a.tmps[3]? = some (.pointer (some ⟨b + 1, 0, none⟩)) := ev_other hoth 3 (by kernel_rfl) rfl
        refine step_val (x := .pointer (some ⟨b + 1, 0, none⟩)) ?_ rfl
        simp [go_sem, e3]
      · intro a w hb hoth hdep
        refine step_on ((want_dep hdep 3 10 false rfl (by kernel_rfl) (by kernel_rfl) (fun v h => h)).trans rfl) ?_
        obtain ⟨v4, e11, hv4⟩ := ev_dep hdep 4 11 (by kernel_rfl) (by kernel_rfl)
        replace hv4 : v4 = .pointer (some ⟨b + 1, 0, none⟩) := hv4
        subst hv4
        have c0 : w.cell? ⟨b + 1, 0, none⟩ = some (.int .i64 m.kind) := ((HI.out.msg.below hb HI.out.msg.lt).cell 0).trans rfl
        refine step_val (x := .int .i64 m.kind) ?_ rfl
        simp [go_sem, e11, c0]
      · intro a w hb hoth hdep
        refine step_on ((want_dep hdep 3 10 false rfl (by kernel_rfl) (by kernel_rfl) (fun v h => h)).trans rfl) ?_
        obtain ⟨v5, e12, hv5⟩ := ev_dep hdep 5 12 (by kernel_rfl) (by kernel_rfl)
        replace hv5 : v5 = .int .i64 m.kind := hv5
        subst hv5
        refine step_val (x := .bool false) ?_ rfl
        simp [go_sem, e12, hkd]
      · intro a w hb hoth hdep
        refine step_on ((want_dep hdep 8 15 false rfl (by kernel_rfl) (by kernel_rfl) (fun v h => h)).trans rfl) ?_
        have e2 : a.tmps[2]? = some (.pointer (some ⟨b, 0, none⟩)) := ev_other hoth 2 (by kernel_rfl) rfl
        refine step_val (x := .pointer (some ⟨b, 0, none⟩)) ?_ rfl
        simp [go_sem, e2]
      · intro a w hb hoth hdep
        refine step_on ((want_dep hdep 8 15 false rfl (by kernel_rfl) (by kernel_rfl) (fun v h => h)).trans rfl) ?_
        obtain ⟨v9, e16, hv9⟩ := ev_dep hdep 9 16 (by kernel_rfl) (by kernel_rfl)
        replace hv9 : v9 = .pointer (some ⟨b, 0, none⟩) := hv9
        subst hv9
        have x0 : w.cell? ⟨b, 0, none⟩ = some (.slice A an ac) := ((HI.out.x.below hb HI.out.x.lt).cell 0).trans rfl
        refine step_val (x := .slice A an ac) ?_ rfl
        simp [go_sem, e16, x0]
      · intro a w hb hoth hdep
        refine step_on ((want_dep hdep 8 15 false rfl (by kernel_rfl) (by kernel_rfl) (fun v h => h)).trans rfl) ?_
        have e3 : a.tmps[3]? = some (.pointer (some ⟨b + 1, 0, none⟩)) := ev_other hoth 3 (by kernel_rfl) rfl
        refine step_val (x := .pointer (some ⟨b + 1, 5, none⟩)) ?_ rfl
        simp [go_sem, e3]
      · intro a w hb hoth hdep
        refine step_on ((want_dep hdep 8 15 false rfl (by kernel_rfl) (by kernel_rfl) (fun v h => h)).trans rfl) ?_
        obtain ⟨v11, e18, hv11⟩ := ev_dep hdep 11 18 (by kernel_rfl) (by kernel_rfl)
        replace hv11 : v11 = .pointer (some ⟨b + 1, 5, none⟩) := hv11
        subst hv11
        have c5 : w.cell? ⟨b + 1, 5, none⟩ = some (.int .i64 m.job) := ((HI.out.msg.below hb HI.out.msg.lt).cell 5).trans rfl
        refine step_val (x := .int .i64 m.job) ?_ rfl
        simp [go_sem, e18, c5]
      · intro a w hb hoth hdep
        refine step_on ((want_dep hdep 8 15 false rfl (by kernel_rfl) (by kernel_rfl) (fun v h => h)).trans rfl) ?_
        obtain ⟨v10, e17, hv10⟩ := ev_dep hdep 10 17 (by kernel_rfl) (by kernel_rfl)
        replace hv10 : v10 = .slice A an ac := hv10
        subst hv10
        obtain ⟨v12, e19, hv12⟩ := ev_dep hdep 12 19 (by kernel_rfl) (by kernel_rfl)
        replace hv12 : v12 = .int .i64 m.job := hv12
        subst hv12
        refine step_call (f := 21) (args := #[.slice A an ac, .int .i64 m.job]) ?_ ?_
        · simp [go_sem, e17, e19]
        · have hcx := has12 A an ac asked m.job w ((HAS.out.1.below HI.out.bel).below hb) (by have := HAS.out.2; omega)
          rw [decide_eq_false hin] at hcx
          (with_reducible refine hcx.mono ?_)
          clear hcx
          rintro e w2 ⟨rfl, rfl⟩
          exact ⟨_, rfl, rfl, Below.refl _ _⟩
      case fin =>
        intro wz hbz
        iterate 16 (rintro _ rfl)
        refine FinC.nil ?_
        have HZ := Lib.hid (HI.out.below hbz)
        clear hbz
        obtain ⟨x0, x1, x2, lx⟩ : wz.cell? ⟨b, 0, none⟩ = some (.slice A an ac) ∧ wz.cell? ⟨b, 1, none⟩ = some (.slice O on oc) ∧ wz.cell? ⟨b, 2, none⟩ = some (.slice R rn rc) ∧ b < wz.heap.size := ⟨(HZ.out.x.cell 0).trans rfl, (HZ.out.x.cell 1).trans rfl, (HZ.out.x.cell 2).trans rfl, HZ.out.x.lt⟩
        have zr := HZ.out.rx.frozen
        have lr := HZ.out.rx.lt
        have p0 := HZ.out.rx.cell 0
        have p1 := HZ.out.rx.cell 1
        have p2 := HZ.out.rx.cell 2
        simp only [List.getElem?_toArray, List.getElem?_cons_zero, List.getElem?_cons_succ] at p0 p1 p2
        go_wp2_with fail
        have HE := Lib.hid (((HZ.out.bel.setCell (p := ⟨b + 1 + 1, 0, none⟩) (show w.heap.size ≤ b + 1 + 1 by have := HZ.out.ge; omega) (.slice A an ac)).setCell (p := ⟨b + 1 + 1, 1, none⟩) (show w.heap.size ≤ b + 1 + 1 by have := HZ.out.ge; omega) (.slice O on oc)).setCell (p := ⟨b + 1 + 1, 2, none⟩) (show w.heap.size ≤ b + 1 + 1 by have := HZ.out.ge; omega) (.slice R rn rc))
        have hbx : Blk (((wz.setCell ⟨b + 1 + 1, 0, none⟩ (.slice A an ac)).setCell ⟨b + 1 + 1, 1, none⟩ (.slice O on oc)).setCell ⟨b + 1 + 1, 2, none⟩ (.slice R rn rc)) (b + 1 + 1) 34 (boxX A an ac O on oc R rn rc) := by
          have h2 := ((HZ.out.rx.set_ 0 (.slice A an ac)).set_ 1 (.slice O on oc)).set_ 2 (.slice R rn rc)
          simp only [List.setIfInBounds_toArray, List.set_cons_zero, List.set_cons_succ] at h2
          exact h2
        clear x0 x1 x2 lx zr lr p0 p1 p2
        generalize (((wz.setCell ⟨b + 1 + 1, 0, none⟩ (.slice A an ac)).setCell ⟨b + 1 + 1, 1, none⟩ (.slice O on oc)).setCell ⟨b + 1 + 1, 2, none⟩ (.slice R rn rc)) = wy at HE hbx ⊢
        have e0 := hbx.cell 0
        have e1 := hbx.cell 1
        have e2 := hbx.cell 2
        simp only [List.getElem?_toArray, List.getElem?_cons_zero, List.getElem?_cons_succ] at e0 e1 e2
        try go_wp2_with fail
        refine bodyPost_ret (v := .tuple #[.agg (boxX A an ac O on oc R rn rc), .bool false]) (by simp [results, Tryd.results13, go_sem, boxX, e0, e1, e2]) rfl ⟨rfl, HE.out⟩
    · have hkd : (m.kind != 8) = true := by simp [hk8]
      clear hno hc0 hk8
      refine wp_region_autoL 7 [.o (eqV (aggMsg m)), .o (eqV (.int .i64 ck)), .b false, .b false, .o (eqV (.pointer (some ⟨b + 1, 0, none⟩))), .o (eqV (.int .i64 m.kind)), .b true, .b true, .b true, .u, .u, .u, .u, .u, .u, .b true] [false, false, false, true, false, false, false, true, true, true, true, true, true, true, true, true] (by kernel_rfl) rfl (by kernel_rfl) (by kernel_rfl) ⟨?_, ?_, ?_, ?_, ?_, ?_, trivial⟩ ?fin
      · intro a w hb hoth hdep
        refine step_on (want_none rfl) ?_
        have e3 : a.tmps[3]? = some (.pointer (some ⟨b + 1, 0, none⟩)) := ev_other hoth 3 (by kernel_rfl) rfl
        obtain ⟨c0, c1, c2, c3, c4, c5, c6, c7, c8, c9, c10, c11⟩ := msgCells (HI.out.msg.below hb HI.out.msg.lt)
        refine step_val (x := aggMsg m) ?_ rfl
        simp [go_sem, e3, c0, c1, c2, c3, c4, c5, c6, c7, c8, c9, c10, c11, aggMsg]
      · intro a w hb hoth hdep
        refine step_on (want_none rfl) ?_
        obtain ⟨v0, e7, hv0⟩ := ev_dep hdep 0 7 (by kernel_rfl) (by kernel_rfl)
        replace hv0 : v0 = aggMsg m := hv0
        subst hv0
        refine step_call (f := 43) (args := #[aggMsg m]) ?_ ?_
        · simp [go_sem, e7]
        · have hcx := refCheck_t m w
          rw [HCK.out] at hcx
          (with_reducible refine hcx.mono ?_)
          clear hcx
          rintro e w2 ⟨rfl, hB⟩
          exact ⟨_, rfl, rfl, hB⟩
      · intro a w hb hoth hdep
        refine step_on (want_none rfl) ?_
        obtain ⟨v1, e8, hv1⟩ := ev_dep hdep 1 8 (by kernel_rfl) (by kernel_rfl)
        replace hv1 : v1 = .int .i64 ck := hv1
        subst hv1
        refine step_val (x := .bool false) ?_ rfl
        simp [go_sem, e8, hck]
      · intro a w hb hoth hdep
        refine step_on ((want_dep hdep 3 10 false rfl (by kernel_rfl) (by kernel_rfl) (fun v h => h)).trans rfl) ?_
        have e3 : a.tmps[3]? = some (.pointer (some ⟨b + 1, 0, none⟩)) := ev_other hoth 3 (by kernel_rfl) rfl
        refine step_val (x := .pointer (some ⟨b + 1, 0, none⟩)) ?_ rfl
        simp [go_sem, e3]
      · intro a w hb hoth hdep
        refine step_on ((want_dep hdep 3 10 false rfl (by kernel_rfl) (by kernel_rfl) (fun v h => h)).trans rfl) ?_
        obtain ⟨v4, e11, hv4⟩ := ev_dep hdep 4 11 (by kernel_rfl) (by kernel_rfl)
        replace hv4 : v4 = .pointer (some ⟨b + 1, 0, none⟩) := hv4
        subst hv4
        have c0 : w.cell? ⟨b + 1, 0, none⟩ = some (.int .i64 m.kind) := ((HI.out.msg.below hb HI.out.msg.lt).cell 0).trans rfl
        refine step_val (x := .int .i64 m.kind) ?_ rfl
        simp [go_sem, e11, c0]
      · intro a w hb hoth hdep
        refine step_on ((want_dep hdep 3 10 false rfl (by kernel_rfl) (by kernel_rfl) (fun v h => h)).trans rfl) ?_
        obtain ⟨v5, e12, hv5⟩ := ev_dep hdep 5 12 (by kernel_rfl) (by kernel_rfl)
        replace hv5 : v5 = .int .i64 m.kind := hv5
        subst hv5
        refine step_val (x := .bool true) ?_ rfl
        simp [go_sem, e12, hkd]
      case fin =>
        intro wz hbz
        iterate 16 (rintro _ rfl)
        refine FinC.nil ?_
        have HZ := Lib.hid (HI.out.below hbz)
        clear hbz
        obtain ⟨x0, x1, x2, lx⟩ : wz.cell? ⟨b, 0, none⟩ = some (.slice A an ac) ∧ wz.cell? ⟨b, 1, none⟩ = some (.slice O on oc) ∧ wz.cell? ⟨b, 2, none⟩ = some (.slice R rn rc) ∧ b < wz.heap.size := ⟨(HZ.out.x.cell 0).trans rfl, (HZ.out.x.cell 1).trans rfl, (HZ.out.x.cell 2).trans rfl, HZ.out.x.lt⟩
        have zr := HZ.out.rx.frozen
        have lr := HZ.out.rx.lt
        have p0 := HZ.out.rx.cell 0
        have p1 := HZ.out.rx.cell 1
        have p2 := HZ.out.rx.cell 2
        simp only [List.getElem?_toArray, List.getElem?_cons_zero, List.getElem?_cons_succ] at p0 p1 p2
        go_wp2_with fail
        have HE := Lib.hid (((HZ.out.bel.setCell (p := ⟨b + 1 + 1, 0, none⟩) (show w.heap.size ≤ b + 1 + 1 by have := HZ.out.ge; omega) (.slice A an ac)).setCell (p := ⟨b + 1 + 1, 1, none⟩) (show w.heap.size ≤ b + 1 + 1 by have := HZ.out.ge; omega) (.slice O on oc)).setCell (p := ⟨b + 1 + 1, 2, none⟩) (show w.heap.size ≤ b + 1 + 1 by have := HZ.out.ge; omega) (.slice R rn rc))
        have hbx : Blk (((wz.setCell ⟨b + 1 + 1, 0, none⟩ (.slice A an ac)).setCell ⟨b + 1 + 1, 1, none⟩ (.slice O on oc)).setCell ⟨b + 1 + 1, 2, none⟩ (.slice R rn rc)) (b + 1 + 1) 34 (boxX A an ac O on oc R rn rc) := by
          have h2 := ((HZ.out.rx.set_ 0 (.slice A an ac)).set_ 1 (.slice O on oc)).set_ 2 (.slice R rn rc)
          simp only [List.setIfInBounds_toArray, List.set_cons_zero, List.set_cons_succ] at h2
          exact h2
        clear x0 x1 x2 lx zr lr p0 p1 p2
        generalize (((wz.setCell ⟨b + 1 + 1, 0, none⟩ (.slice A an ac)).setCell ⟨b + 1 + 1, 1, none⟩ (.slice O on oc)).setCell ⟨b + 1 + 1, 2, none⟩ (.slice R rn rc)) = wy at HE hbx ⊢
        have e0 := hbx.cell 0
        have e1 := hbx.cell 1
        have e2 := hbx.cell 2
        simp only [List.getElem?_toArray, List.getElem?_cons_zero, List.getElem?_cons_succ] at e0 e1 e2
        try go_wp2_with fail
        refine bodyPost_ret (v := .tuple #[.agg (boxX A an ac O on oc R rn rc), .bool false]) (by simp [results, Tryd.results13, go_sem, boxX, e0, e1, e2]) rfl ⟨rfl, HE.out⟩
  · have hck : (ck != 0) = true := by simp [hc0]
    clear hno hc0
    refine wp_region_autoL 7 [.o (eqV (aggMsg m)), .o (eqV (.int .i64 ck)), .b true, .b true, .u, .u, .u, .b true, .b true, .u, .u, .u, .u, .u, .u, .b true] [false, false, false, true, true, true, true, true, true, true, true, true, true, true, true, true] (by kernel_rfl) rfl (by kernel_rfl) (by kernel_rfl) ⟨?_, ?_, ?_, trivial⟩ ?fin
    · intro a w hb hoth hdep
      refine step_on (want_none rfl) ?_
      have e3 : a.tmps[3]? = some (.pointer (some ⟨b + 1, 0, none⟩)) := ev_other hoth 3 (by kernel_rfl) rfl
      obtain ⟨c0, c1, c2, c3, c4, c5, c6, c7, c8, c9, c10, c11⟩ := msgCells (HI.out.msg.below hb HI.out.msg.lt)
      refine step_val (x := aggMsg m) ?_ rfl
      simp [go_sem, e3, c0, c1, c2, c3, c4, c5, c6, c7, c8, c9, c10, c11, aggMsg]
    · intro a w hb hoth hdep
      refine step_on (want_none rfl) ?_
      obtain ⟨v0, e7, hv0⟩ := ev_dep hdep 0 7 (by kernel_rfl) (by kernel_rfl)
      replace hv0 : v0 = aggMsg m := hv0
      subst hv0
      refine step_call (f := 43) (args := #[aggMsg m]) ?_ ?_
      · simp [go_sem, e7]
      · have hcx := refCheck_t m w
        rw [HCK.out] at hcx
        (with_reducible refine hcx.mono ?_)
        clear hcx
        rintro e w2 ⟨rfl, hB⟩
        exact ⟨_, rfl, rfl, hB⟩
    · intro a w hb hoth hdep
      refine step_on (want_none rfl) ?_
      obtain ⟨v1, e8, hv1⟩ := ev_dep hdep 1 8 (by kernel_rfl) (by kernel_rfl)
      replace hv1 : v1 = .int .i64 ck := hv1
      subst hv1
      refine step_val (x := .bool true) ?_ rfl
      simp [go_sem, e8, hck]
    case fin =>
      intro wz hbz
      iterate 16 (rintro _ rfl)
      refine FinC.nil ?_
      have HZ := Lib.hid (HI.out.below hbz)
      clear hbz
      obtain ⟨x0, x1, x2, lx⟩ : wz.cell? ⟨b, 0, none⟩ = some (.slice A an ac) ∧ wz.cell? ⟨b, 1, none⟩ = some (.slice O on oc) ∧ wz.cell? ⟨b, 2, none⟩ = some (.slice R rn rc) ∧ b < wz.heap.size := ⟨(HZ.out.x.cell 0).trans rfl, (HZ.out.x.cell 1).trans rfl, (HZ.out.x.cell 2).trans rfl, HZ.out.x.lt⟩
      have zr := HZ.out.rx.frozen
      have lr := HZ.out.rx.lt
      have p0 := HZ.out.rx.cell 0
      have p1 := HZ.out.rx.cell 1
      have p2 := HZ.out.rx.cell 2
      simp only [List.getElem?_toArray, List.getElem?_cons_zero, List.getElem?_cons_succ] at p0 p1 p2
      go_wp2_with fail
      have HE := Lib.hid (((HZ.out.bel.setCell (p := ⟨b + 1 + 1, 0, none⟩) (show w.heap.size ≤ b + 1 + 1 by have := HZ.out.ge; omega) (.slice A an ac)).setCell (p := ⟨b + 1 + 1, 1, none⟩) (show w.heap.size ≤ b + 1 + 1 by have := HZ.out.ge; omega) (.slice O on oc)).setCell (p := ⟨b + 1 + 1, 2, none⟩) (show w.heap.size ≤ b + 1 + 1 by have := HZ.out.ge; omega) (.slice R rn rc))
      have hbx : Blk (((wz.setCell ⟨b + 1 + 1, 0, none⟩ (.slice A an ac)).setCell ⟨b + 1 + 1, 1, none⟩ (.slice O on oc)).setCell ⟨b + 1 + 1, 2, none⟩ (.slice R rn rc)) (b + 1 + 1) 34 (boxX A an ac O on oc R rn rc) := by
        have h2 := ((HZ.out.rx.set_ 0 (.slice A an ac)).set_ 1 (.slice O on oc)).set_ 2 (.slice R rn rc)
        simp only [List.setIfInBounds_toArray, List.set_cons_zero, List.set_cons_succ] at h2
        exact h2
      clear x0 x1 x2 lx zr lr p0 p1 p2
      generalize (((wz.setCell ⟨b + 1 + 1, 0, none⟩ (.slice A an ac)).setCell ⟨b + 1 + 1, 1, none⟩ (.slice O on oc)).setCell ⟨b + 1 + 1, 2, none⟩ (.slice R rn rc)) = wy at HE hbx ⊢
      have e0 := hbx.cell 0
      have e1 := hbx.cell 1
      have e2 := hbx.cell 2
      simp only [List.getElem?_toArray, List.getElem?_cons_zero, List.getElem?_cons_succ] at e0 e1 e2
      try go_wp2_with fail
      refine bodyPost_ret (v := .tuple #[.agg (boxX A an ac O on oc R rn rc), .bool false]) (by simp [results, Tryd.results13, go_sem, boxX, e0, e1, e2]) rfl ⟨rfl, HE.out⟩
end Go.Proofs.YthhnocnkicoimaaDoor
