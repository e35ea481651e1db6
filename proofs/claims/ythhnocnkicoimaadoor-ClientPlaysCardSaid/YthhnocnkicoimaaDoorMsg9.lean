/-
  LAYER 35 (msg): the document's Made.
-/
import Derived.Test.YthhnocnkicoimaaDoorMsg8
import Derived.Test.YthhnocnkicoimaaDoorMsg3
import Derived.BigRegion
set_option linter.unusedVariables false
set_option linter.unusedSimpArgs false
namespace Go.Proofs.YthhnocnkicoimaaDoor
open Go.RowKit

/-- A slice of numbers that came in, cell by cell. -/
theorem RdI.cells_ {w : World} {ab ao n : Nat} {l : List Int} (h : RdI w (some ⟨ab, ao, none⟩) n l) {k : Nat} {x : Int} (hx : l[k]? = some x) : ab < w.heap.size ∧ w.cell? ⟨ab, ao + k, none⟩ = some (.int .i64 x) := by
  have hk : k < n := by have := (List.getElem?_eq_some_iff.1 hx).1; have := h.len; omega
  obtain ⟨b, o, e, hl, hc⟩ := h.cells (by omega)
  injection e with e
  injection e with e1 e2
  subst e1 e2
  refine ⟨hl, ?_⟩
  have := hc k x hx 0 _ rfl
  simpa using this
structure MI (w0 wr : World) (b8 b9 : Nat) (m : LMsg) (L : List Nat) : Prop where
  m8 : Blk wr b8 38 #[.int .i64 0, .int .i64 0, .int .i64 0, .int .i64 0, .int .i64 0, .int .i64 0, .int .i64 0, .int .i64 0, .int .i64 0, .int .i64 0, .int .i64 0, .int .i64 0]
  m9 : Blk wr b9 38 (boxMsg (keepM m L))
  ne : b8 ≠ b9
  g8 : w0.heap.size ≤ b8
  g9 : w0.heap.size ≤ b9
  bel : Below w0.heap.size w0 wr
theorem MI.step {w0 wr : World} {b8 b9 : Nat} {m : LMsg} {L : List Nat} (h : MI w0 wr b8 b9 m L) (o : Nat) (v : Int) (h3 : 3 ≤ o) (h12 : o < 12) (hv : (intsM m)[o]? = some v) (L' : List Nat) (hL : L' = L ++ [o]) : MI w0 (wr.setCell ⟨b9, o, none⟩ (.int .i64 v)) b8 b9 m L' := by
  subst hL
  refine ⟨h.m8.far (p := ⟨b9, o, none⟩) h.ne _, ?_, h.ne, h.g8, h.g9, h.bel.setCell (p := ⟨b9, o, none⟩) h.g9 _⟩
  rw [← keepM_set m L o v h3 h12 hv]
  exact h.m9.set_ o _
set_option maxRecDepth 100000 in
set_option maxHeartbeats 6400000 in
theorem made_k1 (m : LMsg) (hk : m.kind = 1) (A : Option Addr) (c : Nat) (w : World) (h : RdI w A 5 [m.inc, m.tick, m.res.a, m.res.b, m.res.c]) : Calls Tryd.prog 96 #[.int .i64 1, .int .i64 m.frm, .int .i64 m.to_, .slice A 5 c] w fun e w' => e = .returned (aggMsg (keepM m [4, 6, 9, 10, 11])) ∧ Below w.heap.size w w' := by
  obtain ⟨ab, ao, rfl⟩ : ∃ ab ao, A = some ⟨ab, ao, none⟩ := by
    obtain ⟨b, o, _, e, _⟩ := RdI.at_ h (k := 0) (by omega)
    exact ⟨b, o, e⟩
  obtain ⟨hla, q0⟩ := h.cells_ (k := 0) (x := m.inc) rfl
  obtain ⟨hla1, q1⟩ := h.cells_ (k := 1) (x := m.tick) rfl
  obtain ⟨hla2, q2⟩ := h.cells_ (k := 2) (x := m.res.a) rfl
  obtain ⟨hla3, q3⟩ := h.cells_ (k := 3) (x := m.res.b) rfl
  obtain ⟨hla4, q4⟩ := h.cells_ (k := 4) (x := m.res.c) rfl
  simp only [Nat.add_zero] at q0
  have HQ := Lib.hid (And.intro hla (And.intro q0 (And.intro q1 (And.intro q2 (And.intro q3 (And.intro q4 (trivial)))))))
  clear h hla hla1 hla2 hla3 hla4 q0 q1 q2 q3 q4
  have hs1 : (w.alloc (.cells #[.int .i64 0, .int .i64 0, .int .i64 0, .int .i64 0, .int .i64 0, .int .i64 0, .int .i64 0, .int .i64 0, .int .i64 0, .int .i64 0, .int .i64 0, .int .i64 0] 38)).heap.size = w.heap.size + 1 := by simp
  have h8 := (Blk.new w 38 #[.int .i64 0, .int .i64 0, .int .i64 0, .int .i64 0, .int .i64 0, .int .i64 0, .int .i64 0, .int .i64 0, .int .i64 0, .int .i64 0, .int .i64 0, .int .i64 0]).alloc (.cells #[.int .i64 1, .int .i64 m.frm, .int .i64 m.to_, .int .i64 0, .int .i64 0, .int .i64 0, .int .i64 0, .int .i64 0, .int .i64 0, .int .i64 0, .int .i64 0, .int .i64 0] 38)
  have h9 := Blk.new (w.alloc (.cells #[.int .i64 0, .int .i64 0, .int .i64 0, .int .i64 0, .int .i64 0, .int .i64 0, .int .i64 0, .int .i64 0, .int .i64 0, .int .i64 0, .int .i64 0, .int .i64 0] 38)) 38 #[.int .i64 1, .int .i64 m.frm, .int .i64 m.to_, .int .i64 0, .int .i64 0, .int .i64 0, .int .i64 0, .int .i64 0, .int .i64 0, .int .i64 0, .int .i64 0, .int .i64 0]
  rw [hs1] at h9
  have hB : Below w.heap.size w ((w.alloc (.cells #[.int .i64 0, .int .i64 0, .int .i64 0, .int .i64 0, .int .i64 0, .int .i64 0, .int .i64 0, .int .i64 0, .int .i64 0, .int .i64 0, .int .i64 0, .int .i64 0] 38)).alloc (.cells #[.int .i64 1, .int .i64 m.frm, .int .i64 m.to_, .int .i64 0, .int .i64 0, .int .i64 0, .int .i64 0, .int .i64 0, .int .i64 0, .int .i64 0, .int .i64 0, .int .i64 0] 38)) := ((Below.refl _ _).alloc (Nat.le_refl _) _).alloc (by simp) _
  have hM : MI w ((w.alloc (.cells #[.int .i64 0, .int .i64 0, .int .i64 0, .int .i64 0, .int .i64 0, .int .i64 0, .int .i64 0, .int .i64 0, .int .i64 0, .int .i64 0, .int .i64 0, .int .i64 0] 38)).alloc (.cells #[.int .i64 1, .int .i64 m.frm, .int .i64 m.to_, .int .i64 0, .int .i64 0, .int .i64 0, .int .i64 0, .int .i64 0, .int .i64 0, .int .i64 0, .int .i64 0, .int .i64 0] 38)) w.heap.size (w.heap.size + 1) m [] := ⟨h8, by rw [keepM_nil, hk]; exact h9, by omega, by omega, by omega, hB⟩
  have H0 := Lib.hid hM
  have HK := Lib.hid hk
  clear hs1 h8 h9 hB hM hk
  go_enter Tryd.func96, Tryd.ntmps96
  go_wp2_with fail
  generalize (w.alloc (.cells #[.int .i64 0, .int .i64 0, .int .i64 0, .int .i64 0, .int .i64 0, .int .i64 0, .int .i64 0, .int .i64 0, .int .i64 0, .int .i64 0, .int .i64 0, .int .i64 0] 38)).alloc (.cells #[.int .i64 1, .int .i64 m.frm, .int .i64 m.to_, .int .i64 0, .int .i64 0, .int .i64 0, .int .i64 0, .int .i64 0, .int .i64 0, .int .i64 0, .int .i64 0, .int .i64 0] 38) = w1 at H0 ⊢
  obtain ⟨b8, hb8⟩ : ∃ b8, w.heap.size = b8 := ⟨_, rfl⟩
  obtain ⟨b9, hb9⟩ : ∃ b9, w.heap.size + 1 = b9 := ⟨_, rfl⟩
  have h1 : MI w w1 b8 b9 m [] := by rw [← hb8, ← hb9]; exact H0.out
  try simp only [hb9]
  try simp only [hb8]
  have hb98 : b8 + 1 = b9 := by omega
  try simp only [hb98]
  (with_reducible refine (rnames_k1 w1).mono ?_)
  rintro e w2 ⟨rfl, hB2⟩
  have hlt8 := h1.m8.lt
  have hlt9 := h1.m9.lt
  have H2 := Lib.hid (show MI w w2 b8 b9 m [] from ⟨h1.m8.below hB2 h1.m8.lt, h1.m9.below hB2 h1.m9.lt, h1.ne, h1.g8, h1.g9, h1.bel.trans (hB2.mono h1.bel.size)⟩)
  clear h1 hb8 hb9 hb98 H0 hB2 hlt8 hlt9
  go_wp2
  go_loopw [11, 12] (fun kk i wr => (i = .int .i64 0 ∧ kk = .int .i64 0 ∧ MI w wr b8 b9 m []) ∨ (i = .int .i64 1 ∧ kk = .int .i64 1 ∧ MI w wr b8 b9 m [4]) ∨ (i = .int .i64 2 ∧ kk = .int .i64 2 ∧ MI w wr b8 b9 m [4, 6]) ∨ (i = .int .i64 3 ∧ kk = .int .i64 5 ∧ MI w wr b8 b9 m [4, 6, 9, 10, 11])) (fun _ i _ => 3 - (intOf i).toNat)
  case atStart => exact .inl ⟨rfl, rfl, H2.out⟩
  case round =>
    rcases hrel with ⟨rfl, rfl, hM⟩ | ⟨rfl, rfl, hM⟩ | ⟨rfl, rfl, hM⟩ | ⟨rfl, rfl, hM⟩
    · have fz := hM.m9.frozen
      have fl := hM.m9.lt
      have g0 : wr.cell? ⟨ab, ao, none⟩ = some (.int .i64 m.inc) := (hM.bel.cell (p := ⟨ab, ao, none⟩) HQ.out.1).trans HQ.out.2.1
      obtain ⟨u4, _, hu4⟩ := ints_at (keepM m []) 4 (by omega)
      have f4 : wr.cell? ⟨b9, 4, none⟩ = some (.int .i64 u4) := (hM.m9.cell 4).trans hu4
      clear hu4
      have HS := Lib.hid (hM.step 4 m.inc (by omega) (by omega) rfl [4] rfl)
      clear hM
      go_wp2_with fail
      go_roundw
      case rel => exact .inr (.inl ⟨by go_num, by go_num, HS.out⟩)
      case measure => simp [intOf]
    · have fz := hM.m9.frozen
      have fl := hM.m9.lt
      have g1 : wr.cell? ⟨ab, ao + 1, none⟩ = some (.int .i64 m.tick) := (hM.bel.cell (p := ⟨ab, ao + 1, none⟩) HQ.out.1).trans HQ.out.2.2.1
      obtain ⟨u6, _, hu6⟩ := ints_at (keepM m [4]) 6 (by omega)
      have f6 : wr.cell? ⟨b9, 6, none⟩ = some (.int .i64 u6) := (hM.m9.cell 6).trans hu6
      clear hu6
      have HS := Lib.hid (hM.step 6 m.tick (by omega) (by omega) rfl [4, 6] rfl)
      clear hM
      go_wp2_with fail
      go_roundw
      case rel => exact .inr (.inr (.inl ⟨by go_num, by go_num, HS.out⟩))
      case measure => simp [intOf]
    · have fz := hM.m9.frozen
      have fl := hM.m9.lt
      have g2 : wr.cell? ⟨ab, ao + 2, none⟩ = some (.int .i64 m.res.a) := (hM.bel.cell (p := ⟨ab, ao + 2, none⟩) HQ.out.1).trans HQ.out.2.2.2.1
      obtain ⟨u9, _, hu9⟩ := ints_at (keepM m [4, 6]) 9 (by omega)
      have f9 : wr.cell? ⟨b9, 9, none⟩ = some (.int .i64 u9) := (hM.m9.cell 9).trans hu9
      clear hu9
      have g3 : wr.cell? ⟨ab, ao + 3, none⟩ = some (.int .i64 m.res.b) := (hM.bel.cell (p := ⟨ab, ao + 3, none⟩) HQ.out.1).trans HQ.out.2.2.2.2.1
      obtain ⟨u10, _, hu10⟩ := ints_at (keepM m [4, 6]) 10 (by omega)
      have f10 : wr.cell? ⟨b9, 10, none⟩ = some (.int .i64 u10) := (hM.m9.cell 10).trans hu10
      clear hu10
      have g4 : wr.cell? ⟨ab, ao + 4, none⟩ = some (.int .i64 m.res.c) := (hM.bel.cell (p := ⟨ab, ao + 4, none⟩) HQ.out.1).trans HQ.out.2.2.2.2.2.1
      obtain ⟨u11, _, hu11⟩ := ints_at (keepM m [4, 6]) 11 (by omega)
      have f11 : wr.cell? ⟨b9, 11, none⟩ = some (.int .i64 u11) := (hM.m9.cell 11).trans hu11
      clear hu11
      have HS := Lib.hid (((hM.step 9 m.res.a (by omega) (by omega) rfl [4, 6, 9] rfl).step 10 m.res.b (by omega) (by omega) rfl [4, 6, 9, 10] rfl).step 11 m.res.c (by omega) (by omega) rfl [4, 6, 9, 10, 11] rfl)
      clear hM
      go_wp2_with fail
      go_region
      all_goals
        go_wp2_with fail
        go_roundw
        case rel => exact .inr (.inr (.inr (⟨by go_num, by go_num, ⟨HS.out.m8, HS.out.m9, HS.out.ne, HS.out.g8, HS.out.g9, ⟨HS.out.bel.os, HS.out.bel.tape, HS.out.bel.output, HS.out.bel.size, HS.out.bel.block⟩⟩⟩)))
        case measure => simp [intOf]
    · have h9 := hM.m9
      have h8 := hM.m8
      have z2 := hM.m8.frozen
      have l8 := hM.m8.lt
      have l9 := hM.m9.lt
      have y0 := h8.cell 0
      have c0 := h9.cell 0
      have y1 := h8.cell 1
      have c1 := h9.cell 1
      have y2 := h8.cell 2
      have c2 := h9.cell 2
      have y3 := h8.cell 3
      have c3 := h9.cell 3
      have y4 := h8.cell 4
      have c4 := h9.cell 4
      have y5 := h8.cell 5
      have c5 := h9.cell 5
      have y6 := h8.cell 6
      have c6 := h9.cell 6
      have y7 := h8.cell 7
      have c7 := h9.cell 7
      have y8 := h8.cell 8
      have c8 := h9.cell 8
      have y9 := h8.cell 9
      have c9 := h9.cell 9
      have y10 := h8.cell 10
      have c10 := h9.cell 10
      have y11 := h8.cell 11
      have c11 := h9.cell 11
      simp only [List.getElem?_toArray, List.getElem?_cons_zero, List.getElem?_cons_succ] at y0 c0 y1 c1 y2 c2 y3 c3 y4 c4 y5 c5 y6 c6 y7 c7 y8 c8 y9 c9 y10 c10 y11 c11
      have HI2 := Lib.hid hM
      clear hM h8 h9
      go_wp2_with fail
      obtain ⟨hbz, hbe⟩ := lay12 HI2.out.m8 HI2.out.g8 HI2.out.bel (.int .i64 (keepM m [4, 6, 9, 10, 11]).kind) (.int .i64 (keepM m [4, 6, 9, 10, 11]).frm) (.int .i64 (keepM m [4, 6, 9, 10, 11]).to_) (.int .i64 (keepM m [4, 6, 9, 10, 11]).epoch) (.int .i64 (keepM m [4, 6, 9, 10, 11]).inc) (.int .i64 (keepM m [4, 6, 9, 10, 11]).job) (.int .i64 (keepM m [4, 6, 9, 10, 11]).tick) (.int .i64 (keepM m [4, 6, 9, 10, 11]).prio) (.int .i64 (keepM m [4, 6, 9, 10, 11]).code) (.int .i64 (keepM m [4, 6, 9, 10, 11]).res.a) (.int .i64 (keepM m [4, 6, 9, 10, 11]).res.b) (.int .i64 (keepM m [4, 6, 9, 10, 11]).res.c)
      have HZ := Lib.hid hbe
      clear hbe
      generalize ((((((((((((wr.setCell ⟨b8, 0, none⟩ (.int .i64 (keepM m [4, 6, 9, 10, 11]).kind)).setCell ⟨b8, 1, none⟩ (.int .i64 (keepM m [4, 6, 9, 10, 11]).frm)).setCell ⟨b8, 2, none⟩ (.int .i64 (keepM m [4, 6, 9, 10, 11]).to_)).setCell ⟨b8, 3, none⟩ (.int .i64 (keepM m [4, 6, 9, 10, 11]).epoch)).setCell ⟨b8, 4, none⟩ (.int .i64 (keepM m [4, 6, 9, 10, 11]).inc)).setCell ⟨b8, 5, none⟩ (.int .i64 (keepM m [4, 6, 9, 10, 11]).job)).setCell ⟨b8, 6, none⟩ (.int .i64 (keepM m [4, 6, 9, 10, 11]).tick)).setCell ⟨b8, 7, none⟩ (.int .i64 (keepM m [4, 6, 9, 10, 11]).prio)).setCell ⟨b8, 8, none⟩ (.int .i64 (keepM m [4, 6, 9, 10, 11]).code)).setCell ⟨b8, 9, none⟩ (.int .i64 (keepM m [4, 6, 9, 10, 11]).res.a)).setCell ⟨b8, 10, none⟩ (.int .i64 (keepM m [4, 6, 9, 10, 11]).res.b)).setCell ⟨b8, 11, none⟩ (.int .i64 (keepM m [4, 6, 9, 10, 11]).res.c)) = wz at hbz HZ ⊢
      have d0 := hbz.cell 0
      have d1 := hbz.cell 1
      have d2 := hbz.cell 2
      have d3 := hbz.cell 3
      have d4 := hbz.cell 4
      have d5 := hbz.cell 5
      have d6 := hbz.cell 6
      have d7 := hbz.cell 7
      have d8 := hbz.cell 8
      have d9 := hbz.cell 9
      have d10 := hbz.cell 10
      have d11 := hbz.cell 11
      simp only [List.getElem?_toArray, List.getElem?_cons_zero, List.getElem?_cons_succ] at d0 d1 d2 d3 d4 d5 d6 d7 d8 d9 d10 d11
      refine bodyPost_ret (v := aggMsg (keepM m [4, 6, 9, 10, 11])) (by simp [results, Tryd.results96, go_sem, d0, d1, d2, d3, d4, d5, d6, d7, d8, d9, d10, d11]) rfl ⟨rfl, HZ.out⟩
set_option maxRecDepth 100000 in
set_option maxHeartbeats 6400000 in
theorem made_k2 (m : LMsg) (hk : m.kind = 2) (A : Option Addr) (c : Nat) (w : World) (h : RdI w A 3 [m.epoch, m.inc, m.tick]) : Calls Tryd.prog 96 #[.int .i64 2, .int .i64 m.frm, .int .i64 m.to_, .slice A 3 c] w fun e w' => e = .returned (aggMsg (keepM m [3, 4, 6])) ∧ Below w.heap.size w w' := by
  obtain ⟨ab, ao, rfl⟩ : ∃ ab ao, A = some ⟨ab, ao, none⟩ := by
    obtain ⟨b, o, _, e, _⟩ := RdI.at_ h (k := 0) (by omega)
    exact ⟨b, o, e⟩
  obtain ⟨hla, q0⟩ := h.cells_ (k := 0) (x := m.epoch) rfl
  obtain ⟨hla1, q1⟩ := h.cells_ (k := 1) (x := m.inc) rfl
  obtain ⟨hla2, q2⟩ := h.cells_ (k := 2) (x := m.tick) rfl
  simp only [Nat.add_zero] at q0
  have HQ := Lib.hid (And.intro hla (And.intro q0 (And.intro q1 (And.intro q2 (trivial)))))
  clear h hla hla1 hla2 q0 q1 q2
  have hs1 : (w.alloc (.cells #[.int .i64 0, .int .i64 0, .int .i64 0, .int .i64 0, .int .i64 0, .int .i64 0, .int .i64 0, .int .i64 0, .int .i64 0, .int .i64 0, .int .i64 0, .int .i64 0] 38)).heap.size = w.heap.size + 1 := by simp
  have h8 := (Blk.new w 38 #[.int .i64 0, .int .i64 0, .int .i64 0, .int .i64 0, .int .i64 0, .int .i64 0, .int .i64 0, .int .i64 0, .int .i64 0, .int .i64 0, .int .i64 0, .int .i64 0]).alloc (.cells #[.int .i64 2, .int .i64 m.frm, .int .i64 m.to_, .int .i64 0, .int .i64 0, .int .i64 0, .int .i64 0, .int .i64 0, .int .i64 0, .int .i64 0, .int .i64 0, .int .i64 0] 38)
  have h9 := Blk.new (w.alloc (.cells #[.int .i64 0, .int .i64 0, .int .i64 0, .int .i64 0, .int .i64 0, .int .i64 0, .int .i64 0, .int .i64 0, .int .i64 0, .int .i64 0, .int .i64 0, .int .i64 0] 38)) 38 #[.int .i64 2, .int .i64 m.frm, .int .i64 m.to_, .int .i64 0, .int .i64 0, .int .i64 0, .int .i64 0, .int .i64 0, .int .i64 0, .int .i64 0, .int .i64 0, .int .i64 0]
  rw [hs1] at h9
  have hB : Below w.heap.size w ((w.alloc (.cells #[.int .i64 0, .int .i64 0, .int .i64 0, .int .i64 0, .int .i64 0, .int .i64 0, .int .i64 0, .int .i64 0, .int .i64 0, .int .i64 0, .int .i64 0, .int .i64 0] 38)).alloc (.cells #[.int .i64 2, .int .i64 m.frm, .int .i64 m.to_, .int .i64 0, .int .i64 0, .int .i64 0, .int .i64 0, .int .i64 0, .int .i64 0, .int .i64 0, .int .i64 0, .int .i64 0] 38)) := ((Below.refl _ _).alloc (Nat.le_refl _) _).alloc (by simp) _
  have hM : MI w ((w.alloc (.cells #[.int .i64 0, .int .i64 0, .int .i64 0, .int .i64 0, .int .i64 0, .int .i64 0, .int .i64 0, .int .i64 0, .int .i64 0, .int .i64 0, .int .i64 0, .int .i64 0] 38)).alloc (.cells #[.int .i64 2, .int .i64 m.frm, .int .i64 m.to_, .int .i64 0, .int .i64 0, .int .i64 0, .int .i64 0, .int .i64 0, .int .i64 0, .int .i64 0, .int .i64 0, .int .i64 0] 38)) w.heap.size (w.heap.size + 1) m [] := ⟨h8, by rw [keepM_nil, hk]; exact h9, by omega, by omega, by omega, hB⟩
  have H0 := Lib.hid hM
  have HK := Lib.hid hk
  clear hs1 h8 h9 hB hM hk
  go_enter Tryd.func96, Tryd.ntmps96
  go_wp2_with fail
  generalize (w.alloc (.cells #[.int .i64 0, .int .i64 0, .int .i64 0, .int .i64 0, .int .i64 0, .int .i64 0, .int .i64 0, .int .i64 0, .int .i64 0, .int .i64 0, .int .i64 0, .int .i64 0] 38)).alloc (.cells #[.int .i64 2, .int .i64 m.frm, .int .i64 m.to_, .int .i64 0, .int .i64 0, .int .i64 0, .int .i64 0, .int .i64 0, .int .i64 0, .int .i64 0, .int .i64 0, .int .i64 0] 38) = w1 at H0 ⊢
  obtain ⟨b8, hb8⟩ : ∃ b8, w.heap.size = b8 := ⟨_, rfl⟩
  obtain ⟨b9, hb9⟩ : ∃ b9, w.heap.size + 1 = b9 := ⟨_, rfl⟩
  have h1 : MI w w1 b8 b9 m [] := by rw [← hb8, ← hb9]; exact H0.out
  try simp only [hb9]
  try simp only [hb8]
  have hb98 : b8 + 1 = b9 := by omega
  try simp only [hb98]
  (with_reducible refine (rnames_k2 w1).mono ?_)
  rintro e w2 ⟨rfl, hB2⟩
  have hlt8 := h1.m8.lt
  have hlt9 := h1.m9.lt
  have H2 := Lib.hid (show MI w w2 b8 b9 m [] from ⟨h1.m8.below hB2 h1.m8.lt, h1.m9.below hB2 h1.m9.lt, h1.ne, h1.g8, h1.g9, h1.bel.trans (hB2.mono h1.bel.size)⟩)
  clear h1 hb8 hb9 hb98 H0 hB2 hlt8 hlt9
  go_wp2
  go_loopw [11, 12] (fun kk i wr => (i = .int .i64 0 ∧ kk = .int .i64 0 ∧ MI w wr b8 b9 m []) ∨ (i = .int .i64 1 ∧ kk = .int .i64 1 ∧ MI w wr b8 b9 m [3]) ∨ (i = .int .i64 2 ∧ kk = .int .i64 2 ∧ MI w wr b8 b9 m [3, 4]) ∨ (i = .int .i64 3 ∧ kk = .int .i64 3 ∧ MI w wr b8 b9 m [3, 4, 6])) (fun _ i _ => 3 - (intOf i).toNat)
  case atStart => exact .inl ⟨rfl, rfl, H2.out⟩
  case round =>
    rcases hrel with ⟨rfl, rfl, hM⟩ | ⟨rfl, rfl, hM⟩ | ⟨rfl, rfl, hM⟩ | ⟨rfl, rfl, hM⟩
    · have fz := hM.m9.frozen
      have fl := hM.m9.lt
      have g0 : wr.cell? ⟨ab, ao, none⟩ = some (.int .i64 m.epoch) := (hM.bel.cell (p := ⟨ab, ao, none⟩) HQ.out.1).trans HQ.out.2.1
      obtain ⟨u3, _, hu3⟩ := ints_at (keepM m []) 3 (by omega)
      have f3 : wr.cell? ⟨b9, 3, none⟩ = some (.int .i64 u3) := (hM.m9.cell 3).trans hu3
      clear hu3
      have HS := Lib.hid (hM.step 3 m.epoch (by omega) (by omega) rfl [3] rfl)
      clear hM
      go_wp2_with fail
      go_roundw
      case rel => exact .inr (.inl ⟨by go_num, by go_num, HS.out⟩)
      case measure => simp [intOf]
    · have fz := hM.m9.frozen
      have fl := hM.m9.lt
      have g1 : wr.cell? ⟨ab, ao + 1, none⟩ = some (.int .i64 m.inc) := (hM.bel.cell (p := ⟨ab, ao + 1, none⟩) HQ.out.1).trans HQ.out.2.2.1
      obtain ⟨u4, _, hu4⟩ := ints_at (keepM m [3]) 4 (by omega)
      have f4 : wr.cell? ⟨b9, 4, none⟩ = some (.int .i64 u4) := (hM.m9.cell 4).trans hu4
      clear hu4
      have HS := Lib.hid (hM.step 4 m.inc (by omega) (by omega) rfl [3, 4] rfl)
      clear hM
      go_wp2_with fail
      go_roundw
      case rel => exact .inr (.inr (.inl ⟨by go_num, by go_num, HS.out⟩))
      case measure => simp [intOf]
    · have fz := hM.m9.frozen
      have fl := hM.m9.lt
      have g2 : wr.cell? ⟨ab, ao + 2, none⟩ = some (.int .i64 m.tick) := (hM.bel.cell (p := ⟨ab, ao + 2, none⟩) HQ.out.1).trans HQ.out.2.2.2.1
      obtain ⟨u6, _, hu6⟩ := ints_at (keepM m [3, 4]) 6 (by omega)
      have f6 : wr.cell? ⟨b9, 6, none⟩ = some (.int .i64 u6) := (hM.m9.cell 6).trans hu6
      clear hu6
      have HS := Lib.hid (hM.step 6 m.tick (by omega) (by omega) rfl [3, 4, 6] rfl)
      clear hM
      go_wp2_with fail
      go_roundw
      case rel => exact .inr (.inr (.inr (⟨by go_num, by go_num, HS.out⟩)))
      case measure => simp [intOf]
    · have h9 := hM.m9
      have h8 := hM.m8
      have z2 := hM.m8.frozen
      have l8 := hM.m8.lt
      have l9 := hM.m9.lt
      have y0 := h8.cell 0
      have c0 := h9.cell 0
      have y1 := h8.cell 1
      have c1 := h9.cell 1
      have y2 := h8.cell 2
      have c2 := h9.cell 2
      have y3 := h8.cell 3
      have c3 := h9.cell 3
      have y4 := h8.cell 4
      have c4 := h9.cell 4
      have y5 := h8.cell 5
      have c5 := h9.cell 5
      have y6 := h8.cell 6
      have c6 := h9.cell 6
      have y7 := h8.cell 7
      have c7 := h9.cell 7
      have y8 := h8.cell 8
      have c8 := h9.cell 8
      have y9 := h8.cell 9
      have c9 := h9.cell 9
      have y10 := h8.cell 10
      have c10 := h9.cell 10
      have y11 := h8.cell 11
      have c11 := h9.cell 11
      simp only [List.getElem?_toArray, List.getElem?_cons_zero, List.getElem?_cons_succ] at y0 c0 y1 c1 y2 c2 y3 c3 y4 c4 y5 c5 y6 c6 y7 c7 y8 c8 y9 c9 y10 c10 y11 c11
      have HI2 := Lib.hid hM
      clear hM h8 h9
      go_wp2_with fail
      obtain ⟨hbz, hbe⟩ := lay12 HI2.out.m8 HI2.out.g8 HI2.out.bel (.int .i64 (keepM m [3, 4, 6]).kind) (.int .i64 (keepM m [3, 4, 6]).frm) (.int .i64 (keepM m [3, 4, 6]).to_) (.int .i64 (keepM m [3, 4, 6]).epoch) (.int .i64 (keepM m [3, 4, 6]).inc) (.int .i64 (keepM m [3, 4, 6]).job) (.int .i64 (keepM m [3, 4, 6]).tick) (.int .i64 (keepM m [3, 4, 6]).prio) (.int .i64 (keepM m [3, 4, 6]).code) (.int .i64 (keepM m [3, 4, 6]).res.a) (.int .i64 (keepM m [3, 4, 6]).res.b) (.int .i64 (keepM m [3, 4, 6]).res.c)
      have HZ := Lib.hid hbe
      clear hbe
      generalize ((((((((((((wr.setCell ⟨b8, 0, none⟩ (.int .i64 (keepM m [3, 4, 6]).kind)).setCell ⟨b8, 1, none⟩ (.int .i64 (keepM m [3, 4, 6]).frm)).setCell ⟨b8, 2, none⟩ (.int .i64 (keepM m [3, 4, 6]).to_)).setCell ⟨b8, 3, none⟩ (.int .i64 (keepM m [3, 4, 6]).epoch)).setCell ⟨b8, 4, none⟩ (.int .i64 (keepM m [3, 4, 6]).inc)).setCell ⟨b8, 5, none⟩ (.int .i64 (keepM m [3, 4, 6]).job)).setCell ⟨b8, 6, none⟩ (.int .i64 (keepM m [3, 4, 6]).tick)).setCell ⟨b8, 7, none⟩ (.int .i64 (keepM m [3, 4, 6]).prio)).setCell ⟨b8, 8, none⟩ (.int .i64 (keepM m [3, 4, 6]).code)).setCell ⟨b8, 9, none⟩ (.int .i64 (keepM m [3, 4, 6]).res.a)).setCell ⟨b8, 10, none⟩ (.int .i64 (keepM m [3, 4, 6]).res.b)).setCell ⟨b8, 11, none⟩ (.int .i64 (keepM m [3, 4, 6]).res.c)) = wz at hbz HZ ⊢
      have d0 := hbz.cell 0
      have d1 := hbz.cell 1
      have d2 := hbz.cell 2
      have d3 := hbz.cell 3
      have d4 := hbz.cell 4
      have d5 := hbz.cell 5
      have d6 := hbz.cell 6
      have d7 := hbz.cell 7
      have d8 := hbz.cell 8
      have d9 := hbz.cell 9
      have d10 := hbz.cell 10
      have d11 := hbz.cell 11
      simp only [List.getElem?_toArray, List.getElem?_cons_zero, List.getElem?_cons_succ] at d0 d1 d2 d3 d4 d5 d6 d7 d8 d9 d10 d11
      refine bodyPost_ret (v := aggMsg (keepM m [3, 4, 6])) (by simp [results, Tryd.results96, go_sem, d0, d1, d2, d3, d4, d5, d6, d7, d8, d9, d10, d11]) rfl ⟨rfl, HZ.out⟩
set_option maxRecDepth 100000 in
set_option maxHeartbeats 6400000 in
theorem made_k3 (m : LMsg) (hk : m.kind = 3) (A : Option Addr) (c : Nat) (w : World) (h : RdI w A 3 [m.epoch, m.inc, m.job]) : Calls Tryd.prog 96 #[.int .i64 3, .int .i64 m.frm, .int .i64 m.to_, .slice A 3 c] w fun e w' => e = .returned (aggMsg (keepM m [3, 4, 5])) ∧ Below w.heap.size w w' := by
  obtain ⟨ab, ao, rfl⟩ : ∃ ab ao, A = some ⟨ab, ao, none⟩ := by
    obtain ⟨b, o, _, e, _⟩ := RdI.at_ h (k := 0) (by omega)
    exact ⟨b, o, e⟩
  obtain ⟨hla, q0⟩ := h.cells_ (k := 0) (x := m.epoch) rfl
  obtain ⟨hla1, q1⟩ := h.cells_ (k := 1) (x := m.inc) rfl
  obtain ⟨hla2, q2⟩ := h.cells_ (k := 2) (x := m.job) rfl
  simp only [Nat.add_zero] at q0
  have HQ := Lib.hid (And.intro hla (And.intro q0 (And.intro q1 (And.intro q2 (trivial)))))
  clear h hla hla1 hla2 q0 q1 q2
  have hs1 : (w.alloc (.cells #[.int .i64 0, .int .i64 0, .int .i64 0, .int .i64 0, .int .i64 0, .int .i64 0, .int .i64 0, .int .i64 0, .int .i64 0, .int .i64 0, .int .i64 0, .int .i64 0] 38)).heap.size = w.heap.size + 1 := by simp
  have h8 := (Blk.new w 38 #[.int .i64 0, .int .i64 0, .int .i64 0, .int .i64 0, .int .i64 0, .int .i64 0, .int .i64 0, .int .i64 0, .int .i64 0, .int .i64 0, .int .i64 0, .int .i64 0]).alloc (.cells #[.int .i64 3, .int .i64 m.frm, .int .i64 m.to_, .int .i64 0, .int .i64 0, .int .i64 0, .int .i64 0, .int .i64 0, .int .i64 0, .int .i64 0, .int .i64 0, .int .i64 0] 38)
  have h9 := Blk.new (w.alloc (.cells #[.int .i64 0, .int .i64 0, .int .i64 0, .int .i64 0, .int .i64 0, .int .i64 0, .int .i64 0, .int .i64 0, .int .i64 0, .int .i64 0, .int .i64 0, .int .i64 0] 38)) 38 #[.int .i64 3, .int .i64 m.frm, .int .i64 m.to_, .int .i64 0, .int .i64 0, .int .i64 0, .int .i64 0, .int .i64 0, .int .i64 0, .int .i64 0, .int .i64 0, .int .i64 0]
  rw [hs1] at h9
  have hB : Below w.heap.size w ((w.alloc (.cells #[.int .i64 0, .int .i64 0, .int .i64 0, .int .i64 0, .int .i64 0, .int .i64 0, .int .i64 0, .int .i64 0, .int .i64 0, .int .i64 0, .int .i64 0, .int .i64 0] 38)).alloc (.cells #[.int .i64 3, .int .i64 m.frm, .int .i64 m.to_, .int .i64 0, .int .i64 0, .int .i64 0, .int .i64 0, .int .i64 0, .int .i64 0, .int .i64 0, .int .i64 0, .int .i64 0] 38)) := ((Below.refl _ _).alloc (Nat.le_refl _) _).alloc (by simp) _
  have hM : MI w ((w.alloc (.cells #[.int .i64 0, .int .i64 0, .int .i64 0, .int .i64 0, .int .i64 0, .int .i64 0, .int .i64 0, .int .i64 0, .int .i64 0, .int .i64 0, .int .i64 0, .int .i64 0] 38)).alloc (.cells #[.int .i64 3, .int .i64 m.frm, .int .i64 m.to_, .int .i64 0, .int .i64 0, .int .i64 0, .int .i64 0, .int .i64 0, .int .i64 0, .int .i64 0, .int .i64 0, .int .i64 0] 38)) w.heap.size (w.heap.size + 1) m [] := ⟨h8, by rw [keepM_nil, hk]; exact h9, by omega, by omega, by omega, hB⟩
  have H0 := Lib.hid hM
  have HK := Lib.hid hk
  clear hs1 h8 h9 hB hM hk
  go_enter Tryd.func96, Tryd.ntmps96
  go_wp2_with fail
  generalize (w.alloc (.cells #[.int .i64 0, .int .i64 0, .int .i64 0, .int .i64 0, .int .i64 0, .int .i64 0, .int .i64 0, .int .i64 0, .int .i64 0, .int .i64 0, .int .i64 0, .int .i64 0] 38)).alloc (.cells #[.int .i64 3, .int .i64 m.frm, .int .i64 m.to_, .int .i64 0, .int .i64 0, .int .i64 0, .int .i64 0, .int .i64 0, .int .i64 0, .int .i64 0, .int .i64 0, .int .i64 0] 38) = w1 at H0 ⊢
  obtain ⟨b8, hb8⟩ : ∃ b8, w.heap.size = b8 := ⟨_, rfl⟩
  obtain ⟨b9, hb9⟩ : ∃ b9, w.heap.size + 1 = b9 := ⟨_, rfl⟩
  have h1 : MI w w1 b8 b9 m [] := by rw [← hb8, ← hb9]; exact H0.out
  try simp only [hb9]
  try simp only [hb8]
  have hb98 : b8 + 1 = b9 := by omega
  try simp only [hb98]
  (with_reducible refine (rnames_k3 w1).mono ?_)
  rintro e w2 ⟨rfl, hB2⟩
  have hlt8 := h1.m8.lt
  have hlt9 := h1.m9.lt
  have H2 := Lib.hid (show MI w w2 b8 b9 m [] from ⟨h1.m8.below hB2 h1.m8.lt, h1.m9.below hB2 h1.m9.lt, h1.ne, h1.g8, h1.g9, h1.bel.trans (hB2.mono h1.bel.size)⟩)
  clear h1 hb8 hb9 hb98 H0 hB2 hlt8 hlt9
  go_wp2
  go_loopw [11, 12] (fun kk i wr => (i = .int .i64 0 ∧ kk = .int .i64 0 ∧ MI w wr b8 b9 m []) ∨ (i = .int .i64 1 ∧ kk = .int .i64 1 ∧ MI w wr b8 b9 m [3]) ∨ (i = .int .i64 2 ∧ kk = .int .i64 2 ∧ MI w wr b8 b9 m [3, 4]) ∨ (i = .int .i64 3 ∧ kk = .int .i64 3 ∧ MI w wr b8 b9 m [3, 4, 5])) (fun _ i _ => 3 - (intOf i).toNat)
  case atStart => exact .inl ⟨rfl, rfl, H2.out⟩
  case round =>
    rcases hrel with ⟨rfl, rfl, hM⟩ | ⟨rfl, rfl, hM⟩ | ⟨rfl, rfl, hM⟩ | ⟨rfl, rfl, hM⟩
    · have fz := hM.m9.frozen
      have fl := hM.m9.lt
      have g0 : wr.cell? ⟨ab, ao, none⟩ = some (.int .i64 m.epoch) := (hM.bel.cell (p := ⟨ab, ao, none⟩) HQ.out.1).trans HQ.out.2.1
      obtain ⟨u3, _, hu3⟩ := ints_at (keepM m []) 3 (by omega)
      have f3 : wr.cell? ⟨b9, 3, none⟩ = some (.int .i64 u3) := (hM.m9.cell 3).trans hu3
      clear hu3
      have HS := Lib.hid (hM.step 3 m.epoch (by omega) (by omega) rfl [3] rfl)
      clear hM
      go_wp2_with fail
      go_roundw
      case rel => exact .inr (.inl ⟨by go_num, by go_num, HS.out⟩)
      case measure => simp [intOf]
    · have fz := hM.m9.frozen
      have fl := hM.m9.lt
      have g1 : wr.cell? ⟨ab, ao + 1, none⟩ = some (.int .i64 m.inc) := (hM.bel.cell (p := ⟨ab, ao + 1, none⟩) HQ.out.1).trans HQ.out.2.2.1
      obtain ⟨u4, _, hu4⟩ := ints_at (keepM m [3]) 4 (by omega)
      have f4 : wr.cell? ⟨b9, 4, none⟩ = some (.int .i64 u4) := (hM.m9.cell 4).trans hu4
      clear hu4
      have HS := Lib.hid (hM.step 4 m.inc (by omega) (by omega) rfl [3, 4] rfl)
      clear hM
      go_wp2_with fail
      go_roundw
      case rel => exact .inr (.inr (.inl ⟨by go_num, by go_num, HS.out⟩))
      case measure => simp [intOf]
    · have fz := hM.m9.frozen
      have fl := hM.m9.lt
      have g2 : wr.cell? ⟨ab, ao + 2, none⟩ = some (.int .i64 m.job) := (hM.bel.cell (p := ⟨ab, ao + 2, none⟩) HQ.out.1).trans HQ.out.2.2.2.1
      obtain ⟨u5, _, hu5⟩ := ints_at (keepM m [3, 4]) 5 (by omega)
      have f5 : wr.cell? ⟨b9, 5, none⟩ = some (.int .i64 u5) := (hM.m9.cell 5).trans hu5
      clear hu5
      have HS := Lib.hid (hM.step 5 m.job (by omega) (by omega) rfl [3, 4, 5] rfl)
      clear hM
      go_wp2_with fail
      go_roundw
      case rel => exact .inr (.inr (.inr (⟨by go_num, by go_num, HS.out⟩)))
      case measure => simp [intOf]
    · have h9 := hM.m9
      have h8 := hM.m8
      have z2 := hM.m8.frozen
      have l8 := hM.m8.lt
      have l9 := hM.m9.lt
      have y0 := h8.cell 0
      have c0 := h9.cell 0
      have y1 := h8.cell 1
      have c1 := h9.cell 1
      have y2 := h8.cell 2
      have c2 := h9.cell 2
      have y3 := h8.cell 3
      have c3 := h9.cell 3
      have y4 := h8.cell 4
      have c4 := h9.cell 4
      have y5 := h8.cell 5
      have c5 := h9.cell 5
      have y6 := h8.cell 6
      have c6 := h9.cell 6
      have y7 := h8.cell 7
      have c7 := h9.cell 7
      have y8 := h8.cell 8
      have c8 := h9.cell 8
      have y9 := h8.cell 9
      have c9 := h9.cell 9
      have y10 := h8.cell 10
      have c10 := h9.cell 10
      have y11 := h8.cell 11
      have c11 := h9.cell 11
      simp only [List.getElem?_toArray, List.getElem?_cons_zero, List.getElem?_cons_succ] at y0 c0 y1 c1 y2 c2 y3 c3 y4 c4 y5 c5 y6 c6 y7 c7 y8 c8 y9 c9 y10 c10 y11 c11
      have HI2 := Lib.hid hM
      clear hM h8 h9
      go_wp2_with fail
      obtain ⟨hbz, hbe⟩ := lay12 HI2.out.m8 HI2.out.g8 HI2.out.bel (.int .i64 (keepM m [3, 4, 5]).kind) (.int .i64 (keepM m [3, 4, 5]).frm) (.int .i64 (keepM m [3, 4, 5]).to_) (.int .i64 (keepM m [3, 4, 5]).epoch) (.int .i64 (keepM m [3, 4, 5]).inc) (.int .i64 (keepM m [3, 4, 5]).job) (.int .i64 (keepM m [3, 4, 5]).tick) (.int .i64 (keepM m [3, 4, 5]).prio) (.int .i64 (keepM m [3, 4, 5]).code) (.int .i64 (keepM m [3, 4, 5]).res.a) (.int .i64 (keepM m [3, 4, 5]).res.b) (.int .i64 (keepM m [3, 4, 5]).res.c)
      have HZ := Lib.hid hbe
      clear hbe
      generalize ((((((((((((wr.setCell ⟨b8, 0, none⟩ (.int .i64 (keepM m [3, 4, 5]).kind)).setCell ⟨b8, 1, none⟩ (.int .i64 (keepM m [3, 4, 5]).frm)).setCell ⟨b8, 2, none⟩ (.int .i64 (keepM m [3, 4, 5]).to_)).setCell ⟨b8, 3, none⟩ (.int .i64 (keepM m [3, 4, 5]).epoch)).setCell ⟨b8, 4, none⟩ (.int .i64 (keepM m [3, 4, 5]).inc)).setCell ⟨b8, 5, none⟩ (.int .i64 (keepM m [3, 4, 5]).job)).setCell ⟨b8, 6, none⟩ (.int .i64 (keepM m [3, 4, 5]).tick)).setCell ⟨b8, 7, none⟩ (.int .i64 (keepM m [3, 4, 5]).prio)).setCell ⟨b8, 8, none⟩ (.int .i64 (keepM m [3, 4, 5]).code)).setCell ⟨b8, 9, none⟩ (.int .i64 (keepM m [3, 4, 5]).res.a)).setCell ⟨b8, 10, none⟩ (.int .i64 (keepM m [3, 4, 5]).res.b)).setCell ⟨b8, 11, none⟩ (.int .i64 (keepM m [3, 4, 5]).res.c)) = wz at hbz HZ ⊢
      have d0 := hbz.cell 0
      have d1 := hbz.cell 1
      have d2 := hbz.cell 2
      have d3 := hbz.cell 3
      have d4 := hbz.cell 4
      have d5 := hbz.cell 5
      have d6 := hbz.cell 6
      have d7 := hbz.cell 7
      have d8 := hbz.cell 8
      have d9 := hbz.cell 9
      have d10 := hbz.cell 10
      have d11 := hbz.cell 11
      simp only [List.getElem?_toArray, List.getElem?_cons_zero, List.getElem?_cons_succ] at d0 d1 d2 d3 d4 d5 d6 d7 d8 d9 d10 d11
      refine bodyPost_ret (v := aggMsg (keepM m [3, 4, 5])) (by simp [results, Tryd.results96, go_sem, d0, d1, d2, d3, d4, d5, d6, d7, d8, d9, d10, d11]) rfl ⟨rfl, HZ.out⟩
set_option maxRecDepth 100000 in
set_option maxHeartbeats 6400000 in
theorem made_k4 (m : LMsg) (hk : m.kind = 4) (A : Option Addr) (c : Nat) (w : World) (h : RdI w A 3 [m.epoch, m.inc, m.job]) : Calls Tryd.prog 96 #[.int .i64 4, .int .i64 m.frm, .int .i64 m.to_, .slice A 3 c] w fun e w' => e = .returned (aggMsg (keepM m [3, 4, 5])) ∧ Below w.heap.size w w' := by
  obtain ⟨ab, ao, rfl⟩ : ∃ ab ao, A = some ⟨ab, ao, none⟩ := by
    obtain ⟨b, o, _, e, _⟩ := RdI.at_ h (k := 0) (by omega)
    exact ⟨b, o, e⟩
  obtain ⟨hla, q0⟩ := h.cells_ (k := 0) (x := m.epoch) rfl
  obtain ⟨hla1, q1⟩ := h.cells_ (k := 1) (x := m.inc) rfl
  obtain ⟨hla2, q2⟩ := h.cells_ (k := 2) (x := m.job) rfl
  simp only [Nat.add_zero] at q0
  have HQ := Lib.hid (And.intro hla (And.intro q0 (And.intro q1 (And.intro q2 (trivial)))))
  clear h hla hla1 hla2 q0 q1 q2
  have hs1 : (w.alloc (.cells #[.int .i64 0, .int .i64 0, .int .i64 0, .int .i64 0, .int .i64 0, .int .i64 0, .int .i64 0, .int .i64 0, .int .i64 0, .int .i64 0, .int .i64 0, .int .i64 0] 38)).heap.size = w.heap.size + 1 := by simp
  have h8 := (Blk.new w 38 #[.int .i64 0, .int .i64 0, .int .i64 0, .int .i64 0, .int .i64 0, .int .i64 0, .int .i64 0, .int .i64 0, .int .i64 0, .int .i64 0, .int .i64 0, .int .i64 0]).alloc (.cells #[.int .i64 4, .int .i64 m.frm, .int .i64 m.to_, .int .i64 0, .int .i64 0, .int .i64 0, .int .i64 0, .int .i64 0, .int .i64 0, .int .i64 0, .int .i64 0, .int .i64 0] 38)
  have h9 := Blk.new (w.alloc (.cells #[.int .i64 0, .int .i64 0, .int .i64 0, .int .i64 0, .int .i64 0, .int .i64 0, .int .i64 0, .int .i64 0, .int .i64 0, .int .i64 0, .int .i64 0, .int .i64 0] 38)) 38 #[.int .i64 4, .int .i64 m.frm, .int .i64 m.to_, .int .i64 0, .int .i64 0, .int .i64 0, .int .i64 0, .int .i64 0, .int .i64 0, .int .i64 0, .int .i64 0, .int .i64 0]
  rw [hs1] at h9
  have hB : Below w.heap.size w ((w.alloc (.cells #[.int .i64 0, .int .i64 0, .int .i64 0, .int .i64 0, .int .i64 0, .int .i64 0, .int .i64 0, .int .i64 0, .int .i64 0, .int .i64 0, .int .i64 0, .int .i64 0] 38)).alloc (.cells #[.int .i64 4, .int .i64 m.frm, .int .i64 m.to_, .int .i64 0, .int .i64 0, .int .i64 0, .int .i64 0, .int .i64 0, .int .i64 0, .int .i64 0, .int .i64 0, .int .i64 0] 38)) := ((Below.refl _ _).alloc (Nat.le_refl _) _).alloc (by simp) _
  have hM : MI w ((w.alloc (.cells #[.int .i64 0, .int .i64 0, .int .i64 0, .int .i64 0, .int .i64 0, .int .i64 0, .int .i64 0, .int .i64 0, .int .i64 0, .int .i64 0, .int .i64 0, .int .i64 0] 38)).alloc (.cells #[.int .i64 4, .int .i64 m.frm, .int .i64 m.to_, .int .i64 0, .int .i64 0, .int .i64 0, .int .i64 0, .int .i64 0, .int .i64 0, .int .i64 0, .int .i64 0, .int .i64 0] 38)) w.heap.size (w.heap.size + 1) m [] := ⟨h8, by rw [keepM_nil, hk]; exact h9, by omega, by omega, by omega, hB⟩
  have H0 := Lib.hid hM
  have HK := Lib.hid hk
  clear hs1 h8 h9 hB hM hk
  go_enter Tryd.func96, Tryd.ntmps96
  go_wp2_with fail
  generalize (w.alloc (.cells #[.int .i64 0, .int .i64 0, .int .i64 0, .int .i64 0, .int .i64 0, .int .i64 0, .int .i64 0, .int .i64 0, .int .i64 0, .int .i64 0, .int .i64 0, .int .i64 0] 38)).alloc (.cells #[.int .i64 4, .int .i64 m.frm, .int .i64 m.to_, .int .i64 0, .int .i64 0, .int .i64 0, .int .i64 0, .int .i64 0, .int .i64 0, .int .i64 0, .int .i64 0, .int .i64 0] 38) = w1 at H0 ⊢
  obtain ⟨b8, hb8⟩ : ∃ b8, w.heap.size = b8 := ⟨_, rfl⟩
  obtain ⟨b9, hb9⟩ : ∃ b9, w.heap.size + 1 = b9 := ⟨_, rfl⟩
  have h1 : MI w w1 b8 b9 m [] := by rw [← hb8, ← hb9]; exact H0.out
  try simp only [hb9]
  try simp only [hb8]
  have hb98 : b8 + 1 = b9 := by omega
  try simp only [hb98]
  (with_reducible refine (rnames_k4 w1).mono ?_)
  rintro e w2 ⟨rfl, hB2⟩
  have hlt8 := h1.m8.lt
  have hlt9 := h1.m9.lt
  have H2 := Lib.hid (show MI w w2 b8 b9 m [] from ⟨h1.m8.below hB2 h1.m8.lt, h1.m9.below hB2 h1.m9.lt, h1.ne, h1.g8, h1.g9, h1.bel.trans (hB2.mono h1.bel.size)⟩)
  clear h1 hb8 hb9 hb98 H0 hB2 hlt8 hlt9
  go_wp2
  go_loopw [11, 12] (fun kk i wr => (i = .int .i64 0 ∧ kk = .int .i64 0 ∧ MI w wr b8 b9 m []) ∨ (i = .int .i64 1 ∧ kk = .int .i64 1 ∧ MI w wr b8 b9 m [3]) ∨ (i = .int .i64 2 ∧ kk = .int .i64 2 ∧ MI w wr b8 b9 m [3, 4]) ∨ (i = .int .i64 3 ∧ kk = .int .i64 3 ∧ MI w wr b8 b9 m [3, 4, 5])) (fun _ i _ => 3 - (intOf i).toNat)
  case atStart => exact .inl ⟨rfl, rfl, H2.out⟩
  case round =>
    rcases hrel with ⟨rfl, rfl, hM⟩ | ⟨rfl, rfl, hM⟩ | ⟨rfl, rfl, hM⟩ | ⟨rfl, rfl, hM⟩
    · have fz := hM.m9.frozen
      have fl := hM.m9.lt
      have g0 : wr.cell? ⟨ab, ao, none⟩ = some (.int .i64 m.epoch) := (hM.bel.cell (p := ⟨ab, ao, none⟩) HQ.out.1).trans HQ.out.2.1
      obtain ⟨u3, _, hu3⟩ := ints_at (keepM m []) 3 (by omega)
      have f3 : wr.cell? ⟨b9, 3, none⟩ = some (.int .i64 u3) := (hM.m9.cell 3).trans hu3
      clear hu3
      have HS := Lib.hid (hM.step 3 m.epoch (by omega) (by omega) rfl [3] rfl)
      clear hM
      go_wp2_with fail
      go_roundw
      case rel => exact .inr (.inl ⟨by go_num, by go_num, HS.out⟩)
      case measure => simp [intOf]
    · have fz := hM.m9.frozen
      have fl := hM.m9.lt
      have g1 : wr.cell? ⟨ab, ao + 1, none⟩ = some (.int .i64 m.inc) := (hM.bel.cell (p := ⟨ab, ao + 1, none⟩) HQ.out.1).trans HQ.out.2.2.1
      obtain ⟨u4, _, hu4⟩ := ints_at (keepM m [3]) 4 (by omega)
      have f4 : wr.cell? ⟨b9, 4, none⟩ = some (.int .i64 u4) := (hM.m9.cell 4).trans hu4
      clear hu4
      have HS := Lib.hid (hM.step 4 m.inc (by omega) (by omega) rfl [3, 4] rfl)
      clear hM
      go_wp2_with fail
      go_roundw
      case rel => exact .inr (.inr (.inl ⟨by go_num, by go_num, HS.out⟩))
      case measure => simp [intOf]
    · have fz := hM.m9.frozen
      have fl := hM.m9.lt
      have g2 : wr.cell? ⟨ab, ao + 2, none⟩ = some (.int .i64 m.job) := (hM.bel.cell (p := ⟨ab, ao + 2, none⟩) HQ.out.1).trans HQ.out.2.2.2.1
      obtain ⟨u5, _, hu5⟩ := ints_at (keepM m [3, 4]) 5 (by omega)
      have f5 : wr.cell? ⟨b9, 5, none⟩ = some (.int .i64 u5) := (hM.m9.cell 5).trans hu5
      clear hu5
      have HS := Lib.hid (hM.step 5 m.job (by omega) (by omega) rfl [3, 4, 5] rfl)
      clear hM
      go_wp2_with fail
      go_roundw
      case rel => exact .inr (.inr (.inr (⟨by go_num, by go_num, HS.out⟩)))
      case measure => simp [intOf]
    · have h9 := hM.m9
      have h8 := hM.m8
      have z2 := hM.m8.frozen
      have l8 := hM.m8.lt
      have l9 := hM.m9.lt
      have y0 := h8.cell 0
      have c0 := h9.cell 0
      have y1 := h8.cell 1
      have c1 := h9.cell 1
      have y2 := h8.cell 2
      have c2 := h9.cell 2
      have y3 := h8.cell 3
      have c3 := h9.cell 3
      have y4 := h8.cell 4
      have c4 := h9.cell 4
      have y5 := h8.cell 5
      have c5 := h9.cell 5
      have y6 := h8.cell 6
      have c6 := h9.cell 6
      have y7 := h8.cell 7
      have c7 := h9.cell 7
      have y8 := h8.cell 8
      have c8 := h9.cell 8
      have y9 := h8.cell 9
      have c9 := h9.cell 9
      have y10 := h8.cell 10
      have c10 := h9.cell 10
      have y11 := h8.cell 11
      have c11 := h9.cell 11
      simp only [List.getElem?_toArray, List.getElem?_cons_zero, List.getElem?_cons_succ] at y0 c0 y1 c1 y2 c2 y3 c3 y4 c4 y5 c5 y6 c6 y7 c7 y8 c8 y9 c9 y10 c10 y11 c11
      have HI2 := Lib.hid hM
      clear hM h8 h9
      go_wp2_with fail
      obtain ⟨hbz, hbe⟩ := lay12 HI2.out.m8 HI2.out.g8 HI2.out.bel (.int .i64 (keepM m [3, 4, 5]).kind) (.int .i64 (keepM m [3, 4, 5]).frm) (.int .i64 (keepM m [3, 4, 5]).to_) (.int .i64 (keepM m [3, 4, 5]).epoch) (.int .i64 (keepM m [3, 4, 5]).inc) (.int .i64 (keepM m [3, 4, 5]).job) (.int .i64 (keepM m [3, 4, 5]).tick) (.int .i64 (keepM m [3, 4, 5]).prio) (.int .i64 (keepM m [3, 4, 5]).code) (.int .i64 (keepM m [3, 4, 5]).res.a) (.int .i64 (keepM m [3, 4, 5]).res.b) (.int .i64 (keepM m [3, 4, 5]).res.c)
      have HZ := Lib.hid hbe
      clear hbe
      generalize ((((((((((((wr.setCell ⟨b8, 0, none⟩ (.int .i64 (keepM m [3, 4, 5]).kind)).setCell ⟨b8, 1, none⟩ (.int .i64 (keepM m [3, 4, 5]).frm)).setCell ⟨b8, 2, none⟩ (.int .i64 (keepM m [3, 4, 5]).to_)).setCell ⟨b8, 3, none⟩ (.int .i64 (keepM m [3, 4, 5]).epoch)).setCell ⟨b8, 4, none⟩ (.int .i64 (keepM m [3, 4, 5]).inc)).setCell ⟨b8, 5, none⟩ (.int .i64 (keepM m [3, 4, 5]).job)).setCell ⟨b8, 6, none⟩ (.int .i64 (keepM m [3, 4, 5]).tick)).setCell ⟨b8, 7, none⟩ (.int .i64 (keepM m [3, 4, 5]).prio)).setCell ⟨b8, 8, none⟩ (.int .i64 (keepM m [3, 4, 5]).code)).setCell ⟨b8, 9, none⟩ (.int .i64 (keepM m [3, 4, 5]).res.a)).setCell ⟨b8, 10, none⟩ (.int .i64 (keepM m [3, 4, 5]).res.b)).setCell ⟨b8, 11, none⟩ (.int .i64 (keepM m [3, 4, 5]).res.c)) = wz at hbz HZ ⊢
      have d0 := hbz.cell 0
      have d1 := hbz.cell 1
      have d2 := hbz.cell 2
      have d3 := hbz.cell 3
      have d4 := hbz.cell 4
      have d5 := hbz.cell 5
      have d6 := hbz.cell 6
      have d7 := hbz.cell 7
      have d8 := hbz.cell 8
      have d9 := hbz.cell 9
      have d10 := hbz.cell 10
      have d11 := hbz.cell 11
      simp only [List.getElem?_toArray, List.getElem?_cons_zero, List.getElem?_cons_succ] at d0 d1 d2 d3 d4 d5 d6 d7 d8 d9 d10 d11
      refine bodyPost_ret (v := aggMsg (keepM m [3, 4, 5])) (by simp [results, Tryd.results96, go_sem, d0, d1, d2, d3, d4, d5, d6, d7, d8, d9, d10, d11]) rfl ⟨rfl, HZ.out⟩
set_option maxRecDepth 100000 in
set_option maxHeartbeats 6400000 in
theorem made_k5 (m : LMsg) (hk : m.kind = 5) (A : Option Addr) (c : Nat) (w : World) (h : RdI w A 2 [m.inc, m.job]) : Calls Tryd.prog 96 #[.int .i64 5, .int .i64 m.frm, .int .i64 m.to_, .slice A 2 c] w fun e w' => e = .returned (aggMsg (keepM m [4, 5])) ∧ Below w.heap.size w w' := by
  obtain ⟨ab, ao, rfl⟩ : ∃ ab ao, A = some ⟨ab, ao, none⟩ := by
    obtain ⟨b, o, _, e, _⟩ := RdI.at_ h (k := 0) (by omega)
    exact ⟨b, o, e⟩
  obtain ⟨hla, q0⟩ := h.cells_ (k := 0) (x := m.inc) rfl
  obtain ⟨hla1, q1⟩ := h.cells_ (k := 1) (x := m.job) rfl
  simp only [Nat.add_zero] at q0
  have HQ := Lib.hid (And.intro hla (And.intro q0 (And.intro q1 (trivial))))
  clear h hla hla1 q0 q1
  have hs1 : (w.alloc (.cells #[.int .i64 0, .int .i64 0, .int .i64 0, .int .i64 0, .int .i64 0, .int .i64 0, .int .i64 0, .int .i64 0, .int .i64 0, .int .i64 0, .int .i64 0, .int .i64 0] 38)).heap.size = w.heap.size + 1 := by simp
  have h8 := (Blk.new w 38 #[.int .i64 0, .int .i64 0, .int .i64 0, .int .i64 0, .int .i64 0, .int .i64 0, .int .i64 0, .int .i64 0, .int .i64 0, .int .i64 0, .int .i64 0, .int .i64 0]).alloc (.cells #[.int .i64 5, .int .i64 m.frm, .int .i64 m.to_, .int .i64 0, .int .i64 0, .int .i64 0, .int .i64 0, .int .i64 0, .int .i64 0, .int .i64 0, .int .i64 0, .int .i64 0] 38)
  have h9 := Blk.new (w.alloc (.cells #[.int .i64 0, .int .i64 0, .int .i64 0, .int .i64 0, .int .i64 0, .int .i64 0, .int .i64 0, .int .i64 0, .int .i64 0, .int .i64 0, .int .i64 0, .int .i64 0] 38)) 38 #[.int .i64 5, .int .i64 m.frm, .int .i64 m.to_, .int .i64 0, .int .i64 0, .int .i64 0, .int .i64 0, .int .i64 0, .int .i64 0, .int .i64 0, .int .i64 0, .int .i64 0]
  rw [hs1] at h9
  have hB : Below w.heap.size w ((w.alloc (.cells #[.int .i64 0, .int .i64 0, .int .i64 0, .int .i64 0, .int .i64 0, .int .i64 0, .int .i64 0, .int .i64 0, .int .i64 0, .int .i64 0, .int .i64 0, .int .i64 0] 38)).alloc (.cells #[.int .i64 5, .int .i64 m.frm, .int .i64 m.to_, .int .i64 0, .int .i64 0, .int .i64 0, .int .i64 0, .int .i64 0, .int .i64 0, .int .i64 0, .int .i64 0, .int .i64 0] 38)) := ((Below.refl _ _).alloc (Nat.le_refl _) _).alloc (by simp) _
  have hM : MI w ((w.alloc (.cells #[.int .i64 0, .int .i64 0, .int .i64 0, .int .i64 0, .int .i64 0, .int .i64 0, .int .i64 0, .int .i64 0, .int .i64 0, .int .i64 0, .int .i64 0, .int .i64 0] 38)).alloc (.cells #[.int .i64 5, .int .i64 m.frm, .int .i64 m.to_, .int .i64 0, .int .i64 0, .int .i64 0, .int .i64 0, .int .i64 0, .int .i64 0, .int .i64 0, .int .i64 0, .int .i64 0] 38)) w.heap.size (w.heap.size + 1) m [] := ⟨h8, by rw [keepM_nil, hk]; exact h9, by omega, by omega, by omega, hB⟩
  have H0 := Lib.hid hM
  have HK := Lib.hid hk
  clear hs1 h8 h9 hB hM hk
  go_enter Tryd.func96, Tryd.ntmps96
  go_wp2_with fail
  generalize (w.alloc (.cells #[.int .i64 0, .int .i64 0, .int .i64 0, .int .i64 0, .int .i64 0, .int .i64 0, .int .i64 0, .int .i64 0, .int .i64 0, .int .i64 0, .int .i64 0, .int .i64 0] 38)).alloc (.cells #[.int .i64 5, .int .i64 m.frm, .int .i64 m.to_, .int .i64 0, .int .i64 0, .int .i64 0, .int .i64 0, .int .i64 0, .int .i64 0, .int .i64 0, .int .i64 0, .int .i64 0] 38) = w1 at H0 ⊢
  obtain ⟨b8, hb8⟩ : ∃ b8, w.heap.size = b8 := ⟨_, rfl⟩
  obtain ⟨b9, hb9⟩ : ∃ b9, w.heap.size + 1 = b9 := ⟨_, rfl⟩
  have h1 : MI w w1 b8 b9 m [] := by rw [← hb8, ← hb9]; exact H0.out
  try simp only [hb9]
  try simp only [hb8]
  have hb98 : b8 + 1 = b9 := by omega
  try simp only [hb98]
  (with_reducible refine (rnames_k5 w1).mono ?_)
  rintro e w2 ⟨rfl, hB2⟩
  have hlt8 := h1.m8.lt
  have hlt9 := h1.m9.lt
  have H2 := Lib.hid (show MI w w2 b8 b9 m [] from ⟨h1.m8.below hB2 h1.m8.lt, h1.m9.below hB2 h1.m9.lt, h1.ne, h1.g8, h1.g9, h1.bel.trans (hB2.mono h1.bel.size)⟩)
  clear h1 hb8 hb9 hb98 H0 hB2 hlt8 hlt9
  go_wp2
  go_loopw [11, 12] (fun kk i wr => (i = .int .i64 0 ∧ kk = .int .i64 0 ∧ MI w wr b8 b9 m []) ∨ (i = .int .i64 1 ∧ kk = .int .i64 1 ∧ MI w wr b8 b9 m [4]) ∨ (i = .int .i64 2 ∧ kk = .int .i64 2 ∧ MI w wr b8 b9 m [4, 5])) (fun _ i _ => 2 - (intOf i).toNat)
  case atStart => exact .inl ⟨rfl, rfl, H2.out⟩
  case round =>
    rcases hrel with ⟨rfl, rfl, hM⟩ | ⟨rfl, rfl, hM⟩ | ⟨rfl, rfl, hM⟩
    · have fz := hM.m9.frozen
      have fl := hM.m9.lt
      have g0 : wr.cell? ⟨ab, ao, none⟩ = some (.int .i64 m.inc) := (hM.bel.cell (p := ⟨ab, ao, none⟩) HQ.out.1).trans HQ.out.2.1
      obtain ⟨u4, _, hu4⟩ := ints_at (keepM m []) 4 (by omega)
      have f4 : wr.cell? ⟨b9, 4, none⟩ = some (.int .i64 u4) := (hM.m9.cell 4).trans hu4
      clear hu4
      have HS := Lib.hid (hM.step 4 m.inc (by omega) (by omega) rfl [4] rfl)
      clear hM
      go_wp2_with fail
      go_roundw
      case rel => exact .inr (.inl ⟨by go_num, by go_num, HS.out⟩)
      case measure => simp [intOf]
    · have fz := hM.m9.frozen
      have fl := hM.m9.lt
      have g1 : wr.cell? ⟨ab, ao + 1, none⟩ = some (.int .i64 m.job) := (hM.bel.cell (p := ⟨ab, ao + 1, none⟩) HQ.out.1).trans HQ.out.2.2.1
      obtain ⟨u5, _, hu5⟩ := ints_at (keepM m [4]) 5 (by omega)
      have f5 : wr.cell? ⟨b9, 5, none⟩ = some (.int .i64 u5) := (hM.m9.cell 5).trans hu5
      clear hu5
      have HS := Lib.hid (hM.step 5 m.job (by omega) (by omega) rfl [4, 5] rfl)
      clear hM
      go_wp2_with fail
      go_roundw
      case rel => exact .inr (.inr (⟨by go_num, by go_num, HS.out⟩))
      case measure => simp [intOf]
    · have h9 := hM.m9
      have h8 := hM.m8
      have z2 := hM.m8.frozen
      have l8 := hM.m8.lt
      have l9 := hM.m9.lt
      have y0 := h8.cell 0
      have c0 := h9.cell 0
      have y1 := h8.cell 1
      have c1 := h9.cell 1
      have y2 := h8.cell 2
      have c2 := h9.cell 2
      have y3 := h8.cell 3
      have c3 := h9.cell 3
      have y4 := h8.cell 4
      have c4 := h9.cell 4
      have y5 := h8.cell 5
      have c5 := h9.cell 5
      have y6 := h8.cell 6
      have c6 := h9.cell 6
      have y7 := h8.cell 7
      have c7 := h9.cell 7
      have y8 := h8.cell 8
      have c8 := h9.cell 8
      have y9 := h8.cell 9
      have c9 := h9.cell 9
      have y10 := h8.cell 10
      have c10 := h9.cell 10
      have y11 := h8.cell 11
      have c11 := h9.cell 11
      simp only [List.getElem?_toArray, List.getElem?_cons_zero, List.getElem?_cons_succ] at y0 c0 y1 c1 y2 c2 y3 c3 y4 c4 y5 c5 y6 c6 y7 c7 y8 c8 y9 c9 y10 c10 y11 c11
      have HI2 := Lib.hid hM
      clear hM h8 h9
      go_wp2_with fail
      obtain ⟨hbz, hbe⟩ := lay12 HI2.out.m8 HI2.out.g8 HI2.out.bel (.int .i64 (keepM m [4, 5]).kind) (.int .i64 (keepM m [4, 5]).frm) (.int .i64 (keepM m [4, 5]).to_) (.int .i64 (keepM m [4, 5]).epoch) (.int .i64 (keepM m [4, 5]).inc) (.int .i64 (keepM m [4, 5]).job) (.int .i64 (keepM m [4, 5]).tick) (.int .i64 (keepM m [4, 5]).prio) (.int .i64 (keepM m [4, 5]).code) (.int .i64 (keepM m [4, 5]).res.a) (.int .i64 (keepM m [4, 5]).res.b) (.int .i64 (keepM m [4, 5]).res.c)
      have HZ := Lib.hid hbe
      clear hbe
      generalize ((((((((((((wr.setCell ⟨b8, 0, none⟩ (.int .i64 (keepM m [4, 5]).kind)).setCell ⟨b8, 1, none⟩ (.int .i64 (keepM m [4, 5]).frm)).setCell ⟨b8, 2, none⟩ (.int .i64 (keepM m [4, 5]).to_)).setCell ⟨b8, 3, none⟩ (.int .i64 (keepM m [4, 5]).epoch)).setCell ⟨b8, 4, none⟩ (.int .i64 (keepM m [4, 5]).inc)).setCell ⟨b8, 5, none⟩ (.int .i64 (keepM m [4, 5]).job)).setCell ⟨b8, 6, none⟩ (.int .i64 (keepM m [4, 5]).tick)).setCell ⟨b8, 7, none⟩ (.int .i64 (keepM m [4, 5]).prio)).setCell ⟨b8, 8, none⟩ (.int .i64 (keepM m [4, 5]).code)).setCell ⟨b8, 9, none⟩ (.int .i64 (keepM m [4, 5]).res.a)).setCell ⟨b8, 10, none⟩ (.int .i64 (keepM m [4, 5]).res.b)).setCell ⟨b8, 11, none⟩ (.int .i64 (keepM m [4, 5]).res.c)) = wz at hbz HZ ⊢
      have d0 := hbz.cell 0
      have d1 := hbz.cell 1
      have d2 := hbz.cell 2
      have d3 := hbz.cell 3
      have d4 := hbz.cell 4
      have d5 := hbz.cell 5
      have d6 := hbz.cell 6
      have d7 := hbz.cell 7
      have d8 := hbz.cell 8
      have d9 := hbz.cell 9
      have d10 := hbz.cell 10
      have d11 := hbz.cell 11
      simp only [List.getElem?_toArray, List.getElem?_cons_zero, List.getElem?_cons_succ] at d0 d1 d2 d3 d4 d5 d6 d7 d8 d9 d10 d11
      refine bodyPost_ret (v := aggMsg (keepM m [4, 5])) (by simp [results, Tryd.results96, go_sem, d0, d1, d2, d3, d4, d5, d6, d7, d8, d9, d10, d11]) rfl ⟨rfl, HZ.out⟩
set_option maxRecDepth 100000 in
set_option maxHeartbeats 6400000 in
theorem made_k6 (m : LMsg) (hk : m.kind = 6) (A : Option Addr) (c : Nat) (w : World) (h : RdI w A 5 [m.job, m.prio, m.res.a, m.res.b, m.res.c]) : Calls Tryd.prog 96 #[.int .i64 6, .int .i64 m.frm, .int .i64 m.to_, .slice A 5 c] w fun e w' => e = .returned (aggMsg (keepM m [5, 7, 9, 10, 11])) ∧ Below w.heap.size w w' := by
  obtain ⟨ab, ao, rfl⟩ : ∃ ab ao, A = some ⟨ab, ao, none⟩ := by
    obtain ⟨b, o, _, e, _⟩ := RdI.at_ h (k := 0) (by omega)
    exact ⟨b, o, e⟩
  obtain ⟨hla, q0⟩ := h.cells_ (k := 0) (x := m.job) rfl
  obtain ⟨hla1, q1⟩ := h.cells_ (k := 1) (x := m.prio) rfl
  obtain ⟨hla2, q2⟩ := h.cells_ (k := 2) (x := m.res.a) rfl
  obtain ⟨hla3, q3⟩ := h.cells_ (k := 3) (x := m.res.b) rfl
  obtain ⟨hla4, q4⟩ := h.cells_ (k := 4) (x := m.res.c) rfl
  simp only [Nat.add_zero] at q0
  have HQ := Lib.hid (And.intro hla (And.intro q0 (And.intro q1 (And.intro q2 (And.intro q3 (And.intro q4 (trivial)))))))
  clear h hla hla1 hla2 hla3 hla4 q0 q1 q2 q3 q4
  have hs1 : (w.alloc (.cells #[.int .i64 0, .int .i64 0, .int .i64 0, .int .i64 0, .int .i64 0, .int .i64 0, .int .i64 0, .int .i64 0, .int .i64 0, .int .i64 0, .int .i64 0, .int .i64 0] 38)).heap.size = w.heap.size + 1 := by simp
  have h8 := (Blk.new w 38 #[.int .i64 0, .int .i64 0, .int .i64 0, .int .i64 0, .int .i64 0, .int .i64 0, .int .i64 0, .int .i64 0, .int .i64 0, .int .i64 0, .int .i64 0, .int .i64 0]).alloc (.cells #[.int .i64 6, .int .i64 m.frm, .int .i64 m.to_, .int .i64 0, .int .i64 0, .int .i64 0, .int .i64 0, .int .i64 0, .int .i64 0, .int .i64 0, .int .i64 0, .int .i64 0] 38)
  have h9 := Blk.new (w.alloc (.cells #[.int .i64 0, .int .i64 0, .int .i64 0, .int .i64 0, .int .i64 0, .int .i64 0, .int .i64 0, .int .i64 0, .int .i64 0, .int .i64 0, .int .i64 0, .int .i64 0] 38)) 38 #[.int .i64 6, .int .i64 m.frm, .int .i64 m.to_, .int .i64 0, .int .i64 0, .int .i64 0, .int .i64 0, .int .i64 0, .int .i64 0, .int .i64 0, .int .i64 0, .int .i64 0]
  rw [hs1] at h9
  have hB : Below w.heap.size w ((w.alloc (.cells #[.int .i64 0, .int .i64 0, .int .i64 0, .int .i64 0, .int .i64 0, .int .i64 0, .int .i64 0, .int .i64 0, .int .i64 0, .int .i64 0, .int .i64 0, .int .i64 0] 38)).alloc (.cells #[.int .i64 6, .int .i64 m.frm, .int .i64 m.to_, .int .i64 0, .int .i64 0, .int .i64 0, .int .i64 0, .int .i64 0, .int .i64 0, .int .i64 0, .int .i64 0, .int .i64 0] 38)) := ((Below.refl _ _).alloc (Nat.le_refl _) _).alloc (by simp) _
  have hM : MI w ((w.alloc (.cells #[.int .i64 0, .int .i64 0, .int .i64 0, .int .i64 0, .int .i64 0, .int .i64 0, .int .i64 0, .int .i64 0, .int .i64 0, .int .i64 0, .int .i64 0, .int .i64 0] 38)).alloc (.cells #[.int .i64 6, .int .i64 m.frm, .int .i64 m.to_, .int .i64 0, .int .i64 0, .int .i64 0, .int .i64 0, .int .i64 0, .int .i64 0, .int .i64 0, .int .i64 0, .int .i64 0] 38)) w.heap.size (w.heap.size + 1) m [] := ⟨h8, by rw [keepM_nil, hk]; exact h9, by omega, by omega, by omega, hB⟩
  have H0 := Lib.hid hM
  have HK := Lib.hid hk
  clear hs1 h8 h9 hB hM hk
  go_enter Tryd.func96, Tryd.ntmps96
  go_wp2_with fail
  generalize (w.alloc (.cells #[.int .i64 0, .int .i64 0, .int .i64 0, .int .i64 0, .int .i64 0, .int .i64 0, .int .i64 0, .int .i64 0, .int .i64 0, .int .i64 0, .int .i64 0, .int .i64 0] 38)).alloc (.cells #[.int .i64 6, .int .i64 m.frm, .int .i64 m.to_, .int .i64 0, .int .i64 0, .int .i64 0, .int .i64 0, .int .i64 0, .int .i64 0, .int .i64 0, .int .i64 0, .int .i64 0] 38) = w1 at H0 ⊢
  obtain ⟨b8, hb8⟩ : ∃ b8, w.heap.size = b8 := ⟨_, rfl⟩
  obtain ⟨b9, hb9⟩ : ∃ b9, w.heap.size + 1 = b9 := ⟨_, rfl⟩
  have h1 : MI w w1 b8 b9 m [] := by rw [← hb8, ← hb9]; exact H0.out
  try simp only [hb9]
  try simp only [hb8]
  have hb98 : b8 + 1 = b9 := by omega
  try simp only [hb98]
  (with_reducible refine (rnames_k6 w1).mono ?_)
  rintro e w2 ⟨rfl, hB2⟩
  have hlt8 := h1.m8.lt
  have hlt9 := h1.m9.lt
  have H2 := Lib.hid (show MI w w2 b8 b9 m [] from ⟨h1.m8.below hB2 h1.m8.lt, h1.m9.below hB2 h1.m9.lt, h1.ne, h1.g8, h1.g9, h1.bel.trans (hB2.mono h1.bel.size)⟩)
  clear h1 hb8 hb9 hb98 H0 hB2 hlt8 hlt9
  go_wp2
  go_loopw [11, 12] (fun kk i wr => (i = .int .i64 0 ∧ kk = .int .i64 0 ∧ MI w wr b8 b9 m []) ∨ (i = .int .i64 1 ∧ kk = .int .i64 1 ∧ MI w wr b8 b9 m [5]) ∨ (i = .int .i64 2 ∧ kk = .int .i64 2 ∧ MI w wr b8 b9 m [5, 7]) ∨ (i = .int .i64 3 ∧ kk = .int .i64 5 ∧ MI w wr b8 b9 m [5, 7, 9, 10, 11])) (fun _ i _ => 3 - (intOf i).toNat)
  case atStart => exact .inl ⟨rfl, rfl, H2.out⟩
  case round =>
    rcases hrel with ⟨rfl, rfl, hM⟩ | ⟨rfl, rfl, hM⟩ | ⟨rfl, rfl, hM⟩ | ⟨rfl, rfl, hM⟩
    · have fz := hM.m9.frozen
      have fl := hM.m9.lt
      have g0 : wr.cell? ⟨ab, ao, none⟩ = some (.int .i64 m.job) := (hM.bel.cell (p := ⟨ab, ao, none⟩) HQ.out.1).trans HQ.out.2.1
      obtain ⟨u5, _, hu5⟩ := ints_at (keepM m []) 5 (by omega)
      have f5 : wr.cell? ⟨b9, 5, none⟩ = some (.int .i64 u5) := (hM.m9.cell 5).trans hu5
      clear hu5
      have HS := Lib.hid (hM.step 5 m.job (by omega) (by omega) rfl [5] rfl)
      clear hM
      go_wp2_with fail
      go_roundw
      case rel => exact .inr (.inl ⟨by go_num, by go_num, HS.out⟩)
      case measure => simp [intOf]
    · have fz := hM.m9.frozen
      have fl := hM.m9.lt
      have g1 : wr.cell? ⟨ab, ao + 1, none⟩ = some (.int .i64 m.prio) := (hM.bel.cell (p := ⟨ab, ao + 1, none⟩) HQ.out.1).trans HQ.out.2.2.1
      obtain ⟨u7, _, hu7⟩ := ints_at (keepM m [5]) 7 (by omega)
      have f7 : wr.cell? ⟨b9, 7, none⟩ = some (.int .i64 u7) := (hM.m9.cell 7).trans hu7
      clear hu7
      have HS := Lib.hid (hM.step 7 m.prio (by omega) (by omega) rfl [5, 7] rfl)
      clear hM
      go_wp2_with fail
      go_roundw
      case rel => exact .inr (.inr (.inl ⟨by go_num, by go_num, HS.out⟩))
      case measure => simp [intOf]
    · have fz := hM.m9.frozen
      have fl := hM.m9.lt
      have g2 : wr.cell? ⟨ab, ao + 2, none⟩ = some (.int .i64 m.res.a) := (hM.bel.cell (p := ⟨ab, ao + 2, none⟩) HQ.out.1).trans HQ.out.2.2.2.1
      obtain ⟨u9, _, hu9⟩ := ints_at (keepM m [5, 7]) 9 (by omega)
      have f9 : wr.cell? ⟨b9, 9, none⟩ = some (.int .i64 u9) := (hM.m9.cell 9).trans hu9
      clear hu9
      have g3 : wr.cell? ⟨ab, ao + 3, none⟩ = some (.int .i64 m.res.b) := (hM.bel.cell (p := ⟨ab, ao + 3, none⟩) HQ.out.1).trans HQ.out.2.2.2.2.1
      obtain ⟨u10, _, hu10⟩ := ints_at (keepM m [5, 7]) 10 (by omega)
      have f10 : wr.cell? ⟨b9, 10, none⟩ = some (.int .i64 u10) := (hM.m9.cell 10).trans hu10
      clear hu10
      have g4 : wr.cell? ⟨ab, ao + 4, none⟩ = some (.int .i64 m.res.c) := (hM.bel.cell (p := ⟨ab, ao + 4, none⟩) HQ.out.1).trans HQ.out.2.2.2.2.2.1
      obtain ⟨u11, _, hu11⟩ := ints_at (keepM m [5, 7]) 11 (by omega)
      have f11 : wr.cell? ⟨b9, 11, none⟩ = some (.int .i64 u11) := (hM.m9.cell 11).trans hu11
      clear hu11
      have HS := Lib.hid (((hM.step 9 m.res.a (by omega) (by omega) rfl [5, 7, 9] rfl).step 10 m.res.b (by omega) (by omega) rfl [5, 7, 9, 10] rfl).step 11 m.res.c (by omega) (by omega) rfl [5, 7, 9, 10, 11] rfl)
      clear hM
      go_wp2_with fail
      go_region
      all_goals
        go_wp2_with fail
        go_roundw
        case rel => exact .inr (.inr (.inr (⟨by go_num, by go_num, ⟨HS.out.m8, HS.out.m9, HS.out.ne, HS.out.g8, HS.out.g9, ⟨HS.out.bel.os, HS.out.bel.tape, HS.out.bel.output, HS.out.bel.size, HS.out.bel.block⟩⟩⟩)))
        case measure => simp [intOf]
    · have h9 := hM.m9
      have h8 := hM.m8
      have z2 := hM.m8.frozen
      have l8 := hM.m8.lt
      have l9 := hM.m9.lt
      have y0 := h8.cell 0
      have c0 := h9.cell 0
      have y1 := h8.cell 1
      have c1 := h9.cell 1
      have y2 := h8.cell 2
      have c2 := h9.cell 2
      have y3 := h8.cell 3
      have c3 := h9.cell 3
      have y4 := h8.cell 4
      have c4 := h9.cell 4
      have y5 := h8.cell 5
      have c5 := h9.cell 5
      have y6 := h8.cell 6
      have c6 := h9.cell 6
      have y7 := h8.cell 7
      have c7 := h9.cell 7
      have y8 := h8.cell 8
      have c8 := h9.cell 8
      have y9 := h8.cell 9
      have c9 := h9.cell 9
      have y10 := h8.cell 10
      have c10 := h9.cell 10
      have y11 := h8.cell 11
      have c11 := h9.cell 11
      simp only [List.getElem?_toArray, List.getElem?_cons_zero, List.getElem?_cons_succ] at y0 c0 y1 c1 y2 c2 y3 c3 y4 c4 y5 c5 y6 c6 y7 c7 y8 c8 y9 c9 y10 c10 y11 c11
      have HI2 := Lib.hid hM
      clear hM h8 h9
      go_wp2_with fail
      obtain ⟨hbz, hbe⟩ := lay12 HI2.out.m8 HI2.out.g8 HI2.out.bel (.int .i64 (keepM m [5, 7, 9, 10, 11]).kind) (.int .i64 (keepM m [5, 7, 9, 10, 11]).frm) (.int .i64 (keepM m [5, 7, 9, 10, 11]).to_) (.int .i64 (keepM m [5, 7, 9, 10, 11]).epoch) (.int .i64 (keepM m [5, 7, 9, 10, 11]).inc) (.int .i64 (keepM m [5, 7, 9, 10, 11]).job) (.int .i64 (keepM m [5, 7, 9, 10, 11]).tick) (.int .i64 (keepM m [5, 7, 9, 10, 11]).prio) (.int .i64 (keepM m [5, 7, 9, 10, 11]).code) (.int .i64 (keepM m [5, 7, 9, 10, 11]).res.a) (.int .i64 (keepM m [5, 7, 9, 10, 11]).res.b) (.int .i64 (keepM m [5, 7, 9, 10, 11]).res.c)
      have HZ := Lib.hid hbe
      clear hbe
      generalize ((((((((((((wr.setCell ⟨b8, 0, none⟩ (.int .i64 (keepM m [5, 7, 9, 10, 11]).kind)).setCell ⟨b8, 1, none⟩ (.int .i64 (keepM m [5, 7, 9, 10, 11]).frm)).setCell ⟨b8, 2, none⟩ (.int .i64 (keepM m [5, 7, 9, 10, 11]).to_)).setCell ⟨b8, 3, none⟩ (.int .i64 (keepM m [5, 7, 9, 10, 11]).epoch)).setCell ⟨b8, 4, none⟩ (.int .i64 (keepM m [5, 7, 9, 10, 11]).inc)).setCell ⟨b8, 5, none⟩ (.int .i64 (keepM m [5, 7, 9, 10, 11]).job)).setCell ⟨b8, 6, none⟩ (.int .i64 (keepM m [5, 7, 9, 10, 11]).tick)).setCell ⟨b8, 7, none⟩ (.int .i64 (keepM m [5, 7, 9, 10, 11]).prio)).setCell ⟨b8, 8, none⟩ (.int .i64 (keepM m [5, 7, 9, 10, 11]).code)).setCell ⟨b8, 9, none⟩ (.int .i64 (keepM m [5, 7, 9, 10, 11]).res.a)).setCell ⟨b8, 10, none⟩ (.int .i64 (keepM m [5, 7, 9, 10, 11]).res.b)).setCell ⟨b8, 11, none⟩ (.int .i64 (keepM m [5, 7, 9, 10, 11]).res.c)) = wz at hbz HZ ⊢
      have d0 := hbz.cell 0
      have d1 := hbz.cell 1
      have d2 := hbz.cell 2
      have d3 := hbz.cell 3
      have d4 := hbz.cell 4
      have d5 := hbz.cell 5
      have d6 := hbz.cell 6
      have d7 := hbz.cell 7
      have d8 := hbz.cell 8
      have d9 := hbz.cell 9
      have d10 := hbz.cell 10
      have d11 := hbz.cell 11
      simp only [List.getElem?_toArray, List.getElem?_cons_zero, List.getElem?_cons_succ] at d0 d1 d2 d3 d4 d5 d6 d7 d8 d9 d10 d11
      refine bodyPost_ret (v := aggMsg (keepM m [5, 7, 9, 10, 11])) (by simp [results, Tryd.results96, go_sem, d0, d1, d2, d3, d4, d5, d6, d7, d8, d9, d10, d11]) rfl ⟨rfl, HZ.out⟩
set_option maxRecDepth 100000 in
set_option maxHeartbeats 6400000 in
theorem made_k7 (m : LMsg) (hk : m.kind = 7) (A : Option Addr) (c : Nat) (w : World) (h : RdI w A 1 [m.job]) : Calls Tryd.prog 96 #[.int .i64 7, .int .i64 m.frm, .int .i64 m.to_, .slice A 1 c] w fun e w' => e = .returned (aggMsg (keepM m [5])) ∧ Below w.heap.size w w' := by
  obtain ⟨ab, ao, rfl⟩ : ∃ ab ao, A = some ⟨ab, ao, none⟩ := by
    obtain ⟨b, o, _, e, _⟩ := RdI.at_ h (k := 0) (by omega)
    exact ⟨b, o, e⟩
  obtain ⟨hla, q0⟩ := h.cells_ (k := 0) (x := m.job) rfl
  simp only [Nat.add_zero] at q0
  have HQ := Lib.hid (And.intro hla (And.intro q0 (trivial)))
  clear h hla q0
  have hs1 : (w.alloc (.cells #[.int .i64 0, .int .i64 0, .int .i64 0, .int .i64 0, .int .i64 0, .int .i64 0, .int .i64 0, .int .i64 0, .int .i64 0, .int .i64 0, .int .i64 0, .int .i64 0] 38)).heap.size = w.heap.size + 1 := by simp
  have h8 := (Blk.new w 38 #[.int .i64 0, .int .i64 0, .int .i64 0, .int .i64 0, .int .i64 0, .int .i64 0, .int .i64 0, .int .i64 0, .int .i64 0, .int .i64 0, .int .i64 0, .int .i64 0]).alloc (.cells #[.int .i64 7, .int .i64 m.frm, .int .i64 m.to_, .int .i64 0, .int .i64 0, .int .i64 0, .int .i64 0, .int .i64 0, .int .i64 0, .int .i64 0, .int .i64 0, .int .i64 0] 38)
  have h9 := Blk.new (w.alloc (.cells #[.int .i64 0, .int .i64 0, .int .i64 0, .int .i64 0, .int .i64 0, .int .i64 0, .int .i64 0, .int .i64 0, .int .i64 0, .int .i64 0, .int .i64 0, .int .i64 0] 38)) 38 #[.int .i64 7, .int .i64 m.frm, .int .i64 m.to_, .int .i64 0, .int .i64 0, .int .i64 0, .int .i64 0, .int .i64 0, .int .i64 0, .int .i64 0, .int .i64 0, .int .i64 0]
  rw [hs1] at h9
  have hB : Below w.heap.size w ((w.alloc (.cells #[.int .i64 0, .int .i64 0, .int .i64 0, .int .i64 0, .int .i64 0, .int .i64 0, .int .i64 0, .int .i64 0, .int .i64 0, .int .i64 0, .int .i64 0, .int .i64 0] 38)).alloc (.cells #[.int .i64 7, .int .i64 m.frm, .int .i64 m.to_, .int .i64 0, .int .i64 0, .int .i64 0, .int .i64 0, .int .i64 0, .int .i64 0, .int .i64 0, .int .i64 0, .int .i64 0] 38)) := ((Below.refl _ _).alloc (Nat.le_refl _) _).alloc (by simp) _
  have hM : MI w ((w.alloc (.cells #[.int .i64 0, .int .i64 0, .int .i64 0, .int .i64 0, .int .i64 0, .int .i64 0, .int .i64 0, .int .i64 0, .int .i64 0, .int .i64 0, .int .i64 0, .int .i64 0] 38)).alloc (.cells #[.int .i64 7, .int .i64 m.frm, .int .i64 m.to_, .int .i64 0, .int .i64 0, .int .i64 0, .int .i64 0, .int .i64 0, .int .i64 0, .int .i64 0, .int .i64 0, .int .i64 0] 38)) w.heap.size (w.heap.size + 1) m [] := ⟨h8, by rw [keepM_nil, hk]; exact h9, by omega, by omega, by omega, hB⟩
  have H0 := Lib.hid hM
  have HK := Lib.hid hk
  clear hs1 h8 h9 hB hM hk
  go_enter Tryd.func96, Tryd.ntmps96
  go_wp2_with fail
  generalize (w.alloc (.cells #[.int .i64 0, .int .i64 0, .int .i64 0, .int .i64 0, .int .i64 0, .int .i64 0, .int .i64 0, .int .i64 0, .int .i64 0, .int .i64 0, .int .i64 0, .int .i64 0] 38)).alloc (.cells #[.int .i64 7, .int .i64 m.frm, .int .i64 m.to_, .int .i64 0, .int .i64 0, .int .i64 0, .int .i64 0, .int .i64 0, .int .i64 0, .int .i64 0, .int .i64 0, .int .i64 0] 38) = w1 at H0 ⊢
  obtain ⟨b8, hb8⟩ : ∃ b8, w.heap.size = b8 := ⟨_, rfl⟩
  obtain ⟨b9, hb9⟩ : ∃ b9, w.heap.size + 1 = b9 := ⟨_, rfl⟩
  have h1 : MI w w1 b8 b9 m [] := by rw [← hb8, ← hb9]; exact H0.out
  try simp only [hb9]
  try simp only [hb8]
  have hb98 : b8 + 1 = b9 := by omega
  try simp only [hb98]
  (with_reducible refine (rnames_k7 w1).mono ?_)
  rintro e w2 ⟨rfl, hB2⟩
  have hlt8 := h1.m8.lt
  have hlt9 := h1.m9.lt
  have H2 := Lib.hid (show MI w w2 b8 b9 m [] from ⟨h1.m8.below hB2 h1.m8.lt, h1.m9.below hB2 h1.m9.lt, h1.ne, h1.g8, h1.g9, h1.bel.trans (hB2.mono h1.bel.size)⟩)
  clear h1 hb8 hb9 hb98 H0 hB2 hlt8 hlt9
  go_wp2
  go_loopw [11, 12] (fun kk i wr => (i = .int .i64 0 ∧ kk = .int .i64 0 ∧ MI w wr b8 b9 m []) ∨ (i = .int .i64 1 ∧ kk = .int .i64 1 ∧ MI w wr b8 b9 m [5])) (fun _ i _ => 1 - (intOf i).toNat)
  case atStart => exact .inl ⟨rfl, rfl, H2.out⟩
  case round =>
    rcases hrel with ⟨rfl, rfl, hM⟩ | ⟨rfl, rfl, hM⟩
    · have fz := hM.m9.frozen
      have fl := hM.m9.lt
      have g0 : wr.cell? ⟨ab, ao, none⟩ = some (.int .i64 m.job) := (hM.bel.cell (p := ⟨ab, ao, none⟩) HQ.out.1).trans HQ.out.2.1
      obtain ⟨u5, _, hu5⟩ := ints_at (keepM m []) 5 (by omega)
      have f5 : wr.cell? ⟨b9, 5, none⟩ = some (.int .i64 u5) := (hM.m9.cell 5).trans hu5
      clear hu5
      have HS := Lib.hid (hM.step 5 m.job (by omega) (by omega) rfl [5] rfl)
      clear hM
      go_wp2_with fail
      go_roundw
      case rel => exact .inr (⟨by go_num, by go_num, HS.out⟩)
      case measure => simp [intOf]
    · have h9 := hM.m9
      have h8 := hM.m8
      have z2 := hM.m8.frozen
      have l8 := hM.m8.lt
      have l9 := hM.m9.lt
      have y0 := h8.cell 0
      have c0 := h9.cell 0
      have y1 := h8.cell 1
      have c1 := h9.cell 1
      have y2 := h8.cell 2
      have c2 := h9.cell 2
      have y3 := h8.cell 3
      have c3 := h9.cell 3
      have y4 := h8.cell 4
      have c4 := h9.cell 4
      have y5 := h8.cell 5
      have c5 := h9.cell 5
      have y6 := h8.cell 6
      have c6 := h9.cell 6
      have y7 := h8.cell 7
      have c7 := h9.cell 7
      have y8 := h8.cell 8
      have c8 := h9.cell 8
      have y9 := h8.cell 9
      have c9 := h9.cell 9
      have y10 := h8.cell 10
      have c10 := h9.cell 10
      have y11 := h8.cell 11
      have c11 := h9.cell 11
      simp only [List.getElem?_toArray, List.getElem?_cons_zero, List.getElem?_cons_succ] at y0 c0 y1 c1 y2 c2 y3 c3 y4 c4 y5 c5 y6 c6 y7 c7 y8 c8 y9 c9 y10 c10 y11 c11
      have HI2 := Lib.hid hM
      clear hM h8 h9
      go_wp2_with fail
      obtain ⟨hbz, hbe⟩ := lay12 HI2.out.m8 HI2.out.g8 HI2.out.bel (.int .i64 (keepM m [5]).kind) (.int .i64 (keepM m [5]).frm) (.int .i64 (keepM m [5]).to_) (.int .i64 (keepM m [5]).epoch) (.int .i64 (keepM m [5]).inc) (.int .i64 (keepM m [5]).job) (.int .i64 (keepM m [5]).tick) (.int .i64 (keepM m [5]).prio) (.int .i64 (keepM m [5]).code) (.int .i64 (keepM m [5]).res.a) (.int .i64 (keepM m [5]).res.b) (.int .i64 (keepM m [5]).res.c)
      have HZ := Lib.hid hbe
      clear hbe
      generalize ((((((((((((wr.setCell ⟨b8, 0, none⟩ (.int .i64 (keepM m [5]).kind)).setCell ⟨b8, 1, none⟩ (.int .i64 (keepM m [5]).frm)).setCell ⟨b8, 2, none⟩ (.int .i64 (keepM m [5]).to_)).setCell ⟨b8, 3, none⟩ (.int .i64 (keepM m [5]).epoch)).setCell ⟨b8, 4, none⟩ (.int .i64 (keepM m [5]).inc)).setCell ⟨b8, 5, none⟩ (.int .i64 (keepM m [5]).job)).setCell ⟨b8, 6, none⟩ (.int .i64 (keepM m [5]).tick)).setCell ⟨b8, 7, none⟩ (.int .i64 (keepM m [5]).prio)).setCell ⟨b8, 8, none⟩ (.int .i64 (keepM m [5]).code)).setCell ⟨b8, 9, none⟩ (.int .i64 (keepM m [5]).res.a)).setCell ⟨b8, 10, none⟩ (.int .i64 (keepM m [5]).res.b)).setCell ⟨b8, 11, none⟩ (.int .i64 (keepM m [5]).res.c)) = wz at hbz HZ ⊢
      have d0 := hbz.cell 0
      have d1 := hbz.cell 1
      have d2 := hbz.cell 2
      have d3 := hbz.cell 3
      have d4 := hbz.cell 4
      have d5 := hbz.cell 5
      have d6 := hbz.cell 6
      have d7 := hbz.cell 7
      have d8 := hbz.cell 8
      have d9 := hbz.cell 9
      have d10 := hbz.cell 10
      have d11 := hbz.cell 11
      simp only [List.getElem?_toArray, List.getElem?_cons_zero, List.getElem?_cons_succ] at d0 d1 d2 d3 d4 d5 d6 d7 d8 d9 d10 d11
      refine bodyPost_ret (v := aggMsg (keepM m [5])) (by simp [results, Tryd.results96, go_sem, d0, d1, d2, d3, d4, d5, d6, d7, d8, d9, d10, d11]) rfl ⟨rfl, HZ.out⟩
set_option maxRecDepth 100000 in
set_option maxHeartbeats 6400000 in
theorem made_k8 (m : LMsg) (hk : m.kind = 8) (A : Option Addr) (c : Nat) (w : World) (h : RdI w A 2 [m.job, m.code]) : Calls Tryd.prog 96 #[.int .i64 8, .int .i64 m.frm, .int .i64 m.to_, .slice A 2 c] w fun e w' => e = .returned (aggMsg (keepM m [5, 8])) ∧ Below w.heap.size w w' := by
  obtain ⟨ab, ao, rfl⟩ : ∃ ab ao, A = some ⟨ab, ao, none⟩ := by
    obtain ⟨b, o, _, e, _⟩ := RdI.at_ h (k := 0) (by omega)
    exact ⟨b, o, e⟩
  obtain ⟨hla, q0⟩ := h.cells_ (k := 0) (x := m.job) rfl
  obtain ⟨hla1, q1⟩ := h.cells_ (k := 1) (x := m.code) rfl
  simp only [Nat.add_zero] at q0
  have HQ := Lib.hid (And.intro hla (And.intro q0 (And.intro q1 (trivial))))
  clear h hla hla1 q0 q1
  have hs1 : (w.alloc (.cells #[.int .i64 0, .int .i64 0, .int .i64 0, .int .i64 0, .int .i64 0, .int .i64 0, .int .i64 0, .int .i64 0, .int .i64 0, .int .i64 0, .int .i64 0, .int .i64 0] 38)).heap.size = w.heap.size + 1 := by simp
  have h8 := (Blk.new w 38 #[.int .i64 0, .int .i64 0, .int .i64 0, .int .i64 0, .int .i64 0, .int .i64 0, .int .i64 0, .int .i64 0, .int .i64 0, .int .i64 0, .int .i64 0, .int .i64 0]).alloc (.cells #[.int .i64 8, .int .i64 m.frm, .int .i64 m.to_, .int .i64 0, .int .i64 0, .int .i64 0, .int .i64 0, .int .i64 0, .int .i64 0, .int .i64 0, .int .i64 0, .int .i64 0] 38)
  have h9 := Blk.new (w.alloc (.cells #[.int .i64 0, .int .i64 0, .int .i64 0, .int .i64 0, .int .i64 0, .int .i64 0, .int .i64 0, .int .i64 0, .int .i64 0, .int .i64 0, .int .i64 0, .int .i64 0] 38)) 38 #[.int .i64 8, .int .i64 m.frm, .int .i64 m.to_, .int .i64 0, .int .i64 0, .int .i64 0, .int .i64 0, .int .i64 0, .int .i64 0, .int .i64 0, .int .i64 0, .int .i64 0]
  rw [hs1] at h9
  have hB : Below w.heap.size w ((w.alloc (.cells #[.int .i64 0, .int .i64 0, .int .i64 0, .int .i64 0, .int .i64 0, .int .i64 0, .int .i64 0, .int .i64 0, .int .i64 0, .int .i64 0, .int .i64 0, .int .i64 0] 38)).alloc (.cells #[.int .i64 8, .int .i64 m.frm, .int .i64 m.to_, .int .i64 0, .int .i64 0, .int .i64 0, .int .i64 0, .int .i64 0, .int .i64 0, .int .i64 0, .int .i64 0, .int .i64 0] 38)) := ((Below.refl _ _).alloc (Nat.le_refl _) _).alloc (by simp) _
  have hM : MI w ((w.alloc (.cells #[.int .i64 0, .int .i64 0, .int .i64 0, .int .i64 0, .int .i64 0, .int .i64 0, .int .i64 0, .int .i64 0, .int .i64 0, .int .i64 0, .int .i64 0, .int .i64 0] 38)).alloc (.cells #[.int .i64 8, .int .i64 m.frm, .int .i64 m.to_, .int .i64 0, .int .i64 0, .int .i64 0, .int .i64 0, .int .i64 0, .int .i64 0, .int .i64 0, .int .i64 0, .int .i64 0] 38)) w.heap.size (w.heap.size + 1) m [] := ⟨h8, by rw [keepM_nil, hk]; exact h9, by omega, by omega, by omega, hB⟩
  have H0 := Lib.hid hM
  have HK := Lib.hid hk
  clear hs1 h8 h9 hB hM hk
  go_enter Tryd.func96, Tryd.ntmps96
  go_wp2_with fail
  generalize (w.alloc (.cells #[.int .i64 0, .int .i64 0, .int .i64 0, .int .i64 0, .int .i64 0, .int .i64 0, .int .i64 0, .int .i64 0, .int .i64 0, .int .i64 0, .int .i64 0, .int .i64 0] 38)).alloc (.cells #[.int .i64 8, .int .i64 m.frm, .int .i64 m.to_, .int .i64 0, .int .i64 0, .int .i64 0, .int .i64 0, .int .i64 0, .int .i64 0, .int .i64 0, .int .i64 0, .int .i64 0] 38) = w1 at H0 ⊢
  obtain ⟨b8, hb8⟩ : ∃ b8, w.heap.size = b8 := ⟨_, rfl⟩
  obtain ⟨b9, hb9⟩ : ∃ b9, w.heap.size + 1 = b9 := ⟨_, rfl⟩
  have h1 : MI w w1 b8 b9 m [] := by rw [← hb8, ← hb9]; exact H0.out
  try simp only [hb9]
  try simp only [hb8]
  have hb98 : b8 + 1 = b9 := by omega
  try simp only [hb98]
  (with_reducible refine (rnames_k8 w1).mono ?_)
  rintro e w2 ⟨rfl, hB2⟩
  have hlt8 := h1.m8.lt
  have hlt9 := h1.m9.lt
  have H2 := Lib.hid (show MI w w2 b8 b9 m [] from ⟨h1.m8.below hB2 h1.m8.lt, h1.m9.below hB2 h1.m9.lt, h1.ne, h1.g8, h1.g9, h1.bel.trans (hB2.mono h1.bel.size)⟩)
  clear h1 hb8 hb9 hb98 H0 hB2 hlt8 hlt9
  go_wp2
  go_loopw [11, 12] (fun kk i wr => (i = .int .i64 0 ∧ kk = .int .i64 0 ∧ MI w wr b8 b9 m []) ∨ (i = .int .i64 1 ∧ kk = .int .i64 1 ∧ MI w wr b8 b9 m [5]) ∨ (i = .int .i64 2 ∧ kk = .int .i64 2 ∧ MI w wr b8 b9 m [5, 8])) (fun _ i _ => 2 - (intOf i).toNat)
  case atStart => exact .inl ⟨rfl, rfl, H2.out⟩
  case round =>
    rcases hrel with ⟨rfl, rfl, hM⟩ | ⟨rfl, rfl, hM⟩ | ⟨rfl, rfl, hM⟩
    · have fz := hM.m9.frozen
      have fl := hM.m9.lt
      have g0 : wr.cell? ⟨ab, ao, none⟩ = some (.int .i64 m.job) := (hM.bel.cell (p := ⟨ab, ao, none⟩) HQ.out.1).trans HQ.out.2.1
      obtain ⟨u5, _, hu5⟩ := ints_at (keepM m []) 5 (by omega)
      have f5 : wr.cell? ⟨b9, 5, none⟩ = some (.int .i64 u5) := (hM.m9.cell 5).trans hu5
      clear hu5
      have HS := Lib.hid (hM.step 5 m.job (by omega) (by omega) rfl [5] rfl)
      clear hM
      go_wp2_with fail
      go_roundw
      case rel => exact .inr (.inl ⟨by go_num, by go_num, HS.out⟩)
      case measure => simp [intOf]
    · have fz := hM.m9.frozen
      have fl := hM.m9.lt
      have g1 : wr.cell? ⟨ab, ao + 1, none⟩ = some (.int .i64 m.code) := (hM.bel.cell (p := ⟨ab, ao + 1, none⟩) HQ.out.1).trans HQ.out.2.2.1
      obtain ⟨u8, _, hu8⟩ := ints_at (keepM m [5]) 8 (by omega)
      have f8 : wr.cell? ⟨b9, 8, none⟩ = some (.int .i64 u8) := (hM.m9.cell 8).trans hu8
      clear hu8
      have HS := Lib.hid (hM.step 8 m.code (by omega) (by omega) rfl [5, 8] rfl)
      clear hM
      go_wp2_with fail
      go_roundw
      case rel => exact .inr (.inr (⟨by go_num, by go_num, HS.out⟩))
      case measure => simp [intOf]
    · have h9 := hM.m9
      have h8 := hM.m8
      have z2 := hM.m8.frozen
      have l8 := hM.m8.lt
      have l9 := hM.m9.lt
      have y0 := h8.cell 0
      have c0 := h9.cell 0
      have y1 := h8.cell 1
      have c1 := h9.cell 1
      have y2 := h8.cell 2
      have c2 := h9.cell 2
      have y3 := h8.cell 3
      have c3 := h9.cell 3
      have y4 := h8.cell 4
      have c4 := h9.cell 4
      have y5 := h8.cell 5
      have c5 := h9.cell 5
      have y6 := h8.cell 6
      have c6 := h9.cell 6
      have y7 := h8.cell 7
      have c7 := h9.cell 7
      have y8 := h8.cell 8
      have c8 := h9.cell 8
      have y9 := h8.cell 9
      have c9 := h9.cell 9
      have y10 := h8.cell 10
      have c10 := h9.cell 10
      have y11 := h8.cell 11
      have c11 := h9.cell 11
      simp only [List.getElem?_toArray, List.getElem?_cons_zero, List.getElem?_cons_succ] at y0 c0 y1 c1 y2 c2 y3 c3 y4 c4 y5 c5 y6 c6 y7 c7 y8 c8 y9 c9 y10 c10 y11 c11
      have HI2 := Lib.hid hM
      clear hM h8 h9
      go_wp2_with fail
      obtain ⟨hbz, hbe⟩ := lay12 HI2.out.m8 HI2.out.g8 HI2.out.bel (.int .i64 (keepM m [5, 8]).kind) (.int .i64 (keepM m [5, 8]).frm) (.int .i64 (keepM m [5, 8]).to_) (.int .i64 (keepM m [5, 8]).epoch) (.int .i64 (keepM m [5, 8]).inc) (.int .i64 (keepM m [5, 8]).job) (.int .i64 (keepM m [5, 8]).tick) (.int .i64 (keepM m [5, 8]).prio) (.int .i64 (keepM m [5, 8]).code) (.int .i64 (keepM m [5, 8]).res.a) (.int .i64 (keepM m [5, 8]).res.b) (.int .i64 (keepM m [5, 8]).res.c)
      have HZ := Lib.hid hbe
      clear hbe
      generalize ((((((((((((wr.setCell ⟨b8, 0, none⟩ (.int .i64 (keepM m [5, 8]).kind)).setCell ⟨b8, 1, none⟩ (.int .i64 (keepM m [5, 8]).frm)).setCell ⟨b8, 2, none⟩ (.int .i64 (keepM m [5, 8]).to_)).setCell ⟨b8, 3, none⟩ (.int .i64 (keepM m [5, 8]).epoch)).setCell ⟨b8, 4, none⟩ (.int .i64 (keepM m [5, 8]).inc)).setCell ⟨b8, 5, none⟩ (.int .i64 (keepM m [5, 8]).job)).setCell ⟨b8, 6, none⟩ (.int .i64 (keepM m [5, 8]).tick)).setCell ⟨b8, 7, none⟩ (.int .i64 (keepM m [5, 8]).prio)).setCell ⟨b8, 8, none⟩ (.int .i64 (keepM m [5, 8]).code)).setCell ⟨b8, 9, none⟩ (.int .i64 (keepM m [5, 8]).res.a)).setCell ⟨b8, 10, none⟩ (.int .i64 (keepM m [5, 8]).res.b)).setCell ⟨b8, 11, none⟩ (.int .i64 (keepM m [5, 8]).res.c)) = wz at hbz HZ ⊢
      have d0 := hbz.cell 0
      have d1 := hbz.cell 1
      have d2 := hbz.cell 2
      have d3 := hbz.cell 3
      have d4 := hbz.cell 4
      have d5 := hbz.cell 5
      have d6 := hbz.cell 6
      have d7 := hbz.cell 7
      have d8 := hbz.cell 8
      have d9 := hbz.cell 9
      have d10 := hbz.cell 10
      have d11 := hbz.cell 11
      simp only [List.getElem?_toArray, List.getElem?_cons_zero, List.getElem?_cons_succ] at d0 d1 d2 d3 d4 d5 d6 d7 d8 d9 d10 d11
      refine bodyPost_ret (v := aggMsg (keepM m [5, 8])) (by simp [results, Tryd.results96, go_sem, d0, d1, d2, d3, d4, d5, d6, d7, d8, d9, d10, d11]) rfl ⟨rfl, HZ.out⟩
end Go.Proofs.YthhnocnkicoimaaDoor
