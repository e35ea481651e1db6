/-
 LAYER 35 (msg): Pure.
-/
import Derived.Test.YthhnocnkicoimaaDoorMsg2
import Derived.Test.YthhnocnkicoimaaDoorDirty
set_option linter.unusedVariables false
set_option linter.unusedSimpArgs false
namespace Go.Proofs.YthhnocnkicoimaaDoor
open Go.RowKit

theorem box_int (x : LMsg) (i : Nat) (v : Value) (h : (boxMsg x)[i]? = some v) : ∃ y, (intsM x)[i]? = some y ∧ v = .int .i64 y := by
 have e : boxMsg x = ((intsM x).map (Value.int .i64)).toArray := rfl
 rw [e, List.getElem?_toArray, List.getElem?_map] at h
 cases hx : (intsM x)[i]? with
 | none => rw [hx] at h; cases h
 | some y => rw [hx] at h; exact ⟨y, rfl, (Option.some.inj h).symm⟩
theorem ints_at (x : LMsg) (i : Nat) (h : i < 12) : ∃ y, (intsM x)[i]? = some y ∧ (boxMsg x)[i]? = some (.int .i64 y) := by
 have e : boxMsg x = ((intsM x).map (Value.int .i64)).toArray := rfl
 obtain ⟨y, hy⟩ : ∃ y, (intsM x)[i]? = some y := ⟨_, List.getElem?_eq_getElem (by simpa [intsM] using h)⟩
 exact ⟨y, hy, by rw [e, List.getElem?_toArray, List.getElem?_map, hy]; rfl⟩
theorem Rd.ne_box {b g n : Nat} {w : World} {A : Option Addr} {L : List Nat} {x : LMsg} {t : TypeId} (h : Rd (encO b) 1 w A n L) (hb : Blk w g t (boxMsg x)) : 0 < n → ∀ ad, A = some ad → ¬ ad.block = g := by
 intro hn ad hA e
 obtain ⟨b', o', y, hA', _, _, hc⟩ := h.at_ hn
 rw [hA] at hA'
 cases hA'
 have h1 := hc 0 _ rfl
 simp only at e
 subst e
 rw [hb.cell] at h1
 obtain ⟨z, _, hz⟩ := box_int _ _ _ h1
 cases hz
/-- Pure, on the way: the first k numbers are laid over. -/
structure PI (w0 wr : World) (b1 b2 b4 : Nat) (m : LMsg) (L : List Nat) (A A2 : Option Addr) (n k : Nat) : Prop where
 m1 : Blk wr b1 38 (boxMsg m)
 m2 : Blk wr b2 38 #[.int .i64 0, .int .i64 0, .int .i64 0, .int .i64 0, .int .i64 0, .int .i64 0, .int .i64 0, .int .i64 0, .int .i64 0, .int .i64 0, .int .i64 0, .int .i64 0]
 m4 : Blk wr b4 38 (boxMsg (keepM m (L.take k)))
 from_ : Rd (encO b1) 1 wr A n L
 to_ : Rd (encO b4) 1 wr A2 n L
 ne1 : b1 ≠ b4
 ne2 : b2 ≠ b4
 g2 : w0.heap.size ≤ b2
 g4 : w0.heap.size ≤ b4
 bel : Below w0.heap.size w0 wr
section
variable {w0 wr : World} {b1 b2 b4 : Nat} {m : LMsg} {L : List Nat} {A A2 : Option Addr} {n k : Nat}
theorem PI.step (h : PI w0 wr b1 b2 b4 m L A A2 n k) {o : Nat} {v : Int} (ho : L[k]? = some o) (h3 : 3 ≤ o) (h12 : o < 12) (hv : (intsM m)[o]? = some v) : PI w0 (wr.setCell ⟨b4, o, none⟩ (.int .i64 v)) b1 b2 b4 m L A A2 n (k + 1) := by
 have hk : Kept (fun g => g = b4) wr (wr.setCell ⟨b4, o, none⟩ (.int .i64 v)) := Kept.setCell (F := fun g => g = b4) (Kept.refl _ wr) (p := ⟨b4, o, none⟩) (fun _ => rfl) _
 refine ⟨h.m1.far (p := ⟨b4, o, none⟩) h.ne1 _, h.m2.far (p := ⟨b4, o, none⟩) h.ne2 _, ?_, h.from_.kept hk (h.from_.ne_box h.m4), h.to_.kept hk (h.to_.ne_box h.m4), h.ne1, h.ne2, h.g2, h.g4, h.bel.setCell (p := ⟨b4, o, none⟩) h.g4 _⟩
 rw [take_succ_of L k o ho, ← keepM_set m (L.take k) o v h3 h12 hv]
 exact h.m4.set_ o _
end
/-- Twelve cells laid into a block. -/
theorem lay12 {w0 wr : World} {b : Nat} {t : TypeId} {z0 z1 z2 z3 z4 z5 z6 z7 z8 z9 z10 z11 : Value} (h : Blk wr b t #[z0, z1, z2, z3, z4, z5, z6, z7, z8, z9, z10, z11]) (hb : w0.heap.size ≤ b) (hB : Below w0.heap.size w0 wr) (v0 v1 v2 v3 v4 v5 v6 v7 v8 v9 v10 v11 : Value) :
  Blk ((((((((((((wr.setCell ⟨b, 0, none⟩ v0).setCell ⟨b, 1, none⟩ v1).setCell ⟨b, 2, none⟩ v2).setCell ⟨b, 3, none⟩ v3).setCell ⟨b, 4, none⟩ v4).setCell ⟨b, 5, none⟩ v5).setCell ⟨b, 6, none⟩ v6).setCell ⟨b, 7, none⟩ v7).setCell ⟨b, 8, none⟩ v8).setCell ⟨b, 9, none⟩ v9).setCell ⟨b, 10, none⟩ v10).setCell ⟨b, 11, none⟩ v11) b t #[v0, v1, v2, v3, v4, v5, v6, v7, v8, v9, v10, v11] ∧ Below w0.heap.size w0 ((((((((((((wr.setCell ⟨b, 0, none⟩ v0).setCell ⟨b, 1, none⟩ v1).setCell ⟨b, 2, none⟩ v2).setCell ⟨b, 3, none⟩ v3).setCell ⟨b, 4, none⟩ v4).setCell ⟨b, 5, none⟩ v5).setCell ⟨b, 6, none⟩ v6).setCell ⟨b, 7, none⟩ v7).setCell ⟨b, 8, none⟩ v8).setCell ⟨b, 9, none⟩ v9).setCell ⟨b, 10, none⟩ v10).setCell ⟨b, 11, none⟩ v11) := by
 have h2 := ((((((((((((h.set_ 0 v0).set_ 1 v1).set_ 2 v2).set_ 3 v3).set_ 4 v4).set_ 5 v5).set_ 6 v6).set_ 7 v7).set_ 8 v8).set_ 9 v9).set_ 10 v10).set_ 11 v11)
 simp only [List.setIfInBounds_toArray, List.set_cons_zero, List.set_cons_succ] at h2
 exact ⟨h2, ((((((((((((hB.setCell (p := ⟨b, 0, none⟩) hb v0).setCell (p := ⟨b, 1, none⟩) hb v1).setCell (p := ⟨b, 2, none⟩) hb v2).setCell (p := ⟨b, 3, none⟩) hb v3).setCell (p := ⟨b, 4, none⟩) hb v4).setCell (p := ⟨b, 5, none⟩) hb v5).setCell (p := ⟨b, 6, none⟩) hb v6).setCell (p := ⟨b, 7, none⟩) hb v7).setCell (p := ⟨b, 8, none⟩) hb v8).setCell (p := ⟨b, 9, none⟩) hb v9).setCell (p := ⟨b, 10, none⟩) hb v10).setCell (p := ⟨b, 11, none⟩) hb v11)⟩
set_option maxRecDepth 100000 in
set_option maxHeartbeats 3200000 in
theorem pure_t (m : LMsg) (w : World) : Calls Tryd.prog 84 #[aggMsg m] w fun e w' => e = .returned (aggMsg (pureM m)) ∧ Below w.heap.size w w' := by
 have hs1 : (w.alloc (.cells (boxMsg m) 38)).heap.size = w.heap.size + 1 := by simp
 have hs2 : ((w.alloc (.cells (boxMsg m) 38)).alloc (.cells #[.int .i64 0, .int .i64 0, .int .i64 0, .int .i64 0, .int .i64 0, .int .i64 0, .int .i64 0, .int .i64 0, .int .i64 0, .int .i64 0, .int .i64 0, .int .i64 0] 38)).heap.size = w.heap.size + 2 := by simp
 have h1 := (Blk.new w 38 (boxMsg m)).alloc (.cells #[.int .i64 0, .int .i64 0, .int .i64 0, .int .i64 0, .int .i64 0, .int .i64 0, .int .i64 0, .int .i64 0, .int .i64 0, .int .i64 0, .int .i64 0, .int .i64 0] 38)
 have h2 := Blk.new (w.alloc (.cells (boxMsg m) 38)) 38 #[.int .i64 0, .int .i64 0, .int .i64 0, .int .i64 0, .int .i64 0, .int .i64 0, .int .i64 0, .int .i64 0, .int .i64 0, .int .i64 0, .int .i64 0, .int .i64 0]
 rw [hs1] at h2
 have hB : Below w.heap.size w ((w.alloc (.cells (boxMsg m) 38)).alloc (.cells #[.int .i64 0, .int .i64 0, .int .i64 0, .int .i64 0, .int .i64 0, .int .i64 0, .int .i64 0, .int .i64 0, .int .i64 0, .int .i64 0, .int .i64 0, .int .i64 0] 38)) := ((Below.refl _ _).alloc (Nat.le_refl _) _).alloc (by simp) _
 have H0 := Lib.hid (And.intro h1 (And.intro h2 hs2))
 have HB0 := Lib.hid hB
 clear hs1 hs2 h1 h2 hB
 go_enter Tryd.func84, Tryd.ntmps84
 go_wp2_with fail
 generalize (w.alloc (.cells (boxMsg m) 38)).alloc (.cells #[.int .i64 0, .int .i64 0, .int .i64 0, .int .i64 0, .int .i64 0, .int .i64 0, .int .i64 0, .int .i64 0, .int .i64 0, .int .i64 0, .int .i64 0, .int .i64 0] 38) = w2 at H0 HB0 ⊢
 obtain ⟨b1, hb1⟩ : ∃ b1, w.heap.size = b1 := ⟨_, rfl⟩
 obtain ⟨b2, hb2⟩ : ∃ b2, b1 + 1 = b2 := ⟨_, rfl⟩
 have HG := Lib.hid (And.intro hb1 hb2)
 rw [hb1, hb2] at H0
 try rw [hb1]
 try rw [hb2]
 clear hb1 hb2
 (with_reducible refine (named_t b1 m.kind w2 ((H0.out.1.cell 0).trans rfl)).mono ?_)
 rintro e w3 ⟨A, n, c, rfl, hA, hB3⟩
 obtain ⟨L, hL⟩ : ∃ L, namesM m.kind = L := ⟨_, rfl⟩
 rw [hL] at hA
 have hn := hA.len
 have hb13 := H0.out.1.below hB3 H0.out.1.lt
 have hb23 := H0.out.2.1.below hB3 H0.out.2.1.lt
 have hBw3 := HB0.out.trans (hB3.mono HB0.out.size)
 have H3 := Lib.hid (And.intro hb13 (And.intro hb23 (And.intro hA (And.intro hBw3 hB3.size))))
 have HL := Lib.hid hL
 have HN := Lib.hid hn
 have HB := Lib.hid (names_bound m.kind)
 clear hA hB3 hb13 hb23 hBw3 hL HB0 H0
 have z2 := H3.out.2.1.frozen
 have k0 := H3.out.1.cell 0
 have k1 := H3.out.1.cell 1
 have k2 := H3.out.1.cell 2
 have y0 := H3.out.2.1.cell 0
 have y1 := H3.out.2.1.cell 1
 have y2 := H3.out.2.1.cell 2
 have y3 := H3.out.2.1.cell 3
 have y4 := H3.out.2.1.cell 4
 have y5 := H3.out.2.1.cell 5
 have y6 := H3.out.2.1.cell 6
 have y7 := H3.out.2.1.cell 7
 have y8 := H3.out.2.1.cell 8
 have y9 := H3.out.2.1.cell 9
 have y10 := H3.out.2.1.cell 10
 have y11 := H3.out.2.1.cell 11
 simp only [List.getElem?_toArray, List.getElem?_cons_zero, List.getElem?_cons_succ] at k0 k1 k2 y0 y1 y2 y3 y4 y5 y6 y7 y8 y9 y10 y11
 have l1 := H3.out.1.lt
 have l2 := H3.out.2.1.lt
 by_cases hn0 : n = 0
 ·subst hn0
  have hL0 : L = [] := List.eq_nil_of_length_eq_zero hn
  have HP : Hid (pureM m = zeroLMsg) := Lib.hid (by unfold pureM; rw [HL.out, hL0, if_pos rfl])
  clear hn hL0
  go_wp2
  refine bodyPost_ret (v := aggMsg zeroLMsg) (by simp [results, Tryd.results84, go_sem, zeroLMsg, y0, y1, y2, y3, y4, y5, y6, y7, y8, y9, y10, y11]) rfl ⟨by rw [HP.out], (lay12 H3.out.2.1 (by have := HG.out; omega) H3.out.2.2.2.1 (.int .i64 0) (.int .i64 0) (.int .i64 0) (.int .i64 0) (.int .i64 0) (.int .i64 0) (.int .i64 0) (.int .i64 0) (.int .i64 0) (.int .i64 0) (.int .i64 0) (.int .i64 0)).2⟩
 ·have hnd : ((n : Int) == 0) = false := by simp [hn0]
  have hLne : L ≠ [] := fun e => hn0 (by rw [← hn, e]; rfl)
  have HP : Hid (pureM m = keepM m L) := Lib.hid (by unfold pureM; rw [HL.out, if_neg hLne])
  clear hn hLne hn0
  go_wp2_with fail
  have hB4 : Below w3.heap.size w3 (w3.alloc (.cells #[.int .i64 m.kind, .int .i64 m.frm, .int .i64 m.to_, .int .i64 0, .int .i64 0, .int .i64 0, .int .i64 0, .int .i64 0, .int .i64 0, .int .i64 0, .int .i64 0, .int .i64 0] 38)) := (Below.refl _ _).alloc (Nat.le_refl _) _
  have h4 := Blk.new w3 38 #[.int .i64 m.kind, .int .i64 m.frm, .int .i64 m.to_, .int .i64 0, .int .i64 0, .int .i64 0, .int .i64 0, .int .i64 0, .int .i64 0, .int .i64 0, .int .i64 0, .int .i64 0]
  have HA : Hid (Blk (w3.alloc (.cells #[.int .i64 m.kind, .int .i64 m.frm, .int .i64 m.to_, .int .i64 0, .int .i64 0, .int .i64 0, .int .i64 0, .int .i64 0, .int .i64 0, .int .i64 0, .int .i64 0, .int .i64 0] 38)) b1 38 (boxMsg m) ∧ Blk (w3.alloc (.cells #[.int .i64 m.kind, .int .i64 m.frm, .int .i64 m.to_, .int .i64 0, .int .i64 0, .int .i64 0, .int .i64 0, .int .i64 0, .int .i64 0, .int .i64 0, .int .i64 0, .int .i64 0] 38)) b2 38 #[.int .i64 0, .int .i64 0, .int .i64 0, .int .i64 0, .int .i64 0, .int .i64 0, .int .i64 0, .int .i64 0, .int .i64 0, .int .i64 0, .int .i64 0, .int .i64 0] ∧ Blk (w3.alloc (.cells #[.int .i64 m.kind, .int .i64 m.frm, .int .i64 m.to_, .int .i64 0, .int .i64 0, .int .i64 0, .int .i64 0, .int .i64 0, .int .i64 0, .int .i64 0, .int .i64 0, .int .i64 0] 38)) w3.heap.size 38 (boxMsg (keepM m [])) ∧ Rd (encO b1) 1 (w3.alloc (.cells #[.int .i64 m.kind, .int .i64 m.frm, .int .i64 m.to_, .int .i64 0, .int .i64 0, .int .i64 0, .int .i64 0, .int .i64 0, .int .i64 0, .int .i64 0, .int .i64 0, .int .i64 0] 38)) A n L ∧ b1 ≠ w3.heap.size ∧ b2 ≠ w3.heap.size ∧ w.heap.size ≤ w3.heap.size ∧ Below w.heap.size w (w3.alloc (.cells #[.int .i64 m.kind, .int .i64 m.frm, .int .i64 m.to_, .int .i64 0, .int .i64 0, .int .i64 0, .int .i64 0, .int .i64 0, .int .i64 0, .int .i64 0, .int .i64 0, .int .i64 0] 38))) :=
   Lib.hid ⟨H3.out.1.below hB4 H3.out.1.lt, H3.out.2.1.below hB4 H3.out.2.1.lt, by rw [keepM_nil]; exact h4, H3.out.2.2.1.below hB4, by omega, by omega, H3.out.2.2.2.1.size, H3.out.2.2.2.1.trans (hB4.mono H3.out.2.2.2.1.size)⟩
  clear hB4 h4 y0 y1 y2 y3 y4 y5 y6 y7 y8 y9 y10 y11 k0 k1 k2 z2 l1 l2
  generalize w3.alloc (.cells #[.int .i64 m.kind, .int .i64 m.frm, .int .i64 m.to_, .int .i64 0, .int .i64 0, .int .i64 0, .int .i64 0, .int .i64 0, .int .i64 0, .int .i64 0, .int .i64 0, .int .i64 0] 38) = w4 at HA ⊢
  obtain ⟨b4, hb4⟩ : ∃ b4, w3.heap.size = b4 := ⟨_, rfl⟩
  rw [hb4] at HA
  try rw [hb4]
  clear hb4
  have hk4 : w4.cell? ⟨b4, 0, none⟩ = some (.int .i64 m.kind) := (HA.out.2.2.1.cell 0).trans rfl
  (with_reducible refine (named_t b4 m.kind w4 hk4).mono ?_)
  clear hk4
  rintro e w5 ⟨A2, n2, c2, rfl, hA2, hB5⟩
  rw [HL.out] at hA2
  have hn2 : n2 = n := by rw [← hA2.len, ← HN.out]
  subst hn2
  have HI : Hid (PI w w5 b1 b2 b4 m L A A2 n2 0) := Lib.hid ⟨HA.out.1.below hB5 HA.out.1.lt, HA.out.2.1.below hB5 HA.out.2.1.lt, HA.out.2.2.1.below hB5 HA.out.2.2.1.lt, HA.out.2.2.2.1.below hB5, hA2, HA.out.2.2.2.2.1, HA.out.2.2.2.2.2.1, by have := HG.out; omega, HA.out.2.2.2.2.2.2.1, HA.out.2.2.2.2.2.2.2.trans (hB5.mono HA.out.2.2.2.2.2.2.2.size)⟩
  clear hA2 hB5 HA
  have hn5 : n2 ≤ 5 := by have := HB.out.1; rw [HL.out] at this; have := HN.out; omega
  go_wp2
  go_loopw [21] (fun i wr => ∃ k : Nat, k ≤ n2 ∧ i = .int .i64 k ∧ PI w wr b1 b2 b4 m L A A2 n2 k) (fun i _ => n2 - (intOf i).toNat)
  case atStart => exact ⟨0, Nat.zero_le _, rfl, HI.out⟩
  case round =>
   obtain ⟨k, hk, rfl, hI⟩ := hrel
   by_cases hlt : k < n2
   ·obtain ⟨ab, ao, o, rfl, hLo, hal, hcells⟩ := hI.from_.at_ hlt
    obtain ⟨ab2, ao2, o2, rfl, hLo2, hal2, hcells2⟩ := hI.to_.at_ hlt
    have ho2 : o = o2 := Option.some.inj (hLo.symm.trans hLo2)
    subst ho2
    have g0 := hcells 0 _ rfl
    have g1 := hcells2 0 _ rfl
    simp only [Nat.mul_one, Nat.add_zero] at g0 g1
    have hmem : o ∈ namesM m.kind := by rw [HL.out]; exact List.mem_of_getElem? hLo
    have hbd := HB.out.2 o hmem
    obtain ⟨v, hv, hbv⟩ := ints_at m o hbd.2
    obtain ⟨u, _, hbu⟩ := ints_at (keepM m (L.take k)) o hbd.2
    have g2 : wr.cell? ⟨b1, o, none⟩ = some (.int .i64 v) := (hI.m1.cell o).trans hbv
    have g3 : wr.cell? ⟨b4, o, none⟩ = some (.int .i64 u) := (hI.m4.cell o).trans hbu
    have g4 := hI.m4.frozen o
    have HS := Lib.hid (hI.step hLo hbd.1 hbd.2 hv)
    clear hcells hcells2 hmem hbd hv hbv hbu hLo hLo2 hI hal hal2
    go_wp2
    go_roundw
    case rel => exact ⟨k + 1, by omega, by go_num, HS.out⟩
    case measure => simp [intOf]; omega
   ·have hkn : k = n2 := by omega
    subst hkn
    have h4 := hI.m4
    rw [List.take_of_length_le (by have := HN.out; omega)] at h4
    have HI2 := Lib.hid (And.intro hI h4)
    have z2 := hI.m2.frozen
    clear HI
    have c0 := h4.cell 0
    have c1 := h4.cell 1
    have c2 := h4.cell 2
    have c3 := h4.cell 3
    have c4 := h4.cell 4
    have c5 := h4.cell 5
    have c6 := h4.cell 6
    have c7 := h4.cell 7
    have c8 := h4.cell 8
    have c9 := h4.cell 9
    have c10 := h4.cell 10
    have c11 := h4.cell 11
    have y0 := hI.m2.cell 0
    have y1 := hI.m2.cell 1
    have y2 := hI.m2.cell 2
    have y3 := hI.m2.cell 3
    have y4 := hI.m2.cell 4
    have y5 := hI.m2.cell 5
    have y6 := hI.m2.cell 6
    have y7 := hI.m2.cell 7
    have y8 := hI.m2.cell 8
    have y9 := hI.m2.cell 9
    have y10 := hI.m2.cell 10
    have y11 := hI.m2.cell 11
    simp only [List.getElem?_toArray, List.getElem?_cons_zero, List.getElem?_cons_succ] at c0 y0 c1 y1 c2 y2 c3 y3 c4 y4 c5 y5 c6 y6 c7 y7 c8 y8 c9 y9 c10 y10 c11 y11
    clear hI h4
    go_wp2
    obtain ⟨hbz, hbe⟩ := lay12 HI2.out.1.m2 HI2.out.1.g2 HI2.out.1.bel (.int .i64 (keepM m L).kind) (.int .i64 (keepM m L).frm) (.int .i64 (keepM m L).to_) (.int .i64 (keepM m L).epoch) (.int .i64 (keepM m L).inc) (.int .i64 (keepM m L).job) (.int .i64 (keepM m L).tick) (.int .i64 (keepM m L).prio) (.int .i64 (keepM m L).code) (.int .i64 (keepM m L).res.a) (.int .i64 (keepM m L).res.b) (.int .i64 (keepM m L).res.c)
    have HZ := Lib.hid hbe
    clear hbe
    generalize ((((((((((((wr.setCell ⟨b2, 0, none⟩ (.int .i64 (keepM m L).kind)).setCell ⟨b2, 1, none⟩ (.int .i64 (keepM m L).frm)).setCell ⟨b2, 2, none⟩ (.int .i64 (keepM m L).to_)).setCell ⟨b2, 3, none⟩ (.int .i64 (keepM m L).epoch)).setCell ⟨b2, 4, none⟩ (.int .i64 (keepM m L).inc)).setCell ⟨b2, 5, none⟩ (.int .i64 (keepM m L).job)).setCell ⟨b2, 6, none⟩ (.int .i64 (keepM m L).tick)).setCell ⟨b2, 7, none⟩ (.int .i64 (keepM m L).prio)).setCell ⟨b2, 8, none⟩ (.int .i64 (keepM m L).code)).setCell ⟨b2, 9, none⟩ (.int .i64 (keepM m L).res.a)).setCell ⟨b2, 10, none⟩ (.int .i64 (keepM m L).res.b)).setCell ⟨b2, 11, none⟩ (.int .i64 (keepM m L).res.c)) = wz at hbz HZ ⊢
    have d0 := hbz.cell 0
    have d1 := hbz.cell 1
    have d2 := hbz.cell 2
    have d3 := hbz.cell 3
    have d4 := hbz.cell 4
    have d5 := hbz.cell 5
    have d6 := hbz.cell 6
    have d7 := hbz.cell 7
    have d8 := hbz.cell 8
    have d9 := hbz.cell 9
    have d10 := hbz.cell 10
    have d11 := hbz.cell 11
    simp only [List.getElem?_toArray, List.getElem?_cons_zero, List.getElem?_cons_succ] at d0 d1 d2 d3 d4 d5 d6 d7 d8 d9 d10 d11
    refine bodyPost_ret (v := aggMsg (keepM m L)) (by simp [results, Tryd.results84, go_sem, d0, d1, d2, d3, d4, d5, d6, d7, d8, d9, d10, d11]) rfl ⟨by rw [HP.out], HZ.out⟩
end Go.Proofs.YthhnocnkicoimaaDoor
