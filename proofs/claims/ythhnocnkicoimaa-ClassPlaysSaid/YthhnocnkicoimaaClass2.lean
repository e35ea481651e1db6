/-
  LAYER 30 (class): Need, Live, Jobs.
-/
import Derived.Test.YthhnocnkicoimaaClass1
set_option linter.unusedVariables false
set_option linter.unusedSimpArgs false
namespace Go.Proofs.Ythhnocnkicoimaa
open Go.RowKit Go.Maps

/-- An api.Res laid into a block. -/
theorem res_lay {w : World} {b : Nat} {x y z x0 y0 z0 : Int} {B : Nat} {W : World} (h : Blk W b 24 #[.int .i64 x0, .int .i64 y0, .int .i64 z0]) (hb : B ≤ b) (hB : Below B w W) :
    Blk (((W.setCell ⟨b, 0, none⟩ (.int .i64 x)).setCell ⟨b, 1, none⟩ (.int .i64 y)).setCell ⟨b, 2, none⟩ (.int .i64 z)) b 24 #[.int .i64 x, .int .i64 y, .int .i64 z] ∧ Below B w (((W.setCell ⟨b, 0, none⟩ (.int .i64 x)).setCell ⟨b, 1, none⟩ (.int .i64 y)).setCell ⟨b, 2, none⟩ (.int .i64 z)) :=
  ⟨((h.set_ 0 _).set_ 1 _).set_ 2 _, ((hB.setCell (p := ⟨b, 0, none⟩) hb _).setCell (p := ⟨b, 1, none⟩) hb _).setCell (p := ⟨b, 2, none⟩) hb _⟩

theorem cNeed_nil (k : Int) (w : World) : Calls Try.prog 20 #[.pointer none, .int .i64 k] w fun e w' => e = .returned (.tuple #[aggRes ⟨0, 0, 0⟩, .bool false]) ∧ Below w.heap.size w w' := by
  have hb := Blk.new w 24 #[.int .i64 0, .int .i64 0, .int .i64 0]
  have hB : Below w.heap.size w (w.alloc (.cells #[.int .i64 0, .int .i64 0, .int .i64 0] 24)) := (Below.refl _ _).alloc (Nat.le_refl _) _
  go_enter Try.func20, Try.ntmps20
  go_wp2
  exact bodyPost_ret (v := .tuple #[aggRes ⟨0, 0, 0⟩, .bool false]) (by simp [results, Try.results20, go_sem]) rfl ⟨rfl, hB⟩

section
variable {w : World} {c n cap : Nat} {m : CM} {R : Nat → List Int} {gs : List (Nat × Option Nat)} {A : Option Addr} {am jm : Option Nat}
set_option maxRecDepth 100000 in
set_option maxHeartbeats 800000 in
theorem cNeed_no (h : CAt w c m R gs A n cap am jm) (k : Int) (hk : k < 0 ∨ (m.needs.length : Int) ≤ k) : Calls Try.prog 20 #[.pointer (some ⟨c, 0, none⟩), .int .i64 k] w fun e w' => e = .returned (.tuple #[aggRes ⟨0, 0, 0⟩, .bool false]) ∧ Below w.heap.size w w' := by
  have hb := Blk.new w 24 #[.int .i64 0, .int .i64 0, .int .i64 0]
  have hB : Below w.heap.size w (w.alloc (.cells #[.int .i64 0, .int .i64 0, .int .i64 0] 24)) := (Below.refl _ _).alloc (Nat.le_refl _) _
  have hc0 := (h.blk.alloc (.cells #[.int .i64 0, .int .i64 0, .int .i64 0] 24)).cell 0
  simp only [List.getElem?_toArray, List.getElem?_cons_zero, List.getElem?_cons_succ] at hc0
  have hn := h.nlen
  have hsm := h.ok.small.1
  have HB0 := Lib.hid hB
  have hfz := hb.frozen
  have z0 := hb.cell 0
  have z1 := hb.cell 1
  have z2 := hb.cell 2
  simp only [List.getElem?_toArray, List.getElem?_cons_zero, List.getElem?_cons_succ] at z0 z1 z2
  rw [← hn] at hk hsm
  clear h hb hB hn
  by_cases hk0 : k < 0
  · have hd : decide (k < 0) = true := decide_eq_true hk0
    clear hk
    go_enter Try.func20, Try.ntmps20
    go_wp2
    generalize w.alloc (.cells #[.int .i64 0, .int .i64 0, .int .i64 0] 24) = w1 at HB0 hfz z0 z1 z2 hc0 ⊢
    go_wp2
    exact bodyPost_ret (v := .tuple #[aggRes ⟨0, 0, 0⟩, .bool false]) (by simp [results, Try.results20, go_sem, z0, z1, z2]) rfl ⟨rfl, HB0.out⟩
  · have hd : decide (k < 0) = false := decide_eq_false hk0
    have hk1 : (n : Int) ≤ k := by omega
    clear hk hk0
    go_enter Try.func20, Try.ntmps20
    go_wp2
    generalize w.alloc (.cells #[.int .i64 0, .int .i64 0, .int .i64 0] 24) = w1 at HB0 hfz z0 z1 z2 hc0 ⊢
    go_wp2
    exact bodyPost_ret (v := .tuple #[aggRes ⟨0, 0, 0⟩, .bool false]) (by simp [results, Try.results20, go_sem, z0, z1, z2]) rfl ⟨rfl, HB0.out⟩
set_option maxRecDepth 100000 in
set_option maxHeartbeats 800000 in
theorem cNeed_yes (h : CAt w c m R gs A n cap am jm) (k : Nat) (r : LRes) (hk : m.needs[k]? = some r) : Calls Try.prog 20 #[.pointer (some ⟨c, 0, none⟩), .int .i64 k] w fun e w' => e = .returned (.tuple #[aggRes r, .bool true]) ∧ Below w.heap.size w w' := by
  have hb := Blk.new w 24 #[.int .i64 0, .int .i64 0, .int .i64 0]
  have hB : Below w.heap.size w (w.alloc (.cells #[.int .i64 0, .int .i64 0, .int .i64 0] 24)) := (Below.refl _ _).alloc (Nat.le_refl _) _
  have hlt : k < m.needs.length := (List.getElem?_eq_some_iff.1 hk).1
  obtain ⟨g, mo, r', rb, ro, hg, hr', rfl, hp, hblk, _⟩ := (h.below hB).class_at hlt
  obtain rfl : r = r' := by rw [hk] at hr'; exact Option.some.inj hr'
  have hc0 := (h.blk.alloc (.cells #[.int .i64 0, .int .i64 0, .int .i64 0] 24)).cell 0
  have g1 := hblk.cell 1
  have g2 := hblk.cell 2
  have g3 := hblk.cell 3
  simp only [List.getElem?_toArray, List.getElem?_cons_zero, List.getElem?_cons_succ] at hc0 g1 g2 g3
  have hn := h.nlen
  have hsm := h.ok.small.1
  have hZZ := Lib.hid (res_lay (x := r.a) (y := r.b) (z := r.c) hb (Nat.le_refl _) hB)
  have hfz := hb.frozen
  have z0 := hb.cell 0
  have z1 := hb.cell 1
  have z2 := hb.cell 2
  simp only [List.getElem?_toArray, List.getElem?_cons_zero, List.getElem?_cons_succ] at z0 z1 z2
  rw [← hn] at hlt hsm
  clear h hb hB hn hk hr' hblk hg
  go_enter Try.func20, Try.ntmps20
  go_wp2
  exact bodyPost_ret (v := .tuple #[aggRes r, .bool true]) (by simp [results, Try.results20, go_sem]) rfl ⟨rfl, (Below.refl _ _).alloc (Nat.le_refl _) _⟩
end

end Go.Proofs.Ythhnocnkicoimaa
