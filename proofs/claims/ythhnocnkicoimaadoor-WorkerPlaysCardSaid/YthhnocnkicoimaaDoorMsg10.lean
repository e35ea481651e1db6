/-
 LAYER 35 (msg): the document's names and ends of a kind.
 LAYER 35 (msg): the document's Numbers.
 LAYER 35 (msg): the document's Made.
 LAYER 35 (msg): the document's Pure.
-/
import Derived.Test.YthhnocnkicoimaaDoorMsg4
import Derived.BigRegion
import Derived.Deep.CutRange
import Derived.Test.YthhnocnkicoimaaDoorMsg3
import Derived.Deep.RegionHeld3
set_option linter.unusedVariables false
set_option linter.unusedSimpArgs false
namespace Go.Proofs.YthhnocnkicoimaaDoor
open Go.RowKit

/-- The letters of a kind. -/
def lettersM (k : Int) : ByteArray :=
 if k = 1 then ⟨#[73, 84, 82]⟩ else if k = 2 then ⟨#[69, 73, 84]⟩ else if k = 3 then ⟨#[69, 73, 74]⟩ else if k = 4 then ⟨#[69, 73, 74]⟩ else if k = 5 then ⟨#[73, 74]⟩ else if k = 6 then ⟨#[74, 80, 82]⟩ else if k = 7 then ⟨#[74]⟩ else if k = 8 then ⟨#[74, 67]⟩ else ⟨#[]⟩
def STRS : Array Value := #[.string ⟨#[]⟩, .string ⟨#[73, 84, 82]⟩, .string ⟨#[69, 73, 84]⟩, .string ⟨#[69, 73, 74]⟩, .string ⟨#[69, 73, 74]⟩, .string ⟨#[73, 74]⟩, .string ⟨#[74, 80, 82]⟩, .string ⟨#[74]⟩, .string ⟨#[74, 67]⟩]
set_option maxRecDepth 100000 in
theorem rnames_k1 (w : World) : Calls Tryd.prog 75 #[.int .i64 1] w fun e w' => e = .returned (.string ⟨#[73, 84, 82]⟩) ∧ Below w.heap.size w w' := by
 have hB : Below w.heap.size w (w.alloc (.cells #[.string ⟨#[]⟩, .string ⟨#[73, 84, 82]⟩, .string ⟨#[69, 73, 84]⟩, .string ⟨#[69, 73, 74]⟩, .string ⟨#[69, 73, 74]⟩, .string ⟨#[73, 74]⟩, .string ⟨#[74, 80, 82]⟩, .string ⟨#[74]⟩, .string ⟨#[74, 67]⟩] 9)) := (Below.refl _ _).alloc (Nat.le_refl _) _
 have HB := Lib.hid hB
 clear hB
 go_enter Tryd.func75, Tryd.ntmps75
 go_wp2
 go_ret
 exact ⟨rfl, HB.out⟩
set_option maxRecDepth 100000 in
theorem rnames_k2 (w : World) : Calls Tryd.prog 75 #[.int .i64 2] w fun e w' => e = .returned (.string ⟨#[69, 73, 84]⟩) ∧ Below w.heap.size w w' := by
 have hB : Below w.heap.size w (w.alloc (.cells #[.string ⟨#[]⟩, .string ⟨#[73, 84, 82]⟩, .string ⟨#[69, 73, 84]⟩, .string ⟨#[69, 73, 74]⟩, .string ⟨#[69, 73, 74]⟩, .string ⟨#[73, 74]⟩, .string ⟨#[74, 80, 82]⟩, .string ⟨#[74]⟩, .string ⟨#[74, 67]⟩] 9)) := (Below.refl _ _).alloc (Nat.le_refl _) _
 have HB := Lib.hid hB
 clear hB
 go_enter Tryd.func75, Tryd.ntmps75
 go_wp2
 go_ret
 exact ⟨rfl, HB.out⟩
set_option maxRecDepth 100000 in
theorem rnames_k3 (w : World) : Calls Tryd.prog 75 #[.int .i64 3] w fun e w' => e = .returned (.string ⟨#[69, 73, 74]⟩) ∧ Below w.heap.size w w' := by
 have hB : Below w.heap.size w (w.alloc (.cells #[.string ⟨#[]⟩, .string ⟨#[73, 84, 82]⟩, .string ⟨#[69, 73, 84]⟩, .string ⟨#[69, 73, 74]⟩, .string ⟨#[69, 73, 74]⟩, .string ⟨#[73, 74]⟩, .string ⟨#[74, 80, 82]⟩, .string ⟨#[74]⟩, .string ⟨#[74, 67]⟩] 9)) := (Below.refl _ _).alloc (Nat.le_refl _) _
 have HB := Lib.hid hB
 clear hB
 go_enter Tryd.func75, Tryd.ntmps75
 go_wp2
 go_ret
 exact ⟨rfl, HB.out⟩
set_option maxRecDepth 100000 in
theorem rnames_k4 (w : World) : Calls Tryd.prog 75 #[.int .i64 4] w fun e w' => e = .returned (.string ⟨#[69, 73, 74]⟩) ∧ Below w.heap.size w w' := by
 have hB : Below w.heap.size w (w.alloc (.cells #[.string ⟨#[]⟩, .string ⟨#[73, 84, 82]⟩, .string ⟨#[69, 73, 84]⟩, .string ⟨#[69, 73, 74]⟩, .string ⟨#[69, 73, 74]⟩, .string ⟨#[73, 74]⟩, .string ⟨#[74, 80, 82]⟩, .string ⟨#[74]⟩, .string ⟨#[74, 67]⟩] 9)) := (Below.refl _ _).alloc (Nat.le_refl _) _
 have HB := Lib.hid hB
 clear hB
 go_enter Tryd.func75, Tryd.ntmps75
 go_wp2
 go_ret
 exact ⟨rfl, HB.out⟩
set_option maxRecDepth 100000 in
theorem rnames_k5 (w : World) : Calls Tryd.prog 75 #[.int .i64 5] w fun e w' => e = .returned (.string ⟨#[73, 74]⟩) ∧ Below w.heap.size w w' := by
 have hB : Below w.heap.size w (w.alloc (.cells #[.string ⟨#[]⟩, .string ⟨#[73, 84, 82]⟩, .string ⟨#[69, 73, 84]⟩, .string ⟨#[69, 73, 74]⟩, .string ⟨#[69, 73, 74]⟩, .string ⟨#[73, 74]⟩, .string ⟨#[74, 80, 82]⟩, .string ⟨#[74]⟩, .string ⟨#[74, 67]⟩] 9)) := (Below.refl _ _).alloc (Nat.le_refl _) _
 have HB := Lib.hid hB
 clear hB
 go_enter Tryd.func75, Tryd.ntmps75
 go_wp2
 go_ret
 exact ⟨rfl, HB.out⟩
set_option maxRecDepth 100000 in
theorem rnames_k6 (w : World) : Calls Tryd.prog 75 #[.int .i64 6] w fun e w' => e = .returned (.string ⟨#[74, 80, 82]⟩) ∧ Below w.heap.size w w' := by
 have hB : Below w.heap.size w (w.alloc (.cells #[.string ⟨#[]⟩, .string ⟨#[73, 84, 82]⟩, .string ⟨#[69, 73, 84]⟩, .string ⟨#[69, 73, 74]⟩, .string ⟨#[69, 73, 74]⟩, .string ⟨#[73, 74]⟩, .string ⟨#[74, 80, 82]⟩, .string ⟨#[74]⟩, .string ⟨#[74, 67]⟩] 9)) := (Below.refl _ _).alloc (Nat.le_refl _) _
 have HB := Lib.hid hB
 clear hB
 go_enter Tryd.func75, Tryd.ntmps75
 go_wp2
 go_ret
 exact ⟨rfl, HB.out⟩
set_option maxRecDepth 100000 in
theorem rnames_k7 (w : World) : Calls Tryd.prog 75 #[.int .i64 7] w fun e w' => e = .returned (.string ⟨#[74]⟩) ∧ Below w.heap.size w w' := by
 have hB : Below w.heap.size w (w.alloc (.cells #[.string ⟨#[]⟩, .string ⟨#[73, 84, 82]⟩, .string ⟨#[69, 73, 84]⟩, .string ⟨#[69, 73, 74]⟩, .string ⟨#[69, 73, 74]⟩, .string ⟨#[73, 74]⟩, .string ⟨#[74, 80, 82]⟩, .string ⟨#[74]⟩, .string ⟨#[74, 67]⟩] 9)) := (Below.refl _ _).alloc (Nat.le_refl _) _
 have HB := Lib.hid hB
 clear hB
 go_enter Tryd.func75, Tryd.ntmps75
 go_wp2
 go_ret
 exact ⟨rfl, HB.out⟩
set_option maxRecDepth 100000 in
theorem rnames_k8 (w : World) : Calls Tryd.prog 75 #[.int .i64 8] w fun e w' => e = .returned (.string ⟨#[74, 67]⟩) ∧ Below w.heap.size w w' := by
 have hB : Below w.heap.size w (w.alloc (.cells #[.string ⟨#[]⟩, .string ⟨#[73, 84, 82]⟩, .string ⟨#[69, 73, 84]⟩, .string ⟨#[69, 73, 74]⟩, .string ⟨#[69, 73, 74]⟩, .string ⟨#[73, 74]⟩, .string ⟨#[74, 80, 82]⟩, .string ⟨#[74]⟩, .string ⟨#[74, 67]⟩] 9)) := (Below.refl _ _).alloc (Nat.le_refl _) _
 have HB := Lib.hid hB
 clear hB
 go_enter Tryd.func75, Tryd.ntmps75
 go_wp2
 go_ret
 exact ⟨rfl, HB.out⟩
set_option maxRecDepth 100000 in
theorem rnames_kx (k : Int) (hk : namesM k = []) (w : World) : Calls Tryd.prog 75 #[.int .i64 k] w fun e w' => e = .returned (.string ⟨#[]⟩) ∧ Below w.heap.size w w' := by
 have hB : Below w.heap.size w (w.alloc (.cells #[.string ⟨#[]⟩, .string ⟨#[73, 84, 82]⟩, .string ⟨#[69, 73, 84]⟩, .string ⟨#[69, 73, 74]⟩, .string ⟨#[69, 73, 74]⟩, .string ⟨#[73, 74]⟩, .string ⟨#[74, 80, 82]⟩, .string ⟨#[74]⟩, .string ⟨#[74, 67]⟩] 9)) := (Below.refl _ _).alloc (Nat.le_refl _) _
 have HB := Lib.hid hB
 clear hB
 by_cases h1 : k < 1
 ·clear hk
  go_enter Tryd.func75, Tryd.ntmps75
  go_wp2
  go_ret
  exact ⟨rfl, HB.out⟩
 ·have h8 : 8 < k := by
   by_cases h : 8 < k
   ·exact h
   ·exfalso
    have hc : k = 1 ∨ k = 2 ∨ k = 3 ∨ k = 4 ∨ k = 5 ∨ k = 6 ∨ k = 7 ∨ k = 8 := by omega
    rcases hc with rfl | rfl | rfl | rfl | rfl | rfl | rfl | rfl <;> simp [namesM] at hk
  clear hk
  go_enter Tryd.func75, Tryd.ntmps75
  go_wp2
  go_ret
  exact ⟨rfl, HB.out⟩
theorem letters_nil (k : Int) (h : namesM k = []) : lettersM k = ⟨#[]⟩ := by
 revert h
 refine names_cases (C := fun k => namesM k = [] → lettersM k = ⟨#[]⟩) (by decide) (by decide) (by decide) (by decide) (by decide) (by decide) (by decide) (by decide) (fun k _ h1 h2 h3 h4 h5 h6 h7 h8 _ => by simp [lettersM, h1, h2, h3, h4, h5, h6, h7, h8]) k
theorem rnames_t (k : Int) (w : World) : Calls Tryd.prog 75 #[.int .i64 k] w fun e w' => e = .returned (.string (lettersM k)) ∧ Below w.heap.size w w' := by
 refine names_cases (C := fun k => Calls Tryd.prog 75 #[.int .i64 k] w fun e w' => e = .returned (.string (lettersM k)) ∧ Below w.heap.size w w') (rnames_k1 w) (rnames_k2 w) (rnames_k3 w) (rnames_k4 w) (rnames_k5 w) (rnames_k6 w) (rnames_k7 w) (rnames_k8 w) (fun k h _ _ _ _ _ _ _ _ => ?_) k
 rw [letters_nil k h]
 exact rnames_kx k h w
set_option maxRecDepth 100000 in
set_option maxHeartbeats 1600000 in
theorem rends_k1 (w : World) : Calls Tryd.prog 76 #[.int .i64 1] w fun e w' => e = .returned (.tuple #[.int .i64 2, .int .i64 1]) ∧ Below w.heap.size w w' := by
 have h0 := (Blk.new w 3 #[.int .i64 0, .int .i64 2, .int .i64 1, .int .i64 1, .int .i64 1, .int .i64 2, .int .i64 3, .int .i64 3, .int .i64 1]).alloc (.cells #[.int .i64 0, .int .i64 1, .int .i64 2, .int .i64 2, .int .i64 2, .int .i64 1, .int .i64 1, .int .i64 1, .int .i64 3] 3)
 have h1 := Blk.new (w.alloc (.cells #[.int .i64 0, .int .i64 2, .int .i64 1, .int .i64 1, .int .i64 1, .int .i64 2, .int .i64 3, .int .i64 3, .int .i64 1] 3)) 3 #[.int .i64 0, .int .i64 1, .int .i64 2, .int .i64 2, .int .i64 2, .int .i64 1, .int .i64 1, .int .i64 1, .int .i64 3]
 have hs : (w.alloc (.cells #[.int .i64 0, .int .i64 2, .int .i64 1, .int .i64 1, .int .i64 1, .int .i64 2, .int .i64 3, .int .i64 3, .int .i64 1] 3)).heap.size = w.heap.size + 1 := by simp
 rw [hs] at h1
 have hB : Below w.heap.size w ((w.alloc (.cells #[.int .i64 0, .int .i64 2, .int .i64 1, .int .i64 1, .int .i64 1, .int .i64 2, .int .i64 3, .int .i64 3, .int .i64 1] 3)).alloc (.cells #[.int .i64 0, .int .i64 1, .int .i64 2, .int .i64 2, .int .i64 2, .int .i64 1, .int .i64 1, .int .i64 1, .int .i64 3] 3)) := ((Below.refl _ _).alloc (Nat.le_refl _) _).alloc (by simp) _
 have g0 := (h0.cell 1).trans (show _ = some (Value.int .i64 2) from rfl)
 have g1 := (h1.cell 1).trans (show _ = some (Value.int .i64 1) from rfl)
 have HB := Lib.hid hB
 clear hB h0 h1 hs
 go_enter Tryd.func76, Tryd.ntmps76
 go_wp2_with fail
 generalize (w.alloc (.cells #[.int .i64 0, .int .i64 2, .int .i64 1, .int .i64 1, .int .i64 1, .int .i64 2, .int .i64 3, .int .i64 3, .int .i64 1] 3)).alloc (.cells #[.int .i64 0, .int .i64 1, .int .i64 2, .int .i64 2, .int .i64 2, .int .i64 1, .int .i64 1, .int .i64 1, .int .i64 3] 3) = w2 at HB g0 g1 ⊢
 obtain ⟨b0, hb0⟩ : ∃ b0, w.heap.size = b0 := ⟨_, rfl⟩
 obtain ⟨b1, hb1⟩ : ∃ b1, b0 + 1 = b1 := ⟨_, rfl⟩
 rw [hb0] at g0
 rw [hb0, hb1] at g1
 try rw [hb0]
 try rw [hb1]
 try simp only [hb1]
 go_region
 all_goals
  go_wp2_with fail
  go_ret2
  exact ⟨rfl, HB.out.drew⟩
set_option maxRecDepth 100000 in
set_option maxHeartbeats 1600000 in
theorem rends_k2 (w : World) : Calls Tryd.prog 76 #[.int .i64 2] w fun e w' => e = .returned (.tuple #[.int .i64 1, .int .i64 2]) ∧ Below w.heap.size w w' := by
 have h0 := (Blk.new w 3 #[.int .i64 0, .int .i64 2, .int .i64 1, .int .i64 1, .int .i64 1, .int .i64 2, .int .i64 3, .int .i64 3, .int .i64 1]).alloc (.cells #[.int .i64 0, .int .i64 1, .int .i64 2, .int .i64 2, .int .i64 2, .int .i64 1, .int .i64 1, .int .i64 1, .int .i64 3] 3)
 have h1 := Blk.new (w.alloc (.cells #[.int .i64 0, .int .i64 2, .int .i64 1, .int .i64 1, .int .i64 1, .int .i64 2, .int .i64 3, .int .i64 3, .int .i64 1] 3)) 3 #[.int .i64 0, .int .i64 1, .int .i64 2, .int .i64 2, .int .i64 2, .int .i64 1, .int .i64 1, .int .i64 1, .int .i64 3]
 have hs : (w.alloc (.cells #[.int .i64 0, .int .i64 2, .int .i64 1, .int .i64 1, .int .i64 1, .int .i64 2, .int .i64 3, .int .i64 3, .int .i64 1] 3)).heap.size = w.heap.size + 1 := by simp
 rw [hs] at h1
 have hB : Below w.heap.size w ((w.alloc (.cells #[.int .i64 0, .int .i64 2, .int .i64 1, .int .i64 1, .int .i64 1, .int .i64 2, .int .i64 3, .int .i64 3, .int .i64 1] 3)).alloc (.cells #[.int .i64 0, .int .i64 1, .int .i64 2, .int .i64 2, .int .i64 2, .int .i64 1, .int .i64 1, .int .i64 1, .int .i64 3] 3)) := ((Below.refl _ _).alloc (Nat.le_refl _) _).alloc (by simp) _
 have g0 := (h0.cell 2).trans (show _ = some (Value.int .i64 1) from rfl)
 have g1 := (h1.cell 2).trans (show _ = some (Value.int .i64 2) from rfl)
 have HB := Lib.hid hB
 clear hB h0 h1 hs
 go_enter Tryd.func76, Tryd.ntmps76
 go_wp2_with fail
 generalize (w.alloc (.cells #[.int .i64 0, .int .i64 2, .int .i64 1, .int .i64 1, .int .i64 1, .int .i64 2, .int .i64 3, .int .i64 3, .int .i64 1] 3)).alloc (.cells #[.int .i64 0, .int .i64 1, .int .i64 2, .int .i64 2, .int .i64 2, .int .i64 1, .int .i64 1, .int .i64 1, .int .i64 3] 3) = w2 at HB g0 g1 ⊢
 obtain ⟨b0, hb0⟩ : ∃ b0, w.heap.size = b0 := ⟨_, rfl⟩
 obtain ⟨b1, hb1⟩ : ∃ b1, b0 + 1 = b1 := ⟨_, rfl⟩
 rw [hb0] at g0
 rw [hb0, hb1] at g1
 try rw [hb0]
 try rw [hb1]
 try simp only [hb1]
 go_region
 all_goals
  go_wp2_with fail
  go_ret2
  exact ⟨rfl, HB.out.drew⟩
set_option maxRecDepth 100000 in
set_option maxHeartbeats 1600000 in
theorem rends_k3 (w : World) : Calls Tryd.prog 76 #[.int .i64 3] w fun e w' => e = .returned (.tuple #[.int .i64 1, .int .i64 2]) ∧ Below w.heap.size w w' := by
 have h0 := (Blk.new w 3 #[.int .i64 0, .int .i64 2, .int .i64 1, .int .i64 1, .int .i64 1, .int .i64 2, .int .i64 3, .int .i64 3, .int .i64 1]).alloc (.cells #[.int .i64 0, .int .i64 1, .int .i64 2, .int .i64 2, .int .i64 2, .int .i64 1, .int .i64 1, .int .i64 1, .int .i64 3] 3)
 have h1 := Blk.new (w.alloc (.cells #[.int .i64 0, .int .i64 2, .int .i64 1, .int .i64 1, .int .i64 1, .int .i64 2, .int .i64 3, .int .i64 3, .int .i64 1] 3)) 3 #[.int .i64 0, .int .i64 1, .int .i64 2, .int .i64 2, .int .i64 2, .int .i64 1, .int .i64 1, .int .i64 1, .int .i64 3]
 have hs : (w.alloc (.cells #[.int .i64 0, .int .i64 2, .int .i64 1, .int .i64 1, .int .i64 1, .int .i64 2, .int .i64 3, .int .i64 3, .int .i64 1] 3)).heap.size = w.heap.size + 1 := by simp
 rw [hs] at h1
 have hB : Below w.heap.size w ((w.alloc (.cells #[.int .i64 0, .int .i64 2, .int .i64 1, .int .i64 1, .int .i64 1, .int .i64 2, .int .i64 3, .int .i64 3, .int .i64 1] 3)).alloc (.cells #[.int .i64 0, .int .i64 1, .int .i64 2, .int .i64 2, .int .i64 2, .int .i64 1, .int .i64 1, .int .i64 1, .int .i64 3] 3)) := ((Below.refl _ _).alloc (Nat.le_refl _) _).alloc (by simp) _
 have g0 := (h0.cell 3).trans (show _ = some (Value.int .i64 1) from rfl)
 have g1 := (h1.cell 3).trans (show _ = some (Value.int .i64 2) from rfl)
 have HB := Lib.hid hB
 clear hB h0 h1 hs
 go_enter Tryd.func76, Tryd.ntmps76
 go_wp2_with fail
 generalize (w.alloc (.cells #[.int .i64 0, .int .i64 2, .int .i64 1, .int .i64 1, .int .i64 1, .int .i64 2, .int .i64 3, .int .i64 3, .int .i64 1] 3)).alloc (.cells #[.int .i64 0, .int .i64 1, .int .i64 2, .int .i64 2, .int .i64 2, .int .i64 1, .int .i64 1, .int .i64 1, .int .i64 3] 3) = w2 at HB g0 g1 ⊢
 obtain ⟨b0, hb0⟩ : ∃ b0, w.heap.size = b0 := ⟨_, rfl⟩
 obtain ⟨b1, hb1⟩ : ∃ b1, b0 + 1 = b1 := ⟨_, rfl⟩
 rw [hb0] at g0
 rw [hb0, hb1] at g1
 try rw [hb0]
 try rw [hb1]
 try simp only [hb1]
 go_region
 all_goals
  go_wp2_with fail
  go_ret2
  exact ⟨rfl, HB.out.drew⟩
set_option maxRecDepth 100000 in
set_option maxHeartbeats 1600000 in
theorem rends_k4 (w : World) : Calls Tryd.prog 76 #[.int .i64 4] w fun e w' => e = .returned (.tuple #[.int .i64 1, .int .i64 2]) ∧ Below w.heap.size w w' := by
 have h0 := (Blk.new w 3 #[.int .i64 0, .int .i64 2, .int .i64 1, .int .i64 1, .int .i64 1, .int .i64 2, .int .i64 3, .int .i64 3, .int .i64 1]).alloc (.cells #[.int .i64 0, .int .i64 1, .int .i64 2, .int .i64 2, .int .i64 2, .int .i64 1, .int .i64 1, .int .i64 1, .int .i64 3] 3)
 have h1 := Blk.new (w.alloc (.cells #[.int .i64 0, .int .i64 2, .int .i64 1, .int .i64 1, .int .i64 1, .int .i64 2, .int .i64 3, .int .i64 3, .int .i64 1] 3)) 3 #[.int .i64 0, .int .i64 1, .int .i64 2, .int .i64 2, .int .i64 2, .int .i64 1, .int .i64 1, .int .i64 1, .int .i64 3]
 have hs : (w.alloc (.cells #[.int .i64 0, .int .i64 2, .int .i64 1, .int .i64 1, .int .i64 1, .int .i64 2, .int .i64 3, .int .i64 3, .int .i64 1] 3)).heap.size = w.heap.size + 1 := by simp
 rw [hs] at h1
 have hB : Below w.heap.size w ((w.alloc (.cells #[.int .i64 0, .int .i64 2, .int .i64 1, .int .i64 1, .int .i64 1, .int .i64 2, .int .i64 3, .int .i64 3, .int .i64 1] 3)).alloc (.cells #[.int .i64 0, .int .i64 1, .int .i64 2, .int .i64 2, .int .i64 2, .int .i64 1, .int .i64 1, .int .i64 1, .int .i64 3] 3)) := ((Below.refl _ _).alloc (Nat.le_refl _) _).alloc (by simp) _
 have g0 := (h0.cell 4).trans (show _ = some (Value.int .i64 1) from rfl)
 have g1 := (h1.cell 4).trans (show _ = some (Value.int .i64 2) from rfl)
 have HB := Lib.hid hB
 clear hB h0 h1 hs
 go_enter Tryd.func76, Tryd.ntmps76
 go_wp2_with fail
 generalize (w.alloc (.cells #[.int .i64 0, .int .i64 2, .int .i64 1, .int .i64 1, .int .i64 1, .int .i64 2, .int .i64 3, .int .i64 3, .int .i64 1] 3)).alloc (.cells #[.int .i64 0, .int .i64 1, .int .i64 2, .int .i64 2, .int .i64 2, .int .i64 1, .int .i64 1, .int .i64 1, .int .i64 3] 3) = w2 at HB g0 g1 ⊢
 obtain ⟨b0, hb0⟩ : ∃ b0, w.heap.size = b0 := ⟨_, rfl⟩
 obtain ⟨b1, hb1⟩ : ∃ b1, b0 + 1 = b1 := ⟨_, rfl⟩
 rw [hb0] at g0
 rw [hb0, hb1] at g1
 try rw [hb0]
 try rw [hb1]
 try simp only [hb1]
 go_region
 all_goals
  go_wp2_with fail
  go_ret2
  exact ⟨rfl, HB.out.drew⟩
set_option maxRecDepth 100000 in
set_option maxHeartbeats 1600000 in
theorem rends_k5 (w : World) : Calls Tryd.prog 76 #[.int .i64 5] w fun e w' => e = .returned (.tuple #[.int .i64 2, .int .i64 1]) ∧ Below w.heap.size w w' := by
 have h0 := (Blk.new w 3 #[.int .i64 0, .int .i64 2, .int .i64 1, .int .i64 1, .int .i64 1, .int .i64 2, .int .i64 3, .int .i64 3, .int .i64 1]).alloc (.cells #[.int .i64 0, .int .i64 1, .int .i64 2, .int .i64 2, .int .i64 2, .int .i64 1, .int .i64 1, .int .i64 1, .int .i64 3] 3)
 have h1 := Blk.new (w.alloc (.cells #[.int .i64 0, .int .i64 2, .int .i64 1, .int .i64 1, .int .i64 1, .int .i64 2, .int .i64 3, .int .i64 3, .int .i64 1] 3)) 3 #[.int .i64 0, .int .i64 1, .int .i64 2, .int .i64 2, .int .i64 2, .int .i64 1, .int .i64 1, .int .i64 1, .int .i64 3]
 have hs : (w.alloc (.cells #[.int .i64 0, .int .i64 2, .int .i64 1, .int .i64 1, .int .i64 1, .int .i64 2, .int .i64 3, .int .i64 3, .int .i64 1] 3)).heap.size = w.heap.size + 1 := by simp
 rw [hs] at h1
 have hB : Below w.heap.size w ((w.alloc (.cells #[.int .i64 0, .int .i64 2, .int .i64 1, .int .i64 1, .int .i64 1, .int .i64 2, .int .i64 3, .int .i64 3, .int .i64 1] 3)).alloc (.cells #[.int .i64 0, .int .i64 1, .int .i64 2, .int .i64 2, .int .i64 2, .int .i64 1, .int .i64 1, .int .i64 1, .int .i64 3] 3)) := ((Below.refl _ _).alloc (Nat.le_refl _) _).alloc (by simp) _
 have g0 := (h0.cell 5).trans (show _ = some (Value.int .i64 2) from rfl)
 have g1 := (h1.cell 5).trans (show _ = some (Value.int .i64 1) from rfl)
 have HB := Lib.hid hB
 clear hB h0 h1 hs
 go_enter Tryd.func76, Tryd.ntmps76
 go_wp2_with fail
 generalize (w.alloc (.cells #[.int .i64 0, .int .i64 2, .int .i64 1, .int .i64 1, .int .i64 1, .int .i64 2, .int .i64 3, .int .i64 3, .int .i64 1] 3)).alloc (.cells #[.int .i64 0, .int .i64 1, .int .i64 2, .int .i64 2, .int .i64 2, .int .i64 1, .int .i64 1, .int .i64 1, .int .i64 3] 3) = w2 at HB g0 g1 ⊢
 obtain ⟨b0, hb0⟩ : ∃ b0, w.heap.size = b0 := ⟨_, rfl⟩
 obtain ⟨b1, hb1⟩ : ∃ b1, b0 + 1 = b1 := ⟨_, rfl⟩
 rw [hb0] at g0
 rw [hb0, hb1] at g1
 try rw [hb0]
 try rw [hb1]
 try simp only [hb1]
 go_region
 all_goals
  go_wp2_with fail
  go_ret2
  exact ⟨rfl, HB.out.drew⟩
set_option maxRecDepth 100000 in
set_option maxHeartbeats 1600000 in
theorem rends_k6 (w : World) : Calls Tryd.prog 76 #[.int .i64 6] w fun e w' => e = .returned (.tuple #[.int .i64 3, .int .i64 1]) ∧ Below w.heap.size w w' := by
 have h0 := (Blk.new w 3 #[.int .i64 0, .int .i64 2, .int .i64 1, .int .i64 1, .int .i64 1, .int .i64 2, .int .i64 3, .int .i64 3, .int .i64 1]).alloc (.cells #[.int .i64 0, .int .i64 1, .int .i64 2, .int .i64 2, .int .i64 2, .int .i64 1, .int .i64 1, .int .i64 1, .int .i64 3] 3)
 have h1 := Blk.new (w.alloc (.cells #[.int .i64 0, .int .i64 2, .int .i64 1, .int .i64 1, .int .i64 1, .int .i64 2, .int .i64 3, .int .i64 3, .int .i64 1] 3)) 3 #[.int .i64 0, .int .i64 1, .int .i64 2, .int .i64 2, .int .i64 2, .int .i64 1, .int .i64 1, .int .i64 1, .int .i64 3]
 have hs : (w.alloc (.cells #[.int .i64 0, .int .i64 2, .int .i64 1, .int .i64 1, .int .i64 1, .int .i64 2, .int .i64 3, .int .i64 3, .int .i64 1] 3)).heap.size = w.heap.size + 1 := by simp
 rw [hs] at h1
 have hB : Below w.heap.size w ((w.alloc (.cells #[.int .i64 0, .int .i64 2, .int .i64 1, .int .i64 1, .int .i64 1, .int .i64 2, .int .i64 3, .int .i64 3, .int .i64 1] 3)).alloc (.cells #[.int .i64 0, .int .i64 1, .int .i64 2, .int .i64 2, .int .i64 2, .int .i64 1, .int .i64 1, .int .i64 1, .int .i64 3] 3)) := ((Below.refl _ _).alloc (Nat.le_refl _) _).alloc (by simp) _
 have g0 := (h0.cell 6).trans (show _ = some (Value.int .i64 3) from rfl)
 have g1 := (h1.cell 6).trans (show _ = some (Value.int .i64 1) from rfl)
 have HB := Lib.hid hB
 clear hB h0 h1 hs
 go_enter Tryd.func76, Tryd.ntmps76
 go_wp2_with fail
 generalize (w.alloc (.cells #[.int .i64 0, .int .i64 2, .int .i64 1, .int .i64 1, .int .i64 1, .int .i64 2, .int .i64 3, .int .i64 3, .int .i64 1] 3)).alloc (.cells #[.int .i64 0, .int .i64 1, .int .i64 2, .int .i64 2, .int .i64 2, .int .i64 1, .int .i64 1, .int .i64 1, .int .i64 3] 3) = w2 at HB g0 g1 ⊢
 obtain ⟨b0, hb0⟩ : ∃ b0, w.heap.size = b0 := ⟨_, rfl⟩
 obtain ⟨b1, hb1⟩ : ∃ b1, b0 + 1 = b1 := ⟨_, rfl⟩
 rw [hb0] at g0
 rw [hb0, hb1] at g1
 try rw [hb0]
 try rw [hb1]
 try simp only [hb1]
 go_region
 all_goals
  go_wp2_with fail
  go_ret2
  exact ⟨rfl, HB.out.drew⟩
set_option maxRecDepth 100000 in
set_option maxHeartbeats 1600000 in
theorem rends_k7 (w : World) : Calls Tryd.prog 76 #[.int .i64 7] w fun e w' => e = .returned (.tuple #[.int .i64 3, .int .i64 1]) ∧ Below w.heap.size w w' := by
 have h0 := (Blk.new w 3 #[.int .i64 0, .int .i64 2, .int .i64 1, .int .i64 1, .int .i64 1, .int .i64 2, .int .i64 3, .int .i64 3, .int .i64 1]).alloc (.cells #[.int .i64 0, .int .i64 1, .int .i64 2, .int .i64 2, .int .i64 2, .int .i64 1, .int .i64 1, .int .i64 1, .int .i64 3] 3)
 have h1 := Blk.new (w.alloc (.cells #[.int .i64 0, .int .i64 2, .int .i64 1, .int .i64 1, .int .i64 1, .int .i64 2, .int .i64 3, .int .i64 3, .int .i64 1] 3)) 3 #[.int .i64 0, .int .i64 1, .int .i64 2, .int .i64 2, .int .i64 2, .int .i64 1, .int .i64 1, .int .i64 1, .int .i64 3]
 have hs : (w.alloc (.cells #[.int .i64 0, .int .i64 2, .int .i64 1, .int .i64 1, .int .i64 1, .int .i64 2, .int .i64 3, .int .i64 3, .int .i64 1] 3)).heap.size = w.heap.size + 1 := by simp
 rw [hs] at h1
 have hB : Below w.heap.size w ((w.alloc (.cells #[.int .i64 0, .int .i64 2, .int .i64 1, .int .i64 1, .int .i64 1, .int .i64 2, .int .i64 3, .int .i64 3, .int .i64 1] 3)).alloc (.cells #[.int .i64 0, .int .i64 1, .int .i64 2, .int .i64 2, .int .i64 2, .int .i64 1, .int .i64 1, .int .i64 1, .int .i64 3] 3)) := ((Below.refl _ _).alloc (Nat.le_refl _) _).alloc (by simp) _
 have g0 := (h0.cell 7).trans (show _ = some (Value.int .i64 3) from rfl)
 have g1 := (h1.cell 7).trans (show _ = some (Value.int .i64 1) from rfl)
 have HB := Lib.hid hB
 clear hB h0 h1 hs
 go_enter Tryd.func76, Tryd.ntmps76
 go_wp2_with fail
 generalize (w.alloc (.cells #[.int .i64 0, .int .i64 2, .int .i64 1, .int .i64 1, .int .i64 1, .int .i64 2, .int .i64 3, .int .i64 3, .int .i64 1] 3)).alloc (.cells #[.int .i64 0, .int .i64 1, .int .i64 2, .int .i64 2, .int .i64 2, .int .i64 1, .int .i64 1, .int .i64 1, .int .i64 3] 3) = w2 at HB g0 g1 ⊢
 obtain ⟨b0, hb0⟩ : ∃ b0, w.heap.size = b0 := ⟨_, rfl⟩
 obtain ⟨b1, hb1⟩ : ∃ b1, b0 + 1 = b1 := ⟨_, rfl⟩
 rw [hb0] at g0
 rw [hb0, hb1] at g1
 try rw [hb0]
 try rw [hb1]
 try simp only [hb1]
 go_region
 all_goals
  go_wp2_with fail
  go_ret2
  exact ⟨rfl, HB.out.drew⟩
set_option maxRecDepth 100000 in
set_option maxHeartbeats 1600000 in
theorem rends_k8 (w : World) : Calls Tryd.prog 76 #[.int .i64 8] w fun e w' => e = .returned (.tuple #[.int .i64 1, .int .i64 3]) ∧ Below w.heap.size w w' := by
 have h0 := (Blk.new w 3 #[.int .i64 0, .int .i64 2, .int .i64 1, .int .i64 1, .int .i64 1, .int .i64 2, .int .i64 3, .int .i64 3, .int .i64 1]).alloc (.cells #[.int .i64 0, .int .i64 1, .int .i64 2, .int .i64 2, .int .i64 2, .int .i64 1, .int .i64 1, .int .i64 1, .int .i64 3] 3)
 have h1 := Blk.new (w.alloc (.cells #[.int .i64 0, .int .i64 2, .int .i64 1, .int .i64 1, .int .i64 1, .int .i64 2, .int .i64 3, .int .i64 3, .int .i64 1] 3)) 3 #[.int .i64 0, .int .i64 1, .int .i64 2, .int .i64 2, .int .i64 2, .int .i64 1, .int .i64 1, .int .i64 1, .int .i64 3]
 have hs : (w.alloc (.cells #[.int .i64 0, .int .i64 2, .int .i64 1, .int .i64 1, .int .i64 1, .int .i64 2, .int .i64 3, .int .i64 3, .int .i64 1] 3)).heap.size = w.heap.size + 1 := by simp
 rw [hs] at h1
 have hB : Below w.heap.size w ((w.alloc (.cells #[.int .i64 0, .int .i64 2, .int .i64 1, .int .i64 1, .int .i64 1, .int .i64 2, .int .i64 3, .int .i64 3, .int .i64 1] 3)).alloc (.cells #[.int .i64 0, .int .i64 1, .int .i64 2, .int .i64 2, .int .i64 2, .int .i64 1, .int .i64 1, .int .i64 1, .int .i64 3] 3)) := ((Below.refl _ _).alloc (Nat.le_refl _) _).alloc (by simp) _
 have g0 := (h0.cell 8).trans (show _ = some (Value.int .i64 1) from rfl)
 have g1 := (h1.cell 8).trans (show _ = some (Value.int .i64 3) from rfl)
 have HB := Lib.hid hB
 clear hB h0 h1 hs
 go_enter Tryd.func76, Tryd.ntmps76
 go_wp2_with fail
 generalize (w.alloc (.cells #[.int .i64 0, .int .i64 2, .int .i64 1, .int .i64 1, .int .i64 1, .int .i64 2, .int .i64 3, .int .i64 3, .int .i64 1] 3)).alloc (.cells #[.int .i64 0, .int .i64 1, .int .i64 2, .int .i64 2, .int .i64 2, .int .i64 1, .int .i64 1, .int .i64 1, .int .i64 3] 3) = w2 at HB g0 g1 ⊢
 obtain ⟨b0, hb0⟩ : ∃ b0, w.heap.size = b0 := ⟨_, rfl⟩
 obtain ⟨b1, hb1⟩ : ∃ b1, b0 + 1 = b1 := ⟨_, rfl⟩
 rw [hb0] at g0
 rw [hb0, hb1] at g1
 try rw [hb0]
 try rw [hb1]
 try simp only [hb1]
 go_region
 all_goals
  go_wp2_with fail
  go_ret2
  exact ⟨rfl, HB.out.drew⟩
end Go.Proofs.YthhnocnkicoimaaDoor
namespace Go.Proofs.YthhnocnkicoimaaDoor
open Go.RowKit

set_option maxRecDepth 100000 in
set_option maxHeartbeats 6400000 in
theorem rnum_k1 (m : LMsg) (hk : m.kind = 1) (w : World) : Calls Tryd.prog 97 #[aggMsg m] w fun e w' => ∃ A c, e = .returned (.slice A 5 c) ∧ RdI w' A 5 [m.inc, m.tick, m.res.a, m.res.b, m.res.c] ∧ Below w.heap.size w w' := by
 have h1 := Blk.new w 38 (boxMsg m)
 have hB : Below w.heap.size w (w.alloc (.cells (boxMsg m) 38)) := (Below.refl _ _).alloc (Nat.le_refl _) _
 have c0 : (w.alloc (.cells (boxMsg m) 38)).cell? ⟨w.heap.size, 0, none⟩ = some (.int .i64 1) := by rw [← hk]; exact (h1.cell 0).trans rfl
 have H0 := Lib.hid (And.intro h1 hB)
 clear h1 hB hk
 go_enter Tryd.func97, Tryd.ntmps97
 go_wp2_with fail
 generalize w.alloc (.cells (boxMsg m) 38) = w1 at H0 c0 ⊢
 obtain ⟨b1, hb1⟩ : ∃ b1, w.heap.size = b1 := ⟨_, rfl⟩
 have h1 : Blk w1 b1 38 (boxMsg m) := by rw [← hb1]; exact H0.out.1
 rw [hb1] at c0
 try simp only [hb1]
 go_wp2_with fail
 (with_reducible refine (rnames_k1 w1).mono ?_)
 rintro e w2 ⟨rfl, hB2⟩
 have H2 := Lib.hid (And.intro (h1.below hB2 h1.lt) (H0.out.2.trans (hB2.mono H0.out.2.size)))
 clear h1 hb1 H0 c0 hB2
 go_wp2
 go_loopw [3, 5] (fun o i wr => (i = .int .i64 0 ∧ ∃ A c, o = .slice A 0 c ∧ OwnL encI 3 1 wr w2.heap.size A 0 c [] ∧ Below w2.heap.size w2 wr) ∨ (i = .int .i64 1 ∧ ∃ A c, o = .slice A 1 c ∧ OwnL encI 3 1 wr w2.heap.size A 1 c [m.inc] ∧ Below w2.heap.size w2 wr) ∨ (i = .int .i64 2 ∧ ∃ A c, o = .slice A 2 c ∧ OwnL encI 3 1 wr w2.heap.size A 2 c [m.inc, m.tick] ∧ Below w2.heap.size w2 wr) ∨ (i = .int .i64 3 ∧ ∃ A c, o = .slice A 5 c ∧ OwnL encI 3 1 wr w2.heap.size A 5 c [m.inc, m.tick, m.res.a, m.res.b, m.res.c] ∧ Below w2.heap.size w2 wr)) (fun _ i _ => 3 - (intOf i).toNat)
 case atStart => exact .inl ⟨rfl, none, 0, rfl, OwnL.nil _ _, Below.refl _ _⟩
 case round =>
  rcases hrel with ⟨rfl, A, c, rfl, ho, hb⟩ | ⟨rfl, A, c, rfl, ho, hb⟩ | ⟨rfl, A, c, rfl, ho, hb⟩ | ⟨rfl, A, c, rfl, ho, hb⟩
  ·have g4 : wr.cell? ⟨b1, 4, none⟩ = some (.int .i64 m.inc) := ((H2.out.1.below hb H2.out.1.lt).cell 4).trans rfl
   go_wp2_with (at_builtin; refine wp_app (enc := encI) (fun _ => rfl) (by simp [encI, Value.oneCell']) rfl (.tmp 45) (.tmp 48) 29 rfl 3 (.int .i64 0) 8 Tryd.underlying29 Tryd.infoInt rfl (by decide) w2.heap.size _ 0 _ _ rfl (ho.alloc _) _ 1 _ [m.inc] rfl (Rd.new1 _ m.inc _ _ _ rfl) 1 rfl _ rfl (by omega) (by omega) (by have := hb.size; simp; omega) ?_; intro A4 c4_ w4 ho4 hg4 _; have hb4 := (hb.alloc hb.size _).grown hg4 (by have := hb.size; simp; omega) (own_block_ge ho))
   go_roundw
   case rel => exact .inr (.inl ⟨by go_num, A4, c4_, rfl, by simpa using ho4, hb4⟩)
   case measure => simp [intOf]
  ·have g6 : wr.cell? ⟨b1, 6, none⟩ = some (.int .i64 m.tick) := ((H2.out.1.below hb H2.out.1.lt).cell 6).trans rfl
   go_wp2_with (at_builtin; refine wp_app (enc := encI) (fun _ => rfl) (by simp [encI, Value.oneCell']) rfl (.tmp 59) (.tmp 62) 29 rfl 3 (.int .i64 0) 8 Tryd.underlying29 Tryd.infoInt rfl (by decide) w2.heap.size _ 1 _ _ rfl (ho.alloc _) _ 1 _ [m.tick] rfl (Rd.new1 _ m.tick _ _ _ rfl) 2 rfl _ rfl (by omega) (by omega) (by have := hb.size; simp; omega) ?_; intro A4 c4_ w4 ho4 hg4 _; have hb4 := (hb.alloc hb.size _).grown hg4 (by have := hb.size; simp; omega) (own_block_ge ho))
   go_roundw
   case rel => exact .inr (.inr (.inl ⟨by go_num, A4, c4_, rfl, by simpa using ho4, hb4⟩))
   case measure => simp [intOf]
  ·have g9 : wr.cell? ⟨b1, 9, none⟩ = some (.int .i64 m.res.a) := ((H2.out.1.below hb H2.out.1.lt).cell 9).trans rfl
   go_wp2_with (first
    | (at_builtin; refine wp_app (enc := encI) (fun _ => rfl) (by simp [encI, Value.oneCell']) rfl (.tmp 18) (.tmp 22) 29 rfl 3 (.int .i64 0) 8 Tryd.underlying29 Tryd.infoInt rfl (by decide) w2.heap.size _ 2 _ _ rfl (ho.alloc _) _ 1 _ [m.res.a] rfl (Rd.new1 _ m.res.a _ _ _ rfl) 3 rfl _ rfl (by omega) (by omega) (by have := hb.size; simp; omega) ?_; intro A4 c4_ w4 ho4 hg4 _; have hb4 := (hb.alloc hb.size _).grown hg4 (by have := hb.size; simp; omega) (own_block_ge ho); have g10 : w4.cell? ⟨b1, 10, none⟩ = some (.int .i64 m.res.b) := ((H2.out.1.below hb4 H2.out.1.lt).cell 10).trans rfl)
    | (at_builtin; refine wp_app (enc := encI) (fun _ => rfl) (by simp [encI, Value.oneCell']) rfl (.tmp 24) (.tmp 28) 29 rfl 3 (.int .i64 0) 8 Tryd.underlying29 Tryd.infoInt rfl (by decide) w2.heap.size _ 3 _ _ rfl (ho4.alloc _) _ 1 _ [m.res.b] rfl (Rd.new1 _ m.res.b _ _ _ rfl) 4 rfl _ rfl (by omega) (by omega) (by have := hb4.size; simp; omega) ?_; intro A5 c5_ w5 ho5 hg5 _; have hb5 := (hb4.alloc hb4.size _).grown hg5 (by have := hb4.size; simp; omega) (own_block_ge ho4); have g11 : w5.cell? ⟨b1, 11, none⟩ = some (.int .i64 m.res.c) := ((H2.out.1.below hb5 H2.out.1.lt).cell 11).trans rfl)
    | (at_builtin; refine wp_app (enc := encI) (fun _ => rfl) (by simp [encI, Value.oneCell']) rfl (.tmp 30) (.tmp 34) 29 rfl 3 (.int .i64 0) 8 Tryd.underlying29 Tryd.infoInt rfl (by decide) w2.heap.size _ 4 _ _ rfl (ho5.alloc _) _ 1 _ [m.res.c] rfl (Rd.new1 _ m.res.c _ _ _ rfl) 5 rfl _ rfl (by omega) (by omega) (by have := hb5.size; simp; omega) ?_; intro A6 c6_ w6 ho6 hg6 _; have hb6 := (hb5.alloc hb5.size _).grown hg6 (by have := hb5.size; simp; omega) (own_block_ge ho5)))
   go_roundw
   case rel => exact .inr (.inr (.inr (⟨by go_num, A6, c6_, rfl, by simpa using ho6, hb6⟩)))
   case measure => simp [intOf]
  ·go_wp2
   go_ret
   exact ⟨A, c, rfl, ho.rd (sz := 1) (enc := encI) (fun _ => rfl), H2.out.2.trans (hb.mono H2.out.2.size)⟩
set_option maxRecDepth 100000 in
set_option maxHeartbeats 6400000 in
theorem rnum_k2 (m : LMsg) (hk : m.kind = 2) (w : World) : Calls Tryd.prog 97 #[aggMsg m] w fun e w' => ∃ A c, e = .returned (.slice A 3 c) ∧ RdI w' A 3 [m.epoch, m.inc, m.tick] ∧ Below w.heap.size w w' := by
 have h1 := Blk.new w 38 (boxMsg m)
 have hB : Below w.heap.size w (w.alloc (.cells (boxMsg m) 38)) := (Below.refl _ _).alloc (Nat.le_refl _) _
 have c0 : (w.alloc (.cells (boxMsg m) 38)).cell? ⟨w.heap.size, 0, none⟩ = some (.int .i64 2) := by rw [← hk]; exact (h1.cell 0).trans rfl
 have H0 := Lib.hid (And.intro h1 hB)
 clear h1 hB hk
 go_enter Tryd.func97, Tryd.ntmps97
 go_wp2_with fail
 generalize w.alloc (.cells (boxMsg m) 38) = w1 at H0 c0 ⊢
 obtain ⟨b1, hb1⟩ : ∃ b1, w.heap.size = b1 := ⟨_, rfl⟩
 have h1 : Blk w1 b1 38 (boxMsg m) := by rw [← hb1]; exact H0.out.1
 rw [hb1] at c0
 try simp only [hb1]
 go_wp2_with fail
 (with_reducible refine (rnames_k2 w1).mono ?_)
 rintro e w2 ⟨rfl, hB2⟩
 have H2 := Lib.hid (And.intro (h1.below hB2 h1.lt) (H0.out.2.trans (hB2.mono H0.out.2.size)))
 clear h1 hb1 H0 c0 hB2
 go_wp2
 go_loopw [3, 5] (fun o i wr => (i = .int .i64 0 ∧ ∃ A c, o = .slice A 0 c ∧ OwnL encI 3 1 wr w2.heap.size A 0 c [] ∧ Below w2.heap.size w2 wr) ∨ (i = .int .i64 1 ∧ ∃ A c, o = .slice A 1 c ∧ OwnL encI 3 1 wr w2.heap.size A 1 c [m.epoch] ∧ Below w2.heap.size w2 wr) ∨ (i = .int .i64 2 ∧ ∃ A c, o = .slice A 2 c ∧ OwnL encI 3 1 wr w2.heap.size A 2 c [m.epoch, m.inc] ∧ Below w2.heap.size w2 wr) ∨ (i = .int .i64 3 ∧ ∃ A c, o = .slice A 3 c ∧ OwnL encI 3 1 wr w2.heap.size A 3 c [m.epoch, m.inc, m.tick] ∧ Below w2.heap.size w2 wr)) (fun _ i _ => 3 - (intOf i).toNat)
 case atStart => exact .inl ⟨rfl, none, 0, rfl, OwnL.nil _ _, Below.refl _ _⟩
 case round =>
  rcases hrel with ⟨rfl, A, c, rfl, ho, hb⟩ | ⟨rfl, A, c, rfl, ho, hb⟩ | ⟨rfl, A, c, rfl, ho, hb⟩ | ⟨rfl, A, c, rfl, ho, hb⟩
  ·have g3 : wr.cell? ⟨b1, 3, none⟩ = some (.int .i64 m.epoch) := ((H2.out.1.below hb H2.out.1.lt).cell 3).trans rfl
   go_wp2_with (at_builtin; refine wp_app (enc := encI) (fun _ => rfl) (by simp [encI, Value.oneCell']) rfl (.tmp 38) (.tmp 41) 29 rfl 3 (.int .i64 0) 8 Tryd.underlying29 Tryd.infoInt rfl (by decide) w2.heap.size _ 0 _ _ rfl (ho.alloc _) _ 1 _ [m.epoch] rfl (Rd.new1 _ m.epoch _ _ _ rfl) 1 rfl _ rfl (by omega) (by omega) (by have := hb.size; simp; omega) ?_; intro A4 c4_ w4 ho4 hg4 _; have hb4 := (hb.alloc hb.size _).grown hg4 (by have := hb.size; simp; omega) (own_block_ge ho))
   go_roundw
   case rel => exact .inr (.inl ⟨by go_num, A4, c4_, rfl, by simpa using ho4, hb4⟩)
   case measure => simp [intOf]
  ·have g4 : wr.cell? ⟨b1, 4, none⟩ = some (.int .i64 m.inc) := ((H2.out.1.below hb H2.out.1.lt).cell 4).trans rfl
   go_wp2_with (at_builtin; refine wp_app (enc := encI) (fun _ => rfl) (by simp [encI, Value.oneCell']) rfl (.tmp 45) (.tmp 48) 29 rfl 3 (.int .i64 0) 8 Tryd.underlying29 Tryd.infoInt rfl (by decide) w2.heap.size _ 1 _ _ rfl (ho.alloc _) _ 1 _ [m.inc] rfl (Rd.new1 _ m.inc _ _ _ rfl) 2 rfl _ rfl (by omega) (by omega) (by have := hb.size; simp; omega) ?_; intro A4 c4_ w4 ho4 hg4 _; have hb4 := (hb.alloc hb.size _).grown hg4 (by have := hb.size; simp; omega) (own_block_ge ho))
   go_roundw
   case rel => exact .inr (.inr (.inl ⟨by go_num, A4, c4_, rfl, by simpa using ho4, hb4⟩))
   case measure => simp [intOf]
  ·have g6 : wr.cell? ⟨b1, 6, none⟩ = some (.int .i64 m.tick) := ((H2.out.1.below hb H2.out.1.lt).cell 6).trans rfl
   go_wp2_with (at_builtin; refine wp_app (enc := encI) (fun _ => rfl) (by simp [encI, Value.oneCell']) rfl (.tmp 59) (.tmp 62) 29 rfl 3 (.int .i64 0) 8 Tryd.underlying29 Tryd.infoInt rfl (by decide) w2.heap.size _ 2 _ _ rfl (ho.alloc _) _ 1 _ [m.tick] rfl (Rd.new1 _ m.tick _ _ _ rfl) 3 rfl _ rfl (by omega) (by omega) (by have := hb.size; simp; omega) ?_; intro A4 c4_ w4 ho4 hg4 _; have hb4 := (hb.alloc hb.size _).grown hg4 (by have := hb.size; simp; omega) (own_block_ge ho))
   go_roundw
   case rel => exact .inr (.inr (.inr (⟨by go_num, A4, c4_, rfl, by simpa using ho4, hb4⟩)))
   case measure => simp [intOf]
  ·go_wp2
   go_ret
   exact ⟨A, c, rfl, ho.rd (sz := 1) (enc := encI) (fun _ => rfl), H2.out.2.trans (hb.mono H2.out.2.size)⟩
set_option maxRecDepth 100000 in
set_option maxHeartbeats 6400000 in
theorem rnum_k3 (m : LMsg) (hk : m.kind = 3) (w : World) : Calls Tryd.prog 97 #[aggMsg m] w fun e w' => ∃ A c, e = .returned (.slice A 3 c) ∧ RdI w' A 3 [m.epoch, m.inc, m.job] ∧ Below w.heap.size w w' := by
 have h1 := Blk.new w 38 (boxMsg m)
 have hB : Below w.heap.size w (w.alloc (.cells (boxMsg m) 38)) := (Below.refl _ _).alloc (Nat.le_refl _) _
 have c0 : (w.alloc (.cells (boxMsg m) 38)).cell? ⟨w.heap.size, 0, none⟩ = some (.int .i64 3) := by rw [← hk]; exact (h1.cell 0).trans rfl
 have H0 := Lib.hid (And.intro h1 hB)
 clear h1 hB hk
 go_enter Tryd.func97, Tryd.ntmps97
 go_wp2_with fail
 generalize w.alloc (.cells (boxMsg m) 38) = w1 at H0 c0 ⊢
 obtain ⟨b1, hb1⟩ : ∃ b1, w.heap.size = b1 := ⟨_, rfl⟩
 have h1 : Blk w1 b1 38 (boxMsg m) := by rw [← hb1]; exact H0.out.1
 rw [hb1] at c0
 try simp only [hb1]
 go_wp2_with fail
 (with_reducible refine (rnames_k3 w1).mono ?_)
 rintro e w2 ⟨rfl, hB2⟩
 have H2 := Lib.hid (And.intro (h1.below hB2 h1.lt) (H0.out.2.trans (hB2.mono H0.out.2.size)))
 clear h1 hb1 H0 c0 hB2
 go_wp2
 go_loopw [3, 5] (fun o i wr => (i = .int .i64 0 ∧ ∃ A c, o = .slice A 0 c ∧ OwnL encI 3 1 wr w2.heap.size A 0 c [] ∧ Below w2.heap.size w2 wr) ∨ (i = .int .i64 1 ∧ ∃ A c, o = .slice A 1 c ∧ OwnL encI 3 1 wr w2.heap.size A 1 c [m.epoch] ∧ Below w2.heap.size w2 wr) ∨ (i = .int .i64 2 ∧ ∃ A c, o = .slice A 2 c ∧ OwnL encI 3 1 wr w2.heap.size A 2 c [m.epoch, m.inc] ∧ Below w2.heap.size w2 wr) ∨ (i = .int .i64 3 ∧ ∃ A c, o = .slice A 3 c ∧ OwnL encI 3 1 wr w2.heap.size A 3 c [m.epoch, m.inc, m.job] ∧ Below w2.heap.size w2 wr)) (fun _ i _ => 3 - (intOf i).toNat)
 case atStart => exact .inl ⟨rfl, none, 0, rfl, OwnL.nil _ _, Below.refl _ _⟩
 case round =>
  rcases hrel with ⟨rfl, A, c, rfl, ho, hb⟩ | ⟨rfl, A, c, rfl, ho, hb⟩ | ⟨rfl, A, c, rfl, ho, hb⟩ | ⟨rfl, A, c, rfl, ho, hb⟩
  ·have g3 : wr.cell? ⟨b1, 3, none⟩ = some (.int .i64 m.epoch) := ((H2.out.1.below hb H2.out.1.lt).cell 3).trans rfl
   go_wp2_with (at_builtin; refine wp_app (enc := encI) (fun _ => rfl) (by simp [encI, Value.oneCell']) rfl (.tmp 38) (.tmp 41) 29 rfl 3 (.int .i64 0) 8 Tryd.underlying29 Tryd.infoInt rfl (by decide) w2.heap.size _ 0 _ _ rfl (ho.alloc _) _ 1 _ [m.epoch] rfl (Rd.new1 _ m.epoch _ _ _ rfl) 1 rfl _ rfl (by omega) (by omega) (by have := hb.size; simp; omega) ?_; intro A4 c4_ w4 ho4 hg4 _; have hb4 := (hb.alloc hb.size _).grown hg4 (by have := hb.size; simp; omega) (own_block_ge ho))
   go_roundw
   case rel => exact .inr (.inl ⟨by go_num, A4, c4_, rfl, by simpa using ho4, hb4⟩)
   case measure => simp [intOf]
  ·have g4 : wr.cell? ⟨b1, 4, none⟩ = some (.int .i64 m.inc) := ((H2.out.1.below hb H2.out.1.lt).cell 4).trans rfl
   go_wp2_with (at_builtin; refine wp_app (enc := encI) (fun _ => rfl) (by simp [encI, Value.oneCell']) rfl (.tmp 45) (.tmp 48) 29 rfl 3 (.int .i64 0) 8 Tryd.underlying29 Tryd.infoInt rfl (by decide) w2.heap.size _ 1 _ _ rfl (ho.alloc _) _ 1 _ [m.inc] rfl (Rd.new1 _ m.inc _ _ _ rfl) 2 rfl _ rfl (by omega) (by omega) (by have := hb.size; simp; omega) ?_; intro A4 c4_ w4 ho4 hg4 _; have hb4 := (hb.alloc hb.size _).grown hg4 (by have := hb.size; simp; omega) (own_block_ge ho))
   go_roundw
   case rel => exact .inr (.inr (.inl ⟨by go_num, A4, c4_, rfl, by simpa using ho4, hb4⟩))
   case measure => simp [intOf]
  ·have g5 : wr.cell? ⟨b1, 5, none⟩ = some (.int .i64 m.job) := ((H2.out.1.below hb H2.out.1.lt).cell 5).trans rfl
   go_wp2_with (at_builtin; refine wp_app (enc := encI) (fun _ => rfl) (by simp [encI, Value.oneCell']) rfl (.tmp 52) (.tmp 55) 29 rfl 3 (.int .i64 0) 8 Tryd.underlying29 Tryd.infoInt rfl (by decide) w2.heap.size _ 2 _ _ rfl (ho.alloc _) _ 1 _ [m.job] rfl (Rd.new1 _ m.job _ _ _ rfl) 3 rfl _ rfl (by omega) (by omega) (by have := hb.size; simp; omega) ?_; intro A4 c4_ w4 ho4 hg4 _; have hb4 := (hb.alloc hb.size _).grown hg4 (by have := hb.size; simp; omega) (own_block_ge ho))
   go_roundw
   case rel => exact .inr (.inr (.inr (⟨by go_num, A4, c4_, rfl, by simpa using ho4, hb4⟩)))
   case measure => simp [intOf]
  ·go_wp2
   go_ret
   exact ⟨A, c, rfl, ho.rd (sz := 1) (enc := encI) (fun _ => rfl), H2.out.2.trans (hb.mono H2.out.2.size)⟩
set_option maxRecDepth 100000 in
set_option maxHeartbeats 6400000 in
theorem rnum_k4 (m : LMsg) (hk : m.kind = 4) (w : World) : Calls Tryd.prog 97 #[aggMsg m] w fun e w' => ∃ A c, e = .returned (.slice A 3 c) ∧ RdI w' A 3 [m.epoch, m.inc, m.job] ∧ Below w.heap.size w w' := by
 have h1 := Blk.new w 38 (boxMsg m)
 have hB : Below w.heap.size w (w.alloc (.cells (boxMsg m) 38)) := (Below.refl _ _).alloc (Nat.le_refl _) _
 have c0 : (w.alloc (.cells (boxMsg m) 38)).cell? ⟨w.heap.size, 0, none⟩ = some (.int .i64 4) := by rw [← hk]; exact (h1.cell 0).trans rfl
 have H0 := Lib.hid (And.intro h1 hB)
 clear h1 hB hk
 go_enter Tryd.func97, Tryd.ntmps97
 go_wp2_with fail
 generalize w.alloc (.cells (boxMsg m) 38) = w1 at H0 c0 ⊢
 obtain ⟨b1, hb1⟩ : ∃ b1, w.heap.size = b1 := ⟨_, rfl⟩
 have h1 : Blk w1 b1 38 (boxMsg m) := by rw [← hb1]; exact H0.out.1
 rw [hb1] at c0
 try simp only [hb1]
 go_wp2_with fail
 (with_reducible refine (rnames_k4 w1).mono ?_)
 rintro e w2 ⟨rfl, hB2⟩
 have H2 := Lib.hid (And.intro (h1.below hB2 h1.lt) (H0.out.2.trans (hB2.mono H0.out.2.size)))
 clear h1 hb1 H0 c0 hB2
 go_wp2
 go_loopw [3, 5] (fun o i wr => (i = .int .i64 0 ∧ ∃ A c, o = .slice A 0 c ∧ OwnL encI 3 1 wr w2.heap.size A 0 c [] ∧ Below w2.heap.size w2 wr) ∨ (i = .int .i64 1 ∧ ∃ A c, o = .slice A 1 c ∧ OwnL encI 3 1 wr w2.heap.size A 1 c [m.epoch] ∧ Below w2.heap.size w2 wr) ∨ (i = .int .i64 2 ∧ ∃ A c, o = .slice A 2 c ∧ OwnL encI 3 1 wr w2.heap.size A 2 c [m.epoch, m.inc] ∧ Below w2.heap.size w2 wr) ∨ (i = .int .i64 3 ∧ ∃ A c, o = .slice A 3 c ∧ OwnL encI 3 1 wr w2.heap.size A 3 c [m.epoch, m.inc, m.job] ∧ Below w2.heap.size w2 wr)) (fun _ i _ => 3 - (intOf i).toNat)
 case atStart => exact .inl ⟨rfl, none, 0, rfl, OwnL.nil _ _, Below.refl _ _⟩
 case round =>
  rcases hrel with ⟨rfl, A, c, rfl, ho, hb⟩ | ⟨rfl, A, c, rfl, ho, hb⟩ | ⟨rfl, A, c, rfl, ho, hb⟩ | ⟨rfl, A, c, rfl, ho, hb⟩
  ·have g3 : wr.cell? ⟨b1, 3, none⟩ = some (.int .i64 m.epoch) := ((H2.out.1.below hb H2.out.1.lt).cell 3).trans rfl
   go_wp2_with (at_builtin; refine wp_app (enc := encI) (fun _ => rfl) (by simp [encI, Value.oneCell']) rfl (.tmp 38) (.tmp 41) 29 rfl 3 (.int .i64 0) 8 Tryd.underlying29 Tryd.infoInt rfl (by decide) w2.heap.size _ 0 _ _ rfl (ho.alloc _) _ 1 _ [m.epoch] rfl (Rd.new1 _ m.epoch _ _ _ rfl) 1 rfl _ rfl (by omega) (by omega) (by have := hb.size; simp; omega) ?_; intro A4 c4_ w4 ho4 hg4 _; have hb4 := (hb.alloc hb.size _).grown hg4 (by have := hb.size; simp; omega) (own_block_ge ho))
   go_roundw
   case rel => exact .inr (.inl ⟨by go_num, A4, c4_, rfl, by simpa using ho4, hb4⟩)
   case measure => simp [intOf]
  ·have g4 : wr.cell? ⟨b1, 4, none⟩ = some (.int .i64 m.inc) := ((H2.out.1.below hb H2.out.1.lt).cell 4).trans rfl
   go_wp2_with (at_builtin; refine wp_app (enc := encI) (fun _ => rfl) (by simp [encI, Value.oneCell']) rfl (.tmp 45) (.tmp 48) 29 rfl 3 (.int .i64 0) 8 Tryd.underlying29 Tryd.infoInt rfl (by decide) w2.heap.size _ 1 _ _ rfl (ho.alloc _) _ 1 _ [m.inc] rfl (Rd.new1 _ m.inc _ _ _ rfl) 2 rfl _ rfl (by omega) (by omega) (by have := hb.size; simp; omega) ?_; intro A4 c4_ w4 ho4 hg4 _; have hb4 := (hb.alloc hb.size _).grown hg4 (by have := hb.size; simp; omega) (own_block_ge ho))
   go_roundw
   case rel => exact .inr (.inr (.inl ⟨by go_num, A4, c4_, rfl, by simpa using ho4, hb4⟩))
   case measure => simp [intOf]
  ·have g5 : wr.cell? ⟨b1, 5, none⟩ = some (.int .i64 m.job) := ((H2.out.1.below hb H2.out.1.lt).cell 5).trans rfl
   go_wp2_with (at_builtin; refine wp_app (enc := encI) (fun _ => rfl) (by simp [encI, Value.oneCell']) rfl (.tmp 52) (.tmp 55) 29 rfl 3 (.int .i64 0) 8 Tryd.underlying29 Tryd.infoInt rfl (by decide) w2.heap.size _ 2 _ _ rfl (ho.alloc _) _ 1 _ [m.job] rfl (Rd.new1 _ m.job _ _ _ rfl) 3 rfl _ rfl (by omega) (by omega) (by have := hb.size; simp; omega) ?_; intro A4 c4_ w4 ho4 hg4 _; have hb4 := (hb.alloc hb.size _).grown hg4 (by have := hb.size; simp; omega) (own_block_ge ho))
   go_roundw
   case rel => exact .inr (.inr (.inr (⟨by go_num, A4, c4_, rfl, by simpa using ho4, hb4⟩)))
   case measure => simp [intOf]
  ·go_wp2
   go_ret
   exact ⟨A, c, rfl, ho.rd (sz := 1) (enc := encI) (fun _ => rfl), H2.out.2.trans (hb.mono H2.out.2.size)⟩
set_option maxRecDepth 100000 in
set_option maxHeartbeats 6400000 in
theorem rnum_k5 (m : LMsg) (hk : m.kind = 5) (w : World) : Calls Tryd.prog 97 #[aggMsg m] w fun e w' => ∃ A c, e = .returned (.slice A 2 c) ∧ RdI w' A 2 [m.inc, m.job] ∧ Below w.heap.size w w' := by
 have h1 := Blk.new w 38 (boxMsg m)
 have hB : Below w.heap.size w (w.alloc (.cells (boxMsg m) 38)) := (Below.refl _ _).alloc (Nat.le_refl _) _
 have c0 : (w.alloc (.cells (boxMsg m) 38)).cell? ⟨w.heap.size, 0, none⟩ = some (.int .i64 5) := by rw [← hk]; exact (h1.cell 0).trans rfl
 have H0 := Lib.hid (And.intro h1 hB)
 clear h1 hB hk
 go_enter Tryd.func97, Tryd.ntmps97
 go_wp2_with fail
 generalize w.alloc (.cells (boxMsg m) 38) = w1 at H0 c0 ⊢
 obtain ⟨b1, hb1⟩ : ∃ b1, w.heap.size = b1 := ⟨_, rfl⟩
 have h1 : Blk w1 b1 38 (boxMsg m) := by rw [← hb1]; exact H0.out.1
 rw [hb1] at c0
 try simp only [hb1]
 go_wp2_with fail
 (with_reducible refine (rnames_k5 w1).mono ?_)
 rintro e w2 ⟨rfl, hB2⟩
 have H2 := Lib.hid (And.intro (h1.below hB2 h1.lt) (H0.out.2.trans (hB2.mono H0.out.2.size)))
 clear h1 hb1 H0 c0 hB2
 go_wp2
 go_loopw [3, 5] (fun o i wr => (i = .int .i64 0 ∧ ∃ A c, o = .slice A 0 c ∧ OwnL encI 3 1 wr w2.heap.size A 0 c [] ∧ Below w2.heap.size w2 wr) ∨ (i = .int .i64 1 ∧ ∃ A c, o = .slice A 1 c ∧ OwnL encI 3 1 wr w2.heap.size A 1 c [m.inc] ∧ Below w2.heap.size w2 wr) ∨ (i = .int .i64 2 ∧ ∃ A c, o = .slice A 2 c ∧ OwnL encI 3 1 wr w2.heap.size A 2 c [m.inc, m.job] ∧ Below w2.heap.size w2 wr)) (fun _ i _ => 2 - (intOf i).toNat)
 case atStart => exact .inl ⟨rfl, none, 0, rfl, OwnL.nil _ _, Below.refl _ _⟩
 case round =>
  rcases hrel with ⟨rfl, A, c, rfl, ho, hb⟩ | ⟨rfl, A, c, rfl, ho, hb⟩ | ⟨rfl, A, c, rfl, ho, hb⟩
  ·have g4 : wr.cell? ⟨b1, 4, none⟩ = some (.int .i64 m.inc) := ((H2.out.1.below hb H2.out.1.lt).cell 4).trans rfl
   go_wp2_with (at_builtin; refine wp_app (enc := encI) (fun _ => rfl) (by simp [encI, Value.oneCell']) rfl (.tmp 45) (.tmp 48) 29 rfl 3 (.int .i64 0) 8 Tryd.underlying29 Tryd.infoInt rfl (by decide) w2.heap.size _ 0 _ _ rfl (ho.alloc _) _ 1 _ [m.inc] rfl (Rd.new1 _ m.inc _ _ _ rfl) 1 rfl _ rfl (by omega) (by omega) (by have := hb.size; simp; omega) ?_; intro A4 c4_ w4 ho4 hg4 _; have hb4 := (hb.alloc hb.size _).grown hg4 (by have := hb.size; simp; omega) (own_block_ge ho))
   go_roundw
   case rel => exact .inr (.inl ⟨by go_num, A4, c4_, rfl, by simpa using ho4, hb4⟩)
   case measure => simp [intOf]
  ·have g5 : wr.cell? ⟨b1, 5, none⟩ = some (.int .i64 m.job) := ((H2.out.1.below hb H2.out.1.lt).cell 5).trans rfl
   go_wp2_with (at_builtin; refine wp_app (enc := encI) (fun _ => rfl) (by simp [encI, Value.oneCell']) rfl (.tmp 52) (.tmp 55) 29 rfl 3 (.int .i64 0) 8 Tryd.underlying29 Tryd.infoInt rfl (by decide) w2.heap.size _ 1 _ _ rfl (ho.alloc _) _ 1 _ [m.job] rfl (Rd.new1 _ m.job _ _ _ rfl) 2 rfl _ rfl (by omega) (by omega) (by have := hb.size; simp; omega) ?_; intro A4 c4_ w4 ho4 hg4 _; have hb4 := (hb.alloc hb.size _).grown hg4 (by have := hb.size; simp; omega) (own_block_ge ho))
   go_roundw
   case rel => exact .inr (.inr (⟨by go_num, A4, c4_, rfl, by simpa using ho4, hb4⟩))
   case measure => simp [intOf]
  ·go_wp2
   go_ret
   exact ⟨A, c, rfl, ho.rd (sz := 1) (enc := encI) (fun _ => rfl), H2.out.2.trans (hb.mono H2.out.2.size)⟩
set_option maxRecDepth 100000 in
set_option maxHeartbeats 6400000 in
theorem rnum_k6 (m : LMsg) (hk : m.kind = 6) (w : World) : Calls Tryd.prog 97 #[aggMsg m] w fun e w' => ∃ A c, e = .returned (.slice A 5 c) ∧ RdI w' A 5 [m.job, m.prio, m.res.a, m.res.b, m.res.c] ∧ Below w.heap.size w w' := by
 have h1 := Blk.new w 38 (boxMsg m)
 have hB : Below w.heap.size w (w.alloc (.cells (boxMsg m) 38)) := (Below.refl _ _).alloc (Nat.le_refl _) _
 have c0 : (w.alloc (.cells (boxMsg m) 38)).cell? ⟨w.heap.size, 0, none⟩ = some (.int .i64 6) := by rw [← hk]; exact (h1.cell 0).trans rfl
 have H0 := Lib.hid (And.intro h1 hB)
 clear h1 hB hk
 go_enter Tryd.func97, Tryd.ntmps97
 go_wp2_with fail
 generalize w.alloc (.cells (boxMsg m) 38) = w1 at H0 c0 ⊢
 obtain ⟨b1, hb1⟩ : ∃ b1, w.heap.size = b1 := ⟨_, rfl⟩
 have h1 : Blk w1 b1 38 (boxMsg m) := by rw [← hb1]; exact H0.out.1
 rw [hb1] at c0
 try simp only [hb1]
 go_wp2_with fail
 (with_reducible refine (rnames_k6 w1).mono ?_)
 rintro e w2 ⟨rfl, hB2⟩
 have H2 := Lib.hid (And.intro (h1.below hB2 h1.lt) (H0.out.2.trans (hB2.mono H0.out.2.size)))
 clear h1 hb1 H0 c0 hB2
 go_wp2
 go_loopw [3, 5] (fun o i wr => (i = .int .i64 0 ∧ ∃ A c, o = .slice A 0 c ∧ OwnL encI 3 1 wr w2.heap.size A 0 c [] ∧ Below w2.heap.size w2 wr) ∨ (i = .int .i64 1 ∧ ∃ A c, o = .slice A 1 c ∧ OwnL encI 3 1 wr w2.heap.size A 1 c [m.job] ∧ Below w2.heap.size w2 wr) ∨ (i = .int .i64 2 ∧ ∃ A c, o = .slice A 2 c ∧ OwnL encI 3 1 wr w2.heap.size A 2 c [m.job, m.prio] ∧ Below w2.heap.size w2 wr) ∨ (i = .int .i64 3 ∧ ∃ A c, o = .slice A 5 c ∧ OwnL encI 3 1 wr w2.heap.size A 5 c [m.job, m.prio, m.res.a, m.res.b, m.res.c] ∧ Below w2.heap.size w2 wr)) (fun _ i _ => 3 - (intOf i).toNat)
 case atStart => exact .inl ⟨rfl, none, 0, rfl, OwnL.nil _ _, Below.refl _ _⟩
 case round =>
  rcases hrel with ⟨rfl, A, c, rfl, ho, hb⟩ | ⟨rfl, A, c, rfl, ho, hb⟩ | ⟨rfl, A, c, rfl, ho, hb⟩ | ⟨rfl, A, c, rfl, ho, hb⟩
  ·have g5 : wr.cell? ⟨b1, 5, none⟩ = some (.int .i64 m.job) := ((H2.out.1.below hb H2.out.1.lt).cell 5).trans rfl
   go_wp2_with (at_builtin; refine wp_app (enc := encI) (fun _ => rfl) (by simp [encI, Value.oneCell']) rfl (.tmp 52) (.tmp 55) 29 rfl 3 (.int .i64 0) 8 Tryd.underlying29 Tryd.infoInt rfl (by decide) w2.heap.size _ 0 _ _ rfl (ho.alloc _) _ 1 _ [m.job] rfl (Rd.new1 _ m.job _ _ _ rfl) 1 rfl _ rfl (by omega) (by omega) (by have := hb.size; simp; omega) ?_; intro A4 c4_ w4 ho4 hg4 _; have hb4 := (hb.alloc hb.size _).grown hg4 (by have := hb.size; simp; omega) (own_block_ge ho))
   go_roundw
   case rel => exact .inr (.inl ⟨by go_num, A4, c4_, rfl, by simpa using ho4, hb4⟩)
   case measure => simp [intOf]
  ·have g7 : wr.cell? ⟨b1, 7, none⟩ = some (.int .i64 m.prio) := ((H2.out.1.below hb H2.out.1.lt).cell 7).trans rfl
   go_wp2_with (at_builtin; refine wp_app (enc := encI) (fun _ => rfl) (by simp [encI, Value.oneCell']) rfl (.tmp 66) (.tmp 69) 29 rfl 3 (.int .i64 0) 8 Tryd.underlying29 Tryd.infoInt rfl (by decide) w2.heap.size _ 1 _ _ rfl (ho.alloc _) _ 1 _ [m.prio] rfl (Rd.new1 _ m.prio _ _ _ rfl) 2 rfl _ rfl (by omega) (by omega) (by have := hb.size; simp; omega) ?_; intro A4 c4_ w4 ho4 hg4 _; have hb4 := (hb.alloc hb.size _).grown hg4 (by have := hb.size; simp; omega) (own_block_ge ho))
   go_roundw
   case rel => exact .inr (.inr (.inl ⟨by go_num, A4, c4_, rfl, by simpa using ho4, hb4⟩))
   case measure => simp [intOf]
  ·have g9 : wr.cell? ⟨b1, 9, none⟩ = some (.int .i64 m.res.a) := ((H2.out.1.below hb H2.out.1.lt).cell 9).trans rfl
   go_wp2_with (first
    | (at_builtin; refine wp_app (enc := encI) (fun _ => rfl) (by simp [encI, Value.oneCell']) rfl (.tmp 18) (.tmp 22) 29 rfl 3 (.int .i64 0) 8 Tryd.underlying29 Tryd.infoInt rfl (by decide) w2.heap.size _ 2 _ _ rfl (ho.alloc _) _ 1 _ [m.res.a] rfl (Rd.new1 _ m.res.a _ _ _ rfl) 3 rfl _ rfl (by omega) (by omega) (by have := hb.size; simp; omega) ?_; intro A4 c4_ w4 ho4 hg4 _; have hb4 := (hb.alloc hb.size _).grown hg4 (by have := hb.size; simp; omega) (own_block_ge ho); have g10 : w4.cell? ⟨b1, 10, none⟩ = some (.int .i64 m.res.b) := ((H2.out.1.below hb4 H2.out.1.lt).cell 10).trans rfl)
    | (at_builtin; refine wp_app (enc := encI) (fun _ => rfl) (by simp [encI, Value.oneCell']) rfl (.tmp 24) (.tmp 28) 29 rfl 3 (.int .i64 0) 8 Tryd.underlying29 Tryd.infoInt rfl (by decide) w2.heap.size _ 3 _ _ rfl (ho4.alloc _) _ 1 _ [m.res.b] rfl (Rd.new1 _ m.res.b _ _ _ rfl) 4 rfl _ rfl (by omega) (by omega) (by have := hb4.size; simp; omega) ?_; intro A5 c5_ w5 ho5 hg5 _; have hb5 := (hb4.alloc hb4.size _).grown hg5 (by have := hb4.size; simp; omega) (own_block_ge ho4); have g11 : w5.cell? ⟨b1, 11, none⟩ = some (.int .i64 m.res.c) := ((H2.out.1.below hb5 H2.out.1.lt).cell 11).trans rfl)
    | (at_builtin; refine wp_app (enc := encI) (fun _ => rfl) (by simp [encI, Value.oneCell']) rfl (.tmp 30) (.tmp 34) 29 rfl 3 (.int .i64 0) 8 Tryd.underlying29 Tryd.infoInt rfl (by decide) w2.heap.size _ 4 _ _ rfl (ho5.alloc _) _ 1 _ [m.res.c] rfl (Rd.new1 _ m.res.c _ _ _ rfl) 5 rfl _ rfl (by omega) (by omega) (by have := hb5.size; simp; omega) ?_; intro A6 c6_ w6 ho6 hg6 _; have hb6 := (hb5.alloc hb5.size _).grown hg6 (by have := hb5.size; simp; omega) (own_block_ge ho5)))
   go_roundw
   case rel => exact .inr (.inr (.inr (⟨by go_num, A6, c6_, rfl, by simpa using ho6, hb6⟩)))
   case measure => simp [intOf]
  ·go_wp2
   go_ret
   exact ⟨A, c, rfl, ho.rd (sz := 1) (enc := encI) (fun _ => rfl), H2.out.2.trans (hb.mono H2.out.2.size)⟩
set_option maxRecDepth 100000 in
set_option maxHeartbeats 6400000 in
theorem rnum_k7 (m : LMsg) (hk : m.kind = 7) (w : World) : Calls Tryd.prog 97 #[aggMsg m] w fun e w' => ∃ A c, e = .returned (.slice A 1 c) ∧ RdI w' A 1 [m.job] ∧ Below w.heap.size w w' := by
 have h1 := Blk.new w 38 (boxMsg m)
 have hB : Below w.heap.size w (w.alloc (.cells (boxMsg m) 38)) := (Below.refl _ _).alloc (Nat.le_refl _) _
 have c0 : (w.alloc (.cells (boxMsg m) 38)).cell? ⟨w.heap.size, 0, none⟩ = some (.int .i64 7) := by rw [← hk]; exact (h1.cell 0).trans rfl
 have H0 := Lib.hid (And.intro h1 hB)
 clear h1 hB hk
 go_enter Tryd.func97, Tryd.ntmps97
 go_wp2_with fail
 generalize w.alloc (.cells (boxMsg m) 38) = w1 at H0 c0 ⊢
 obtain ⟨b1, hb1⟩ : ∃ b1, w.heap.size = b1 := ⟨_, rfl⟩
 have h1 : Blk w1 b1 38 (boxMsg m) := by rw [← hb1]; exact H0.out.1
 rw [hb1] at c0
 try simp only [hb1]
 go_wp2_with fail
 (with_reducible refine (rnames_k7 w1).mono ?_)
 rintro e w2 ⟨rfl, hB2⟩
 have H2 := Lib.hid (And.intro (h1.below hB2 h1.lt) (H0.out.2.trans (hB2.mono H0.out.2.size)))
 clear h1 hb1 H0 c0 hB2
 go_wp2
 go_loopw [3, 5] (fun o i wr => (i = .int .i64 0 ∧ ∃ A c, o = .slice A 0 c ∧ OwnL encI 3 1 wr w2.heap.size A 0 c [] ∧ Below w2.heap.size w2 wr) ∨ (i = .int .i64 1 ∧ ∃ A c, o = .slice A 1 c ∧ OwnL encI 3 1 wr w2.heap.size A 1 c [m.job] ∧ Below w2.heap.size w2 wr)) (fun _ i _ => 1 - (intOf i).toNat)
 case atStart => exact .inl ⟨rfl, none, 0, rfl, OwnL.nil _ _, Below.refl _ _⟩
 case round =>
  rcases hrel with ⟨rfl, A, c, rfl, ho, hb⟩ | ⟨rfl, A, c, rfl, ho, hb⟩
  ·have g5 : wr.cell? ⟨b1, 5, none⟩ = some (.int .i64 m.job) := ((H2.out.1.below hb H2.out.1.lt).cell 5).trans rfl
   go_wp2_with (at_builtin; refine wp_app (enc := encI) (fun _ => rfl) (by simp [encI, Value.oneCell']) rfl (.tmp 52) (.tmp 55) 29 rfl 3 (.int .i64 0) 8 Tryd.underlying29 Tryd.infoInt rfl (by decide) w2.heap.size _ 0 _ _ rfl (ho.alloc _) _ 1 _ [m.job] rfl (Rd.new1 _ m.job _ _ _ rfl) 1 rfl _ rfl (by omega) (by omega) (by have := hb.size; simp; omega) ?_; intro A4 c4_ w4 ho4 hg4 _; have hb4 := (hb.alloc hb.size _).grown hg4 (by have := hb.size; simp; omega) (own_block_ge ho))
   go_roundw
   case rel => exact .inr (⟨by go_num, A4, c4_, rfl, by simpa using ho4, hb4⟩)
   case measure => simp [intOf]
  ·go_wp2
   go_ret
   exact ⟨A, c, rfl, ho.rd (sz := 1) (enc := encI) (fun _ => rfl), H2.out.2.trans (hb.mono H2.out.2.size)⟩
set_option maxRecDepth 100000 in
set_option maxHeartbeats 6400000 in
theorem rnum_k8 (m : LMsg) (hk : m.kind = 8) (w : World) : Calls Tryd.prog 97 #[aggMsg m] w fun e w' => ∃ A c, e = .returned (.slice A 2 c) ∧ RdI w' A 2 [m.job, m.code] ∧ Below w.heap.size w w' := by
 have h1 := Blk.new w 38 (boxMsg m)
 have hB : Below w.heap.size w (w.alloc (.cells (boxMsg m) 38)) := (Below.refl _ _).alloc (Nat.le_refl _) _
 have c0 : (w.alloc (.cells (boxMsg m) 38)).cell? ⟨w.heap.size, 0, none⟩ = some (.int .i64 8) := by rw [← hk]; exact (h1.cell 0).trans rfl
 have H0 := Lib.hid (And.intro h1 hB)
 clear h1 hB hk
 go_enter Tryd.func97, Tryd.ntmps97
 go_wp2_with fail
 generalize w.alloc (.cells (boxMsg m) 38) = w1 at H0 c0 ⊢
 obtain ⟨b1, hb1⟩ : ∃ b1, w.heap.size = b1 := ⟨_, rfl⟩
 have h1 : Blk w1 b1 38 (boxMsg m) := by rw [← hb1]; exact H0.out.1
 rw [hb1] at c0
 try simp only [hb1]
 go_wp2_with fail
 (with_reducible refine (rnames_k8 w1).mono ?_)
 rintro e w2 ⟨rfl, hB2⟩
 have H2 := Lib.hid (And.intro (h1.below hB2 h1.lt) (H0.out.2.trans (hB2.mono H0.out.2.size)))
 clear h1 hb1 H0 c0 hB2
 go_wp2
 go_loopw [3, 5] (fun o i wr => (i = .int .i64 0 ∧ ∃ A c, o = .slice A 0 c ∧ OwnL encI 3 1 wr w2.heap.size A 0 c [] ∧ Below w2.heap.size w2 wr) ∨ (i = .int .i64 1 ∧ ∃ A c, o = .slice A 1 c ∧ OwnL encI 3 1 wr w2.heap.size A 1 c [m.job] ∧ Below w2.heap.size w2 wr) ∨ (i = .int .i64 2 ∧ ∃ A c, o = .slice A 2 c ∧ OwnL encI 3 1 wr w2.heap.size A 2 c [m.job, m.code] ∧ Below w2.heap.size w2 wr)) (fun _ i _ => 2 - (intOf i).toNat)
 case atStart => exact .inl ⟨rfl, none, 0, rfl, OwnL.nil _ _, Below.refl _ _⟩
 case round =>
  rcases hrel with ⟨rfl, A, c, rfl, ho, hb⟩ | ⟨rfl, A, c, rfl, ho, hb⟩ | ⟨rfl, A, c, rfl, ho, hb⟩
  ·have g5 : wr.cell? ⟨b1, 5, none⟩ = some (.int .i64 m.job) := ((H2.out.1.below hb H2.out.1.lt).cell 5).trans rfl
   go_wp2_with (at_builtin; refine wp_app (enc := encI) (fun _ => rfl) (by simp [encI, Value.oneCell']) rfl (.tmp 52) (.tmp 55) 29 rfl 3 (.int .i64 0) 8 Tryd.underlying29 Tryd.infoInt rfl (by decide) w2.heap.size _ 0 _ _ rfl (ho.alloc _) _ 1 _ [m.job] rfl (Rd.new1 _ m.job _ _ _ rfl) 1 rfl _ rfl (by omega) (by omega) (by have := hb.size; simp; omega) ?_; intro A4 c4_ w4 ho4 hg4 _; have hb4 := (hb.alloc hb.size _).grown hg4 (by have := hb.size; simp; omega) (own_block_ge ho))
   go_roundw
   case rel => exact .inr (.inl ⟨by go_num, A4, c4_, rfl, by simpa using ho4, hb4⟩)
   case measure => simp [intOf]
  ·have g8 : wr.cell? ⟨b1, 8, none⟩ = some (.int .i64 m.code) := ((H2.out.1.below hb H2.out.1.lt).cell 8).trans rfl
   go_wp2_with (at_builtin; refine wp_app (enc := encI) (fun _ => rfl) (by simp [encI, Value.oneCell']) rfl (.tmp 73) (.tmp 76) 29 rfl 3 (.int .i64 0) 8 Tryd.underlying29 Tryd.infoInt rfl (by decide) w2.heap.size _ 1 _ _ rfl (ho.alloc _) _ 1 _ [m.code] rfl (Rd.new1 _ m.code _ _ _ rfl) 2 rfl _ rfl (by omega) (by omega) (by have := hb.size; simp; omega) ?_; intro A4 c4_ w4 ho4 hg4 _; have hb4 := (hb.alloc hb.size _).grown hg4 (by have := hb.size; simp; omega) (own_block_ge ho))
   go_roundw
   case rel => exact .inr (.inr (⟨by go_num, A4, c4_, rfl, by simpa using ho4, hb4⟩))
   case measure => simp [intOf]
  ·go_wp2
   go_ret
   exact ⟨A, c, rfl, ho.rd (sz := 1) (enc := encI) (fun _ => rfl), H2.out.2.trans (hb.mono H2.out.2.size)⟩
end Go.Proofs.YthhnocnkicoimaaDoor
namespace Go.Proofs.YthhnocnkicoimaaDoor
open Go.RowKit

/-- A slice of numbers that came in, cell by cell. -/
theorem RdI.cells_ {w : World} {ab ao n : Nat} {l : List Int} (h : RdI w (some ⟨ab, ao, none⟩) n l) {k : Nat} {x : Int} (hx : l[k]? = some x) : ab < w.heap.size ∧ w.cell? ⟨ab, ao + k, none⟩ = some (.int .i64 x) := by
 have hk : k < n := by have := (List.getElem?_eq_some_iff.1 hx).1; have := h.len; omega
 obtain ⟨b, o, e, hl, hc⟩ := h.cells (by omega)
 injection e with e
 injection e with e1 e2
 subst e1 e2
 refine ⟨hl, ?_⟩
 have := hc k x hx 0 _ rfl
 simpa using this
structure MI (w0 wr : World) (b8 b9 : Nat) (m : LMsg) (L : List Nat) : Prop where
 m8 : Blk wr b8 38 #[.int .i64 0, .int .i64 0, .int .i64 0, .int .i64 0, .int .i64 0, .int .i64 0, .int .i64 0, .int .i64 0, .int .i64 0, .int .i64 0, .int .i64 0, .int .i64 0]
 m9 : Blk wr b9 38 (boxMsg (keepM m L))
 ne : b8 ≠ b9
 g8 : w0.heap.size ≤ b8
 g9 : w0.heap.size ≤ b9
 bel : Below w0.heap.size w0 wr
theorem MI.step {w0 wr : World} {b8 b9 : Nat} {m : LMsg} {L : List Nat} (h : MI w0 wr b8 b9 m L) (o : Nat) (v : Int) (h3 : 3 ≤ o) (h12 : o < 12) (hv : (intsM m)[o]? = some v) (L' : List Nat) (hL : L' = L ++ [o]) : MI w0 (wr.setCell ⟨b9, o, none⟩ (.int .i64 v)) b8 b9 m L' := by
 subst hL
 refine ⟨h.m8.far (p := ⟨b9, o, none⟩) h.ne _, ?_, h.ne, h.g8, h.g9, h.bel.setCell (p := ⟨b9, o, none⟩) h.g9 _⟩
 rw [← keepM_set m L o v h3 h12 hv]
 exact h.m9.set_ o _
set_option maxRecDepth 100000 in
set_option maxHeartbeats 6400000 in
theorem made_k1 (m : LMsg) (hk : m.kind = 1) (A : Option Addr) (c : Nat) (w : World) (h : RdI w A 5 [m.inc, m.tick, m.res.a, m.res.b, m.res.c]) : Calls Tryd.prog 96 #[.int .i64 1, .int .i64 m.frm, .int .i64 m.to_, .slice A 5 c] w fun e w' => e = .returned (aggMsg (keepM m [4, 6, 9, 10, 11])) ∧ Below w.heap.size w w' := by
 obtain ⟨ab, ao, rfl⟩ : ∃ ab ao, A = some ⟨ab, ao, none⟩ := by
  obtain ⟨b, o, _, e, _⟩ := RdI.at_ h (k := 0) (by omega)
  exact ⟨b, o, e⟩
 obtain ⟨hla, q0⟩ := h.cells_ (k := 0) (x := m.inc) rfl
 obtain ⟨hla1, q1⟩ := h.cells_ (k := 1) (x := m.tick) rfl
 obtain ⟨hla2, q2⟩ := h.cells_ (k := 2) (x := m.res.a) rfl
 obtain ⟨hla3, q3⟩ := h.cells_ (k := 3) (x := m.res.b) rfl
 obtain ⟨hla4, q4⟩ := h.cells_ (k := 4) (x := m.res.c) rfl
 simp only [Nat.add_zero] at q0
 have HQ := Lib.hid (And.intro hla (And.intro q0 (And.intro q1 (And.intro q2 (And.intro q3 (And.intro q4 (trivial)))))))
 clear h hla hla1 hla2 hla3 hla4 q0 q1 q2 q3 q4
 have hs1 : (w.alloc (.cells #[.int .i64 0, .int .i64 0, .int .i64 0, .int .i64 0, .int .i64 0, .int .i64 0, .int .i64 0, .int .i64 0, .int .i64 0, .int .i64 0, .int .i64 0, .int .i64 0] 38)).heap.size = w.heap.size + 1 := by simp
 have h8 := (Blk.new w 38 #[.int .i64 0, .int .i64 0, .int .i64 0, .int .i64 0, .int .i64 0, .int .i64 0, .int .i64 0, .int .i64 0, .int .i64 0, .int .i64 0, .int .i64 0, .int .i64 0]).alloc (.cells #[.int .i64 1, .int .i64 m.frm, .int .i64 m.to_, .int .i64 0, .int .i64 0, .int .i64 0, .int .i64 0, .int .i64 0, .int .i64 0, .int .i64 0, .int .i64 0, .int .i64 0] 38)
 have h9 := Blk.new (w.alloc (.cells #[.int .i64 0, .int .i64 0, .int .i64 0, .int .i64 0, .int .i64 0, .int .i64 0, .int .i64 0, .int .i64 0, .int .i64 0, .int .i64 0, .int .i64 0, .int .i64 0] 38)) 38 #[.int .i64 1, .int .i64 m.frm, .int .i64 m.to_, .int .i64 0, .int .i64 0, .int .i64 0, .int .i64 0, .int .i64 0, .int .i64 0, .int .i64 0, .int .i64 0, .int .i64 0]
 rw [hs1] at h9
 have hB : Below w.heap.size w ((w.alloc (.cells #[.int .i64 0, .int .i64 0, .int .i64 0, .int .i64 0, .int .i64 0, .int .i64 0, .int .i64 0, .int .i64 0, .int .i64 0, .int .i64 0, .int .i64 0, .int .i64 0] 38)).alloc (.cells #[.int .i64 1, .int .i64 m.frm, .int .i64 m.to_, .int .i64 0, .int .i64 0, .int .i64 0, .int .i64 0, .int .i64 0, .int .i64 0, .int .i64 0, .int .i64 0, .int .i64 0] 38)) := ((Below.refl _ _).alloc (Nat.le_refl _) _).alloc (by simp) _
 have hM : MI w ((w.alloc (.cells #[.int .i64 0, .int .i64 0, .int .i64 0, .int .i64 0, .int .i64 0, .int .i64 0, .int .i64 0, .int .i64 0, .int .i64 0, .int .i64 0, .int .i64 0, .int .i64 0] 38)).alloc (.cells #[.int .i64 1, .int .i64 m.frm, .int .i64 m.to_, .int .i64 0, .int .i64 0, .int .i64 0, .int .i64 0, .int .i64 0, .int .i64 0, .int .i64 0, .int .i64 0, .int .i64 0] 38)) w.heap.size (w.heap.size + 1) m [] := ⟨h8, by rw [keepM_nil, hk]; exact h9, by omega, by omega, by omega, hB⟩
 have H0 := Lib.hid hM
 have HK := Lib.hid hk
 clear hs1 h8 h9 hB hM hk
 go_enter Tryd.func96, Tryd.ntmps96
 go_wp2_with fail
 generalize (w.alloc (.cells #[.int .i64 0, .int .i64 0, .int .i64 0, .int .i64 0, .int .i64 0, .int .i64 0, .int .i64 0, .int .i64 0, .int .i64 0, .int .i64 0, .int .i64 0, .int .i64 0] 38)).alloc (.cells #[.int .i64 1, .int .i64 m.frm, .int .i64 m.to_, .int .i64 0, .int .i64 0, .int .i64 0, .int .i64 0, .int .i64 0, .int .i64 0, .int .i64 0, .int .i64 0, .int .i64 0] 38) = w1 at H0 ⊢
 obtain ⟨b8, hb8⟩ : ∃ b8, w.heap.size = b8 := ⟨_, rfl⟩
 obtain ⟨b9, hb9⟩ : ∃ b9, w.heap.size + 1 = b9 := ⟨_, rfl⟩
 have h1 : MI w w1 b8 b9 m [] := by rw [← hb8, ← hb9]; exact H0.out
 try simp only [hb9]
 try simp only [hb8]
 have hb98 : b8 + 1 = b9 := by omega
 try simp only [hb98]
 (with_reducible refine (rnames_k1 w1).mono ?_)
 rintro e w2 ⟨rfl, hB2⟩
 have hlt8 := h1.m8.lt
 have hlt9 := h1.m9.lt
 have H2 := Lib.hid (show MI w w2 b8 b9 m [] from ⟨h1.m8.below hB2 h1.m8.lt, h1.m9.below hB2 h1.m9.lt, h1.ne, h1.g8, h1.g9, h1.bel.trans (hB2.mono h1.bel.size)⟩)
 clear h1 hb8 hb9 hb98 H0 hB2 hlt8 hlt9
 go_wp2
 go_loopw [11, 12] (fun kk i wr => (i = .int .i64 0 ∧ kk = .int .i64 0 ∧ MI w wr b8 b9 m []) ∨ (i = .int .i64 1 ∧ kk = .int .i64 1 ∧ MI w wr b8 b9 m [4]) ∨ (i = .int .i64 2 ∧ kk = .int .i64 2 ∧ MI w wr b8 b9 m [4, 6]) ∨ (i = .int .i64 3 ∧ kk = .int .i64 5 ∧ MI w wr b8 b9 m [4, 6, 9, 10, 11])) (fun _ i _ => 3 - (intOf i).toNat)
 case atStart => exact .inl ⟨rfl, rfl, H2.out⟩
 case round =>
  rcases hrel with ⟨rfl, rfl, hM⟩ | ⟨rfl, rfl, hM⟩ | ⟨rfl, rfl, hM⟩ | ⟨rfl, rfl, hM⟩
  ·have fz := hM.m9.frozen
   have fl := hM.m9.lt
   have g0 : wr.cell? ⟨ab, ao, none⟩ = some (.int .i64 m.inc) := (hM.bel.cell (p := ⟨ab, ao, none⟩) HQ.out.1).trans HQ.out.2.1
   obtain ⟨u4, _, hu4⟩ := ints_at (keepM m []) 4 (by omega)
   have f4 : wr.cell? ⟨b9, 4, none⟩ = some (.int .i64 u4) := (hM.m9.cell 4).trans hu4
   clear hu4
   have HS := Lib.hid (hM.step 4 m.inc (by omega) (by omega) rfl [4] rfl)
   clear hM
   go_wp2_with fail
   go_roundw
   case rel => exact .inr (.inl ⟨by go_num, by go_num, HS.out⟩)
   case measure => simp [intOf]
  ·have fz := hM.m9.frozen
   have fl := hM.m9.lt
   have g1 : wr.cell? ⟨ab, ao + 1, none⟩ = some (.int .i64 m.tick) := (hM.bel.cell (p := ⟨ab, ao + 1, none⟩) HQ.out.1).trans HQ.out.2.2.1
   obtain ⟨u6, _, hu6⟩ := ints_at (keepM m [4]) 6 (by omega)
   have f6 : wr.cell? ⟨b9, 6, none⟩ = some (.int .i64 u6) := (hM.m9.cell 6).trans hu6
   clear hu6
   have HS := Lib.hid (hM.step 6 m.tick (by omega) (by omega) rfl [4, 6] rfl)
   clear hM
   go_wp2_with fail
   go_roundw
   case rel => exact .inr (.inr (.inl ⟨by go_num, by go_num, HS.out⟩))
   case measure => simp [intOf]
  ·have fz := hM.m9.frozen
   have fl := hM.m9.lt
   have g2 : wr.cell? ⟨ab, ao + 2, none⟩ = some (.int .i64 m.res.a) := (hM.bel.cell (p := ⟨ab, ao + 2, none⟩) HQ.out.1).trans HQ.out.2.2.2.1
   obtain ⟨u9, _, hu9⟩ := ints_at (keepM m [4, 6]) 9 (by omega)
   have f9 : wr.cell? ⟨b9, 9, none⟩ = some (.int .i64 u9) := (hM.m9.cell 9).trans hu9
   clear hu9
   have g3 : wr.cell? ⟨ab, ao + 3, none⟩ = some (.int .i64 m.res.b) := (hM.bel.cell (p := ⟨ab, ao + 3, none⟩) HQ.out.1).trans HQ.out.2.2.2.2.1
   obtain ⟨u10, _, hu10⟩ := ints_at (keepM m [4, 6]) 10 (by omega)
   have f10 : wr.cell? ⟨b9, 10, none⟩ = some (.int .i64 u10) := (hM.m9.cell 10).trans hu10
   clear hu10
   have g4 : wr.cell? ⟨ab, ao + 4, none⟩ = some (.int .i64 m.res.c) := (hM.bel.cell (p := ⟨ab, ao + 4, none⟩) HQ.out.1).trans HQ.out.2.2.2.2.2.1
   obtain ⟨u11, _, hu11⟩ := ints_at (keepM m [4, 6]) 11 (by omega)
   have f11 : wr.cell? ⟨b9, 11, none⟩ = some (.int .i64 u11) := (hM.m9.cell 11).trans hu11
   clear hu11
   have HS := Lib.hid (((hM.step 9 m.res.a (by omega) (by omega) rfl [4, 6, 9] rfl).step 10 m.res.b (by omega) (by omega) rfl [4, 6, 9, 10] rfl).step 11 m.res.c (by omega) (by omega) rfl [4, 6, 9, 10, 11] rfl)
   clear hM
   go_wp2_with fail
   go_region
   all_goals
    go_wp2_with fail
    go_roundw
    case rel => exact .inr (.inr (.inr (⟨by go_num, by go_num, ⟨HS.out.m8, HS.out.m9, HS.out.ne, HS.out.g8, HS.out.g9, ⟨HS.out.bel.os, HS.out.bel.tape, HS.out.bel.output, HS.out.bel.size, HS.out.bel.block⟩⟩⟩)))
    case measure => simp [intOf]
  ·have h9 := hM.m9
   have h8 := hM.m8
   have z2 := hM.m8.frozen
   have l8 := hM.m8.lt
   have l9 := hM.m9.lt
   have y0 := h8.cell 0
   have c0 := h9.cell 0
   have y1 := h8.cell 1
   have c1 := h9.cell 1
   have y2 := h8.cell 2
   have c2 := h9.cell 2
   have y3 := h8.cell 3
   have c3 := h9.cell 3
   have y4 := h8.cell 4
   have c4 := h9.cell 4
   have y5 := h8.cell 5
   have c5 := h9.cell 5
   have y6 := h8.cell 6
   have c6 := h9.cell 6
   have y7 := h8.cell 7
   have c7 := h9.cell 7
   have y8 := h8.cell 8
   have c8 := h9.cell 8
   have y9 := h8.cell 9
   have c9 := h9.cell 9
   have y10 := h8.cell 10
   have c10 := h9.cell 10
   have y11 := h8.cell 11
   have c11 := h9.cell 11
   simp only [List.getElem?_toArray, List.getElem?_cons_zero, List.getElem?_cons_succ] at y0 c0 y1 c1 y2 c2 y3 c3 y4 c4 y5 c5 y6 c6 y7 c7 y8 c8 y9 c9 y10 c10 y11 c11
   have HI2 := Lib.hid hM
   clear hM h8 h9
   go_wp2_with fail
   obtain ⟨hbz, hbe⟩ := lay12 HI2.out.m8 HI2.out.g8 HI2.out.bel (.int .i64 (keepM m [4, 6, 9, 10, 11]).kind) (.int .i64 (keepM m [4, 6, 9, 10, 11]).frm) (.int .i64 (keepM m [4, 6, 9, 10, 11]).to_) (.int .i64 (keepM m [4, 6, 9, 10, 11]).epoch) (.int .i64 (keepM m [4, 6, 9, 10, 11]).inc) (.int .i64 (keepM m [4, 6, 9, 10, 11]).job) (.int .i64 (keepM m [4, 6, 9, 10, 11]).tick) (.int .i64 (keepM m [4, 6, 9, 10, 11]).prio) (.int .i64 (keepM m [4, 6, 9, 10, 11]).code) (.int .i64 (keepM m [4, 6, 9, 10, 11]).res.a) (.int .i64 (keepM m [4, 6, 9, 10, 11]).res.b) (.int .i64 (keepM m [4, 6, 9, 10, 11]).res.c)
   have HZ := Lib.hid hbe
   clear hbe
   generalize ((((((((((((wr.setCell ⟨b8, 0, none⟩ (.int .i64 (keepM m [4, 6, 9, 10, 11]).kind)).setCell ⟨b8, 1, none⟩ (.int .i64 (keepM m [4, 6, 9, 10, 11]).frm)).setCell ⟨b8, 2, none⟩ (.int .i64 (keepM m [4, 6, 9, 10, 11]).to_)).setCell ⟨b8, 3, none⟩ (.int .i64 (keepM m [4, 6, 9, 10, 11]).epoch)).setCell ⟨b8, 4, none⟩ (.int .i64 (keepM m [4, 6, 9, 10, 11]).inc)).setCell ⟨b8, 5, none⟩ (.int .i64 (keepM m [4, 6, 9, 10, 11]).job)).setCell ⟨b8, 6, none⟩ (.int .i64 (keepM m [4, 6, 9, 10, 11]).tick)).setCell ⟨b8, 7, none⟩ (.int .i64 (keepM m [4, 6, 9, 10, 11]).prio)).setCell ⟨b8, 8, none⟩ (.int .i64 (keepM m [4, 6, 9, 10, 11]).code)).setCell ⟨b8, 9, none⟩ (.int .i64 (keepM m [4, 6, 9, 10, 11]).res.a)).setCell ⟨b8, 10, none⟩ (.int .i64 (keepM m [4, 6, 9, 10, 11]).res.b)).setCell ⟨b8, 11, none⟩ (.int .i64 (keepM m [4, 6, 9, 10, 11]).res.c)) = wz at hbz HZ ⊢
   have d0 := hbz.cell 0
   have d1 := hbz.cell 1
   have d2 := hbz.cell 2
   have d3 := hbz.cell 3
   have d4 := hbz.cell 4
   have d5 := hbz.cell 5
   have d6 := hbz.cell 6
   have d7 := hbz.cell 7
   have d8 := hbz.cell 8
   have d9 := hbz.cell 9
   have d10 := hbz.cell 10
   have d11 := hbz.cell 11
   simp only [List.getElem?_toArray, List.getElem?_cons_zero, List.getElem?_cons_succ] at d0 d1 d2 d3 d4 d5 d6 d7 d8 d9 d10 d11
   refine bodyPost_ret (v := aggMsg (keepM m [4, 6, 9, 10, 11])) (by simp [results, Tryd.results96, go_sem, d0, d1, d2, d3, d4, d5, d6, d7, d8, d9, d10, d11]) rfl ⟨rfl, HZ.out⟩
set_option maxRecDepth 100000 in
set_option maxHeartbeats 6400000 in
theorem made_k2 (m : LMsg) (hk : m.kind = 2) (A : Option Addr) (c : Nat) (w : World) (h : RdI w A 3 [m.epoch, m.inc, m.tick]) : Calls Tryd.prog 96 #[.int .i64 2, .int .i64 m.frm, .int .i64 m.to_, .slice A 3 c] w fun e w' => e = .returned (aggMsg (keepM m [3, 4, 6])) ∧ Below w.heap.size w w' := by
 obtain ⟨ab, ao, rfl⟩ : ∃ ab ao, A = some ⟨ab, ao, none⟩ := by
  obtain ⟨b, o, _, e, _⟩ := RdI.at_ h (k := 0) (by omega)
  exact ⟨b, o, e⟩
 obtain ⟨hla, q0⟩ := h.cells_ (k := 0) (x := m.epoch) rfl
 obtain ⟨hla1, q1⟩ := h.cells_ (k := 1) (x := m.inc) rfl
 obtain ⟨hla2, q2⟩ := h.cells_ (k := 2) (x := m.tick) rfl
 simp only [Nat.add_zero] at q0
 have HQ := Lib.hid (And.intro hla (And.intro q0 (And.intro q1 (And.intro q2 (trivial)))))
 clear h hla hla1 hla2 q0 q1 q2
 have hs1 : (w.alloc (.cells #[.int .i64 0, .int .i64 0, .int .i64 0, .int .i64 0, .int .i64 0, .int .i64 0, .int .i64 0, .int .i64 0, .int .i64 0, .int .i64 0, .int .i64 0, .int .i64 0] 38)).heap.size = w.heap.size + 1 := by simp
 have h8 := (Blk.new w 38 #[.int .i64 0, .int .i64 0, .int .i64 0, .int .i64 0, .int .i64 0, .int .i64 0, .int .i64 0, .int .i64 0, .int .i64 0, .int .i64 0, .int .i64 0, .int .i64 0]).alloc (.cells #[.int .i64 2, .int .i64 m.frm, .int .i64 m.to_, .int .i64 0, .int .i64 0, .int .i64 0, .int .i64 0, .int .i64 0, .int .i64 0, .int .i64 0, .int .i64 0, .int .i64 0] 38)
 have h9 := Blk.new (w.alloc (.cells #[.int .i64 0, .int .i64 0, .int .i64 0, .int .i64 0, .int .i64 0, .int .i64 0, .int .i64 0, .int .i64 0, .int .i64 0, .int .i64 0, .int .i64 0, .int .i64 0] 38)) 38 #[.int .i64 2, .int .i64 m.frm, .int .i64 m.to_, .int .i64 0, .int .i64 0, .int .i64 0, .int .i64 0, .int .i64 0, .int .i64 0, .int .i64 0, .int .i64 0, .int .i64 0]
 rw [hs1] at h9
 have hB : Below w.heap.size w ((w.alloc (.cells #[.int .i64 0, .int .i64 0, .int .i64 0, .int .i64 0, .int .i64 0, .int .i64 0, .int .i64 0, .int .i64 0, .int .i64 0, .int .i64 0, .int .i64 0, .int .i64 0] 38)).alloc (.cells #[.int .i64 2, .int .i64 m.frm, .int .i64 m.to_, .int .i64 0, .int .i64 0, .int .i64 0, .int .i64 0, .int .i64 0, .int .i64 0, .int .i64 0, .int .i64 0, .int .i64 0] 38)) := ((Below.refl _ _).alloc (Nat.le_refl _) _).alloc (by simp) _
 have hM : MI w ((w.alloc (.cells #[.int .i64 0, .int .i64 0, .int .i64 0, .int .i64 0, .int .i64 0, .int .i64 0, .int .i64 0, .int .i64 0, .int .i64 0, .int .i64 0, .int .i64 0, .int .i64 0] 38)).alloc (.cells #[.int .i64 2, .int .i64 m.frm, .int .i64 m.to_, .int .i64 0, .int .i64 0, .int .i64 0, .int .i64 0, .int .i64 0, .int .i64 0, .int .i64 0, .int .i64 0, .int .i64 0] 38)) w.heap.size (w.heap.size + 1) m [] := ⟨h8, by rw [keepM_nil, hk]; exact h9, by omega, by omega, by omega, hB⟩
 have H0 := Lib.hid hM
 have HK := Lib.hid hk
 clear hs1 h8 h9 hB hM hk
 go_enter Tryd.func96, Tryd.ntmps96
 go_wp2_with fail
 generalize (w.alloc (.cells #[.int .i64 0, .int .i64 0, .int .i64 0, .int .i64 0, .int .i64 0, .int .i64 0, .int .i64 0, .int .i64 0, .int .i64 0, .int .i64 0, .int .i64 0, .int .i64 0] 38)).alloc (.cells #[.int .i64 2, .int .i64 m.frm, .int .i64 m.to_, .int .i64 0, .int .i64 0, .int .i64 0, .int .i64 0, .int .i64 0, .int .i64 0, .int .i64 0, .int .i64 0, .int .i64 0] 38) = w1 at H0 ⊢
 obtain ⟨b8, hb8⟩ : ∃ b8, w.heap.size = b8 := ⟨_, rfl⟩
 obtain ⟨b9, hb9⟩ : ∃ b9, w.heap.size + 1 = b9 := ⟨_, rfl⟩
 have h1 : MI w w1 b8 b9 m [] := by rw [← hb8, ← hb9]; exact H0.out
 try simp only [hb9]
 try simp only [hb8]
 have hb98 : b8 + 1 = b9 := by omega
 try simp only [hb98]
 (with_reducible refine (rnames_k2 w1).mono ?_)
 rintro e w2 ⟨rfl, hB2⟩
 have hlt8 := h1.m8.lt
 have hlt9 := h1.m9.lt
 have H2 := Lib.hid (show MI w w2 b8 b9 m [] from ⟨h1.m8.below hB2 h1.m8.lt, h1.m9.below hB2 h1.m9.lt, h1.ne, h1.g8, h1.g9, h1.bel.trans (hB2.mono h1.bel.size)⟩)
 clear h1 hb8 hb9 hb98 H0 hB2 hlt8 hlt9
 go_wp2
 go_loopw [11, 12] (fun kk i wr => (i = .int .i64 0 ∧ kk = .int .i64 0 ∧ MI w wr b8 b9 m []) ∨ (i = .int .i64 1 ∧ kk = .int .i64 1 ∧ MI w wr b8 b9 m [3]) ∨ (i = .int .i64 2 ∧ kk = .int .i64 2 ∧ MI w wr b8 b9 m [3, 4]) ∨ (i = .int .i64 3 ∧ kk = .int .i64 3 ∧ MI w wr b8 b9 m [3, 4, 6])) (fun _ i _ => 3 - (intOf i).toNat)
 case atStart => exact .inl ⟨rfl, rfl, H2.out⟩
 case round =>
  rcases hrel with ⟨rfl, rfl, hM⟩ | ⟨rfl, rfl, hM⟩ | ⟨rfl, rfl, hM⟩ | ⟨rfl, rfl, hM⟩
  ·have fz := hM.m9.frozen
   have fl := hM.m9.lt
   have g0 : wr.cell? ⟨ab, ao, none⟩ = some (.int .i64 m.epoch) := (hM.bel.cell (p := ⟨ab, ao, none⟩) HQ.out.1).trans HQ.out.2.1
   obtain ⟨u3, _, hu3⟩ := ints_at (keepM m []) 3 (by omega)
   have f3 : wr.cell? ⟨b9, 3, none⟩ = some (.int .i64 u3) := (hM.m9.cell 3).trans hu3
   clear hu3
   have HS := Lib.hid (hM.step 3 m.epoch (by omega) (by omega) rfl [3] rfl)
   clear hM
   go_wp2_with fail
   go_roundw
   case rel => exact .inr (.inl ⟨by go_num, by go_num, HS.out⟩)
   case measure => simp [intOf]
  ·have fz := hM.m9.frozen
   have fl := hM.m9.lt
   have g1 : wr.cell? ⟨ab, ao + 1, none⟩ = some (.int .i64 m.inc) := (hM.bel.cell (p := ⟨ab, ao + 1, none⟩) HQ.out.1).trans HQ.out.2.2.1
   obtain ⟨u4, _, hu4⟩ := ints_at (keepM m [3]) 4 (by omega)
   have f4 : wr.cell? ⟨b9, 4, none⟩ = some (.int .i64 u4) := (hM.m9.cell 4).trans hu4
   clear hu4
   have HS := Lib.hid (hM.step 4 m.inc (by omega) (by omega) rfl [3, 4] rfl)
   clear hM
   go_wp2_with fail
   go_roundw
   case rel => exact .inr (.inr (.inl ⟨by go_num, by go_num, HS.out⟩))
   case measure => simp [intOf]
  ·have fz := hM.m9.frozen
   have fl := hM.m9.lt
   have g2 : wr.cell? ⟨ab, ao + 2, none⟩ = some (.int .i64 m.tick) := (hM.bel.cell (p := ⟨ab, ao + 2, none⟩) HQ.out.1).trans HQ.out.2.2.2.1
   obtain ⟨u6, _, hu6⟩ := ints_at (keepM m [3, 4]) 6 (by omega)
   have f6 : wr.cell? ⟨b9, 6, none⟩ = some (.int .i64 u6) := (hM.m9.cell 6).trans hu6
   clear hu6
   have HS := Lib.hid (hM.step 6 m.tick (by omega) (by omega) rfl [3, 4, 6] rfl)
   clear hM
   go_wp2_with fail
   go_roundw
   case rel => exact .inr (.inr (.inr (⟨by go_num, by go_num, HS.out⟩)))
   case measure => simp [intOf]
  ·have h9 := hM.m9
   have h8 := hM.m8
   have z2 := hM.m8.frozen
   have l8 := hM.m8.lt
   have l9 := hM.m9.lt
   have y0 := h8.cell 0
   have c0 := h9.cell 0
   have y1 := h8.cell 1
   have c1 := h9.cell 1
   have y2 := h8.cell 2
   have c2 := h9.cell 2
   have y3 := h8.cell 3
   have c3 := h9.cell 3
   have y4 := h8.cell 4
   have c4 := h9.cell 4
   have y5 := h8.cell 5
   have c5 := h9.cell 5
   have y6 := h8.cell 6
   have c6 := h9.cell 6
   have y7 := h8.cell 7
   have c7 := h9.cell 7
   have y8 := h8.cell 8
   have c8 := h9.cell 8
   have y9 := h8.cell 9
   have c9 := h9.cell 9
   have y10 := h8.cell 10
   have c10 := h9.cell 10
   have y11 := h8.cell 11
   have c11 := h9.cell 11
   simp only [List.getElem?_toArray, List.getElem?_cons_zero, List.getElem?_cons_succ] at y0 c0 y1 c1 y2 c2 y3 c3 y4 c4 y5 c5 y6 c6 y7 c7 y8 c8 y9 c9 y10 c10 y11 c11
   have HI2 := Lib.hid hM
   clear hM h8 h9
   go_wp2_with fail
   obtain ⟨hbz, hbe⟩ := lay12 HI2.out.m8 HI2.out.g8 HI2.out.bel (.int .i64 (keepM m [3, 4, 6]).kind) (.int .i64 (keepM m [3, 4, 6]).frm) (.int .i64 (keepM m [3, 4, 6]).to_) (.int .i64 (keepM m [3, 4, 6]).epoch) (.int .i64 (keepM m [3, 4, 6]).inc) (.int .i64 (keepM m [3, 4, 6]).job) (.int .i64 (keepM m [3, 4, 6]).tick) (.int .i64 (keepM m [3, 4, 6]).prio) (.int .i64 (keepM m [3, 4, 6]).code) (.int .i64 (keepM m [3, 4, 6]).res.a) (.int .i64 (keepM m [3, 4, 6]).res.b) (.int .i64 (keepM m [3, 4, 6]).res.c)
   have HZ := Lib.hid hbe
   clear hbe
   generalize ((((((((((((wr.setCell ⟨b8, 0, none⟩ (.int .i64 (keepM m [3, 4, 6]).kind)).setCell ⟨b8, 1, none⟩ (.int .i64 (keepM m [3, 4, 6]).frm)).setCell ⟨b8, 2, none⟩ (.int .i64 (keepM m [3, 4, 6]).to_)).setCell ⟨b8, 3, none⟩ (.int .i64 (keepM m [3, 4, 6]).epoch)).setCell ⟨b8, 4, none⟩ (.int .i64 (keepM m [3, 4, 6]).inc)).setCell ⟨b8, 5, none⟩ (.int .i64 (keepM m [3, 4, 6]).job)).setCell ⟨b8, 6, none⟩ (.int .i64 (keepM m [3, 4, 6]).tick)).setCell ⟨b8, 7, none⟩ (.int .i64 (keepM m [3, 4, 6]).prio)).setCell ⟨b8, 8, none⟩ (.int .i64 (keepM m [3, 4, 6]).code)).setCell ⟨b8, 9, none⟩ (.int .i64 (keepM m [3, 4, 6]).res.a)).setCell ⟨b8, 10, none⟩ (.int .i64 (keepM m [3, 4, 6]).res.b)).setCell ⟨b8, 11, none⟩ (.int .i64 (keepM m [3, 4, 6]).res.c)) = wz at hbz HZ ⊢
   have d0 := hbz.cell 0
   have d1 := hbz.cell 1
   have d2 := hbz.cell 2
   have d3 := hbz.cell 3
   have d4 := hbz.cell 4
   have d5 := hbz.cell 5
   have d6 := hbz.cell 6
   have d7 := hbz.cell 7
   have d8 := hbz.cell 8
   have d9 := hbz.cell 9
   have d10 := hbz.cell 10
   have d11 := hbz.cell 11
   simp only [List.getElem?_toArray, List.getElem?_cons_zero, List.getElem?_cons_succ] at d0 d1 d2 d3 d4 d5 d6 d7 d8 d9 d10 d11
   refine bodyPost_ret (v := aggMsg (keepM m [3, 4, 6])) (by simp [results, Tryd.results96, go_sem, d0, d1, d2, d3, d4, d5, d6, d7, d8, d9, d10, d11]) rfl ⟨rfl, HZ.out⟩
set_option maxRecDepth 100000 in
set_option maxHeartbeats 6400000 in
theorem made_k3 (m : LMsg) (hk : m.kind = 3) (A : Option Addr) (c : Nat) (w : World) (h : RdI w A 3 [m.epoch, m.inc, m.job]) : Calls Tryd.prog 96 #[.int .i64 3, .int .i64 m.frm, .int .i64 m.to_, .slice A 3 c] w fun e w' => e = .returned (aggMsg (keepM m [3, 4, 5])) ∧ Below w.heap.size w w' := by
 obtain ⟨ab, ao, rfl⟩ : ∃ ab ao, A = some ⟨ab, ao, none⟩ := by
  obtain ⟨b, o, _, e, _⟩ := RdI.at_ h (k := 0) (by omega)
  exact ⟨b, o, e⟩
 obtain ⟨hla, q0⟩ := h.cells_ (k := 0) (x := m.epoch) rfl
 obtain ⟨hla1, q1⟩ := h.cells_ (k := 1) (x := m.inc) rfl
 obtain ⟨hla2, q2⟩ := h.cells_ (k := 2) (x := m.job) rfl
 simp only [Nat.add_zero] at q0
 have HQ := Lib.hid (And.intro hla (And.intro q0 (And.intro q1 (And.intro q2 (trivial)))))
 clear h hla hla1 hla2 q0 q1 q2
 have hs1 : (w.alloc (.cells #[.int .i64 0, .int .i64 0, .int .i64 0, .int .i64 0, .int .i64 0, .int .i64 0, .int .i64 0, .int .i64 0, .int .i64 0, .int .i64 0, .int .i64 0, .int .i64 0] 38)).heap.size = w.heap.size + 1 := by simp
 have h8 := (Blk.new w 38 #[.int .i64 0, .int .i64 0, .int .i64 0, .int .i64 0, .int .i64 0, .int .i64 0, .int .i64 0, .int .i64 0, .int .i64 0, .int .i64 0, .int .i64 0, .int .i64 0]).alloc (.cells #[.int .i64 3, .int .i64 m.frm, .int .i64 m.to_, .int .i64 0, .int .i64 0, .int .i64 0, .int .i64 0, .int .i64 0, .int .i64 0, .int .i64 0, .int .i64 0, .int .i64 0] 38)
 have h9 := Blk.new (w.alloc (.cells #[.int .i64 0, .int .i64 0, .int .i64 0, .int .i64 0, .int .i64 0, .int .i64 0, .int .i64 0, .int .i64 0, .int .i64 0, .int .i64 0, .int .i64 0, .int .i64 0] 38)) 38 #[.int .i64 3, .int .i64 m.frm, .int .i64 m.to_, .int .i64 0, .int .i64 0, .int .i64 0, .int .i64 0, .int .i64 0, .int .i64 0, .int .i64 0, .int .i64 0, .int .i64 0]
 rw [hs1] at h9
 have hB : Below w.heap.size w ((w.alloc (.cells #[.int .i64 0, .int .i64 0, .int .i64 0, .int .i64 0, .int .i64 0, .int .i64 0, .int .i64 0, .int .i64 0, .int .i64 0, .int .i64 0, .int .i64 0, .int .i64 0] 38)).alloc (.cells #[.int .i64 3, .int .i64 m.frm, .int .i64 m.to_, .int .i64 0, .int .i64 0, .int .i64 0, .int .i64 0, .int .i64 0, .int .i64 0, .int .i64 0, .int .i64 0, .int .i64 0] 38)) := ((Below.refl _ _).alloc (Nat.le_refl _) _).alloc (by simp) _
 have hM : MI w ((w.alloc (.cells #[.int .i64 0, .int .i64 0, .int .i64 0, .int .i64 0, .int .i64 0, .int .i64 0, .int .i64 0, .int .i64 0, .int .i64 0, .int .i64 0, .int .i64 0, .int .i64 0] 38)).alloc (.cells #[.int .i64 3, .int .i64 m.frm, .int .i64 m.to_, .int .i64 0, .int .i64 0, .int .i64 0, .int .i64 0, .int .i64 0, .int .i64 0, .int .i64 0, .int .i64 0, .int .i64 0] 38)) w.heap.size (w.heap.size + 1) m [] := ⟨h8, by rw [keepM_nil, hk]; exact h9, by omega, by omega, by omega, hB⟩
 have H0 := Lib.hid hM
 have HK := Lib.hid hk
 clear hs1 h8 h9 hB hM hk
 go_enter Tryd.func96, Tryd.ntmps96
 go_wp2_with fail
 generalize (w.alloc (.cells #[.int .i64 0, .int .i64 0, .int .i64 0, .int .i64 0, .int .i64 0, .int .i64 0, .int .i64 0, .int .i64 0, .int .i64 0, .int .i64 0, .int .i64 0, .int .i64 0] 38)).alloc (.cells #[.int .i64 3, .int .i64 m.frm, .int .i64 m.to_, .int .i64 0, .int .i64 0, .int .i64 0, .int .i64 0, .int .i64 0, .int .i64 0, .int .i64 0, .int .i64 0, .int .i64 0] 38) = w1 at H0 ⊢
 obtain ⟨b8, hb8⟩ : ∃ b8, w.heap.size = b8 := ⟨_, rfl⟩
 obtain ⟨b9, hb9⟩ : ∃ b9, w.heap.size + 1 = b9 := ⟨_, rfl⟩
 have h1 : MI w w1 b8 b9 m [] := by rw [← hb8, ← hb9]; exact H0.out
 try simp only [hb9]
 try simp only [hb8]
 have hb98 : b8 + 1 = b9 := by omega
 try simp only [hb98]
 (with_reducible refine (rnames_k3 w1).mono ?_)
 rintro e w2 ⟨rfl, hB2⟩
 have hlt8 := h1.m8.lt
 have hlt9 := h1.m9.lt
 have H2 := Lib.hid (show MI w w2 b8 b9 m [] from ⟨h1.m8.below hB2 h1.m8.lt, h1.m9.below hB2 h1.m9.lt, h1.ne, h1.g8, h1.g9, h1.bel.trans (hB2.mono h1.bel.size)⟩)
 clear h1 hb8 hb9 hb98 H0 hB2 hlt8 hlt9
 go_wp2
 go_loopw [11, 12] (fun kk i wr => (i = .int .i64 0 ∧ kk = .int .i64 0 ∧ MI w wr b8 b9 m []) ∨ (i = .int .i64 1 ∧ kk = .int .i64 1 ∧ MI w wr b8 b9 m [3]) ∨ (i = .int .i64 2 ∧ kk = .int .i64 2 ∧ MI w wr b8 b9 m [3, 4]) ∨ (i = .int .i64 3 ∧ kk = .int .i64 3 ∧ MI w wr b8 b9 m [3, 4, 5])) (fun _ i _ => 3 - (intOf i).toNat)
 case atStart => exact .inl ⟨rfl, rfl, H2.out⟩
 case round =>
  rcases hrel with ⟨rfl, rfl, hM⟩ | ⟨rfl, rfl, hM⟩ | ⟨rfl, rfl, hM⟩ | ⟨rfl, rfl, hM⟩
  ·have fz := hM.m9.frozen
   have fl := hM.m9.lt
   have g0 : wr.cell? ⟨ab, ao, none⟩ = some (.int .i64 m.epoch) := (hM.bel.cell (p := ⟨ab, ao, none⟩) HQ.out.1).trans HQ.out.2.1
   obtain ⟨u3, _, hu3⟩ := ints_at (keepM m []) 3 (by omega)
   have f3 : wr.cell? ⟨b9, 3, none⟩ = some (.int .i64 u3) := (hM.m9.cell 3).trans hu3
   clear hu3
   have HS := Lib.hid (hM.step 3 m.epoch (by omega) (by omega) rfl [3] rfl)
   clear hM
   go_wp2_with fail
   go_roundw
   case rel => exact .inr (.inl ⟨by go_num, by go_num, HS.out⟩)
   case measure => simp [intOf]
  ·have fz := hM.m9.frozen
   have fl := hM.m9.lt
   have g1 : wr.cell? ⟨ab, ao + 1, none⟩ = some (.int .i64 m.inc) := (hM.bel.cell (p := ⟨ab, ao + 1, none⟩) HQ.out.1).trans HQ.out.2.2.1
   obtain ⟨u4, _, hu4⟩ := ints_at (keepM m [3]) 4 (by omega)
   have f4 : wr.cell? ⟨b9, 4, none⟩ = some (.int .i64 u4) := (hM.m9.cell 4).trans hu4
   clear hu4
   have HS := Lib.hid (hM.step 4 m.inc (by omega) (by omega) rfl [3, 4] rfl)
   clear hM
   go_wp2_with fail
   go_roundw
   case rel => exact .inr (.inr (.inl ⟨by go_num, by go_num, HS.out⟩))
   case measure => simp [intOf]
  ·have fz := hM.m9.frozen
   have fl := hM.m9.lt
   have g2 : wr.cell? ⟨ab, ao + 2, none⟩ = some (.int .i64 m.job) := (hM.bel.cell (p := ⟨ab, ao + 2, none⟩) HQ.out.1).trans HQ.out.2.2.2.1
   obtain ⟨u5, _, hu5⟩ := ints_at (keepM m [3, 4]) 5 (by omega)
   have f5 : wr.cell? ⟨b9, 5, none⟩ = some (.int .i64 u5) := (hM.m9.cell 5).trans hu5
   clear hu5
   have HS := Lib.hid (hM.step 5 m.job (by omega) (by omega) rfl [3, 4, 5] rfl)
   clear hM
   go_wp2_with fail
   go_roundw
   case rel => exact .inr (.inr (.inr (⟨by go_num, by go_num, HS.out⟩)))
   case measure => simp [intOf]
  ·have h9 := hM.m9
   have h8 := hM.m8
   have z2 := hM.m8.frozen
   have l8 := hM.m8.lt
   have l9 := hM.m9.lt
   have y0 := h8.cell 0
   have c0 := h9.cell 0
   have y1 := h8.cell 1
   have c1 := h9.cell 1
   have y2 := h8.cell 2
   have c2 := h9.cell 2
   have y3 := h8.cell 3
   have c3 := h9.cell 3
   have y4 := h8.cell 4
   have c4 := h9.cell 4
   have y5 := h8.cell 5
   have c5 := h9.cell 5
   have y6 := h8.cell 6
   have c6 := h9.cell 6
   have y7 := h8.cell 7
   have c7 := h9.cell 7
   have y8 := h8.cell 8
   have c8 := h9.cell 8
   have y9 := h8.cell 9
   have c9 := h9.cell 9
   have y10 := h8.cell 10
   have c10 := h9.cell 10
   have y11 := h8.cell 11
   have c11 := h9.cell 11
   simp only [List.getElem?_toArray, List.getElem?_cons_zero, List.getElem?_cons_succ] at y0 c0 y1 c1 y2 c2 y3 c3 y4 c4 y5 c5 y6 c6 y7 c7 y8 c8 y9 c9 y10 c10 y11 c11
   have HI2 := Lib.hid hM
   clear hM h8 h9
   go_wp2_with fail
   obtain ⟨hbz, hbe⟩ := lay12 HI2.out.m8 HI2.out.g8 HI2.out.bel (.int .i64 (keepM m [3, 4, 5]).kind) (.int .i64 (keepM m [3, 4, 5]).frm) (.int .i64 (keepM m [3, 4, 5]).to_) (.int .i64 (keepM m [3, 4, 5]).epoch) (.int .i64 (keepM m [3, 4, 5]).inc) (.int .i64 (keepM m [3, 4, 5]).job) (.int .i64 (keepM m [3, 4, 5]).tick) (.int .i64 (keepM m [3, 4, 5]).prio) (.int .i64 (keepM m [3, 4, 5]).code) (.int .i64 (keepM m [3, 4, 5]).res.a) (.int .i64 (keepM m [3, 4, 5]).res.b) (.int .i64 (keepM m [3, 4, 5]).res.c)
   have HZ := Lib.hid hbe
   clear hbe
   generalize ((((((((((((wr.setCell ⟨b8, 0, none⟩ (.int .i64 (keepM m [3, 4, 5]).kind)).setCell ⟨b8, 1, none⟩ (.int .i64 (keepM m [3, 4, 5]).frm)).setCell ⟨b8, 2, none⟩ (.int .i64 (keepM m [3, 4, 5]).to_)).setCell ⟨b8, 3, none⟩ (.int .i64 (keepM m [3, 4, 5]).epoch)).setCell ⟨b8, 4, none⟩ (.int .i64 (keepM m [3, 4, 5]).inc)).setCell ⟨b8, 5, none⟩ (.int .i64 (keepM m [3, 4, 5]).job)).setCell ⟨b8, 6, none⟩ (.int .i64 (keepM m [3, 4, 5]).tick)).setCell ⟨b8, 7, none⟩ (.int .i64 (keepM m [3, 4, 5]).prio)).setCell ⟨b8, 8, none⟩ (.int .i64 (keepM m [3, 4, 5]).code)).setCell ⟨b8, 9, none⟩ (.int .i64 (keepM m [3, 4, 5]).res.a)).setCell ⟨b8, 10, none⟩ (.int .i64 (keepM m [3, 4, 5]).res.b)).setCell ⟨b8, 11, none⟩ (.int .i64 (keepM m [3, 4, 5]).res.c)) = wz at hbz HZ ⊢
   have d0 := hbz.cell 0
   have d1 := hbz.cell 1
   have d2 := hbz.cell 2
   have d3 := hbz.cell 3
   have d4 := hbz.cell 4
   have d5 := hbz.cell 5
   have d6 := hbz.cell 6
   have d7 := hbz.cell 7
   have d8 := hbz.cell 8
   have d9 := hbz.cell 9
   have d10 := hbz.cell 10
   have d11 := hbz.cell 11
   simp only [List.getElem?_toArray, List.getElem?_cons_zero, List.getElem?_cons_succ] at d0 d1 d2 d3 d4 d5 d6 d7 d8 d9 d10 d11
   refine bodyPost_ret (v := aggMsg (keepM m [3, 4, 5])) (by simp [results, Tryd.results96, go_sem, d0, d1, d2, d3, d4, d5, d6, d7, d8, d9, d10, d11]) rfl ⟨rfl, HZ.out⟩
set_option maxRecDepth 100000 in
set_option maxHeartbeats 6400000 in
theorem made_k4 (m : LMsg) (hk : m.kind = 4) (A : Option Addr) (c : Nat) (w : World) (h : RdI w A 3 [m.epoch, m.inc, m.job]) : Calls Tryd.prog 96 #[.int .i64 4, .int .i64 m.frm, .int .i64 m.to_, .slice A 3 c] w fun e w' => e = .returned (aggMsg (keepM m [3, 4, 5])) ∧ Below w.heap.size w w' := by
 obtain ⟨ab, ao, rfl⟩ : ∃ ab ao, A = some ⟨ab, ao, none⟩ := by
  obtain ⟨b, o, _, e, _⟩ := RdI.at_ h (k := 0) (by omega)
  exact ⟨b, o, e⟩
 obtain ⟨hla, q0⟩ := h.cells_ (k := 0) (x := m.epoch) rfl
 obtain ⟨hla1, q1⟩ := h.cells_ (k := 1) (x := m.inc) rfl
 obtain ⟨hla2, q2⟩ := h.cells_ (k := 2) (x := m.job) rfl
 simp only [Nat.add_zero] at q0
 have HQ := Lib.hid (And.intro hla (And.intro q0 (And.intro q1 (And.intro q2 (trivial)))))
 clear h hla hla1 hla2 q0 q1 q2
 have hs1 : (w.alloc (.cells #[.int .i64 0, .int .i64 0, .int .i64 0, .int .i64 0, .int .i64 0, .int .i64 0, .int .i64 0, .int .i64 0, .int .i64 0, .int .i64 0, .int .i64 0, .int .i64 0] 38)).heap.size = w.heap.size + 1 := by simp
 have h8 := (Blk.new w 38 #[.int .i64 0, .int .i64 0, .int .i64 0, .int .i64 0, .int .i64 0, .int .i64 0, .int .i64 0, .int .i64 0, .int .i64 0, .int .i64 0, .int .i64 0, .int .i64 0]).alloc (.cells #[.int .i64 4, .int .i64 m.frm, .int .i64 m.to_, .int .i64 0, .int .i64 0, .int .i64 0, .int .i64 0, .int .i64 0, .int .i64 0, .int .i64 0, .int .i64 0, .int .i64 0] 38)
 have h9 := Blk.new (w.alloc (.cells #[.int .i64 0, .int .i64 0, .int .i64 0, .int .i64 0, .int .i64 0, .int .i64 0, .int .i64 0, .int .i64 0, .int .i64 0, .int .i64 0, .int .i64 0, .int .i64 0] 38)) 38 #[.int .i64 4, .int .i64 m.frm, .int .i64 m.to_, .int .i64 0, .int .i64 0, .int .i64 0, .int .i64 0, .int .i64 0, .int .i64 0, .int .i64 0, .int .i64 0, .int .i64 0]
 rw [hs1] at h9
 have hB : Below w.heap.size w ((w.alloc (.cells #[.int .i64 0, .int .i64 0, .int .i64 0, .int .i64 0, .int .i64 0, .int .i64 0, .int .i64 0, .int .i64 0, .int .i64 0, .int .i64 0, .int .i64 0, .int .i64 0] 38)).alloc (.cells #[.int .i64 4, .int .i64 m.frm, .int .i64 m.to_, .int .i64 0, .int .i64 0, .int .i64 0, .int .i64 0, .int .i64 0, .int .i64 0, .int .i64 0, .int .i64 0, .int .i64 0] 38)) := ((Below.refl _ _).alloc (Nat.le_refl _) _).alloc (by simp) _
 have hM : MI w ((w.alloc (.cells #[.int .i64 0, .int .i64 0, .int .i64 0, .int .i64 0, .int .i64 0, .int .i64 0, .int .i64 0, .int .i64 0, .int .i64 0, .int .i64 0, .int .i64 0, .int .i64 0] 38)).alloc (.cells #[.int .i64 4, .int .i64 m.frm, .int .i64 m.to_, .int .i64 0, .int .i64 0, .int .i64 0, .int .i64 0, .int .i64 0, .int .i64 0, .int .i64 0, .int .i64 0, .int .i64 0] 38)) w.heap.size (w.heap.size + 1) m [] := ⟨h8, by rw [keepM_nil, hk]; exact h9, by omega, by omega, by omega, hB⟩
 have H0 := Lib.hid hM
 have HK := Lib.hid hk
 clear hs1 h8 h9 hB hM hk
 go_enter Tryd.func96, Tryd.ntmps96
 go_wp2_with fail
 generalize (w.alloc (.cells #[.int .i64 0, .int .i64 0, .int .i64 0, .int .i64 0, .int .i64 0, .int .i64 0, .int .i64 0, .int .i64 0, .int .i64 0, .int .i64 0, .int .i64 0, .int .i64 0] 38)).alloc (.cells #[.int .i64 4, .int .i64 m.frm, .int .i64 m.to_, .int .i64 0, .int .i64 0, .int .i64 0, .int .i64 0, .int .i64 0, .int .i64 0, .int .i64 0, .int .i64 0, .int .i64 0] 38) = w1 at H0 ⊢
 obtain ⟨b8, hb8⟩ : ∃ b8, w.heap.size = b8 := ⟨_, rfl⟩
 obtain ⟨b9, hb9⟩ : ∃ b9, w.heap.size + 1 = b9 := ⟨_, rfl⟩
 have h1 : MI w w1 b8 b9 m [] := by rw [← hb8, ← hb9]; exact H0.out
 try simp only [hb9]
 try simp only [hb8]
 have hb98 : b8 + 1 = b9 := by omega
 try simp only [hb98]
 (with_reducible refine (rnames_k4 w1).mono ?_)
 rintro e w2 ⟨rfl, hB2⟩
 have hlt8 := h1.m8.lt
 have hlt9 := h1.m9.lt
 have H2 := Lib.hid (show MI w w2 b8 b9 m [] from ⟨h1.m8.below hB2 h1.m8.lt, h1.m9.below hB2 h1.m9.lt, h1.ne, h1.g8, h1.g9, h1.bel.trans (hB2.mono h1.bel.size)⟩)
 clear h1 hb8 hb9 hb98 H0 hB2 hlt8 hlt9
 go_wp2
 go_loopw [11, 12] (fun kk i wr => (i = .int .i64 0 ∧ kk = .int .i64 0 ∧ MI w wr b8 b9 m []) ∨ (i = .int .i64 1 ∧ kk = .int .i64 1 ∧ MI w wr b8 b9 m [3]) ∨ (i = .int .i64 2 ∧ kk = .int .i64 2 ∧ MI w wr b8 b9 m [3, 4]) ∨ (i = .int .i64 3 ∧ kk = .int .i64 3 ∧ MI w wr b8 b9 m [3, 4, 5])) (fun _ i _ => 3 - (intOf i).toNat)
 case atStart => exact .inl ⟨rfl, rfl, H2.out⟩
 case round =>
  rcases hrel with ⟨rfl, rfl, hM⟩ | ⟨rfl, rfl, hM⟩ | ⟨rfl, rfl, hM⟩ | ⟨rfl, rfl, hM⟩
  ·have fz := hM.m9.frozen
   have fl := hM.m9.lt
   have g0 : wr.cell? ⟨ab, ao, none⟩ = some (.int .i64 m.epoch) := (hM.bel.cell (p := ⟨ab, ao, none⟩) HQ.out.1).trans HQ.out.2.1
   obtain ⟨u3, _, hu3⟩ := ints_at (keepM m []) 3 (by omega)
   have f3 : wr.cell? ⟨b9, 3, none⟩ = some (.int .i64 u3) := (hM.m9.cell 3).trans hu3
   clear hu3
   have HS := Lib.hid (hM.step 3 m.epoch (by omega) (by omega) rfl [3] rfl)
   clear hM
   go_wp2_with fail
   go_roundw
   case rel => exact .inr (.inl ⟨by go_num, by go_num, HS.out⟩)
   case measure => simp [intOf]
  ·have fz := hM.m9.frozen
   have fl := hM.m9.lt
   have g1 : wr.cell? ⟨ab, ao + 1, none⟩ = some (.int .i64 m.inc) := (hM.bel.cell (p := ⟨ab, ao + 1, none⟩) HQ.out.1).trans HQ.out.2.2.1
   obtain ⟨u4, _, hu4⟩ := ints_at (keepM m [3]) 4 (by omega)
   have f4 : wr.cell? ⟨b9, 4, none⟩ = some (.int .i64 u4) := (hM.m9.cell 4).trans hu4
   clear hu4
   have HS := Lib.hid (hM.step 4 m.inc (by omega) (by omega) rfl [3, 4] rfl)
   clear hM
   go_wp2_with fail
   go_roundw
   case rel => exact .inr (.inr (.inl ⟨by go_num, by go_num, HS.out⟩))
   case measure => simp [intOf]
  ·have fz := hM.m9.frozen
   have fl := hM.m9.lt
   have g2 : wr.cell? ⟨ab, ao + 2, none⟩ = some (.int .i64 m.job) := (hM.bel.cell (p := ⟨ab, ao + 2, none⟩) HQ.out.1).trans HQ.out.2.2.2.1
   obtain ⟨u5, _, hu5⟩ := ints_at (keepM m [3, 4]) 5 (by omega)
   have f5 : wr.cell? ⟨b9, 5, none⟩ = some (.int .i64 u5) := (hM.m9.cell 5).trans hu5
   clear hu5
   have HS := Lib.hid (hM.step 5 m.job (by omega) (by omega) rfl [3, 4, 5] rfl)
   clear hM
   go_wp2_with fail
   go_roundw
   case rel => exact .inr (.inr (.inr (⟨by go_num, by go_num, HS.out⟩)))
   case measure => simp [intOf]
  ·have h9 := hM.m9
   have h8 := hM.m8
   have z2 := hM.m8.frozen
   have l8 := hM.m8.lt
   have l9 := hM.m9.lt
   have y0 := h8.cell 0
   have c0 := h9.cell 0
   have y1 := h8.cell 1
   have c1 := h9.cell 1
   have y2 := h8.cell 2
   have c2 := h9.cell 2
   have y3 := h8.cell 3
   have c3 := h9.cell 3
   have y4 := h8.cell 4
   have c4 := h9.cell 4
   have y5 := h8.cell 5
   have c5 := h9.cell 5
   have y6 := h8.cell 6
   have c6 := h9.cell 6
   have y7 := h8.cell 7
   have c7 := h9.cell 7
   have y8 := h8.cell 8
   have c8 := h9.cell 8
   have y9 := h8.cell 9
   have c9 := h9.cell 9
   have y10 := h8.cell 10
   have c10 := h9.cell 10
   have y11 := h8.cell 11
   have c11 := h9.cell 11
   simp only [List.getElem?_toArray, List.getElem?_cons_zero, List.getElem?_cons_succ] at y0 c0 y1 c1 y2 c2 y3 c3 y4 c4 y5 c5 y6 c6 y7 c7 y8 c8 y9 c9 y10 c10 y11 c11
   have HI2 := Lib.hid hM
   clear hM h8 h9
   go_wp2_with fail
   obtain ⟨hbz, hbe⟩ := lay12 HI2.out.m8 HI2.out.g8 HI2.out.bel (.int .i64 (keepM m [3, 4, 5]).kind) (.int .i64 (keepM m [3, 4, 5]).frm) (.int .i64 (keepM m [3, 4, 5]).to_) (.int .i64 (keepM m [3, 4, 5]).epoch) (.int .i64 (keepM m [3, 4, 5]).inc) (.int .i64 (keepM m [3, 4, 5]).job) (.int .i64 (keepM m [3, 4, 5]).tick) (.int .i64 (keepM m [3, 4, 5]).prio) (.int .i64 (keepM m [3, 4, 5]).code) (.int .i64 (keepM m [3, 4, 5]).res.a) (.int .i64 (keepM m [3, 4, 5]).res.b) (.int .i64 (keepM m [3, 4, 5]).res.c)
   have HZ := Lib.hid hbe
   clear hbe
   generalize ((((((((((((wr.setCell ⟨b8, 0, none⟩ (.int .i64 (keepM m [3, 4, 5]).kind)).setCell ⟨b8, 1, none⟩ (.int .i64 (keepM m [3, 4, 5]).frm)).setCell ⟨b8, 2, none⟩ (.int .i64 (keepM m [3, 4, 5]).to_)).setCell ⟨b8, 3, none⟩ (.int .i64 (keepM m [3, 4, 5]).epoch)).setCell ⟨b8, 4, none⟩ (.int .i64 (keepM m [3, 4, 5]).inc)).setCell ⟨b8, 5, none⟩ (.int .i64 (keepM m [3, 4, 5]).job)).setCell ⟨b8, 6, none⟩ (.int .i64 (keepM m [3, 4, 5]).tick)).setCell ⟨b8, 7, none⟩ (.int .i64 (keepM m [3, 4, 5]).prio)).setCell ⟨b8, 8, none⟩ (.int .i64 (keepM m [3, 4, 5]).code)).setCell ⟨b8, 9, none⟩ (.int .i64 (keepM m [3, 4, 5]).res.a)).setCell ⟨b8, 10, none⟩ (.int .i64 (keepM m [3, 4, 5]).res.b)).setCell ⟨b8, 11, none⟩ (.int .i64 (keepM m [3, 4, 5]).res.c)) = wz at hbz HZ ⊢
   have d0 := hbz.cell 0
   have d1 := hbz.cell 1
   have d2 := hbz.cell 2
   have d3 := hbz.cell 3
   have d4 := hbz.cell 4
   have d5 := hbz.cell 5
   have d6 := hbz.cell 6
   have d7 := hbz.cell 7
   have d8 := hbz.cell 8
   have d9 := hbz.cell 9
   have d10 := hbz.cell 10
   have d11 := hbz.cell 11
   simp only [List.getElem?_toArray, List.getElem?_cons_zero, List.getElem?_cons_succ] at d0 d1 d2 d3 d4 d5 d6 d7 d8 d9 d10 d11
   refine bodyPost_ret (v := aggMsg (keepM m [3, 4, 5])) (by simp [results, Tryd.results96, go_sem, d0, d1, d2, d3, d4, d5, d6, d7, d8, d9, d10, d11]) rfl ⟨rfl, HZ.out⟩
set_option maxRecDepth 100000 in
set_option maxHeartbeats 6400000 in
theorem made_k5 (m : LMsg) (hk : m.kind = 5) (A : Option Addr) (c : Nat) (w : World) (h : RdI w A 2 [m.inc, m.job]) : Calls Tryd.prog 96 #[.int .i64 5, .int .i64 m.frm, .int .i64 m.to_, .slice A 2 c] w fun e w' => e = .returned (aggMsg (keepM m [4, 5])) ∧ Below w.heap.size w w' := by
 obtain ⟨ab, ao, rfl⟩ : ∃ ab ao, A = some ⟨ab, ao, none⟩ := by
  obtain ⟨b, o, _, e, _⟩ := RdI.at_ h (k := 0) (by omega)
  exact ⟨b, o, e⟩
 obtain ⟨hla, q0⟩ := h.cells_ (k := 0) (x := m.inc) rfl
 obtain ⟨hla1, q1⟩ := h.cells_ (k := 1) (x := m.job) rfl
 simp only [Nat.add_zero] at q0
 have HQ := Lib.hid (And.intro hla (And.intro q0 (And.intro q1 (trivial))))
 clear h hla hla1 q0 q1
 have hs1 : (w.alloc (.cells #[.int .i64 0, .int .i64 0, .int .i64 0, .int .i64 0, .int .i64 0, .int .i64 0, .int .i64 0, .int .i64 0, .int .i64 0, .int .i64 0, .int .i64 0, .int .i64 0] 38)).heap.size = w.heap.size + 1 := by simp
 have h8 := (Blk.new w 38 #[.int .i64 0, .int .i64 0, .int .i64 0, .int .i64 0, .int .i64 0, .int .i64 0, .int .i64 0, .int .i64 0, .int .i64 0, .int .i64 0, .int .i64 0, .int .i64 0]).alloc (.cells #[.int .i64 5, .int .i64 m.frm, .int .i64 m.to_, .int .i64 0, .int .i64 0, .int .i64 0, .int .i64 0, .int .i64 0, .int .i64 0, .int .i64 0, .int .i64 0, .int .i64 0] 38)
 have h9 := Blk.new (w.alloc (.cells #[.int .i64 0, .int .i64 0, .int .i64 0, .int .i64 0, .int .i64 0, .int .i64 0, .int .i64 0, .int .i64 0, .int .i64 0, .int .i64 0, .int .i64 0, .int .i64 0] 38)) 38 #[.int .i64 5, .int .i64 m.frm, .int .i64 m.to_, .int .i64 0, .int .i64 0, .int .i64 0, .int .i64 0, .int .i64 0, .int .i64 0, .int .i64 0, .int .i64 0, .int .i64 0]
 rw [hs1] at h9
 have hB : Below w.heap.size w ((w.alloc (.cells #[.int .i64 0, .int .i64 0, .int .i64 0, .int .i64 0, .int .i64 0, .int .i64 0, .int .i64 0, .int .i64 0, .int .i64 0, .int .i64 0, .int .i64 0, .int .i64 0] 38)).alloc (.cells #[.int .i64 5, .int .i64 m.frm, .int .i64 m.to_, .int .i64 0, .int .i64 0, .int .i64 0, .int .i64 0, .int .i64 0, .int .i64 0, .int .i64 0, .int .i64 0, .int .i64 0] 38)) := ((Below.refl _ _).alloc (Nat.le_refl _) _).alloc (by simp) _
 have hM : MI w ((w.alloc (.cells #[.int .i64 0, .int .i64 0, .int .i64 0, .int .i64 0, .int .i64 0, .int .i64 0, .int .i64 0, .int .i64 0, .int .i64 0, .int .i64 0, .int .i64 0, .int .i64 0] 38)).alloc (.cells #[.int .i64 5, .int .i64 m.frm, .int .i64 m.to_, .int .i64 0, .int .i64 0, .int .i64 0, .int .i64 0, .int .i64 0, .int .i64 0, .int .i64 0, .int .i64 0, .int .i64 0] 38)) w.heap.size (w.heap.size + 1) m [] := ⟨h8, by rw [keepM_nil, hk]; exact h9, by omega, by omega, by omega, hB⟩
 have H0 := Lib.hid hM
 have HK := Lib.hid hk
 clear hs1 h8 h9 hB hM hk
 go_enter Tryd.func96, Tryd.ntmps96
 go_wp2_with fail
 generalize (w.alloc (.cells #[.int .i64 0, .int .i64 0, .int .i64 0, .int .i64 0, .int .i64 0, .int .i64 0, .int .i64 0, .int .i64 0, .int .i64 0, .int .i64 0, .int .i64 0, .int .i64 0] 38)).alloc (.cells #[.int .i64 5, .int .i64 m.frm, .int .i64 m.to_, .int .i64 0, .int .i64 0, .int .i64 0, .int .i64 0, .int .i64 0, .int .i64 0, .int .i64 0, .int .i64 0, .int .i64 0] 38) = w1 at H0 ⊢
 obtain ⟨b8, hb8⟩ : ∃ b8, w.heap.size = b8 := ⟨_, rfl⟩
 obtain ⟨b9, hb9⟩ : ∃ b9, w.heap.size + 1 = b9 := ⟨_, rfl⟩
 have h1 : MI w w1 b8 b9 m [] := by rw [← hb8, ← hb9]; exact H0.out
 try simp only [hb9]
 try simp only [hb8]
 have hb98 : b8 + 1 = b9 := by omega
 try simp only [hb98]
 (with_reducible refine (rnames_k5 w1).mono ?_)
 rintro e w2 ⟨rfl, hB2⟩
 have hlt8 := h1.m8.lt
 have hlt9 := h1.m9.lt
 have H2 := Lib.hid (show MI w w2 b8 b9 m [] from ⟨h1.m8.below hB2 h1.m8.lt, h1.m9.below hB2 h1.m9.lt, h1.ne, h1.g8, h1.g9, h1.bel.trans (hB2.mono h1.bel.size)⟩)
 clear h1 hb8 hb9 hb98 H0 hB2 hlt8 hlt9
 go_wp2
 go_loopw [11, 12] (fun kk i wr => (i = .int .i64 0 ∧ kk = .int .i64 0 ∧ MI w wr b8 b9 m []) ∨ (i = .int .i64 1 ∧ kk = .int .i64 1 ∧ MI w wr b8 b9 m [4]) ∨ (i = .int .i64 2 ∧ kk = .int .i64 2 ∧ MI w wr b8 b9 m [4, 5])) (fun _ i _ => 2 - (intOf i).toNat)
 case atStart => exact .inl ⟨rfl, rfl, H2.out⟩
 case round =>
  rcases hrel with ⟨rfl, rfl, hM⟩ | ⟨rfl, rfl, hM⟩ | ⟨rfl, rfl, hM⟩
  ·have fz := hM.m9.frozen
   have fl := hM.m9.lt
   have g0 : wr.cell? ⟨ab, ao, none⟩ = some (.int .i64 m.inc) := (hM.bel.cell (p := ⟨ab, ao, none⟩) HQ.out.1).trans HQ.out.2.1
   obtain ⟨u4, _, hu4⟩ := ints_at (keepM m []) 4 (by omega)
   have f4 : wr.cell? ⟨b9, 4, none⟩ = some (.int .i64 u4) := (hM.m9.cell 4).trans hu4
   clear hu4
   have HS := Lib.hid (hM.step 4 m.inc (by omega) (by omega) rfl [4] rfl)
   clear hM
   go_wp2_with fail
   go_roundw
   case rel => exact .inr (.inl ⟨by go_num, by go_num, HS.out⟩)
   case measure => simp [intOf]
  ·have fz := hM.m9.frozen
   have fl := hM.m9.lt
   have g1 : wr.cell? ⟨ab, ao + 1, none⟩ = some (.int .i64 m.job) := (hM.bel.cell (p := ⟨ab, ao + 1, none⟩) HQ.out.1).trans HQ.out.2.2.1
   obtain ⟨u5, _, hu5⟩ := ints_at (keepM m [4]) 5 (by omega)
   have f5 : wr.cell? ⟨b9, 5, none⟩ = some (.int .i64 u5) := (hM.m9.cell 5).trans hu5
   clear hu5
   have HS := Lib.hid (hM.step 5 m.job (by omega) (by omega) rfl [4, 5] rfl)
   clear hM
   go_wp2_with fail
   go_roundw
   case rel => exact .inr (.inr (⟨by go_num, by go_num, HS.out⟩))
   case measure => simp [intOf]
  ·have h9 := hM.m9
   have h8 := hM.m8
   have z2 := hM.m8.frozen
   have l8 := hM.m8.lt
   have l9 := hM.m9.lt
   have y0 := h8.cell 0
   have c0 := h9.cell 0
   have y1 := h8.cell 1
   have c1 := h9.cell 1
   have y2 := h8.cell 2
   have c2 := h9.cell 2
   have y3 := h8.cell 3
   have c3 := h9.cell 3
   have y4 := h8.cell 4
   have c4 := h9.cell 4
   have y5 := h8.cell 5
   have c5 := h9.cell 5
   have y6 := h8.cell 6
   have c6 := h9.cell 6
   have y7 := h8.cell 7
   have c7 := h9.cell 7
   have y8 := h8.cell 8
   have c8 := h9.cell 8
   have y9 := h8.cell 9
   have c9 := h9.cell 9
   have y10 := h8.cell 10
   have c10 := h9.cell 10
   have y11 := h8.cell 11
   have c11 := h9.cell 11
   simp only [List.getElem?_toArray, List.getElem?_cons_zero, List.getElem?_cons_succ] at y0 c0 y1 c1 y2 c2 y3 c3 y4 c4 y5 c5 y6 c6 y7 c7 y8 c8 y9 c9 y10 c10 y11 c11
   have HI2 := Lib.hid hM
   clear hM h8 h9
   go_wp2_with fail
   obtain ⟨hbz, hbe⟩ := lay12 HI2.out.m8 HI2.out.g8 HI2.out.bel (.int .i64 (keepM m [4, 5]).kind) (.int .i64 (keepM m [4, 5]).frm) (.int .i64 (keepM m [4, 5]).to_) (.int .i64 (keepM m [4, 5]).epoch) (.int .i64 (keepM m [4, 5]).inc) (.int .i64 (keepM m [4, 5]).job) (.int .i64 (keepM m [4, 5]).tick) (.int .i64 (keepM m [4, 5]).prio) (.int .i64 (keepM m [4, 5]).code) (.int .i64 (keepM m [4, 5]).res.a) (.int .i64 (keepM m [4, 5]).res.b) (.int .i64 (keepM m [4, 5]).res.c)
   have HZ := Lib.hid hbe
   clear hbe
   generalize ((((((((((((wr.setCell ⟨b8, 0, none⟩ (.int .i64 (keepM m [4, 5]).kind)).setCell ⟨b8, 1, none⟩ (.int .i64 (keepM m [4, 5]).frm)).setCell ⟨b8, 2, none⟩ (.int .i64 (keepM m [4, 5]).to_)).setCell ⟨b8, 3, none⟩ (.int .i64 (keepM m [4, 5]).epoch)).setCell ⟨b8, 4, none⟩ (.int .i64 (keepM m [4, 5]).inc)).setCell ⟨b8, 5, none⟩ (.int .i64 (keepM m [4, 5]).job)).setCell ⟨b8, 6, none⟩ (.int .i64 (keepM m [4, 5]).tick)).setCell ⟨b8, 7, none⟩ (.int .i64 (keepM m [4, 5]).prio)).setCell ⟨b8, 8, none⟩ (.int .i64 (keepM m [4, 5]).code)).setCell ⟨b8, 9, none⟩ (.int .i64 (keepM m [4, 5]).res.a)).setCell ⟨b8, 10, none⟩ (.int .i64 (keepM m [4, 5]).res.b)).setCell ⟨b8, 11, none⟩ (.int .i64 (keepM m [4, 5]).res.c)) = wz at hbz HZ ⊢
   have d0 := hbz.cell 0
   have d1 := hbz.cell 1
   have d2 := hbz.cell 2
   have d3 := hbz.cell 3
   have d4 := hbz.cell 4
   have d5 := hbz.cell 5
   have d6 := hbz.cell 6
   have d7 := hbz.cell 7
   have d8 := hbz.cell 8
   have d9 := hbz.cell 9
   have d10 := hbz.cell 10
   have d11 := hbz.cell 11
   simp only [List.getElem?_toArray, List.getElem?_cons_zero, List.getElem?_cons_succ] at d0 d1 d2 d3 d4 d5 d6 d7 d8 d9 d10 d11
   refine bodyPost_ret (v := aggMsg (keepM m [4, 5])) (by simp [results, Tryd.results96, go_sem, d0, d1, d2, d3, d4, d5, d6, d7, d8, d9, d10, d11]) rfl ⟨rfl, HZ.out⟩
set_option maxRecDepth 100000 in
set_option maxHeartbeats 6400000 in
theorem made_k6 (m : LMsg) (hk : m.kind = 6) (A : Option Addr) (c : Nat) (w : World) (h : RdI w A 5 [m.job, m.prio, m.res.a, m.res.b, m.res.c]) : Calls Tryd.prog 96 #[.int .i64 6, .int .i64 m.frm, .int .i64 m.to_, .slice A 5 c] w fun e w' => e = .returned (aggMsg (keepM m [5, 7, 9, 10, 11])) ∧ Below w.heap.size w w' := by
 obtain ⟨ab, ao, rfl⟩ : ∃ ab ao, A = some ⟨ab, ao, none⟩ := by
  obtain ⟨b, o, _, e, _⟩ := RdI.at_ h (k := 0) (by omega)
  exact ⟨b, o, e⟩
 obtain ⟨hla, q0⟩ := h.cells_ (k := 0) (x := m.job) rfl
 obtain ⟨hla1, q1⟩ := h.cells_ (k := 1) (x := m.prio) rfl
 obtain ⟨hla2, q2⟩ := h.cells_ (k := 2) (x := m.res.a) rfl
 obtain ⟨hla3, q3⟩ := h.cells_ (k := 3) (x := m.res.b) rfl
 obtain ⟨hla4, q4⟩ := h.cells_ (k := 4) (x := m.res.c) rfl
 simp only [Nat.add_zero] at q0
 have HQ := Lib.hid (And.intro hla (And.intro q0 (And.intro q1 (And.intro q2 (And.intro q3 (And.intro q4 (trivial)))))))
 clear h hla hla1 hla2 hla3 hla4 q0 q1 q2 q3 q4
 have hs1 : (w.alloc (.cells #[.int .i64 0, .int .i64 0, .int .i64 0, .int .i64 0, .int .i64 0, .int .i64 0, .int .i64 0, .int .i64 0, .int .i64 0, .int .i64 0, .int .i64 0, .int .i64 0] 38)).heap.size = w.heap.size + 1 := by simp
 have h8 := (Blk.new w 38 #[.int .i64 0, .int .i64 0, .int .i64 0, .int .i64 0, .int .i64 0, .int .i64 0, .int .i64 0, .int .i64 0, .int .i64 0, .int .i64 0, .int .i64 0, .int .i64 0]).alloc (.cells #[.int .i64 6, .int .i64 m.frm, .int .i64 m.to_, .int .i64 0, .int .i64 0, .int .i64 0, .int .i64 0, .int .i64 0, .int .i64 0, .int .i64 0, .int .i64 0, .int .i64 0] 38)
 have h9 := Blk.new (w.alloc (.cells #[.int .i64 0, .int .i64 0, .int .i64 0, .int .i64 0, .int .i64 0, .int .i64 0, .int .i64 0, .int .i64 0, .int .i64 0, .int .i64 0, .int .i64 0, .int .i64 0] 38)) 38 #[.int .i64 6, .int .i64 m.frm, .int .i64 m.to_, .int .i64 0, .int .i64 0, .int .i64 0, .int .i64 0, .int .i64 0, .int .i64 0, .int .i64 0, .int .i64 0, .int .i64 0]
 rw [hs1] at h9
 have hB : Below w.heap.size w ((w.alloc (.cells #[.int .i64 0, .int .i64 0, .int .i64 0, .int .i64 0, .int .i64 0, .int .i64 0, .int .i64 0, .int .i64 0, .int .i64 0, .int .i64 0, .int .i64 0, .int .i64 0] 38)).alloc (.cells #[.int .i64 6, .int .i64 m.frm, .int .i64 m.to_, .int .i64 0, .int .i64 0, .int .i64 0, .int .i64 0, .int .i64 0, .int .i64 0, .int .i64 0, .int .i64 0, .int .i64 0] 38)) := ((Below.refl _ _).alloc (Nat.le_refl _) _).alloc (by simp) _
 have hM : MI w ((w.alloc (.cells #[.int .i64 0, .int .i64 0, .int .i64 0, .int .i64 0, .int .i64 0, .int .i64 0, .int .i64 0, .int .i64 0, .int .i64 0, .int .i64 0, .int .i64 0, .int .i64 0] 38)).alloc (.cells #[.int .i64 6, .int .i64 m.frm, .int .i64 m.to_, .int .i64 0, .int .i64 0, .int .i64 0, .int .i64 0, .int .i64 0, .int .i64 0, .int .i64 0, .int .i64 0, .int .i64 0] 38)) w.heap.size (w.heap.size + 1) m [] := ⟨h8, by rw [keepM_nil, hk]; exact h9, by omega, by omega, by omega, hB⟩
 have H0 := Lib.hid hM
 have HK := Lib.hid hk
 clear hs1 h8 h9 hB hM hk
 go_enter Tryd.func96, Tryd.ntmps96
 go_wp2_with fail
 generalize (w.alloc (.cells #[.int .i64 0, .int .i64 0, .int .i64 0, .int .i64 0, .int .i64 0, .int .i64 0, .int .i64 0, .int .i64 0, .int .i64 0, .int .i64 0, .int .i64 0, .int .i64 0] 38)).alloc (.cells #[.int .i64 6, .int .i64 m.frm, .int .i64 m.to_, .int .i64 0, .int .i64 0, .int .i64 0, .int .i64 0, .int .i64 0, .int .i64 0, .int .i64 0, .int .i64 0, .int .i64 0] 38) = w1 at H0 ⊢
 obtain ⟨b8, hb8⟩ : ∃ b8, w.heap.size = b8 := ⟨_, rfl⟩
 obtain ⟨b9, hb9⟩ : ∃ b9, w.heap.size + 1 = b9 := ⟨_, rfl⟩
 have h1 : MI w w1 b8 b9 m [] := by rw [← hb8, ← hb9]; exact H0.out
 try simp only [hb9]
 try simp only [hb8]
 have hb98 : b8 + 1 = b9 := by omega
 try simp only [hb98]
 (with_reducible refine (rnames_k6 w1).mono ?_)
 rintro e w2 ⟨rfl, hB2⟩
 have hlt8 := h1.m8.lt
 have hlt9 := h1.m9.lt
 have H2 := Lib.hid (show MI w w2 b8 b9 m [] from ⟨h1.m8.below hB2 h1.m8.lt, h1.m9.below hB2 h1.m9.lt, h1.ne, h1.g8, h1.g9, h1.bel.trans (hB2.mono h1.bel.size)⟩)
 clear h1 hb8 hb9 hb98 H0 hB2 hlt8 hlt9
 go_wp2
 go_loopw [11, 12] (fun kk i wr => (i = .int .i64 0 ∧ kk = .int .i64 0 ∧ MI w wr b8 b9 m []) ∨ (i = .int .i64 1 ∧ kk = .int .i64 1 ∧ MI w wr b8 b9 m [5]) ∨ (i = .int .i64 2 ∧ kk = .int .i64 2 ∧ MI w wr b8 b9 m [5, 7]) ∨ (i = .int .i64 3 ∧ kk = .int .i64 5 ∧ MI w wr b8 b9 m [5, 7, 9, 10, 11])) (fun _ i _ => 3 - (intOf i).toNat)
 case atStart => exact .inl ⟨rfl, rfl, H2.out⟩
 case round =>
  rcases hrel with ⟨rfl, rfl, hM⟩ | ⟨rfl, rfl, hM⟩ | ⟨rfl, rfl, hM⟩ | ⟨rfl, rfl, hM⟩
  ·have fz := hM.m9.frozen
   have fl := hM.m9.lt
   have g0 : wr.cell? ⟨ab, ao, none⟩ = some (.int .i64 m.job) := (hM.bel.cell (p := ⟨ab, ao, none⟩) HQ.out.1).trans HQ.out.2.1
   obtain ⟨u5, _, hu5⟩ := ints_at (keepM m []) 5 (by omega)
   have f5 : wr.cell? ⟨b9, 5, none⟩ = some (.int .i64 u5) := (hM.m9.cell 5).trans hu5
   clear hu5
   have HS := Lib.hid (hM.step 5 m.job (by omega) (by omega) rfl [5] rfl)
   clear hM
   go_wp2_with fail
   go_roundw
   case rel => exact .inr (.inl ⟨by go_num, by go_num, HS.out⟩)
   case measure => simp [intOf]
  ·have fz := hM.m9.frozen
   have fl := hM.m9.lt
   have g1 : wr.cell? ⟨ab, ao + 1, none⟩ = some (.int .i64 m.prio) := (hM.bel.cell (p := ⟨ab, ao + 1, none⟩) HQ.out.1).trans HQ.out.2.2.1
   obtain ⟨u7, _, hu7⟩ := ints_at (keepM m [5]) 7 (by omega)
   have f7 : wr.cell? ⟨b9, 7, none⟩ = some (.int .i64 u7) := (hM.m9.cell 7).trans hu7
   clear hu7
   have HS := Lib.hid (hM.step 7 m.prio (by omega) (by omega) rfl [5, 7] rfl)
   clear hM
   go_wp2_with fail
   go_roundw
   case rel => exact .inr (.inr (.inl ⟨by go_num, by go_num, HS.out⟩))
   case measure => simp [intOf]
  ·have fz := hM.m9.frozen
   have fl := hM.m9.lt
   have g2 : wr.cell? ⟨ab, ao + 2, none⟩ = some (.int .i64 m.res.a) := (hM.bel.cell (p := ⟨ab, ao + 2, none⟩) HQ.out.1).trans HQ.out.2.2.2.1
   obtain ⟨u9, _, hu9⟩ := ints_at (keepM m [5, 7]) 9 (by omega)
   have f9 : wr.cell? ⟨b9, 9, none⟩ = some (.int .i64 u9) := (hM.m9.cell 9).trans hu9
   clear hu9
   have g3 : wr.cell? ⟨ab, ao + 3, none⟩ = some (.int .i64 m.res.b) := (hM.bel.cell (p := ⟨ab, ao + 3, none⟩) HQ.out.1).trans HQ.out.2.2.2.2.1
   obtain ⟨u10, _, hu10⟩ := ints_at (keepM m [5, 7]) 10 (by omega)
   have f10 : wr.cell? ⟨b9, 10, none⟩ = some (.int .i64 u10) := (hM.m9.cell 10).trans hu10
   clear hu10
   have g4 : wr.cell? ⟨ab, ao + 4, none⟩ = some (.int .i64 m.res.c) := (hM.bel.cell (p := ⟨ab, ao + 4, none⟩) HQ.out.1).trans HQ.out.2.2.2.2.2.1
   obtain ⟨u11, _, hu11⟩ := ints_at (keepM m [5, 7]) 11 (by omega)
   have f11 : wr.cell? ⟨b9, 11, none⟩ = some (.int .i64 u11) := (hM.m9.cell 11).trans hu11
   clear hu11
   have HS := Lib.hid (((hM.step 9 m.res.a (by omega) (by omega) rfl [5, 7, 9] rfl).step 10 m.res.b (by omega) (by omega) rfl [5, 7, 9, 10] rfl).step 11 m.res.c (by omega) (by omega) rfl [5, 7, 9, 10, 11] rfl)
   clear hM
   go_wp2_with fail
   go_region
   all_goals
    go_wp2_with fail
    go_roundw
    case rel => exact .inr (.inr (.inr (⟨by go_num, by go_num, ⟨HS.out.m8, HS.out.m9, HS.out.ne, HS.out.g8, HS.out.g9, ⟨HS.out.bel.os, HS.out.bel.tape, HS.out.bel.output, HS.out.bel.size, HS.out.bel.block⟩⟩⟩)))
    case measure => simp [intOf]
  ·have h9 := hM.m9
   have h8 := hM.m8
   have z2 := hM.m8.frozen
   have l8 := hM.m8.lt
   have l9 := hM.m9.lt
   have y0 := h8.cell 0
   have c0 := h9.cell 0
   have y1 := h8.cell 1
   have c1 := h9.cell 1
   have y2 := h8.cell 2
   have c2 := h9.cell 2
   have y3 := h8.cell 3
   have c3 := h9.cell 3
   have y4 := h8.cell 4
   have c4 := h9.cell 4
   have y5 := h8.cell 5
   have c5 := h9.cell 5
   have y6 := h8.cell 6
   have c6 := h9.cell 6
   have y7 := h8.cell 7
   have c7 := h9.cell 7
   have y8 := h8.cell 8
   have c8 := h9.cell 8
   have y9 := h8.cell 9
   have c9 := h9.cell 9
   have y10 := h8.cell 10
   have c10 := h9.cell 10
   have y11 := h8.cell 11
   have c11 := h9.cell 11
   simp only [List.getElem?_toArray, List.getElem?_cons_zero, List.getElem?_cons_succ] at y0 c0 y1 c1 y2 c2 y3 c3 y4 c4 y5 c5 y6 c6 y7 c7 y8 c8 y9 c9 y10 c10 y11 c11
   have HI2 := Lib.hid hM
   clear hM h8 h9
   go_wp2_with fail
   obtain ⟨hbz, hbe⟩ := lay12 HI2.out.m8 HI2.out.g8 HI2.out.bel (.int .i64 (keepM m [5, 7, 9, 10, 11]).kind) (.int .i64 (keepM m [5, 7, 9, 10, 11]).frm) (.int .i64 (keepM m [5, 7, 9, 10, 11]).to_) (.int .i64 (keepM m [5, 7, 9, 10, 11]).epoch) (.int .i64 (keepM m [5, 7, 9, 10, 11]).inc) (.int .i64 (keepM m [5, 7, 9, 10, 11]).job) (.int .i64 (keepM m [5, 7, 9, 10, 11]).tick) (.int .i64 (keepM m [5, 7, 9, 10, 11]).prio) (.int .i64 (keepM m [5, 7, 9, 10, 11]).code) (.int .i64 (keepM m [5, 7, 9, 10, 11]).res.a) (.int .i64 (keepM m [5, 7, 9, 10, 11]).res.b) (.int .i64 (keepM m [5, 7, 9, 10, 11]).res.c)
   have HZ := Lib.hid hbe
   clear hbe
   generalize ((((((((((((wr.setCell ⟨b8, 0, none⟩ (.int .i64 (keepM m [5, 7, 9, 10, 11]).kind)).setCell ⟨b8, 1, none⟩ (.int .i64 (keepM m [5, 7, 9, 10, 11]).frm)).setCell ⟨b8, 2, none⟩ (.int .i64 (keepM m [5, 7, 9, 10, 11]).to_)).setCell ⟨b8, 3, none⟩ (.int .i64 (keepM m [5, 7, 9, 10, 11]).epoch)).setCell ⟨b8, 4, none⟩ (.int .i64 (keepM m [5, 7, 9, 10, 11]).inc)).setCell ⟨b8, 5, none⟩ (.int .i64 (keepM m [5, 7, 9, 10, 11]).job)).setCell ⟨b8, 6, none⟩ (.int .i64 (keepM m [5, 7, 9, 10, 11]).tick)).setCell ⟨b8, 7, none⟩ (.int .i64 (keepM m [5, 7, 9, 10, 11]).prio)).setCell ⟨b8, 8, none⟩ (.int .i64 (keepM m [5, 7, 9, 10, 11]).code)).setCell ⟨b8, 9, none⟩ (.int .i64 (keepM m [5, 7, 9, 10, 11]).res.a)).setCell ⟨b8, 10, none⟩ (.int .i64 (keepM m [5, 7, 9, 10, 11]).res.b)).setCell ⟨b8, 11, none⟩ (.int .i64 (keepM m [5, 7, 9, 10, 11]).res.c)) = wz at hbz HZ ⊢
   have d0 := hbz.cell 0
   have d1 := hbz.cell 1
   have d2 := hbz.cell 2
   have d3 := hbz.cell 3
   have d4 := hbz.cell 4
   have d5 := hbz.cell 5
   have d6 := hbz.cell 6
   have d7 := hbz.cell 7
   have d8 := hbz.cell 8
   have d9 := hbz.cell 9
   have d10 := hbz.cell 10
   have d11 := hbz.cell 11
   simp only [List.getElem?_toArray, List.getElem?_cons_zero, List.getElem?_cons_succ] at d0 d1 d2 d3 d4 d5 d6 d7 d8 d9 d10 d11
   refine bodyPost_ret (v := aggMsg (keepM m [5, 7, 9, 10, 11])) (by simp [results, Tryd.results96, go_sem, d0, d1, d2, d3, d4, d5, d6, d7, d8, d9, d10, d11]) rfl ⟨rfl, HZ.out⟩
set_option maxRecDepth 100000 in
set_option maxHeartbeats 6400000 in
theorem made_k7 (m : LMsg) (hk : m.kind = 7) (A : Option Addr) (c : Nat) (w : World) (h : RdI w A 1 [m.job]) : Calls Tryd.prog 96 #[.int .i64 7, .int .i64 m.frm, .int .i64 m.to_, .slice A 1 c] w fun e w' => e = .returned (aggMsg (keepM m [5])) ∧ Below w.heap.size w w' := by
 obtain ⟨ab, ao, rfl⟩ : ∃ ab ao, A = some ⟨ab, ao, none⟩ := by
  obtain ⟨b, o, _, e, _⟩ := RdI.at_ h (k := 0) (by omega)
  exact ⟨b, o, e⟩
 obtain ⟨hla, q0⟩ := h.cells_ (k := 0) (x := m.job) rfl
 simp only [Nat.add_zero] at q0
 have HQ := Lib.hid (And.intro hla (And.intro q0 (trivial)))
 clear h hla q0
 have hs1 : (w.alloc (.cells #[.int .i64 0, .int .i64 0, .int .i64 0, .int .i64 0, .int .i64 0, .int .i64 0, .int .i64 0, .int .i64 0, .int .i64 0, .int .i64 0, .int .i64 0, .int .i64 0] 38)).heap.size = w.heap.size + 1 := by simp
 have h8 := (Blk.new w 38 #[.int .i64 0, .int .i64 0, .int .i64 0, .int .i64 0, .int .i64 0, .int .i64 0, .int .i64 0, .int .i64 0, .int .i64 0, .int .i64 0, .int .i64 0, .int .i64 0]).alloc (.cells #[.int .i64 7, .int .i64 m.frm, .int .i64 m.to_, .int .i64 0, .int .i64 0, .int .i64 0, .int .i64 0, .int .i64 0, .int .i64 0, .int .i64 0, .int .i64 0, .int .i64 0] 38)
 have h9 := Blk.new (w.alloc (.cells #[.int .i64 0, .int .i64 0, .int .i64 0, .int .i64 0, .int .i64 0, .int .i64 0, .int .i64 0, .int .i64 0, .int .i64 0, .int .i64 0, .int .i64 0, .int .i64 0] 38)) 38 #[.int .i64 7, .int .i64 m.frm, .int .i64 m.to_, .int .i64 0, .int .i64 0, .int .i64 0, .int .i64 0, .int .i64 0, .int .i64 0, .int .i64 0, .int .i64 0, .int .i64 0]
 rw [hs1] at h9
 have hB : Below w.heap.size w ((w.alloc (.cells #[.int .i64 0, .int .i64 0, .int .i64 0, .int .i64 0, .int .i64 0, .int .i64 0, .int .i64 0, .int .i64 0, .int .i64 0, .int .i64 0, .int .i64 0, .int .i64 0] 38)).alloc (.cells #[.int .i64 7, .int .i64 m.frm, .int .i64 m.to_, .int .i64 0, .int .i64 0, .int .i64 0, .int .i64 0, .int .i64 0, .int .i64 0, .int .i64 0, .int .i64 0, .int .i64 0] 38)) := ((Below.refl _ _).alloc (Nat.le_refl _) _).alloc (by simp) _
 have hM : MI w ((w.alloc (.cells #[.int .i64 0, .int .i64 0, .int .i64 0, .int .i64 0, .int .i64 0, .int .i64 0, .int .i64 0, .int .i64 0, .int .i64 0, .int .i64 0, .int .i64 0, .int .i64 0] 38)).alloc (.cells #[.int .i64 7, .int .i64 m.frm, .int .i64 m.to_, .int .i64 0, .int .i64 0, .int .i64 0, .int .i64 0, .int .i64 0, .int .i64 0, .int .i64 0, .int .i64 0, .int .i64 0] 38)) w.heap.size (w.heap.size + 1) m [] := ⟨h8, by rw [keepM_nil, hk]; exact h9, by omega, by omega, by omega, hB⟩
 have H0 := Lib.hid hM
 have HK := Lib.hid hk
 clear hs1 h8 h9 hB hM hk
 go_enter Tryd.func96, Tryd.ntmps96
 go_wp2_with fail
 generalize (w.alloc (.cells #[.int .i64 0, .int .i64 0, .int .i64 0, .int .i64 0, .int .i64 0, .int .i64 0, .int .i64 0, .int .i64 0, .int .i64 0, .int .i64 0, .int .i64 0, .int .i64 0] 38)).alloc (.cells #[.int .i64 7, .int .i64 m.frm, .int .i64 m.to_, .int .i64 0, .int .i64 0, .int .i64 0, .int .i64 0, .int .i64 0, .int .i64 0, .int .i64 0, .int .i64 0, .int .i64 0] 38) = w1 at H0 ⊢
 obtain ⟨b8, hb8⟩ : ∃ b8, w.heap.size = b8 := ⟨_, rfl⟩
 obtain ⟨b9, hb9⟩ : ∃ b9, w.heap.size + 1 = b9 := ⟨_, rfl⟩
 have h1 : MI w w1 b8 b9 m [] := by rw [← hb8, ← hb9]; exact H0.out
 try simp only [hb9]
 try simp only [hb8]
 have hb98 : b8 + 1 = b9 := by omega
 try simp only [hb98]
 (with_reducible refine (rnames_k7 w1).mono ?_)
 rintro e w2 ⟨rfl, hB2⟩
 have hlt8 := h1.m8.lt
 have hlt9 := h1.m9.lt
 have H2 := Lib.hid (show MI w w2 b8 b9 m [] from ⟨h1.m8.below hB2 h1.m8.lt, h1.m9.below hB2 h1.m9.lt, h1.ne, h1.g8, h1.g9, h1.bel.trans (hB2.mono h1.bel.size)⟩)
 clear h1 hb8 hb9 hb98 H0 hB2 hlt8 hlt9
 go_wp2
 go_loopw [11, 12] (fun kk i wr => (i = .int .i64 0 ∧ kk = .int .i64 0 ∧ MI w wr b8 b9 m []) ∨ (i = .int .i64 1 ∧ kk = .int .i64 1 ∧ MI w wr b8 b9 m [5])) (fun _ i _ => 1 - (intOf i).toNat)
 case atStart => exact .inl ⟨rfl, rfl, H2.out⟩
 case round =>
  rcases hrel with ⟨rfl, rfl, hM⟩ | ⟨rfl, rfl, hM⟩
  ·have fz := hM.m9.frozen
   have fl := hM.m9.lt
   have g0 : wr.cell? ⟨ab, ao, none⟩ = some (.int .i64 m.job) := (hM.bel.cell (p := ⟨ab, ao, none⟩) HQ.out.1).trans HQ.out.2.1
   obtain ⟨u5, _, hu5⟩ := ints_at (keepM m []) 5 (by omega)
   have f5 : wr.cell? ⟨b9, 5, none⟩ = some (.int .i64 u5) := (hM.m9.cell 5).trans hu5
   clear hu5
   have HS := Lib.hid (hM.step 5 m.job (by omega) (by omega) rfl [5] rfl)
   clear hM
   go_wp2_with fail
   go_roundw
   case rel => exact .inr (⟨by go_num, by go_num, HS.out⟩)
   case measure => simp [intOf]
  ·have h9 := hM.m9
   have h8 := hM.m8
   have z2 := hM.m8.frozen
   have l8 := hM.m8.lt
   have l9 := hM.m9.lt
   have y0 := h8.cell 0
   have c0 := h9.cell 0
   have y1 := h8.cell 1
   have c1 := h9.cell 1
   have y2 := h8.cell 2
   have c2 := h9.cell 2
   have y3 := h8.cell 3
   have c3 := h9.cell 3
   have y4 := h8.cell 4
   have c4 := h9.cell 4
   have y5 := h8.cell 5
   have c5 := h9.cell 5
   have y6 := h8.cell 6
   have c6 := h9.cell 6
   have y7 := h8.cell 7
   have c7 := h9.cell 7
   have y8 := h8.cell 8
   have c8 := h9.cell 8
   have y9 := h8.cell 9
   have c9 := h9.cell 9
   have y10 := h8.cell 10
   have c10 := h9.cell 10
   have y11 := h8.cell 11
   have c11 := h9.cell 11
   simp only [List.getElem?_toArray, List.getElem?_cons_zero, List.getElem?_cons_succ] at y0 c0 y1 c1 y2 c2 y3 c3 y4 c4 y5 c5 y6 c6 y7 c7 y8 c8 y9 c9 y10 c10 y11 c11
   have HI2 := Lib.hid hM
   clear hM h8 h9
   go_wp2_with fail
   obtain ⟨hbz, hbe⟩ := lay12 HI2.out.m8 HI2.out.g8 HI2.out.bel (.int .i64 (keepM m [5]).kind) (.int .i64 (keepM m [5]).frm) (.int .i64 (keepM m [5]).to_) (.int .i64 (keepM m [5]).epoch) (.int .i64 (keepM m [5]).inc) (.int .i64 (keepM m [5]).job) (.int .i64 (keepM m [5]).tick) (.int .i64 (keepM m [5]).prio) (.int .i64 (keepM m [5]).code) (.int .i64 (keepM m [5]).res.a) (.int .i64 (keepM m [5]).res.b) (.int .i64 (keepM m [5]).res.c)
   have HZ := Lib.hid hbe
   clear hbe
   generalize ((((((((((((wr.setCell ⟨b8, 0, none⟩ (.int .i64 (keepM m [5]).kind)).setCell ⟨b8, 1, none⟩ (.int .i64 (keepM m [5]).frm)).setCell ⟨b8, 2, none⟩ (.int .i64 (keepM m [5]).to_)).setCell ⟨b8, 3, none⟩ (.int .i64 (keepM m [5]).epoch)).setCell ⟨b8, 4, none⟩ (.int .i64 (keepM m [5]).inc)).setCell ⟨b8, 5, none⟩ (.int .i64 (keepM m [5]).job)).setCell ⟨b8, 6, none⟩ (.int .i64 (keepM m [5]).tick)).setCell ⟨b8, 7, none⟩ (.int .i64 (keepM m [5]).prio)).setCell ⟨b8, 8, none⟩ (.int .i64 (keepM m [5]).code)).setCell ⟨b8, 9, none⟩ (.int .i64 (keepM m [5]).res.a)).setCell ⟨b8, 10, none⟩ (.int .i64 (keepM m [5]).res.b)).setCell ⟨b8, 11, none⟩ (.int .i64 (keepM m [5]).res.c)) = wz at hbz HZ ⊢
   have d0 := hbz.cell 0
   have d1 := hbz.cell 1
   have d2 := hbz.cell 2
   have d3 := hbz.cell 3
   have d4 := hbz.cell 4
   have d5 := hbz.cell 5
   have d6 := hbz.cell 6
   have d7 := hbz.cell 7
   have d8 := hbz.cell 8
   have d9 := hbz.cell 9
   have d10 := hbz.cell 10
   have d11 := hbz.cell 11
   simp only [List.getElem?_toArray, List.getElem?_cons_zero, List.getElem?_cons_succ] at d0 d1 d2 d3 d4 d5 d6 d7 d8 d9 d10 d11
   refine bodyPost_ret (v := aggMsg (keepM m [5])) (by simp [results, Tryd.results96, go_sem, d0, d1, d2, d3, d4, d5, d6, d7, d8, d9, d10, d11]) rfl ⟨rfl, HZ.out⟩
set_option maxRecDepth 100000 in
set_option maxHeartbeats 6400000 in
theorem made_k8 (m : LMsg) (hk : m.kind = 8) (A : Option Addr) (c : Nat) (w : World) (h : RdI w A 2 [m.job, m.code]) : Calls Tryd.prog 96 #[.int .i64 8, .int .i64 m.frm, .int .i64 m.to_, .slice A 2 c] w fun e w' => e = .returned (aggMsg (keepM m [5, 8])) ∧ Below w.heap.size w w' := by
 obtain ⟨ab, ao, rfl⟩ : ∃ ab ao, A = some ⟨ab, ao, none⟩ := by
  obtain ⟨b, o, _, e, _⟩ := RdI.at_ h (k := 0) (by omega)
  exact ⟨b, o, e⟩
 obtain ⟨hla, q0⟩ := h.cells_ (k := 0) (x := m.job) rfl
 obtain ⟨hla1, q1⟩ := h.cells_ (k := 1) (x := m.code) rfl
 simp only [Nat.add_zero] at q0
 have HQ := Lib.hid (And.intro hla (And.intro q0 (And.intro q1 (trivial))))
 clear h hla hla1 q0 q1
 have hs1 : (w.alloc (.cells #[.int .i64 0, .int .i64 0, .int .i64 0, .int .i64 0, .int .i64 0, .int .i64 0, .int .i64 0, .int .i64 0, .int .i64 0, .int .i64 0, .int .i64 0, .int .i64 0] 38)).heap.size = w.heap.size + 1 := by simp
 have h8 := (Blk.new w 38 #[.int .i64 0, .int .i64 0, .int .i64 0, .int .i64 0, .int .i64 0, .int .i64 0, .int .i64 0, .int .i64 0, .int .i64 0, .int .i64 0, .int .i64 0, .int .i64 0]).alloc (.cells #[.int .i64 8, .int .i64 m.frm, .int .i64 m.to_, .int .i64 0, .int .i64 0, .int .i64 0, .int .i64 0, .int .i64 0, .int .i64 0, .int .i64 0, .int .i64 0, .int .i64 0] 38)
 have h9 := Blk.new (w.alloc (.cells #[.int .i64 0, .int .i64 0, .int .i64 0, .int .i64 0, .int .i64 0, .int .i64 0, .int .i64 0, .int .i64 0, .int .i64 0, .int .i64 0, .int .i64 0, .int .i64 0] 38)) 38 #[.int .i64 8, .int .i64 m.frm, .int .i64 m.to_, .int .i64 0, .int .i64 0, .int .i64 0, .int .i64 0, .int .i64 0, .int .i64 0, .int .i64 0, .int .i64 0, .int .i64 0]
 rw [hs1] at h9
 have hB : Below w.heap.size w ((w.alloc (.cells #[.int .i64 0, .int .i64 0, .int .i64 0, .int .i64 0, .int .i64 0, .int .i64 0, .int .i64 0, .int .i64 0, .int .i64 0, .int .i64 0, .int .i64 0, .int .i64 0] 38)).alloc (.cells #[.int .i64 8, .int .i64 m.frm, .int .i64 m.to_, .int .i64 0, .int .i64 0, .int .i64 0, .int .i64 0, .int .i64 0, .int .i64 0, .int .i64 0, .int .i64 0, .int .i64 0] 38)) := ((Below.refl _ _).alloc (Nat.le_refl _) _).alloc (by simp) _
 have hM : MI w ((w.alloc (.cells #[.int .i64 0, .int .i64 0, .int .i64 0, .int .i64 0, .int .i64 0, .int .i64 0, .int .i64 0, .int .i64 0, .int .i64 0, .int .i64 0, .int .i64 0, .int .i64 0] 38)).alloc (.cells #[.int .i64 8, .int .i64 m.frm, .int .i64 m.to_, .int .i64 0, .int .i64 0, .int .i64 0, .int .i64 0, .int .i64 0, .int .i64 0, .int .i64 0, .int .i64 0, .int .i64 0] 38)) w.heap.size (w.heap.size + 1) m [] := ⟨h8, by rw [keepM_nil, hk]; exact h9, by omega, by omega, by omega, hB⟩
 have H0 := Lib.hid hM
 have HK := Lib.hid hk
 clear hs1 h8 h9 hB hM hk
 go_enter Tryd.func96, Tryd.ntmps96
 go_wp2_with fail
 generalize (w.alloc (.cells #[.int .i64 0, .int .i64 0, .int .i64 0, .int .i64 0, .int .i64 0, .int .i64 0, .int .i64 0, .int .i64 0, .int .i64 0, .int .i64 0, .int .i64 0, .int .i64 0] 38)).alloc (.cells #[.int .i64 8, .int .i64 m.frm, .int .i64 m.to_, .int .i64 0, .int .i64 0, .int .i64 0, .int .i64 0, .int .i64 0, .int .i64 0, .int .i64 0, .int .i64 0, .int .i64 0] 38) = w1 at H0 ⊢
 obtain ⟨b8, hb8⟩ : ∃ b8, w.heap.size = b8 := ⟨_, rfl⟩
 obtain ⟨b9, hb9⟩ : ∃ b9, w.heap.size + 1 = b9 := ⟨_, rfl⟩
 have h1 : MI w w1 b8 b9 m [] := by rw [← hb8, ← hb9]; exact H0.out
 try simp only [hb9]
 try simp only [hb8]
 have hb98 : b8 + 1 = b9 := by omega
 try simp only [hb98]
 (with_reducible refine (rnames_k8 w1).mono ?_)
 rintro e w2 ⟨rfl, hB2⟩
 have hlt8 := h1.m8.lt
 have hlt9 := h1.m9.lt
 have H2 := Lib.hid (show MI w w2 b8 b9 m [] from ⟨h1.m8.below hB2 h1.m8.lt, h1.m9.below hB2 h1.m9.lt, h1.ne, h1.g8, h1.g9, h1.bel.trans (hB2.mono h1.bel.size)⟩)
 clear h1 hb8 hb9 hb98 H0 hB2 hlt8 hlt9
 go_wp2
 go_loopw [11, 12] (fun kk i wr => (i = .int .i64 0 ∧ kk = .int .i64 0 ∧ MI w wr b8 b9 m []) ∨ (i = .int .i64 1 ∧ kk = .int .i64 1 ∧ MI w wr b8 b9 m [5]) ∨ (i = .int .i64 2 ∧ kk = .int .i64 2 ∧ MI w wr b8 b9 m [5, 8])) (fun _ i _ => 2 - (intOf i).toNat)
 case atStart => exact .inl ⟨rfl, rfl, H2.out⟩
 case round =>
  rcases hrel with ⟨rfl, rfl, hM⟩ | ⟨rfl, rfl, hM⟩ | ⟨rfl, rfl, hM⟩
  ·have fz := hM.m9.frozen
   have fl := hM.m9.lt
   have g0 : wr.cell? ⟨ab, ao, none⟩ = some (.int .i64 m.job) := (hM.bel.cell (p := ⟨ab, ao, none⟩) HQ.out.1).trans HQ.out.2.1
   obtain ⟨u5, _, hu5⟩ := ints_at (keepM m []) 5 (by omega)
   have f5 : wr.cell? ⟨b9, 5, none⟩ = some (.int .i64 u5) := (hM.m9.cell 5).trans hu5
   clear hu5
   have HS := Lib.hid (hM.step 5 m.job (by omega) (by omega) rfl [5] rfl)
   clear hM
   go_wp2_with fail
   go_roundw
   case rel => exact .inr (.inl ⟨by go_num, by go_num, HS.out⟩)
   case measure => simp [intOf]
  ·have fz := hM.m9.frozen
   have fl := hM.m9.lt
   have g1 : wr.cell? ⟨ab, ao + 1, none⟩ = some (.int .i64 m.code) := (hM.bel.cell (p := ⟨ab, ao + 1, none⟩) HQ.out.1).trans HQ.out.2.2.1
   obtain ⟨u8, _, hu8⟩ := ints_at (keepM m [5]) 8 (by omega)
   have f8 : wr.cell? ⟨b9, 8, none⟩ = some (.int .i64 u8) := (hM.m9.cell 8).trans hu8
   clear hu8
   have HS := Lib.hid (hM.step 8 m.code (by omega) (by omega) rfl [5, 8] rfl)
   clear hM
   go_wp2_with fail
   go_roundw
   case rel => exact .inr (.inr (⟨by go_num, by go_num, HS.out⟩))
   case measure => simp [intOf]
  ·have h9 := hM.m9
   have h8 := hM.m8
   have z2 := hM.m8.frozen
   have l8 := hM.m8.lt
   have l9 := hM.m9.lt
   have y0 := h8.cell 0
   have c0 := h9.cell 0
   have y1 := h8.cell 1
   have c1 := h9.cell 1
   have y2 := h8.cell 2
   have c2 := h9.cell 2
   have y3 := h8.cell 3
   have c3 := h9.cell 3
   have y4 := h8.cell 4
   have c4 := h9.cell 4
   have y5 := h8.cell 5
   have c5 := h9.cell 5
   have y6 := h8.cell 6
   have c6 := h9.cell 6
   have y7 := h8.cell 7
   have c7 := h9.cell 7
   have y8 := h8.cell 8
   have c8 := h9.cell 8
   have y9 := h8.cell 9
   have c9 := h9.cell 9
   have y10 := h8.cell 10
   have c10 := h9.cell 10
   have y11 := h8.cell 11
   have c11 := h9.cell 11
   simp only [List.getElem?_toArray, List.getElem?_cons_zero, List.getElem?_cons_succ] at y0 c0 y1 c1 y2 c2 y3 c3 y4 c4 y5 c5 y6 c6 y7 c7 y8 c8 y9 c9 y10 c10 y11 c11
   have HI2 := Lib.hid hM
   clear hM h8 h9
   go_wp2_with fail
   obtain ⟨hbz, hbe⟩ := lay12 HI2.out.m8 HI2.out.g8 HI2.out.bel (.int .i64 (keepM m [5, 8]).kind) (.int .i64 (keepM m [5, 8]).frm) (.int .i64 (keepM m [5, 8]).to_) (.int .i64 (keepM m [5, 8]).epoch) (.int .i64 (keepM m [5, 8]).inc) (.int .i64 (keepM m [5, 8]).job) (.int .i64 (keepM m [5, 8]).tick) (.int .i64 (keepM m [5, 8]).prio) (.int .i64 (keepM m [5, 8]).code) (.int .i64 (keepM m [5, 8]).res.a) (.int .i64 (keepM m [5, 8]).res.b) (.int .i64 (keepM m [5, 8]).res.c)
   have HZ := Lib.hid hbe
   clear hbe
   generalize ((((((((((((wr.setCell ⟨b8, 0, none⟩ (.int .i64 (keepM m [5, 8]).kind)).setCell ⟨b8, 1, none⟩ (.int .i64 (keepM m [5, 8]).frm)).setCell ⟨b8, 2, none⟩ (.int .i64 (keepM m [5, 8]).to_)).setCell ⟨b8, 3, none⟩ (.int .i64 (keepM m [5, 8]).epoch)).setCell ⟨b8, 4, none⟩ (.int .i64 (keepM m [5, 8]).inc)).setCell ⟨b8, 5, none⟩ (.int .i64 (keepM m [5, 8]).job)).setCell ⟨b8, 6, none⟩ (.int .i64 (keepM m [5, 8]).tick)).setCell ⟨b8, 7, none⟩ (.int .i64 (keepM m [5, 8]).prio)).setCell ⟨b8, 8, none⟩ (.int .i64 (keepM m [5, 8]).code)).setCell ⟨b8, 9, none⟩ (.int .i64 (keepM m [5, 8]).res.a)).setCell ⟨b8, 10, none⟩ (.int .i64 (keepM m [5, 8]).res.b)).setCell ⟨b8, 11, none⟩ (.int .i64 (keepM m [5, 8]).res.c)) = wz at hbz HZ ⊢
   have d0 := hbz.cell 0
   have d1 := hbz.cell 1
   have d2 := hbz.cell 2
   have d3 := hbz.cell 3
   have d4 := hbz.cell 4
   have d5 := hbz.cell 5
   have d6 := hbz.cell 6
   have d7 := hbz.cell 7
   have d8 := hbz.cell 8
   have d9 := hbz.cell 9
   have d10 := hbz.cell 10
   have d11 := hbz.cell 11
   simp only [List.getElem?_toArray, List.getElem?_cons_zero, List.getElem?_cons_succ] at d0 d1 d2 d3 d4 d5 d6 d7 d8 d9 d10 d11
   refine bodyPost_ret (v := aggMsg (keepM m [5, 8])) (by simp [results, Tryd.results96, go_sem, d0, d1, d2, d3, d4, d5, d6, d7, d8, d9, d10, d11]) rfl ⟨rfl, HZ.out⟩
end Go.Proofs.YthhnocnkicoimaaDoor
namespace Go.Proofs.YthhnocnkicoimaaDoor
open Go.RowKit

set_option maxRecDepth 100000 in
set_option maxHeartbeats 6400000 in
theorem rpure_k1 (m : LMsg) (hk : m.kind = 1) (w : World) : Calls Tryd.prog 77 #[aggMsg m] w fun e w' => e = .returned (aggMsg (keepM m [4, 6, 9, 10, 11])) ∧ Below w.heap.size w w' := by
 have hs1 : (w.alloc (.cells (boxMsg m) 38)).heap.size = w.heap.size + 1 := by simp
 have h1 := (Blk.new w 38 (boxMsg m)).alloc (.cells #[.int .i64 0, .int .i64 0, .int .i64 0, .int .i64 0, .int .i64 0, .int .i64 0, .int .i64 0, .int .i64 0, .int .i64 0, .int .i64 0, .int .i64 0, .int .i64 0] 38)
 have h2 := Blk.new (w.alloc (.cells (boxMsg m) 38)) 38 #[.int .i64 0, .int .i64 0, .int .i64 0, .int .i64 0, .int .i64 0, .int .i64 0, .int .i64 0, .int .i64 0, .int .i64 0, .int .i64 0, .int .i64 0, .int .i64 0]
 rw [hs1] at h2
 have hB : Below w.heap.size w ((w.alloc (.cells (boxMsg m) 38)).alloc (.cells #[.int .i64 0, .int .i64 0, .int .i64 0, .int .i64 0, .int .i64 0, .int .i64 0, .int .i64 0, .int .i64 0, .int .i64 0, .int .i64 0, .int .i64 0, .int .i64 0] 38)) := ((Below.refl _ _).alloc (Nat.le_refl _) _).alloc (by simp) _
 have c0 : ((w.alloc (.cells (boxMsg m) 38)).alloc (.cells #[.int .i64 0, .int .i64 0, .int .i64 0, .int .i64 0, .int .i64 0, .int .i64 0, .int .i64 0, .int .i64 0, .int .i64 0, .int .i64 0, .int .i64 0, .int .i64 0] 38)).cell? ⟨w.heap.size, 0, none⟩ = some (.int .i64 1) := by rw [← hk]; exact (h1.cell 0).trans rfl
 have H0 := Lib.hid (And.intro h1 (And.intro h2 hB))
 have HK0 := Lib.hid hk
 clear hs1 h1 h2 hB hk
 go_enter Tryd.func77, Tryd.ntmps77
 go_wp2_with fail
 generalize (w.alloc (.cells (boxMsg m) 38)).alloc (.cells #[.int .i64 0, .int .i64 0, .int .i64 0, .int .i64 0, .int .i64 0, .int .i64 0, .int .i64 0, .int .i64 0, .int .i64 0, .int .i64 0, .int .i64 0, .int .i64 0] 38) = w1 at H0 c0 ⊢
 obtain ⟨b1, hb1⟩ : ∃ b1, w.heap.size = b1 := ⟨_, rfl⟩
 have h1 : Blk w1 b1 38 (boxMsg m) := by rw [← hb1]; exact H0.out.1
 have h2 : Blk w1 (b1 + 1) 38 #[.int .i64 0, .int .i64 0, .int .i64 0, .int .i64 0, .int .i64 0, .int .i64 0, .int .i64 0, .int .i64 0, .int .i64 0, .int .i64 0, .int .i64 0, .int .i64 0] := by rw [← hb1]; exact H0.out.2.1
 rw [hb1] at c0
 have HG := Lib.hid (show w.heap.size ≤ b1 + 1 by omega)
 try simp only [hb1]
 go_wp2_with fail
 (with_reducible refine (rnames_k1 w1).mono ?_)
 rintro e w2 ⟨rfl, hB2⟩
 have H2 := Lib.hid (And.intro (h1.below hB2 h1.lt) (And.intro (h2.below hB2 h2.lt) (H0.out.2.2.trans (hB2.mono H0.out.2.2.size))))
 clear h1 h2 hb1 H0 c0 hB2
 have z2 := H2.out.2.1.frozen
 have l2 := H2.out.2.1.lt
 have l1 := H2.out.1.lt
 have HKS : Hid (∀ W, Below w2.heap.size w2 W → (fun w' => w'.cell? ⟨b1, 0, none⟩ = some (.int .i64 m.kind) ∧ w'.cell? ⟨b1, 1, none⟩ = some (.int .i64 m.frm) ∧ w'.cell? ⟨b1, 2, none⟩ = some (.int .i64 m.to_) ∧ w'.cell? ⟨b1, 3, none⟩ = some (.int .i64 m.epoch) ∧ w'.cell? ⟨b1, 4, none⟩ = some (.int .i64 m.inc) ∧ w'.cell? ⟨b1, 5, none⟩ = some (.int .i64 m.job) ∧ w'.cell? ⟨b1, 6, none⟩ = some (.int .i64 m.tick) ∧ w'.cell? ⟨b1, 7, none⟩ = some (.int .i64 m.prio) ∧ w'.cell? ⟨b1, 8, none⟩ = some (.int .i64 m.code) ∧ w'.cell? ⟨b1, 9, none⟩ = some (.int .i64 m.res.a) ∧ w'.cell? ⟨b1, 10, none⟩ = some (.int .i64 m.res.b) ∧ w'.cell? ⟨b1, 11, none⟩ = some (.int .i64 m.res.c)) W) := Lib.hid (fun W hb => ⟨((H2.out.1.below hb H2.out.1.lt).cell 0).trans rfl, ((H2.out.1.below hb H2.out.1.lt).cell 1).trans rfl, ((H2.out.1.below hb H2.out.1.lt).cell 2).trans rfl, ((H2.out.1.below hb H2.out.1.lt).cell 3).trans rfl, ((H2.out.1.below hb H2.out.1.lt).cell 4).trans rfl, ((H2.out.1.below hb H2.out.1.lt).cell 5).trans rfl, ((H2.out.1.below hb H2.out.1.lt).cell 6).trans rfl, ((H2.out.1.below hb H2.out.1.lt).cell 7).trans rfl, ((H2.out.1.below hb H2.out.1.lt).cell 8).trans rfl, ((H2.out.1.below hb H2.out.1.lt).cell 9).trans rfl, ((H2.out.1.below hb H2.out.1.lt).cell 10).trans rfl, ((H2.out.1.below hb H2.out.1.lt).cell 11).trans rfl⟩)
 obtain ⟨c0, c1, c2, c3, c4, c5, c6, c7, c8, c9, c10, c11⟩ := HKS.out w2 (Below.refl _ _)
 go_wp2_with fail
 go_region_held3 (fun w' => w'.cell? ⟨b1, 0, none⟩ = some (.int .i64 m.kind) ∧ w'.cell? ⟨b1, 1, none⟩ = some (.int .i64 m.frm) ∧ w'.cell? ⟨b1, 2, none⟩ = some (.int .i64 m.to_) ∧ w'.cell? ⟨b1, 3, none⟩ = some (.int .i64 m.epoch) ∧ w'.cell? ⟨b1, 4, none⟩ = some (.int .i64 m.inc) ∧ w'.cell? ⟨b1, 5, none⟩ = some (.int .i64 m.job) ∧ w'.cell? ⟨b1, 6, none⟩ = some (.int .i64 m.tick) ∧ w'.cell? ⟨b1, 7, none⟩ = some (.int .i64 m.prio) ∧ w'.cell? ⟨b1, 8, none⟩ = some (.int .i64 m.code) ∧ w'.cell? ⟨b1, 9, none⟩ = some (.int .i64 m.res.a) ∧ w'.cell? ⟨b1, 10, none⟩ = some (.int .i64 m.res.b) ∧ w'.cell? ⟨b1, 11, none⟩ = some (.int .i64 m.res.c)) (first | with_reducible exact ⟨c0, c1, c2, c3, c4, c5, c6, c7, c8, c9, c10, c11⟩ | with_reducible exact HKS.out _ HB3.out | with_reducible exact HKS.out _ HB4.out | go_keep)
  ((first
   | (go_at_call 97; (with_reducible refine (rnum_k1 m HK0.out _).mono ?_); rintro e w3 ⟨A3, n3, rfl, hr3, hB3⟩; have HB3 := Lib.hid (show Below w2.heap.size w2 w3 from ⟨hB3.os, hB3.tape, hB3.output, hB3.size, hB3.block⟩); have HR3 := Lib.hid hr3; clear hB3 hr3)
   | (go_at_call 96; have hcx := made_k1 m HK0.out A3 n3 w3 HR3.out; rw [← HK0.out] at hcx; (with_reducible refine hcx.mono ?_); clear hcx; rintro e w4 ⟨rfl, hB4⟩; have HB4 := Lib.hid (HB3.out.trans (hB4.mono HB3.out.size)); clear hB4; have hx4 := H2.out.2.1.below HB4.out H2.out.2.1.lt; have z4 := hx4.frozen; have l4 := hx4.lt; have y0 : w4.cell? ⟨b1 + 1, 0, none⟩ = some (.int .i64 0) := hx4.cell 0; have y1 : w4.cell? ⟨b1 + 1, 1, none⟩ = some (.int .i64 0) := hx4.cell 1; have y2 : w4.cell? ⟨b1 + 1, 2, none⟩ = some (.int .i64 0) := hx4.cell 2; have y3 : w4.cell? ⟨b1 + 1, 3, none⟩ = some (.int .i64 0) := hx4.cell 3; have y4 : w4.cell? ⟨b1 + 1, 4, none⟩ = some (.int .i64 0) := hx4.cell 4; have y5 : w4.cell? ⟨b1 + 1, 5, none⟩ = some (.int .i64 0) := hx4.cell 5; have y6 : w4.cell? ⟨b1 + 1, 6, none⟩ = some (.int .i64 0) := hx4.cell 6; have y7 : w4.cell? ⟨b1 + 1, 7, none⟩ = some (.int .i64 0) := hx4.cell 7; have y8 : w4.cell? ⟨b1 + 1, 8, none⟩ = some (.int .i64 0) := hx4.cell 8; have y9 : w4.cell? ⟨b1 + 1, 9, none⟩ = some (.int .i64 0) := hx4.cell 9; have y10 : w4.cell? ⟨b1 + 1, 10, none⟩ = some (.int .i64 0) := hx4.cell 10; have y11 : w4.cell? ⟨b1 + 1, 11, none⟩ = some (.int .i64 0) := hx4.cell 11; clear hx4)))
 all_goals
  go_wp2_with fail
  obtain ⟨hbz, hbe⟩ := lay12 (H2.out.2.1.below HB4.out H2.out.2.1.lt) HG.out (H2.out.2.2.trans (HB4.out.mono H2.out.2.2.size)) (.int .i64 (keepM m [4, 6, 9, 10, 11]).kind) (.int .i64 (keepM m [4, 6, 9, 10, 11]).frm) (.int .i64 (keepM m [4, 6, 9, 10, 11]).to_) (.int .i64 (keepM m [4, 6, 9, 10, 11]).epoch) (.int .i64 (keepM m [4, 6, 9, 10, 11]).inc) (.int .i64 (keepM m [4, 6, 9, 10, 11]).job) (.int .i64 (keepM m [4, 6, 9, 10, 11]).tick) (.int .i64 (keepM m [4, 6, 9, 10, 11]).prio) (.int .i64 (keepM m [4, 6, 9, 10, 11]).code) (.int .i64 (keepM m [4, 6, 9, 10, 11]).res.a) (.int .i64 (keepM m [4, 6, 9, 10, 11]).res.b) (.int .i64 (keepM m [4, 6, 9, 10, 11]).res.c)
  have HZ := Lib.hid hbe
  clear hbe
  generalize ((((((((((((w4.setCell ⟨b1 + 1, 0, none⟩ (.int .i64 (keepM m [4, 6, 9, 10, 11]).kind)).setCell ⟨b1 + 1, 1, none⟩ (.int .i64 (keepM m [4, 6, 9, 10, 11]).frm)).setCell ⟨b1 + 1, 2, none⟩ (.int .i64 (keepM m [4, 6, 9, 10, 11]).to_)).setCell ⟨b1 + 1, 3, none⟩ (.int .i64 (keepM m [4, 6, 9, 10, 11]).epoch)).setCell ⟨b1 + 1, 4, none⟩ (.int .i64 (keepM m [4, 6, 9, 10, 11]).inc)).setCell ⟨b1 + 1, 5, none⟩ (.int .i64 (keepM m [4, 6, 9, 10, 11]).job)).setCell ⟨b1 + 1, 6, none⟩ (.int .i64 (keepM m [4, 6, 9, 10, 11]).tick)).setCell ⟨b1 + 1, 7, none⟩ (.int .i64 (keepM m [4, 6, 9, 10, 11]).prio)).setCell ⟨b1 + 1, 8, none⟩ (.int .i64 (keepM m [4, 6, 9, 10, 11]).code)).setCell ⟨b1 + 1, 9, none⟩ (.int .i64 (keepM m [4, 6, 9, 10, 11]).res.a)).setCell ⟨b1 + 1, 10, none⟩ (.int .i64 (keepM m [4, 6, 9, 10, 11]).res.b)).setCell ⟨b1 + 1, 11, none⟩ (.int .i64 (keepM m [4, 6, 9, 10, 11]).res.c)) = wz at hbz HZ ⊢
  have d0 := hbz.cell 0
  have d1 := hbz.cell 1
  have d2 := hbz.cell 2
  have d3 := hbz.cell 3
  have d4 := hbz.cell 4
  have d5 := hbz.cell 5
  have d6 := hbz.cell 6
  have d7 := hbz.cell 7
  have d8 := hbz.cell 8
  have d9 := hbz.cell 9
  have d10 := hbz.cell 10
  have d11 := hbz.cell 11
  simp only [List.getElem?_toArray, List.getElem?_cons_zero, List.getElem?_cons_succ] at d0 d1 d2 d3 d4 d5 d6 d7 d8 d9 d10 d11
  refine bodyPost_ret (v := aggMsg (keepM m [4, 6, 9, 10, 11])) (by simp [results, Tryd.results77, go_sem, d0, d1, d2, d3, d4, d5, d6, d7, d8, d9, d10, d11]) rfl ⟨rfl, HZ.out⟩
set_option maxRecDepth 100000 in
set_option maxHeartbeats 6400000 in
theorem rpure_k2 (m : LMsg) (hk : m.kind = 2) (w : World) : Calls Tryd.prog 77 #[aggMsg m] w fun e w' => e = .returned (aggMsg (keepM m [3, 4, 6])) ∧ Below w.heap.size w w' := by
 have hs1 : (w.alloc (.cells (boxMsg m) 38)).heap.size = w.heap.size + 1 := by simp
 have h1 := (Blk.new w 38 (boxMsg m)).alloc (.cells #[.int .i64 0, .int .i64 0, .int .i64 0, .int .i64 0, .int .i64 0, .int .i64 0, .int .i64 0, .int .i64 0, .int .i64 0, .int .i64 0, .int .i64 0, .int .i64 0] 38)
 have h2 := Blk.new (w.alloc (.cells (boxMsg m) 38)) 38 #[.int .i64 0, .int .i64 0, .int .i64 0, .int .i64 0, .int .i64 0, .int .i64 0, .int .i64 0, .int .i64 0, .int .i64 0, .int .i64 0, .int .i64 0, .int .i64 0]
 rw [hs1] at h2
 have hB : Below w.heap.size w ((w.alloc (.cells (boxMsg m) 38)).alloc (.cells #[.int .i64 0, .int .i64 0, .int .i64 0, .int .i64 0, .int .i64 0, .int .i64 0, .int .i64 0, .int .i64 0, .int .i64 0, .int .i64 0, .int .i64 0, .int .i64 0] 38)) := ((Below.refl _ _).alloc (Nat.le_refl _) _).alloc (by simp) _
 have c0 : ((w.alloc (.cells (boxMsg m) 38)).alloc (.cells #[.int .i64 0, .int .i64 0, .int .i64 0, .int .i64 0, .int .i64 0, .int .i64 0, .int .i64 0, .int .i64 0, .int .i64 0, .int .i64 0, .int .i64 0, .int .i64 0] 38)).cell? ⟨w.heap.size, 0, none⟩ = some (.int .i64 2) := by rw [← hk]; exact (h1.cell 0).trans rfl
 have H0 := Lib.hid (And.intro h1 (And.intro h2 hB))
 have HK0 := Lib.hid hk
 clear hs1 h1 h2 hB hk
 go_enter Tryd.func77, Tryd.ntmps77
 go_wp2_with fail
 generalize (w.alloc (.cells (boxMsg m) 38)).alloc (.cells #[.int .i64 0, .int .i64 0, .int .i64 0, .int .i64 0, .int .i64 0, .int .i64 0, .int .i64 0, .int .i64 0, .int .i64 0, .int .i64 0, .int .i64 0, .int .i64 0] 38) = w1 at H0 c0 ⊢
 obtain ⟨b1, hb1⟩ : ∃ b1, w.heap.size = b1 := ⟨_, rfl⟩
 have h1 : Blk w1 b1 38 (boxMsg m) := by rw [← hb1]; exact H0.out.1
 have h2 : Blk w1 (b1 + 1) 38 #[.int .i64 0, .int .i64 0, .int .i64 0, .int .i64 0, .int .i64 0, .int .i64 0, .int .i64 0, .int .i64 0, .int .i64 0, .int .i64 0, .int .i64 0, .int .i64 0] := by rw [← hb1]; exact H0.out.2.1
 rw [hb1] at c0
 have HG := Lib.hid (show w.heap.size ≤ b1 + 1 by omega)
 try simp only [hb1]
 go_wp2_with fail
 (with_reducible refine (rnames_k2 w1).mono ?_)
 rintro e w2 ⟨rfl, hB2⟩
 have H2 := Lib.hid (And.intro (h1.below hB2 h1.lt) (And.intro (h2.below hB2 h2.lt) (H0.out.2.2.trans (hB2.mono H0.out.2.2.size))))
 clear h1 h2 hb1 H0 c0 hB2
 have z2 := H2.out.2.1.frozen
 have l2 := H2.out.2.1.lt
 have l1 := H2.out.1.lt
 have HKS : Hid (∀ W, Below w2.heap.size w2 W → (fun w' => w'.cell? ⟨b1, 0, none⟩ = some (.int .i64 m.kind) ∧ w'.cell? ⟨b1, 1, none⟩ = some (.int .i64 m.frm) ∧ w'.cell? ⟨b1, 2, none⟩ = some (.int .i64 m.to_) ∧ w'.cell? ⟨b1, 3, none⟩ = some (.int .i64 m.epoch) ∧ w'.cell? ⟨b1, 4, none⟩ = some (.int .i64 m.inc) ∧ w'.cell? ⟨b1, 5, none⟩ = some (.int .i64 m.job) ∧ w'.cell? ⟨b1, 6, none⟩ = some (.int .i64 m.tick) ∧ w'.cell? ⟨b1, 7, none⟩ = some (.int .i64 m.prio) ∧ w'.cell? ⟨b1, 8, none⟩ = some (.int .i64 m.code) ∧ w'.cell? ⟨b1, 9, none⟩ = some (.int .i64 m.res.a) ∧ w'.cell? ⟨b1, 10, none⟩ = some (.int .i64 m.res.b) ∧ w'.cell? ⟨b1, 11, none⟩ = some (.int .i64 m.res.c)) W) := Lib.hid (fun W hb => ⟨((H2.out.1.below hb H2.out.1.lt).cell 0).trans rfl, ((H2.out.1.below hb H2.out.1.lt).cell 1).trans rfl, ((H2.out.1.below hb H2.out.1.lt).cell 2).trans rfl, ((H2.out.1.below hb H2.out.1.lt).cell 3).trans rfl, ((H2.out.1.below hb H2.out.1.lt).cell 4).trans rfl, ((H2.out.1.below hb H2.out.1.lt).cell 5).trans rfl, ((H2.out.1.below hb H2.out.1.lt).cell 6).trans rfl, ((H2.out.1.below hb H2.out.1.lt).cell 7).trans rfl, ((H2.out.1.below hb H2.out.1.lt).cell 8).trans rfl, ((H2.out.1.below hb H2.out.1.lt).cell 9).trans rfl, ((H2.out.1.below hb H2.out.1.lt).cell 10).trans rfl, ((H2.out.1.below hb H2.out.1.lt).cell 11).trans rfl⟩)
 obtain ⟨c0, c1, c2, c3, c4, c5, c6, c7, c8, c9, c10, c11⟩ := HKS.out w2 (Below.refl _ _)
 go_wp2_with fail
 go_region_held3 (fun w' => w'.cell? ⟨b1, 0, none⟩ = some (.int .i64 m.kind) ∧ w'.cell? ⟨b1, 1, none⟩ = some (.int .i64 m.frm) ∧ w'.cell? ⟨b1, 2, none⟩ = some (.int .i64 m.to_) ∧ w'.cell? ⟨b1, 3, none⟩ = some (.int .i64 m.epoch) ∧ w'.cell? ⟨b1, 4, none⟩ = some (.int .i64 m.inc) ∧ w'.cell? ⟨b1, 5, none⟩ = some (.int .i64 m.job) ∧ w'.cell? ⟨b1, 6, none⟩ = some (.int .i64 m.tick) ∧ w'.cell? ⟨b1, 7, none⟩ = some (.int .i64 m.prio) ∧ w'.cell? ⟨b1, 8, none⟩ = some (.int .i64 m.code) ∧ w'.cell? ⟨b1, 9, none⟩ = some (.int .i64 m.res.a) ∧ w'.cell? ⟨b1, 10, none⟩ = some (.int .i64 m.res.b) ∧ w'.cell? ⟨b1, 11, none⟩ = some (.int .i64 m.res.c)) (first | with_reducible exact ⟨c0, c1, c2, c3, c4, c5, c6, c7, c8, c9, c10, c11⟩ | with_reducible exact HKS.out _ HB3.out | with_reducible exact HKS.out _ HB4.out | go_keep)
  ((first
   | (go_at_call 97; (with_reducible refine (rnum_k2 m HK0.out _).mono ?_); rintro e w3 ⟨A3, n3, rfl, hr3, hB3⟩; have HB3 := Lib.hid (show Below w2.heap.size w2 w3 from ⟨hB3.os, hB3.tape, hB3.output, hB3.size, hB3.block⟩); have HR3 := Lib.hid hr3; clear hB3 hr3)
   | (go_at_call 96; have hcx := made_k2 m HK0.out A3 n3 w3 HR3.out; rw [← HK0.out] at hcx; (with_reducible refine hcx.mono ?_); clear hcx; rintro e w4 ⟨rfl, hB4⟩; have HB4 := Lib.hid (HB3.out.trans (hB4.mono HB3.out.size)); clear hB4; have hx4 := H2.out.2.1.below HB4.out H2.out.2.1.lt; have z4 := hx4.frozen; have l4 := hx4.lt; have y0 : w4.cell? ⟨b1 + 1, 0, none⟩ = some (.int .i64 0) := hx4.cell 0; have y1 : w4.cell? ⟨b1 + 1, 1, none⟩ = some (.int .i64 0) := hx4.cell 1; have y2 : w4.cell? ⟨b1 + 1, 2, none⟩ = some (.int .i64 0) := hx4.cell 2; have y3 : w4.cell? ⟨b1 + 1, 3, none⟩ = some (.int .i64 0) := hx4.cell 3; have y4 : w4.cell? ⟨b1 + 1, 4, none⟩ = some (.int .i64 0) := hx4.cell 4; have y5 : w4.cell? ⟨b1 + 1, 5, none⟩ = some (.int .i64 0) := hx4.cell 5; have y6 : w4.cell? ⟨b1 + 1, 6, none⟩ = some (.int .i64 0) := hx4.cell 6; have y7 : w4.cell? ⟨b1 + 1, 7, none⟩ = some (.int .i64 0) := hx4.cell 7; have y8 : w4.cell? ⟨b1 + 1, 8, none⟩ = some (.int .i64 0) := hx4.cell 8; have y9 : w4.cell? ⟨b1 + 1, 9, none⟩ = some (.int .i64 0) := hx4.cell 9; have y10 : w4.cell? ⟨b1 + 1, 10, none⟩ = some (.int .i64 0) := hx4.cell 10; have y11 : w4.cell? ⟨b1 + 1, 11, none⟩ = some (.int .i64 0) := hx4.cell 11; clear hx4)))
 all_goals
  go_wp2_with fail
  obtain ⟨hbz, hbe⟩ := lay12 (H2.out.2.1.below HB4.out H2.out.2.1.lt) HG.out (H2.out.2.2.trans (HB4.out.mono H2.out.2.2.size)) (.int .i64 (keepM m [3, 4, 6]).kind) (.int .i64 (keepM m [3, 4, 6]).frm) (.int .i64 (keepM m [3, 4, 6]).to_) (.int .i64 (keepM m [3, 4, 6]).epoch) (.int .i64 (keepM m [3, 4, 6]).inc) (.int .i64 (keepM m [3, 4, 6]).job) (.int .i64 (keepM m [3, 4, 6]).tick) (.int .i64 (keepM m [3, 4, 6]).prio) (.int .i64 (keepM m [3, 4, 6]).code) (.int .i64 (keepM m [3, 4, 6]).res.a) (.int .i64 (keepM m [3, 4, 6]).res.b) (.int .i64 (keepM m [3, 4, 6]).res.c)
  have HZ := Lib.hid hbe
  clear hbe
  generalize ((((((((((((w4.setCell ⟨b1 + 1, 0, none⟩ (.int .i64 (keepM m [3, 4, 6]).kind)).setCell ⟨b1 + 1, 1, none⟩ (.int .i64 (keepM m [3, 4, 6]).frm)).setCell ⟨b1 + 1, 2, none⟩ (.int .i64 (keepM m [3, 4, 6]).to_)).setCell ⟨b1 + 1, 3, none⟩ (.int .i64 (keepM m [3, 4, 6]).epoch)).setCell ⟨b1 + 1, 4, none⟩ (.int .i64 (keepM m [3, 4, 6]).inc)).setCell ⟨b1 + 1, 5, none⟩ (.int .i64 (keepM m [3, 4, 6]).job)).setCell ⟨b1 + 1, 6, none⟩ (.int .i64 (keepM m [3, 4, 6]).tick)).setCell ⟨b1 + 1, 7, none⟩ (.int .i64 (keepM m [3, 4, 6]).prio)).setCell ⟨b1 + 1, 8, none⟩ (.int .i64 (keepM m [3, 4, 6]).code)).setCell ⟨b1 + 1, 9, none⟩ (.int .i64 (keepM m [3, 4, 6]).res.a)).setCell ⟨b1 + 1, 10, none⟩ (.int .i64 (keepM m [3, 4, 6]).res.b)).setCell ⟨b1 + 1, 11, none⟩ (.int .i64 (keepM m [3, 4, 6]).res.c)) = wz at hbz HZ ⊢
  have d0 := hbz.cell 0
  have d1 := hbz.cell 1
  have d2 := hbz.cell 2
  have d3 := hbz.cell 3
  have d4 := hbz.cell 4
  have d5 := hbz.cell 5
  have d6 := hbz.cell 6
  have d7 := hbz.cell 7
  have d8 := hbz.cell 8
  have d9 := hbz.cell 9
  have d10 := hbz.cell 10
  have d11 := hbz.cell 11
  simp only [List.getElem?_toArray, List.getElem?_cons_zero, List.getElem?_cons_succ] at d0 d1 d2 d3 d4 d5 d6 d7 d8 d9 d10 d11
  refine bodyPost_ret (v := aggMsg (keepM m [3, 4, 6])) (by simp [results, Tryd.results77, go_sem, d0, d1, d2, d3, d4, d5, d6, d7, d8, d9, d10, d11]) rfl ⟨rfl, HZ.out⟩
set_option maxRecDepth 100000 in
set_option maxHeartbeats 6400000 in
theorem rpure_k3 (m : LMsg) (hk : m.kind = 3) (w : World) : Calls Tryd.prog 77 #[aggMsg m] w fun e w' => e = .returned (aggMsg (keepM m [3, 4, 5])) ∧ Below w.heap.size w w' := by
 have hs1 : (w.alloc (.cells (boxMsg m) 38)).heap.size = w.heap.size + 1 := by simp
 have h1 := (Blk.new w 38 (boxMsg m)).alloc (.cells #[.int .i64 0, .int .i64 0, .int .i64 0, .int .i64 0, .int .i64 0, .int .i64 0, .int .i64 0, .int .i64 0, .int .i64 0, .int .i64 0, .int .i64 0, .int .i64 0] 38)
 have h2 := Blk.new (w.alloc (.cells (boxMsg m) 38)) 38 #[.int .i64 0, .int .i64 0, .int .i64 0, .int .i64 0, .int .i64 0, .int .i64 0, .int .i64 0, .int .i64 0, .int .i64 0, .int .i64 0, .int .i64 0, .int .i64 0]
 rw [hs1] at h2
 have hB : Below w.heap.size w ((w.alloc (.cells (boxMsg m) 38)).alloc (.cells #[.int .i64 0, .int .i64 0, .int .i64 0, .int .i64 0, .int .i64 0, .int .i64 0, .int .i64 0, .int .i64 0, .int .i64 0, .int .i64 0, .int .i64 0, .int .i64 0] 38)) := ((Below.refl _ _).alloc (Nat.le_refl _) _).alloc (by simp) _
 have c0 : ((w.alloc (.cells (boxMsg m) 38)).alloc (.cells #[.int .i64 0, .int .i64 0, .int .i64 0, .int .i64 0, .int .i64 0, .int .i64 0, .int .i64 0, .int .i64 0, .int .i64 0, .int .i64 0, .int .i64 0, .int .i64 0] 38)).cell? ⟨w.heap.size, 0, none⟩ = some (.int .i64 3) := by rw [← hk]; exact (h1.cell 0).trans rfl
 have H0 := Lib.hid (And.intro h1 (And.intro h2 hB))
 have HK0 := Lib.hid hk
 clear hs1 h1 h2 hB hk
 go_enter Tryd.func77, Tryd.ntmps77
 go_wp2_with fail
 generalize (w.alloc (.cells (boxMsg m) 38)).alloc (.cells #[.int .i64 0, .int .i64 0, .int .i64 0, .int .i64 0, .int .i64 0, .int .i64 0, .int .i64 0, .int .i64 0, .int .i64 0, .int .i64 0, .int .i64 0, .int .i64 0] 38) = w1 at H0 c0 ⊢
 obtain ⟨b1, hb1⟩ : ∃ b1, w.heap.size = b1 := ⟨_, rfl⟩
 have h1 : Blk w1 b1 38 (boxMsg m) := by rw [← hb1]; exact H0.out.1
 have h2 : Blk w1 (b1 + 1) 38 #[.int .i64 0, .int .i64 0, .int .i64 0, .int .i64 0, .int .i64 0, .int .i64 0, .int .i64 0, .int .i64 0, .int .i64 0, .int .i64 0, .int .i64 0, .int .i64 0] := by rw [← hb1]; exact H0.out.2.1
 rw [hb1] at c0
 have HG := Lib.hid (show w.heap.size ≤ b1 + 1 by omega)
 try simp only [hb1]
 go_wp2_with fail
 (with_reducible refine (rnames_k3 w1).mono ?_)
 rintro e w2 ⟨rfl, hB2⟩
 have H2 := Lib.hid (And.intro (h1.below hB2 h1.lt) (And.intro (h2.below hB2 h2.lt) (H0.out.2.2.trans (hB2.mono H0.out.2.2.size))))
 clear h1 h2 hb1 H0 c0 hB2
 have z2 := H2.out.2.1.frozen
 have l2 := H2.out.2.1.lt
 have l1 := H2.out.1.lt
 have HKS : Hid (∀ W, Below w2.heap.size w2 W → (fun w' => w'.cell? ⟨b1, 0, none⟩ = some (.int .i64 m.kind) ∧ w'.cell? ⟨b1, 1, none⟩ = some (.int .i64 m.frm) ∧ w'.cell? ⟨b1, 2, none⟩ = some (.int .i64 m.to_) ∧ w'.cell? ⟨b1, 3, none⟩ = some (.int .i64 m.epoch) ∧ w'.cell? ⟨b1, 4, none⟩ = some (.int .i64 m.inc) ∧ w'.cell? ⟨b1, 5, none⟩ = some (.int .i64 m.job) ∧ w'.cell? ⟨b1, 6, none⟩ = some (.int .i64 m.tick) ∧ w'.cell? ⟨b1, 7, none⟩ = some (.int .i64 m.prio) ∧ w'.cell? ⟨b1, 8, none⟩ = some (.int .i64 m.code) ∧ w'.cell? ⟨b1, 9, none⟩ = some (.int .i64 m.res.a) ∧ w'.cell? ⟨b1, 10, none⟩ = some (.int .i64 m.res.b) ∧ w'.cell? ⟨b1, 11, none⟩ = some (.int .i64 m.res.c)) W) := Lib.hid (fun W hb => ⟨((H2.out.1.below hb H2.out.1.lt).cell 0).trans rfl, ((H2.out.1.below hb H2.out.1.lt).cell 1).trans rfl, ((H2.out.1.below hb H2.out.1.lt).cell 2).trans rfl, ((H2.out.1.below hb H2.out.1.lt).cell 3).trans rfl, ((H2.out.1.below hb H2.out.1.lt).cell 4).trans rfl, ((H2.out.1.below hb H2.out.1.lt).cell 5).trans rfl, ((H2.out.1.below hb H2.out.1.lt).cell 6).trans rfl, ((H2.out.1.below hb H2.out.1.lt).cell 7).trans rfl, ((H2.out.1.below hb H2.out.1.lt).cell 8).trans rfl, ((H2.out.1.below hb H2.out.1.lt).cell 9).trans rfl, ((H2.out.1.below hb H2.out.1.lt).cell 10).trans rfl, ((H2.out.1.below hb H2.out.1.lt).cell 11).trans rfl⟩)
 obtain ⟨c0, c1, c2, c3, c4, c5, c6, c7, c8, c9, c10, c11⟩ := HKS.out w2 (Below.refl _ _)
 go_wp2_with fail
 go_region_held3 (fun w' => w'.cell? ⟨b1, 0, none⟩ = some (.int .i64 m.kind) ∧ w'.cell? ⟨b1, 1, none⟩ = some (.int .i64 m.frm) ∧ w'.cell? ⟨b1, 2, none⟩ = some (.int .i64 m.to_) ∧ w'.cell? ⟨b1, 3, none⟩ = some (.int .i64 m.epoch) ∧ w'.cell? ⟨b1, 4, none⟩ = some (.int .i64 m.inc) ∧ w'.cell? ⟨b1, 5, none⟩ = some (.int .i64 m.job) ∧ w'.cell? ⟨b1, 6, none⟩ = some (.int .i64 m.tick) ∧ w'.cell? ⟨b1, 7, none⟩ = some (.int .i64 m.prio) ∧ w'.cell? ⟨b1, 8, none⟩ = some (.int .i64 m.code) ∧ w'.cell? ⟨b1, 9, none⟩ = some (.int .i64 m.res.a) ∧ w'.cell? ⟨b1, 10, none⟩ = some (.int .i64 m.res.b) ∧ w'.cell? ⟨b1, 11, none⟩ = some (.int .i64 m.res.c)) (first | with_reducible exact ⟨c0, c1, c2, c3, c4, c5, c6, c7, c8, c9, c10, c11⟩ | with_reducible exact HKS.out _ HB3.out | with_reducible exact HKS.out _ HB4.out | go_keep)
  ((first
   | (go_at_call 97; (with_reducible refine (rnum_k3 m HK0.out _).mono ?_); rintro e w3 ⟨A3, n3, rfl, hr3, hB3⟩; have HB3 := Lib.hid (show Below w2.heap.size w2 w3 from ⟨hB3.os, hB3.tape, hB3.output, hB3.size, hB3.block⟩); have HR3 := Lib.hid hr3; clear hB3 hr3)
   | (go_at_call 96; have hcx := made_k3 m HK0.out A3 n3 w3 HR3.out; rw [← HK0.out] at hcx; (with_reducible refine hcx.mono ?_); clear hcx; rintro e w4 ⟨rfl, hB4⟩; have HB4 := Lib.hid (HB3.out.trans (hB4.mono HB3.out.size)); clear hB4; have hx4 := H2.out.2.1.below HB4.out H2.out.2.1.lt; have z4 := hx4.frozen; have l4 := hx4.lt; have y0 : w4.cell? ⟨b1 + 1, 0, none⟩ = some (.int .i64 0) := hx4.cell 0; have y1 : w4.cell? ⟨b1 + 1, 1, none⟩ = some (.int .i64 0) := hx4.cell 1; have y2 : w4.cell? ⟨b1 + 1, 2, none⟩ = some (.int .i64 0) := hx4.cell 2; have y3 : w4.cell? ⟨b1 + 1, 3, none⟩ = some (.int .i64 0) := hx4.cell 3; have y4 : w4.cell? ⟨b1 + 1, 4, none⟩ = some (.int .i64 0) := hx4.cell 4; have y5 : w4.cell? ⟨b1 + 1, 5, none⟩ = some (.int .i64 0) := hx4.cell 5; have y6 : w4.cell? ⟨b1 + 1, 6, none⟩ = some (.int .i64 0) := hx4.cell 6; have y7 : w4.cell? ⟨b1 + 1, 7, none⟩ = some (.int .i64 0) := hx4.cell 7; have y8 : w4.cell? ⟨b1 + 1, 8, none⟩ = some (.int .i64 0) := hx4.cell 8; have y9 : w4.cell? ⟨b1 + 1, 9, none⟩ = some (.int .i64 0) := hx4.cell 9; have y10 : w4.cell? ⟨b1 + 1, 10, none⟩ = some (.int .i64 0) := hx4.cell 10; have y11 : w4.cell? ⟨b1 + 1, 11, none⟩ = some (.int .i64 0) := hx4.cell 11; clear hx4)))
 all_goals
  go_wp2_with fail
  obtain ⟨hbz, hbe⟩ := lay12 (H2.out.2.1.below HB4.out H2.out.2.1.lt) HG.out (H2.out.2.2.trans (HB4.out.mono H2.out.2.2.size)) (.int .i64 (keepM m [3, 4, 5]).kind) (.int .i64 (keepM m [3, 4, 5]).frm) (.int .i64 (keepM m [3, 4, 5]).to_) (.int .i64 (keepM m [3, 4, 5]).epoch) (.int .i64 (keepM m [3, 4, 5]).inc) (.int .i64 (keepM m [3, 4, 5]).job) (.int .i64 (keepM m [3, 4, 5]).tick) (.int .i64 (keepM m [3, 4, 5]).prio) (.int .i64 (keepM m [3, 4, 5]).code) (.int .i64 (keepM m [3, 4, 5]).res.a) (.int .i64 (keepM m [3, 4, 5]).res.b) (.int .i64 (keepM m [3, 4, 5]).res.c)
  have HZ := Lib.hid hbe
  clear hbe
  generalize ((((((((((((w4.setCell ⟨b1 + 1, 0, none⟩ (.int .i64 (keepM m [3, 4, 5]).kind)).setCell ⟨b1 + 1, 1, none⟩ (.int .i64 (keepM m [3, 4, 5]).frm)).setCell ⟨b1 + 1, 2, none⟩ (.int .i64 (keepM m [3, 4, 5]).to_)).setCell ⟨b1 + 1, 3, none⟩ (.int .i64 (keepM m [3, 4, 5]).epoch)).setCell ⟨b1 + 1, 4, none⟩ (.int .i64 (keepM m [3, 4, 5]).inc)).setCell ⟨b1 + 1, 5, none⟩ (.int .i64 (keepM m [3, 4, 5]).job)).setCell ⟨b1 + 1, 6, none⟩ (.int .i64 (keepM m [3, 4, 5]).tick)).setCell ⟨b1 + 1, 7, none⟩ (.int .i64 (keepM m [3, 4, 5]).prio)).setCell ⟨b1 + 1, 8, none⟩ (.int .i64 (keepM m [3, 4, 5]).code)).setCell ⟨b1 + 1, 9, none⟩ (.int .i64 (keepM m [3, 4, 5]).res.a)).setCell ⟨b1 + 1, 10, none⟩ (.int .i64 (keepM m [3, 4, 5]).res.b)).setCell ⟨b1 + 1, 11, none⟩ (.int .i64 (keepM m [3, 4, 5]).res.c)) = wz at hbz HZ ⊢
  have d0 := hbz.cell 0
  have d1 := hbz.cell 1
  have d2 := hbz.cell 2
  have d3 := hbz.cell 3
  have d4 := hbz.cell 4
  have d5 := hbz.cell 5
  have d6 := hbz.cell 6
  have d7 := hbz.cell 7
  have d8 := hbz.cell 8
  have d9 := hbz.cell 9
  have d10 := hbz.cell 10
  have d11 := hbz.cell 11
  simp only [List.getElem?_toArray, List.getElem?_cons_zero, List.getElem?_cons_succ] at d0 d1 d2 d3 d4 d5 d6 d7 d8 d9 d10 d11
  refine bodyPost_ret (v := aggMsg (keepM m [3, 4, 5])) (by simp [results, Tryd.results77, go_sem, d0, d1, d2, d3, d4, d5, d6, d7, d8, d9, d10, d11]) rfl ⟨rfl, HZ.out⟩
set_option maxRecDepth 100000 in
set_option maxHeartbeats 6400000 in
theorem rpure_k4 (m : LMsg) (hk : m.kind = 4) (w : World) : Calls Tryd.prog 77 #[aggMsg m] w fun e w' => e = .returned (aggMsg (keepM m [3, 4, 5])) ∧ Below w.heap.size w w' := by
 have hs1 : (w.alloc (.cells (boxMsg m) 38)).heap.size = w.heap.size + 1 := by simp
 have h1 := (Blk.new w 38 (boxMsg m)).alloc (.cells #[.int .i64 0, .int .i64 0, .int .i64 0, .int .i64 0, .int .i64 0, .int .i64 0, .int .i64 0, .int .i64 0, .int .i64 0, .int .i64 0, .int .i64 0, .int .i64 0] 38)
 have h2 := Blk.new (w.alloc (.cells (boxMsg m) 38)) 38 #[.int .i64 0, .int .i64 0, .int .i64 0, .int .i64 0, .int .i64 0, .int .i64 0, .int .i64 0, .int .i64 0, .int .i64 0, .int .i64 0, .int .i64 0, .int .i64 0]
 rw [hs1] at h2
 have hB : Below w.heap.size w ((w.alloc (.cells (boxMsg m) 38)).alloc (.cells #[.int .i64 0, .int .i64 0, .int .i64 0, .int .i64 0, .int .i64 0, .int .i64 0, .int .i64 0, .int .i64 0, .int .i64 0, .int .i64 0, .int .i64 0, .int .i64 0] 38)) := ((Below.refl _ _).alloc (Nat.le_refl _) _).alloc (by simp) _
 have c0 : ((w.alloc (.cells (boxMsg m) 38)).alloc (.cells #[.int .i64 0, .int .i64 0, .int .i64 0, .int .i64 0, .int .i64 0, .int .i64 0, .int .i64 0, .int .i64 0, .int .i64 0, .int .i64 0, .int .i64 0, .int .i64 0] 38)).cell? ⟨w.heap.size, 0, none⟩ = some (.int .i64 4) := by rw [← hk]; exact (h1.cell 0).trans rfl
 have H0 := Lib.hid (And.intro h1 (And.intro h2 hB))
 have HK0 := Lib.hid hk
 clear hs1 h1 h2 hB hk
 go_enter Tryd.func77, Tryd.ntmps77
 go_wp2_with fail
 generalize (w.alloc (.cells (boxMsg m) 38)).alloc (.cells #[.int .i64 0, .int .i64 0, .int .i64 0, .int .i64 0, .int .i64 0, .int .i64 0, .int .i64 0, .int .i64 0, .int .i64 0, .int .i64 0, .int .i64 0, .int .i64 0] 38) = w1 at H0 c0 ⊢
 obtain ⟨b1, hb1⟩ : ∃ b1, w.heap.size = b1 := ⟨_, rfl⟩
 have h1 : Blk w1 b1 38 (boxMsg m) := by rw [← hb1]; exact H0.out.1
 have h2 : Blk w1 (b1 + 1) 38 #[.int .i64 0, .int .i64 0, .int .i64 0, .int .i64 0, .int .i64 0, .int .i64 0, .int .i64 0, .int .i64 0, .int .i64 0, .int .i64 0, .int .i64 0, .int .i64 0] := by rw [← hb1]; exact H0.out.2.1
 rw [hb1] at c0
 have HG := Lib.hid (show w.heap.size ≤ b1 + 1 by omega)
 try simp only [hb1]
 go_wp2_with fail
 (with_reducible refine (rnames_k4 w1).mono ?_)
 rintro e w2 ⟨rfl, hB2⟩
 have H2 := Lib.hid (And.intro (h1.below hB2 h1.lt) (And.intro (h2.below hB2 h2.lt) (H0.out.2.2.trans (hB2.mono H0.out.2.2.size))))
 clear h1 h2 hb1 H0 c0 hB2
 have z2 := H2.out.2.1.frozen
 have l2 := H2.out.2.1.lt
 have l1 := H2.out.1.lt
 have HKS : Hid (∀ W, Below w2.heap.size w2 W → (fun w' => w'.cell? ⟨b1, 0, none⟩ = some (.int .i64 m.kind) ∧ w'.cell? ⟨b1, 1, none⟩ = some (.int .i64 m.frm) ∧ w'.cell? ⟨b1, 2, none⟩ = some (.int .i64 m.to_) ∧ w'.cell? ⟨b1, 3, none⟩ = some (.int .i64 m.epoch) ∧ w'.cell? ⟨b1, 4, none⟩ = some (.int .i64 m.inc) ∧ w'.cell? ⟨b1, 5, none⟩ = some (.int .i64 m.job) ∧ w'.cell? ⟨b1, 6, none⟩ = some (.int .i64 m.tick) ∧ w'.cell? ⟨b1, 7, none⟩ = some (.int .i64 m.prio) ∧ w'.cell? ⟨b1, 8, none⟩ = some (.int .i64 m.code) ∧ w'.cell? ⟨b1, 9, none⟩ = some (.int .i64 m.res.a) ∧ w'.cell? ⟨b1, 10, none⟩ = some (.int .i64 m.res.b) ∧ w'.cell? ⟨b1, 11, none⟩ = some (.int .i64 m.res.c)) W) := Lib.hid (fun W hb => ⟨((H2.out.1.below hb H2.out.1.lt).cell 0).trans rfl, ((H2.out.1.below hb H2.out.1.lt).cell 1).trans rfl, ((H2.out.1.below hb H2.out.1.lt).cell 2).trans rfl, ((H2.out.1.below hb H2.out.1.lt).cell 3).trans rfl, ((H2.out.1.below hb H2.out.1.lt).cell 4).trans rfl, ((H2.out.1.below hb H2.out.1.lt).cell 5).trans rfl, ((H2.out.1.below hb H2.out.1.lt).cell 6).trans rfl, ((H2.out.1.below hb H2.out.1.lt).cell 7).trans rfl, ((H2.out.1.below hb H2.out.1.lt).cell 8).trans rfl, ((H2.out.1.below hb H2.out.1.lt).cell 9).trans rfl, ((H2.out.1.below hb H2.out.1.lt).cell 10).trans rfl, ((H2.out.1.below hb H2.out.1.lt).cell 11).trans rfl⟩)
 obtain ⟨c0, c1, c2, c3, c4, c5, c6, c7, c8, c9, c10, c11⟩ := HKS.out w2 (Below.refl _ _)
 go_wp2_with fail
 go_region_held3 (fun w' => w'.cell? ⟨b1, 0, none⟩ = some (.int .i64 m.kind) ∧ w'.cell? ⟨b1, 1, none⟩ = some (.int .i64 m.frm) ∧ w'.cell? ⟨b1, 2, none⟩ = some (.int .i64 m.to_) ∧ w'.cell? ⟨b1, 3, none⟩ = some (.int .i64 m.epoch) ∧ w'.cell? ⟨b1, 4, none⟩ = some (.int .i64 m.inc) ∧ w'.cell? ⟨b1, 5, none⟩ = some (.int .i64 m.job) ∧ w'.cell? ⟨b1, 6, none⟩ = some (.int .i64 m.tick) ∧ w'.cell? ⟨b1, 7, none⟩ = some (.int .i64 m.prio) ∧ w'.cell? ⟨b1, 8, none⟩ = some (.int .i64 m.code) ∧ w'.cell? ⟨b1, 9, none⟩ = some (.int .i64 m.res.a) ∧ w'.cell? ⟨b1, 10, none⟩ = some (.int .i64 m.res.b) ∧ w'.cell? ⟨b1, 11, none⟩ = some (.int .i64 m.res.c)) (first | with_reducible exact ⟨c0, c1, c2, c3, c4, c5, c6, c7, c8, c9, c10, c11⟩ | with_reducible exact HKS.out _ HB3.out | with_reducible exact HKS.out _ HB4.out | go_keep)
  ((first
   | (go_at_call 97; (with_reducible refine (rnum_k4 m HK0.out _).mono ?_); rintro e w3 ⟨A3, n3, rfl, hr3, hB3⟩; have HB3 := Lib.hid (show Below w2.heap.size w2 w3 from ⟨hB3.os, hB3.tape, hB3.output, hB3.size, hB3.block⟩); have HR3 := Lib.hid hr3; clear hB3 hr3)
   | (go_at_call 96; have hcx := made_k4 m HK0.out A3 n3 w3 HR3.out; rw [← HK0.out] at hcx; (with_reducible refine hcx.mono ?_); clear hcx; rintro e w4 ⟨rfl, hB4⟩; have HB4 := Lib.hid (HB3.out.trans (hB4.mono HB3.out.size)); clear hB4; have hx4 := H2.out.2.1.below HB4.out H2.out.2.1.lt; have z4 := hx4.frozen; have l4 := hx4.lt; have y0 : w4.cell? ⟨b1 + 1, 0, none⟩ = some (.int .i64 0) := hx4.cell 0; have y1 : w4.cell? ⟨b1 + 1, 1, none⟩ = some (.int .i64 0) := hx4.cell 1; have y2 : w4.cell? ⟨b1 + 1, 2, none⟩ = some (.int .i64 0) := hx4.cell 2; have y3 : w4.cell? ⟨b1 + 1, 3, none⟩ = some (.int .i64 0) := hx4.cell 3; have y4 : w4.cell? ⟨b1 + 1, 4, none⟩ = some (.int .i64 0) := hx4.cell 4; have y5 : w4.cell? ⟨b1 + 1, 5, none⟩ = some (.int .i64 0) := hx4.cell 5; have y6 : w4.cell? ⟨b1 + 1, 6, none⟩ = some (.int .i64 0) := hx4.cell 6; have y7 : w4.cell? ⟨b1 + 1, 7, none⟩ = some (.int .i64 0) := hx4.cell 7; have y8 : w4.cell? ⟨b1 + 1, 8, none⟩ = some (.int .i64 0) := hx4.cell 8; have y9 : w4.cell? ⟨b1 + 1, 9, none⟩ = some (.int .i64 0) := hx4.cell 9; have y10 : w4.cell? ⟨b1 + 1, 10, none⟩ = some (.int .i64 0) := hx4.cell 10; have y11 : w4.cell? ⟨b1 + 1, 11, none⟩ = some (.int .i64 0) := hx4.cell 11; clear hx4)))
 all_goals
  go_wp2_with fail
  obtain ⟨hbz, hbe⟩ := lay12 (H2.out.2.1.below HB4.out H2.out.2.1.lt) HG.out (H2.out.2.2.trans (HB4.out.mono H2.out.2.2.size)) (.int .i64 (keepM m [3, 4, 5]).kind) (.int .i64 (keepM m [3, 4, 5]).frm) (.int .i64 (keepM m [3, 4, 5]).to_) (.int .i64 (keepM m [3, 4, 5]).epoch) (.int .i64 (keepM m [3, 4, 5]).inc) (.int .i64 (keepM m [3, 4, 5]).job) (.int .i64 (keepM m [3, 4, 5]).tick) (.int .i64 (keepM m [3, 4, 5]).prio) (.int .i64 (keepM m [3, 4, 5]).code) (.int .i64 (keepM m [3, 4, 5]).res.a) (.int .i64 (keepM m [3, 4, 5]).res.b) (.int .i64 (keepM m [3, 4, 5]).res.c)
  have HZ := Lib.hid hbe
  clear hbe
  generalize ((((((((((((w4.setCell ⟨b1 + 1, 0, none⟩ (.int .i64 (keepM m [3, 4, 5]).kind)).setCell ⟨b1 + 1, 1, none⟩ (.int .i64 (keepM m [3, 4, 5]).frm)).setCell ⟨b1 + 1, 2, none⟩ (.int .i64 (keepM m [3, 4, 5]).to_)).setCell ⟨b1 + 1, 3, none⟩ (.int .i64 (keepM m [3, 4, 5]).epoch)).setCell ⟨b1 + 1, 4, none⟩ (.int .i64 (keepM m [3, 4, 5]).inc)).setCell ⟨b1 + 1, 5, none⟩ (.int .i64 (keepM m [3, 4, 5]).job)).setCell ⟨b1 + 1, 6, none⟩ (.int .i64 (keepM m [3, 4, 5]).tick)).setCell ⟨b1 + 1, 7, none⟩ (.int .i64 (keepM m [3, 4, 5]).prio)).setCell ⟨b1 + 1, 8, none⟩ (.int .i64 (keepM m [3, 4, 5]).code)).setCell ⟨b1 + 1, 9, none⟩ (.int .i64 (keepM m [3, 4, 5]).res.a)).setCell ⟨b1 + 1, 10, none⟩ (.int .i64 (keepM m [3, 4, 5]).res.b)).setCell ⟨b1 + 1, 11, none⟩ (.int .i64 (keepM m [3, 4, 5]).res.c)) = wz at hbz HZ ⊢
  have d0 := hbz.cell 0
  have d1 := hbz.cell 1
  have d2 := hbz.cell 2
  have d3 := hbz.cell 3
  have d4 := hbz.cell 4
  have d5 := hbz.cell 5
  have d6 := hbz.cell 6
  have d7 := hbz.cell 7
  have d8 := hbz.cell 8
  have d9 := hbz.cell 9
  have d10 := hbz.cell 10
  have d11 := hbz.cell 11
  simp only [List.getElem?_toArray, List.getElem?_cons_zero, List.getElem?_cons_succ] at d0 d1 d2 d3 d4 d5 d6 d7 d8 d9 d10 d11
  refine bodyPost_ret (v := aggMsg (keepM m [3, 4, 5])) (by simp [results, Tryd.results77, go_sem, d0, d1, d2, d3, d4, d5, d6, d7, d8, d9, d10, d11]) rfl ⟨rfl, HZ.out⟩
set_option maxRecDepth 100000 in
set_option maxHeartbeats 6400000 in
theorem rpure_k5 (m : LMsg) (hk : m.kind = 5) (w : World) : Calls Tryd.prog 77 #[aggMsg m] w fun e w' => e = .returned (aggMsg (keepM m [4, 5])) ∧ Below w.heap.size w w' := by
 have hs1 : (w.alloc (.cells (boxMsg m) 38)).heap.size = w.heap.size + 1 := by simp
 have h1 := (Blk.new w 38 (boxMsg m)).alloc (.cells #[.int .i64 0, .int .i64 0, .int .i64 0, .int .i64 0, .int .i64 0, .int .i64 0, .int .i64 0, .int .i64 0, .int .i64 0, .int .i64 0, .int .i64 0, .int .i64 0] 38)
 have h2 := Blk.new (w.alloc (.cells (boxMsg m) 38)) 38 #[.int .i64 0, .int .i64 0, .int .i64 0, .int .i64 0, .int .i64 0, .int .i64 0, .int .i64 0, .int .i64 0, .int .i64 0, .int .i64 0, .int .i64 0, .int .i64 0]
 rw [hs1] at h2
 have hB : Below w.heap.size w ((w.alloc (.cells (boxMsg m) 38)).alloc (.cells #[.int .i64 0, .int .i64 0, .int .i64 0, .int .i64 0, .int .i64 0, .int .i64 0, .int .i64 0, .int .i64 0, .int .i64 0, .int .i64 0, .int .i64 0, .int .i64 0] 38)) := ((Below.refl _ _).alloc (Nat.le_refl _) _).alloc (by simp) _
 have c0 : ((w.alloc (.cells (boxMsg m) 38)).alloc (.cells #[.int .i64 0, .int .i64 0, .int .i64 0, .int .i64 0, .int .i64 0, .int .i64 0, .int .i64 0, .int .i64 0, .int .i64 0, .int .i64 0, .int .i64 0, .int .i64 0] 38)).cell? ⟨w.heap.size, 0, none⟩ = some (.int .i64 5) := by rw [← hk]; exact (h1.cell 0).trans rfl
 have H0 := Lib.hid (And.intro h1 (And.intro h2 hB))
 have HK0 := Lib.hid hk
 clear hs1 h1 h2 hB hk
 go_enter Tryd.func77, Tryd.ntmps77
 go_wp2_with fail
 generalize (w.alloc (.cells (boxMsg m) 38)).alloc (.cells #[.int .i64 0, .int .i64 0, .int .i64 0, .int .i64 0, .int .i64 0, .int .i64 0, .int .i64 0, .int .i64 0, .int .i64 0, .int .i64 0, .int .i64 0, .int .i64 0] 38) = w1 at H0 c0 ⊢
 obtain ⟨b1, hb1⟩ : ∃ b1, w.heap.size = b1 := ⟨_, rfl⟩
 have h1 : Blk w1 b1 38 (boxMsg m) := by rw [← hb1]; exact H0.out.1
 have h2 : Blk w1 (b1 + 1) 38 #[.int .i64 0, .int .i64 0, .int .i64 0, .int .i64 0, .int .i64 0, .int .i64 0, .int .i64 0, .int .i64 0, .int .i64 0, .int .i64 0, .int .i64 0, .int .i64 0] := by rw [← hb1]; exact H0.out.2.1
 rw [hb1] at c0
 have HG := Lib.hid (show w.heap.size ≤ b1 + 1 by omega)
 try simp only [hb1]
 go_wp2_with fail
 (with_reducible refine (rnames_k5 w1).mono ?_)
 rintro e w2 ⟨rfl, hB2⟩
 have H2 := Lib.hid (And.intro (h1.below hB2 h1.lt) (And.intro (h2.below hB2 h2.lt) (H0.out.2.2.trans (hB2.mono H0.out.2.2.size))))
 clear h1 h2 hb1 H0 c0 hB2
 have z2 := H2.out.2.1.frozen
 have l2 := H2.out.2.1.lt
 have l1 := H2.out.1.lt
 have HKS : Hid (∀ W, Below w2.heap.size w2 W → (fun w' => w'.cell? ⟨b1, 0, none⟩ = some (.int .i64 m.kind) ∧ w'.cell? ⟨b1, 1, none⟩ = some (.int .i64 m.frm) ∧ w'.cell? ⟨b1, 2, none⟩ = some (.int .i64 m.to_) ∧ w'.cell? ⟨b1, 3, none⟩ = some (.int .i64 m.epoch) ∧ w'.cell? ⟨b1, 4, none⟩ = some (.int .i64 m.inc) ∧ w'.cell? ⟨b1, 5, none⟩ = some (.int .i64 m.job) ∧ w'.cell? ⟨b1, 6, none⟩ = some (.int .i64 m.tick) ∧ w'.cell? ⟨b1, 7, none⟩ = some (.int .i64 m.prio) ∧ w'.cell? ⟨b1, 8, none⟩ = some (.int .i64 m.code) ∧ w'.cell? ⟨b1, 9, none⟩ = some (.int .i64 m.res.a) ∧ w'.cell? ⟨b1, 10, none⟩ = some (.int .i64 m.res.b) ∧ w'.cell? ⟨b1, 11, none⟩ = some (.int .i64 m.res.c)) W) := Lib.hid (fun W hb => ⟨((H2.out.1.below hb H2.out.1.lt).cell 0).trans rfl, ((H2.out.1.below hb H2.out.1.lt).cell 1).trans rfl, ((H2.out.1.below hb H2.out.1.lt).cell 2).trans rfl, ((H2.out.1.below hb H2.out.1.lt).cell 3).trans rfl, ((H2.out.1.below hb H2.out.1.lt).cell 4).trans rfl, ((H2.out.1.below hb H2.out.1.lt).cell 5).trans rfl, ((H2.out.1.below hb H2.out.1.lt).cell 6).trans rfl, ((H2.out.1.below hb H2.out.1.lt).cell 7).trans rfl, ((H2.out.1.below hb H2.out.1.lt).cell 8).trans rfl, ((H2.out.1.below hb H2.out.1.lt).cell 9).trans rfl, ((H2.out.1.below hb H2.out.1.lt).cell 10).trans rfl, ((H2.out.1.below hb H2.out.1.lt).cell 11).trans rfl⟩)
 obtain ⟨c0, c1, c2, c3, c4, c5, c6, c7, c8, c9, c10, c11⟩ := HKS.out w2 (Below.refl _ _)
 go_wp2_with fail
 go_region_held3 (fun w' => w'.cell? ⟨b1, 0, none⟩ = some (.int .i64 m.kind) ∧ w'.cell? ⟨b1, 1, none⟩ = some (.int .i64 m.frm) ∧ w'.cell? ⟨b1, 2, none⟩ = some (.int .i64 m.to_) ∧ w'.cell? ⟨b1, 3, none⟩ = some (.int .i64 m.epoch) ∧ w'.cell? ⟨b1, 4, none⟩ = some (.int .i64 m.inc) ∧ w'.cell? ⟨b1, 5, none⟩ = some (.int .i64 m.job) ∧ w'.cell? ⟨b1, 6, none⟩ = some (.int .i64 m.tick) ∧ w'.cell? ⟨b1, 7, none⟩ = some (.int .i64 m.prio) ∧ w'.cell? ⟨b1, 8, none⟩ = some (.int .i64 m.code) ∧ w'.cell? ⟨b1, 9, none⟩ = some (.int .i64 m.res.a) ∧ w'.cell? ⟨b1, 10, none⟩ = some (.int .i64 m.res.b) ∧ w'.cell? ⟨b1, 11, none⟩ = some (.int .i64 m.res.c)) (first | with_reducible exact ⟨c0, c1, c2, c3, c4, c5, c6, c7, c8, c9, c10, c11⟩ | with_reducible exact HKS.out _ HB3.out | with_reducible exact HKS.out _ HB4.out | go_keep)
  ((first
   | (go_at_call 97; (with_reducible refine (rnum_k5 m HK0.out _).mono ?_); rintro e w3 ⟨A3, n3, rfl, hr3, hB3⟩; have HB3 := Lib.hid (show Below w2.heap.size w2 w3 from ⟨hB3.os, hB3.tape, hB3.output, hB3.size, hB3.block⟩); have HR3 := Lib.hid hr3; clear hB3 hr3)
   | (go_at_call 96; have hcx := made_k5 m HK0.out A3 n3 w3 HR3.out; rw [← HK0.out] at hcx; (with_reducible refine hcx.mono ?_); clear hcx; rintro e w4 ⟨rfl, hB4⟩; have HB4 := Lib.hid (HB3.out.trans (hB4.mono HB3.out.size)); clear hB4; have hx4 := H2.out.2.1.below HB4.out H2.out.2.1.lt; have z4 := hx4.frozen; have l4 := hx4.lt; have y0 : w4.cell? ⟨b1 + 1, 0, none⟩ = some (.int .i64 0) := hx4.cell 0; have y1 : w4.cell? ⟨b1 + 1, 1, none⟩ = some (.int .i64 0) := hx4.cell 1; have y2 : w4.cell? ⟨b1 + 1, 2, none⟩ = some (.int .i64 0) := hx4.cell 2; have y3 : w4.cell? ⟨b1 + 1, 3, none⟩ = some (.int .i64 0) := hx4.cell 3; have y4 : w4.cell? ⟨b1 + 1, 4, none⟩ = some (.int .i64 0) := hx4.cell 4; have y5 : w4.cell? ⟨b1 + 1, 5, none⟩ = some (.int .i64 0) := hx4.cell 5; have y6 : w4.cell? ⟨b1 + 1, 6, none⟩ = some (.int .i64 0) := hx4.cell 6; have y7 : w4.cell? ⟨b1 + 1, 7, none⟩ = some (.int .i64 0) := hx4.cell 7; have y8 : w4.cell? ⟨b1 + 1, 8, none⟩ = some (.int .i64 0) := hx4.cell 8; have y9 : w4.cell? ⟨b1 + 1, 9, none⟩ = some (.int .i64 0) := hx4.cell 9; have y10 : w4.cell? ⟨b1 + 1, 10, none⟩ = some (.int .i64 0) := hx4.cell 10; have y11 : w4.cell? ⟨b1 + 1, 11, none⟩ = some (.int .i64 0) := hx4.cell 11; clear hx4)))
 all_goals
  go_wp2_with fail
  obtain ⟨hbz, hbe⟩ := lay12 (H2.out.2.1.below HB4.out H2.out.2.1.lt) HG.out (H2.out.2.2.trans (HB4.out.mono H2.out.2.2.size)) (.int .i64 (keepM m [4, 5]).kind) (.int .i64 (keepM m [4, 5]).frm) (.int .i64 (keepM m [4, 5]).to_) (.int .i64 (keepM m [4, 5]).epoch) (.int .i64 (keepM m [4, 5]).inc) (.int .i64 (keepM m [4, 5]).job) (.int .i64 (keepM m [4, 5]).tick) (.int .i64 (keepM m [4, 5]).prio) (.int .i64 (keepM m [4, 5]).code) (.int .i64 (keepM m [4, 5]).res.a) (.int .i64 (keepM m [4, 5]).res.b) (.int .i64 (keepM m [4, 5]).res.c)
  have HZ := Lib.hid hbe
  clear hbe
  generalize ((((((((((((w4.setCell ⟨b1 + 1, 0, none⟩ (.int .i64 (keepM m [4, 5]).kind)).setCell ⟨b1 + 1, 1, none⟩ (.int .i64 (keepM m [4, 5]).frm)).setCell ⟨b1 + 1, 2, none⟩ (.int .i64 (keepM m [4, 5]).to_)).setCell ⟨b1 + 1, 3, none⟩ (.int .i64 (keepM m [4, 5]).epoch)).setCell ⟨b1 + 1, 4, none⟩ (.int .i64 (keepM m [4, 5]).inc)).setCell ⟨b1 + 1, 5, none⟩ (.int .i64 (keepM m [4, 5]).job)).setCell ⟨b1 + 1, 6, none⟩ (.int .i64 (keepM m [4, 5]).tick)).setCell ⟨b1 + 1, 7, none⟩ (.int .i64 (keepM m [4, 5]).prio)).setCell ⟨b1 + 1, 8, none⟩ (.int .i64 (keepM m [4, 5]).code)).setCell ⟨b1 + 1, 9, none⟩ (.int .i64 (keepM m [4, 5]).res.a)).setCell ⟨b1 + 1, 10, none⟩ (.int .i64 (keepM m [4, 5]).res.b)).setCell ⟨b1 + 1, 11, none⟩ (.int .i64 (keepM m [4, 5]).res.c)) = wz at hbz HZ ⊢
  have d0 := hbz.cell 0
  have d1 := hbz.cell 1
  have d2 := hbz.cell 2
  have d3 := hbz.cell 3
  have d4 := hbz.cell 4
  have d5 := hbz.cell 5
  have d6 := hbz.cell 6
  have d7 := hbz.cell 7
  have d8 := hbz.cell 8
  have d9 := hbz.cell 9
  have d10 := hbz.cell 10
  have d11 := hbz.cell 11
  simp only [List.getElem?_toArray, List.getElem?_cons_zero, List.getElem?_cons_succ] at d0 d1 d2 d3 d4 d5 d6 d7 d8 d9 d10 d11
  refine bodyPost_ret (v := aggMsg (keepM m [4, 5])) (by simp [results, Tryd.results77, go_sem, d0, d1, d2, d3, d4, d5, d6, d7, d8, d9, d10, d11]) rfl ⟨rfl, HZ.out⟩
set_option maxRecDepth 100000 in
set_option maxHeartbeats 6400000 in
theorem rpure_k6 (m : LMsg) (hk : m.kind = 6) (w : World) : Calls Tryd.prog 77 #[aggMsg m] w fun e w' => e = .returned (aggMsg (keepM m [5, 7, 9, 10, 11])) ∧ Below w.heap.size w w' := by
 have hs1 : (w.alloc (.cells (boxMsg m) 38)).heap.size = w.heap.size + 1 := by simp
 have h1 := (Blk.new w 38 (boxMsg m)).alloc (.cells #[.int .i64 0, .int .i64 0, .int .i64 0, .int .i64 0, .int .i64 0, .int .i64 0, .int .i64 0, .int .i64 0, .int .i64 0, .int .i64 0, .int .i64 0, .int .i64 0] 38)
 have h2 := Blk.new (w.alloc (.cells (boxMsg m) 38)) 38 #[.int .i64 0, .int .i64 0, .int .i64 0, .int .i64 0, .int .i64 0, .int .i64 0, .int .i64 0, .int .i64 0, .int .i64 0, .int .i64 0, .int .i64 0, .int .i64 0]
 rw [hs1] at h2
 have hB : Below w.heap.size w ((w.alloc (.cells (boxMsg m) 38)).alloc (.cells #[.int .i64 0, .int .i64 0, .int .i64 0, .int .i64 0, .int .i64 0, .int .i64 0, .int .i64 0, .int .i64 0, .int .i64 0, .int .i64 0, .int .i64 0, .int .i64 0] 38)) := ((Below.refl _ _).alloc (Nat.le_refl _) _).alloc (by simp) _
 have c0 : ((w.alloc (.cells (boxMsg m) 38)).alloc (.cells #[.int .i64 0, .int .i64 0, .int .i64 0, .int .i64 0, .int .i64 0, .int .i64 0, .int .i64 0, .int .i64 0, .int .i64 0, .int .i64 0, .int .i64 0, .int .i64 0] 38)).cell? ⟨w.heap.size, 0, none⟩ = some (.int .i64 6) := by rw [← hk]; exact (h1.cell 0).trans rfl
 have H0 := Lib.hid (And.intro h1 (And.intro h2 hB))
 have HK0 := Lib.hid hk
 clear hs1 h1 h2 hB hk
 go_enter Tryd.func77, Tryd.ntmps77
 go_wp2_with fail
 generalize (w.alloc (.cells (boxMsg m) 38)).alloc (.cells #[.int .i64 0, .int .i64 0, .int .i64 0, .int .i64 0, .int .i64 0, .int .i64 0, .int .i64 0, .int .i64 0, .int .i64 0, .int .i64 0, .int .i64 0, .int .i64 0] 38) = w1 at H0 c0 ⊢
 obtain ⟨b1, hb1⟩ : ∃ b1, w.heap.size = b1 := ⟨_, rfl⟩
 have h1 : Blk w1 b1 38 (boxMsg m) := by rw [← hb1]; exact H0.out.1
 have h2 : Blk w1 (b1 + 1) 38 #[.int .i64 0, .int .i64 0, .int .i64 0, .int .i64 0, .int .i64 0, .int .i64 0, .int .i64 0, .int .i64 0, .int .i64 0, .int .i64 0, .int .i64 0, .int .i64 0] := by rw [← hb1]; exact H0.out.2.1
 rw [hb1] at c0
 have HG := Lib.hid (show w.heap.size ≤ b1 + 1 by omega)
 try simp only [hb1]
 go_wp2_with fail
 (with_reducible refine (rnames_k6 w1).mono ?_)
 rintro e w2 ⟨rfl, hB2⟩
 have H2 := Lib.hid (And.intro (h1.below hB2 h1.lt) (And.intro (h2.below hB2 h2.lt) (H0.out.2.2.trans (hB2.mono H0.out.2.2.size))))
 clear h1 h2 hb1 H0 c0 hB2
 have z2 := H2.out.2.1.frozen
 have l2 := H2.out.2.1.lt
 have l1 := H2.out.1.lt
 have HKS : Hid (∀ W, Below w2.heap.size w2 W → (fun w' => w'.cell? ⟨b1, 0, none⟩ = some (.int .i64 m.kind) ∧ w'.cell? ⟨b1, 1, none⟩ = some (.int .i64 m.frm) ∧ w'.cell? ⟨b1, 2, none⟩ = some (.int .i64 m.to_) ∧ w'.cell? ⟨b1, 3, none⟩ = some (.int .i64 m.epoch) ∧ w'.cell? ⟨b1, 4, none⟩ = some (.int .i64 m.inc) ∧ w'.cell? ⟨b1, 5, none⟩ = some (.int .i64 m.job) ∧ w'.cell? ⟨b1, 6, none⟩ = some (.int .i64 m.tick) ∧ w'.cell? ⟨b1, 7, none⟩ = some (.int .i64 m.prio) ∧ w'.cell? ⟨b1, 8, none⟩ = some (.int .i64 m.code) ∧ w'.cell? ⟨b1, 9, none⟩ = some (.int .i64 m.res.a) ∧ w'.cell? ⟨b1, 10, none⟩ = some (.int .i64 m.res.b) ∧ w'.cell? ⟨b1, 11, none⟩ = some (.int .i64 m.res.c)) W) := Lib.hid (fun W hb => ⟨((H2.out.1.below hb H2.out.1.lt).cell 0).trans rfl, ((H2.out.1.below hb H2.out.1.lt).cell 1).trans rfl, ((H2.out.1.below hb H2.out.1.lt).cell 2).trans rfl, ((H2.out.1.below hb H2.out.1.lt).cell 3).trans rfl, ((H2.out.1.below hb H2.out.1.lt).cell 4).trans rfl, ((H2.out.1.below hb H2.out.1.lt).cell 5).trans rfl, ((H2.out.1.below hb H2.out.1.lt).cell 6).trans rfl, ((H2.out.1.below hb H2.out.1.lt).cell 7).trans rfl, ((H2.out.1.below hb H2.out.1.lt).cell 8).trans rfl, ((H2.out.1.below hb H2.out.1.lt).cell 9).trans rfl, ((H2.out.1.below hb H2.out.1.lt).cell 10).trans rfl, ((H2.out.1.below hb H2.out.1.lt).cell 11).trans rfl⟩)
 obtain ⟨c0, c1, c2, c3, c4, c5, c6, c7, c8, c9, c10, c11⟩ := HKS.out w2 (Below.refl _ _)
 go_wp2_with fail
 go_region_held3 (fun w' => w'.cell? ⟨b1, 0, none⟩ = some (.int .i64 m.kind) ∧ w'.cell? ⟨b1, 1, none⟩ = some (.int .i64 m.frm) ∧ w'.cell? ⟨b1, 2, none⟩ = some (.int .i64 m.to_) ∧ w'.cell? ⟨b1, 3, none⟩ = some (.int .i64 m.epoch) ∧ w'.cell? ⟨b1, 4, none⟩ = some (.int .i64 m.inc) ∧ w'.cell? ⟨b1, 5, none⟩ = some (.int .i64 m.job) ∧ w'.cell? ⟨b1, 6, none⟩ = some (.int .i64 m.tick) ∧ w'.cell? ⟨b1, 7, none⟩ = some (.int .i64 m.prio) ∧ w'.cell? ⟨b1, 8, none⟩ = some (.int .i64 m.code) ∧ w'.cell? ⟨b1, 9, none⟩ = some (.int .i64 m.res.a) ∧ w'.cell? ⟨b1, 10, none⟩ = some (.int .i64 m.res.b) ∧ w'.cell? ⟨b1, 11, none⟩ = some (.int .i64 m.res.c)) (first | with_reducible exact ⟨c0, c1, c2, c3, c4, c5, c6, c7, c8, c9, c10, c11⟩ | with_reducible exact HKS.out _ HB3.out | with_reducible exact HKS.out _ HB4.out | go_keep)
  ((first
   | (go_at_call 97; (with_reducible refine (rnum_k6 m HK0.out _).mono ?_); rintro e w3 ⟨A3, n3, rfl, hr3, hB3⟩; have HB3 := Lib.hid (show Below w2.heap.size w2 w3 from ⟨hB3.os, hB3.tape, hB3.output, hB3.size, hB3.block⟩); have HR3 := Lib.hid hr3; clear hB3 hr3)
   | (go_at_call 96; have hcx := made_k6 m HK0.out A3 n3 w3 HR3.out; rw [← HK0.out] at hcx; (with_reducible refine hcx.mono ?_); clear hcx; rintro e w4 ⟨rfl, hB4⟩; have HB4 := Lib.hid (HB3.out.trans (hB4.mono HB3.out.size)); clear hB4; have hx4 := H2.out.2.1.below HB4.out H2.out.2.1.lt; have z4 := hx4.frozen; have l4 := hx4.lt; have y0 : w4.cell? ⟨b1 + 1, 0, none⟩ = some (.int .i64 0) := hx4.cell 0; have y1 : w4.cell? ⟨b1 + 1, 1, none⟩ = some (.int .i64 0) := hx4.cell 1; have y2 : w4.cell? ⟨b1 + 1, 2, none⟩ = some (.int .i64 0) := hx4.cell 2; have y3 : w4.cell? ⟨b1 + 1, 3, none⟩ = some (.int .i64 0) := hx4.cell 3; have y4 : w4.cell? ⟨b1 + 1, 4, none⟩ = some (.int .i64 0) := hx4.cell 4; have y5 : w4.cell? ⟨b1 + 1, 5, none⟩ = some (.int .i64 0) := hx4.cell 5; have y6 : w4.cell? ⟨b1 + 1, 6, none⟩ = some (.int .i64 0) := hx4.cell 6; have y7 : w4.cell? ⟨b1 + 1, 7, none⟩ = some (.int .i64 0) := hx4.cell 7; have y8 : w4.cell? ⟨b1 + 1, 8, none⟩ = some (.int .i64 0) := hx4.cell 8; have y9 : w4.cell? ⟨b1 + 1, 9, none⟩ = some (.int .i64 0) := hx4.cell 9; have y10 : w4.cell? ⟨b1 + 1, 10, none⟩ = some (.int .i64 0) := hx4.cell 10; have y11 : w4.cell? ⟨b1 + 1, 11, none⟩ = some (.int .i64 0) := hx4.cell 11; clear hx4)))
 all_goals
  go_wp2_with fail
  obtain ⟨hbz, hbe⟩ := lay12 (H2.out.2.1.below HB4.out H2.out.2.1.lt) HG.out (H2.out.2.2.trans (HB4.out.mono H2.out.2.2.size)) (.int .i64 (keepM m [5, 7, 9, 10, 11]).kind) (.int .i64 (keepM m [5, 7, 9, 10, 11]).frm) (.int .i64 (keepM m [5, 7, 9, 10, 11]).to_) (.int .i64 (keepM m [5, 7, 9, 10, 11]).epoch) (.int .i64 (keepM m [5, 7, 9, 10, 11]).inc) (.int .i64 (keepM m [5, 7, 9, 10, 11]).job) (.int .i64 (keepM m [5, 7, 9, 10, 11]).tick) (.int .i64 (keepM m [5, 7, 9, 10, 11]).prio) (.int .i64 (keepM m [5, 7, 9, 10, 11]).code) (.int .i64 (keepM m [5, 7, 9, 10, 11]).res.a) (.int .i64 (keepM m [5, 7, 9, 10, 11]).res.b) (.int .i64 (keepM m [5, 7, 9, 10, 11]).res.c)
  have HZ := Lib.hid hbe
  clear hbe
  generalize ((((((((((((w4.setCell ⟨b1 + 1, 0, none⟩ (.int .i64 (keepM m [5, 7, 9, 10, 11]).kind)).setCell ⟨b1 + 1, 1, none⟩ (.int .i64 (keepM m [5, 7, 9, 10, 11]).frm)).setCell ⟨b1 + 1, 2, none⟩ (.int .i64 (keepM m [5, 7, 9, 10, 11]).to_)).setCell ⟨b1 + 1, 3, none⟩ (.int .i64 (keepM m [5, 7, 9, 10, 11]).epoch)).setCell ⟨b1 + 1, 4, none⟩ (.int .i64 (keepM m [5, 7, 9, 10, 11]).inc)).setCell ⟨b1 + 1, 5, none⟩ (.int .i64 (keepM m [5, 7, 9, 10, 11]).job)).setCell ⟨b1 + 1, 6, none⟩ (.int .i64 (keepM m [5, 7, 9, 10, 11]).tick)).setCell ⟨b1 + 1, 7, none⟩ (.int .i64 (keepM m [5, 7, 9, 10, 11]).prio)).setCell ⟨b1 + 1, 8, none⟩ (.int .i64 (keepM m [5, 7, 9, 10, 11]).code)).setCell ⟨b1 + 1, 9, none⟩ (.int .i64 (keepM m [5, 7, 9, 10, 11]).res.a)).setCell ⟨b1 + 1, 10, none⟩ (.int .i64 (keepM m [5, 7, 9, 10, 11]).res.b)).setCell ⟨b1 + 1, 11, none⟩ (.int .i64 (keepM m [5, 7, 9, 10, 11]).res.c)) = wz at hbz HZ ⊢
  have d0 := hbz.cell 0
  have d1 := hbz.cell 1
  have d2 := hbz.cell 2
  have d3 := hbz.cell 3
  have d4 := hbz.cell 4
  have d5 := hbz.cell 5
  have d6 := hbz.cell 6
  have d7 := hbz.cell 7
  have d8 := hbz.cell 8
  have d9 := hbz.cell 9
  have d10 := hbz.cell 10
  have d11 := hbz.cell 11
  simp only [List.getElem?_toArray, List.getElem?_cons_zero, List.getElem?_cons_succ] at d0 d1 d2 d3 d4 d5 d6 d7 d8 d9 d10 d11
  refine bodyPost_ret (v := aggMsg (keepM m [5, 7, 9, 10, 11])) (by simp [results, Tryd.results77, go_sem, d0, d1, d2, d3, d4, d5, d6, d7, d8, d9, d10, d11]) rfl ⟨rfl, HZ.out⟩
set_option maxRecDepth 100000 in
set_option maxHeartbeats 6400000 in
theorem rpure_k7 (m : LMsg) (hk : m.kind = 7) (w : World) : Calls Tryd.prog 77 #[aggMsg m] w fun e w' => e = .returned (aggMsg (keepM m [5])) ∧ Below w.heap.size w w' := by
 have hs1 : (w.alloc (.cells (boxMsg m) 38)).heap.size = w.heap.size + 1 := by simp
 have h1 := (Blk.new w 38 (boxMsg m)).alloc (.cells #[.int .i64 0, .int .i64 0, .int .i64 0, .int .i64 0, .int .i64 0, .int .i64 0, .int .i64 0, .int .i64 0, .int .i64 0, .int .i64 0, .int .i64 0, .int .i64 0] 38)
 have h2 := Blk.new (w.alloc (.cells (boxMsg m) 38)) 38 #[.int .i64 0, .int .i64 0, .int .i64 0, .int .i64 0, .int .i64 0, .int .i64 0, .int .i64 0, .int .i64 0, .int .i64 0, .int .i64 0, .int .i64 0, .int .i64 0]
 rw [hs1] at h2
 have hB : Below w.heap.size w ((w.alloc (.cells (boxMsg m) 38)).alloc (.cells #[.int .i64 0, .int .i64 0, .int .i64 0, .int .i64 0, .int .i64 0, .int .i64 0, .int .i64 0, .int .i64 0, .int .i64 0, .int .i64 0, .int .i64 0, .int .i64 0] 38)) := ((Below.refl _ _).alloc (Nat.le_refl _) _).alloc (by simp) _
 have c0 : ((w.alloc (.cells (boxMsg m) 38)).alloc (.cells #[.int .i64 0, .int .i64 0, .int .i64 0, .int .i64 0, .int .i64 0, .int .i64 0, .int .i64 0, .int .i64 0, .int .i64 0, .int .i64 0, .int .i64 0, .int .i64 0] 38)).cell? ⟨w.heap.size, 0, none⟩ = some (.int .i64 7) := by rw [← hk]; exact (h1.cell 0).trans rfl
 have H0 := Lib.hid (And.intro h1 (And.intro h2 hB))
 have HK0 := Lib.hid hk
 clear hs1 h1 h2 hB hk
 go_enter Tryd.func77, Tryd.ntmps77
 go_wp2_with fail
 generalize (w.alloc (.cells (boxMsg m) 38)).alloc (.cells #[.int .i64 0, .int .i64 0, .int .i64 0, .int .i64 0, .int .i64 0, .int .i64 0, .int .i64 0, .int .i64 0, .int .i64 0, .int .i64 0, .int .i64 0, .int .i64 0] 38) = w1 at H0 c0 ⊢
 obtain ⟨b1, hb1⟩ : ∃ b1, w.heap.size = b1 := ⟨_, rfl⟩
 have h1 : Blk w1 b1 38 (boxMsg m) := by rw [← hb1]; exact H0.out.1
 have h2 : Blk w1 (b1 + 1) 38 #[.int .i64 0, .int .i64 0, .int .i64 0, .int .i64 0, .int .i64 0, .int .i64 0, .int .i64 0, .int .i64 0, .int .i64 0, .int .i64 0, .int .i64 0, .int .i64 0] := by rw [← hb1]; exact H0.out.2.1
 rw [hb1] at c0
 have HG := Lib.hid (show w.heap.size ≤ b1 + 1 by omega)
 try simp only [hb1]
 go_wp2_with fail
 (with_reducible refine (rnames_k7 w1).mono ?_)
 rintro e w2 ⟨rfl, hB2⟩
 have H2 := Lib.hid (And.intro (h1.below hB2 h1.lt) (And.intro (h2.below hB2 h2.lt) (H0.out.2.2.trans (hB2.mono H0.out.2.2.size))))
 clear h1 h2 hb1 H0 c0 hB2
 have z2 := H2.out.2.1.frozen
 have l2 := H2.out.2.1.lt
 have l1 := H2.out.1.lt
 have HKS : Hid (∀ W, Below w2.heap.size w2 W → (fun w' => w'.cell? ⟨b1, 0, none⟩ = some (.int .i64 m.kind) ∧ w'.cell? ⟨b1, 1, none⟩ = some (.int .i64 m.frm) ∧ w'.cell? ⟨b1, 2, none⟩ = some (.int .i64 m.to_) ∧ w'.cell? ⟨b1, 3, none⟩ = some (.int .i64 m.epoch) ∧ w'.cell? ⟨b1, 4, none⟩ = some (.int .i64 m.inc) ∧ w'.cell? ⟨b1, 5, none⟩ = some (.int .i64 m.job) ∧ w'.cell? ⟨b1, 6, none⟩ = some (.int .i64 m.tick) ∧ w'.cell? ⟨b1, 7, none⟩ = some (.int .i64 m.prio) ∧ w'.cell? ⟨b1, 8, none⟩ = some (.int .i64 m.code) ∧ w'.cell? ⟨b1, 9, none⟩ = some (.int .i64 m.res.a) ∧ w'.cell? ⟨b1, 10, none⟩ = some (.int .i64 m.res.b) ∧ w'.cell? ⟨b1, 11, none⟩ = some (.int .i64 m.res.c)) W) := Lib.hid (fun W hb => ⟨((H2.out.1.below hb H2.out.1.lt).cell 0).trans rfl, ((H2.out.1.below hb H2.out.1.lt).cell 1).trans rfl, ((H2.out.1.below hb H2.out.1.lt).cell 2).trans rfl, ((H2.out.1.below hb H2.out.1.lt).cell 3).trans rfl, ((H2.out.1.below hb H2.out.1.lt).cell 4).trans rfl, ((H2.out.1.below hb H2.out.1.lt).cell 5).trans rfl, ((H2.out.1.below hb H2.out.1.lt).cell 6).trans rfl, ((H2.out.1.below hb H2.out.1.lt).cell 7).trans rfl, ((H2.out.1.below hb H2.out.1.lt).cell 8).trans rfl, ((H2.out.1.below hb H2.out.1.lt).cell 9).trans rfl, ((H2.out.1.below hb H2.out.1.lt).cell 10).trans rfl, ((H2.out.1.below hb H2.out.1.lt).cell 11).trans rfl⟩)
 obtain ⟨c0, c1, c2, c3, c4, c5, c6, c7, c8, c9, c10, c11⟩ := HKS.out w2 (Below.refl _ _)
 go_wp2_with fail
 go_region_held3 (fun w' => w'.cell? ⟨b1, 0, none⟩ = some (.int .i64 m.kind) ∧ w'.cell? ⟨b1, 1, none⟩ = some (.int .i64 m.frm) ∧ w'.cell? ⟨b1, 2, none⟩ = some (.int .i64 m.to_) ∧ w'.cell? ⟨b1, 3, none⟩ = some (.int .i64 m.epoch) ∧ w'.cell? ⟨b1, 4, none⟩ = some (.int .i64 m.inc) ∧ w'.cell? ⟨b1, 5, none⟩ = some (.int .i64 m.job) ∧ w'.cell? ⟨b1, 6, none⟩ = some (.int .i64 m.tick) ∧ w'.cell? ⟨b1, 7, none⟩ = some (.int .i64 m.prio) ∧ w'.cell? ⟨b1, 8, none⟩ = some (.int .i64 m.code) ∧ w'.cell? ⟨b1, 9, none⟩ = some (.int .i64 m.res.a) ∧ w'.cell? ⟨b1, 10, none⟩ = some (.int .i64 m.res.b) ∧ w'.cell? ⟨b1, 11, none⟩ = some (.int .i64 m.res.c)) (first | with_reducible exact ⟨c0, c1, c2, c3, c4, c5, c6, c7, c8, c9, c10, c11⟩ | with_reducible exact HKS.out _ HB3.out | with_reducible exact HKS.out _ HB4.out | go_keep)
  ((first
   | (go_at_call 97; (with_reducible refine (rnum_k7 m HK0.out _).mono ?_); rintro e w3 ⟨A3, n3, rfl, hr3, hB3⟩; have HB3 := Lib.hid (show Below w2.heap.size w2 w3 from ⟨hB3.os, hB3.tape, hB3.output, hB3.size, hB3.block⟩); have HR3 := Lib.hid hr3; clear hB3 hr3)
   | (go_at_call 96; have hcx := made_k7 m HK0.out A3 n3 w3 HR3.out; rw [← HK0.out] at hcx; (with_reducible refine hcx.mono ?_); clear hcx; rintro e w4 ⟨rfl, hB4⟩; have HB4 := Lib.hid (HB3.out.trans (hB4.mono HB3.out.size)); clear hB4; have hx4 := H2.out.2.1.below HB4.out H2.out.2.1.lt; have z4 := hx4.frozen; have l4 := hx4.lt; have y0 : w4.cell? ⟨b1 + 1, 0, none⟩ = some (.int .i64 0) := hx4.cell 0; have y1 : w4.cell? ⟨b1 + 1, 1, none⟩ = some (.int .i64 0) := hx4.cell 1; have y2 : w4.cell? ⟨b1 + 1, 2, none⟩ = some (.int .i64 0) := hx4.cell 2; have y3 : w4.cell? ⟨b1 + 1, 3, none⟩ = some (.int .i64 0) := hx4.cell 3; have y4 : w4.cell? ⟨b1 + 1, 4, none⟩ = some (.int .i64 0) := hx4.cell 4; have y5 : w4.cell? ⟨b1 + 1, 5, none⟩ = some (.int .i64 0) := hx4.cell 5; have y6 : w4.cell? ⟨b1 + 1, 6, none⟩ = some (.int .i64 0) := hx4.cell 6; have y7 : w4.cell? ⟨b1 + 1, 7, none⟩ = some (.int .i64 0) := hx4.cell 7; have y8 : w4.cell? ⟨b1 + 1, 8, none⟩ = some (.int .i64 0) := hx4.cell 8; have y9 : w4.cell? ⟨b1 + 1, 9, none⟩ = some (.int .i64 0) := hx4.cell 9; have y10 : w4.cell? ⟨b1 + 1, 10, none⟩ = some (.int .i64 0) := hx4.cell 10; have y11 : w4.cell? ⟨b1 + 1, 11, none⟩ = some (.int .i64 0) := hx4.cell 11; clear hx4)))
 all_goals
  go_wp2_with fail
  obtain ⟨hbz, hbe⟩ := lay12 (H2.out.2.1.below HB4.out H2.out.2.1.lt) HG.out (H2.out.2.2.trans (HB4.out.mono H2.out.2.2.size)) (.int .i64 (keepM m [5]).kind) (.int .i64 (keepM m [5]).frm) (.int .i64 (keepM m [5]).to_) (.int .i64 (keepM m [5]).epoch) (.int .i64 (keepM m [5]).inc) (.int .i64 (keepM m [5]).job) (.int .i64 (keepM m [5]).tick) (.int .i64 (keepM m [5]).prio) (.int .i64 (keepM m [5]).code) (.int .i64 (keepM m [5]).res.a) (.int .i64 (keepM m [5]).res.b) (.int .i64 (keepM m [5]).res.c)
  have HZ := Lib.hid hbe
  clear hbe
  generalize ((((((((((((w4.setCell ⟨b1 + 1, 0, none⟩ (.int .i64 (keepM m [5]).kind)).setCell ⟨b1 + 1, 1, none⟩ (.int .i64 (keepM m [5]).frm)).setCell ⟨b1 + 1, 2, none⟩ (.int .i64 (keepM m [5]).to_)).setCell ⟨b1 + 1, 3, none⟩ (.int .i64 (keepM m [5]).epoch)).setCell ⟨b1 + 1, 4, none⟩ (.int .i64 (keepM m [5]).inc)).setCell ⟨b1 + 1, 5, none⟩ (.int .i64 (keepM m [5]).job)).setCell ⟨b1 + 1, 6, none⟩ (.int .i64 (keepM m [5]).tick)).setCell ⟨b1 + 1, 7, none⟩ (.int .i64 (keepM m [5]).prio)).setCell ⟨b1 + 1, 8, none⟩ (.int .i64 (keepM m [5]).code)).setCell ⟨b1 + 1, 9, none⟩ (.int .i64 (keepM m [5]).res.a)).setCell ⟨b1 + 1, 10, none⟩ (.int .i64 (keepM m [5]).res.b)).setCell ⟨b1 + 1, 11, none⟩ (.int .i64 (keepM m [5]).res.c)) = wz at hbz HZ ⊢
  have d0 := hbz.cell 0
  have d1 := hbz.cell 1
  have d2 := hbz.cell 2
  have d3 := hbz.cell 3
  have d4 := hbz.cell 4
  have d5 := hbz.cell 5
  have d6 := hbz.cell 6
  have d7 := hbz.cell 7
  have d8 := hbz.cell 8
  have d9 := hbz.cell 9
  have d10 := hbz.cell 10
  have d11 := hbz.cell 11
  simp only [List.getElem?_toArray, List.getElem?_cons_zero, List.getElem?_cons_succ] at d0 d1 d2 d3 d4 d5 d6 d7 d8 d9 d10 d11
  refine bodyPost_ret (v := aggMsg (keepM m [5])) (by simp [results, Tryd.results77, go_sem, d0, d1, d2, d3, d4, d5, d6, d7, d8, d9, d10, d11]) rfl ⟨rfl, HZ.out⟩
set_option maxRecDepth 100000 in
set_option maxHeartbeats 6400000 in
theorem rpure_k8 (m : LMsg) (hk : m.kind = 8) (w : World) : Calls Tryd.prog 77 #[aggMsg m] w fun e w' => e = .returned (aggMsg (keepM m [5, 8])) ∧ Below w.heap.size w w' := by
 have hs1 : (w.alloc (.cells (boxMsg m) 38)).heap.size = w.heap.size + 1 := by simp
 have h1 := (Blk.new w 38 (boxMsg m)).alloc (.cells #[.int .i64 0, .int .i64 0, .int .i64 0, .int .i64 0, .int .i64 0, .int .i64 0, .int .i64 0, .int .i64 0, .int .i64 0, .int .i64 0, .int .i64 0, .int .i64 0] 38)
 have h2 := Blk.new (w.alloc (.cells (boxMsg m) 38)) 38 #[.int .i64 0, .int .i64 0, .int .i64 0, .int .i64 0, .int .i64 0, .int .i64 0, .int .i64 0, .int .i64 0, .int .i64 0, .int .i64 0, .int .i64 0, .int .i64 0]
 rw [hs1] at h2
 have hB : Below w.heap.size w ((w.alloc (.cells (boxMsg m) 38)).alloc (.cells #[.int .i64 0, .int .i64 0, .int .i64 0, .int .i64 0, .int .i64 0, .int .i64 0, .int .i64 0, .int .i64 0, .int .i64 0, .int .i64 0, .int .i64 0, .int .i64 0] 38)) := ((Below.refl _ _).alloc (Nat.le_refl _) _).alloc (by simp) _
 have c0 : ((w.alloc (.cells (boxMsg m) 38)).alloc (.cells #[.int .i64 0, .int .i64 0, .int .i64 0, .int .i64 0, .int .i64 0, .int .i64 0, .int .i64 0, .int .i64 0, .int .i64 0, .int .i64 0, .int .i64 0, .int .i64 0] 38)).cell? ⟨w.heap.size, 0, none⟩ = some (.int .i64 8) := by rw [← hk]; exact (h1.cell 0).trans rfl
 have H0 := Lib.hid (And.intro h1 (And.intro h2 hB))
 have HK0 := Lib.hid hk
 clear hs1 h1 h2 hB hk
 go_enter Tryd.func77, Tryd.ntmps77
 go_wp2_with fail
 generalize (w.alloc (.cells (boxMsg m) 38)).alloc (.cells #[.int .i64 0, .int .i64 0, .int .i64 0, .int .i64 0, .int .i64 0, .int .i64 0, .int .i64 0, .int .i64 0, .int .i64 0, .int .i64 0, .int .i64 0, .int .i64 0] 38) = w1 at H0 c0 ⊢
 obtain ⟨b1, hb1⟩ : ∃ b1, w.heap.size = b1 := ⟨_, rfl⟩
 have h1 : Blk w1 b1 38 (boxMsg m) := by rw [← hb1]; exact H0.out.1
 have h2 : Blk w1 (b1 + 1) 38 #[.int .i64 0, .int .i64 0, .int .i64 0, .int .i64 0, .int .i64 0, .int .i64 0, .int .i64 0, .int .i64 0, .int .i64 0, .int .i64 0, .int .i64 0, .int .i64 0] := by rw [← hb1]; exact H0.out.2.1
 rw [hb1] at c0
 have HG := Lib.hid (show w.heap.size ≤ b1 + 1 by omega)
 try simp only [hb1]
 go_wp2_with fail
 (with_reducible refine (rnames_k8 w1).mono ?_)
 rintro e w2 ⟨rfl, hB2⟩
 have H2 := Lib.hid (And.intro (h1.below hB2 h1.lt) (And.intro (h2.below hB2 h2.lt) (H0.out.2.2.trans (hB2.mono H0.out.2.2.size))))
 clear h1 h2 hb1 H0 c0 hB2
 have z2 := H2.out.2.1.frozen
 have l2 := H2.out.2.1.lt
 have l1 := H2.out.1.lt
 have HKS : Hid (∀ W, Below w2.heap.size w2 W → (fun w' => w'.cell? ⟨b1, 0, none⟩ = some (.int .i64 m.kind) ∧ w'.cell? ⟨b1, 1, none⟩ = some (.int .i64 m.frm) ∧ w'.cell? ⟨b1, 2, none⟩ = some (.int .i64 m.to_) ∧ w'.cell? ⟨b1, 3, none⟩ = some (.int .i64 m.epoch) ∧ w'.cell? ⟨b1, 4, none⟩ = some (.int .i64 m.inc) ∧ w'.cell? ⟨b1, 5, none⟩ = some (.int .i64 m.job) ∧ w'.cell? ⟨b1, 6, none⟩ = some (.int .i64 m.tick) ∧ w'.cell? ⟨b1, 7, none⟩ = some (.int .i64 m.prio) ∧ w'.cell? ⟨b1, 8, none⟩ = some (.int .i64 m.code) ∧ w'.cell? ⟨b1, 9, none⟩ = some (.int .i64 m.res.a) ∧ w'.cell? ⟨b1, 10, none⟩ = some (.int .i64 m.res.b) ∧ w'.cell? ⟨b1, 11, none⟩ = some (.int .i64 m.res.c)) W) := Lib.hid (fun W hb => ⟨((H2.out.1.below hb H2.out.1.lt).cell 0).trans rfl, ((H2.out.1.below hb H2.out.1.lt).cell 1).trans rfl, ((H2.out.1.below hb H2.out.1.lt).cell 2).trans rfl, ((H2.out.1.below hb H2.out.1.lt).cell 3).trans rfl, ((H2.out.1.below hb H2.out.1.lt).cell 4).trans rfl, ((H2.out.1.below hb H2.out.1.lt).cell 5).trans rfl, ((H2.out.1.below hb H2.out.1.lt).cell 6).trans rfl, ((H2.out.1.below hb H2.out.1.lt).cell 7).trans rfl, ((H2.out.1.below hb H2.out.1.lt).cell 8).trans rfl, ((H2.out.1.below hb H2.out.1.lt).cell 9).trans rfl, ((H2.out.1.below hb H2.out.1.lt).cell 10).trans rfl, ((H2.out.1.below hb H2.out.1.lt).cell 11).trans rfl⟩)
 obtain ⟨c0, c1, c2, c3, c4, c5, c6, c7, c8, c9, c10, c11⟩ := HKS.out w2 (Below.refl _ _)
 go_wp2_with fail
 go_region_held3 (fun w' => w'.cell? ⟨b1, 0, none⟩ = some (.int .i64 m.kind) ∧ w'.cell? ⟨b1, 1, none⟩ = some (.int .i64 m.frm) ∧ w'.cell? ⟨b1, 2, none⟩ = some (.int .i64 m.to_) ∧ w'.cell? ⟨b1, 3, none⟩ = some (.int .i64 m.epoch) ∧ w'.cell? ⟨b1, 4, none⟩ = some (.int .i64 m.inc) ∧ w'.cell? ⟨b1, 5, none⟩ = some (.int .i64 m.job) ∧ w'.cell? ⟨b1, 6, none⟩ = some (.int .i64 m.tick) ∧ w'.cell? ⟨b1, 7, none⟩ = some (.int .i64 m.prio) ∧ w'.cell? ⟨b1, 8, none⟩ = some (.int .i64 m.code) ∧ w'.cell? ⟨b1, 9, none⟩ = some (.int .i64 m.res.a) ∧ w'.cell? ⟨b1, 10, none⟩ = some (.int .i64 m.res.b) ∧ w'.cell? ⟨b1, 11, none⟩ = some (.int .i64 m.res.c)) (first | with_reducible exact ⟨c0, c1, c2, c3, c4, c5, c6, c7, c8, c9, c10, c11⟩ | with_reducible exact HKS.out _ HB3.out | with_reducible exact HKS.out _ HB4.out | go_keep)
  ((first
   | (go_at_call 97; (with_reducible refine (rnum_k8 m HK0.out _).mono ?_); rintro e w3 ⟨A3, n3, rfl, hr3, hB3⟩; have HB3 := Lib.hid (show Below w2.heap.size w2 w3 from ⟨hB3.os, hB3.tape, hB3.output, hB3.size, hB3.block⟩); have HR3 := Lib.hid hr3; clear hB3 hr3)
   | (go_at_call 96; have hcx := made_k8 m HK0.out A3 n3 w3 HR3.out; rw [← HK0.out] at hcx; (with_reducible refine hcx.mono ?_); clear hcx; rintro e w4 ⟨rfl, hB4⟩; have HB4 := Lib.hid (HB3.out.trans (hB4.mono HB3.out.size)); clear hB4; have hx4 := H2.out.2.1.below HB4.out H2.out.2.1.lt; have z4 := hx4.frozen; have l4 := hx4.lt; have y0 : w4.cell? ⟨b1 + 1, 0, none⟩ = some (.int .i64 0) := hx4.cell 0; have y1 : w4.cell? ⟨b1 + 1, 1, none⟩ = some (.int .i64 0) := hx4.cell 1; have y2 : w4.cell? ⟨b1 + 1, 2, none⟩ = some (.int .i64 0) := hx4.cell 2; have y3 : w4.cell? ⟨b1 + 1, 3, none⟩ = some (.int .i64 0) := hx4.cell 3; have y4 : w4.cell? ⟨b1 + 1, 4, none⟩ = some (.int .i64 0) := hx4.cell 4; have y5 : w4.cell? ⟨b1 + 1, 5, none⟩ = some (.int .i64 0) := hx4.cell 5; have y6 : w4.cell? ⟨b1 + 1, 6, none⟩ = some (.int .i64 0) := hx4.cell 6; have y7 : w4.cell? ⟨b1 + 1, 7, none⟩ = some (.int .i64 0) := hx4.cell 7; have y8 : w4.cell? ⟨b1 + 1, 8, none⟩ = some (.int .i64 0) := hx4.cell 8; have y9 : w4.cell? ⟨b1 + 1, 9, none⟩ = some (.int .i64 0) := hx4.cell 9; have y10 : w4.cell? ⟨b1 + 1, 10, none⟩ = some (.int .i64 0) := hx4.cell 10; have y11 : w4.cell? ⟨b1 + 1, 11, none⟩ = some (.int .i64 0) := hx4.cell 11; clear hx4)))
 all_goals
  go_wp2_with fail
  obtain ⟨hbz, hbe⟩ := lay12 (H2.out.2.1.below HB4.out H2.out.2.1.lt) HG.out (H2.out.2.2.trans (HB4.out.mono H2.out.2.2.size)) (.int .i64 (keepM m [5, 8]).kind) (.int .i64 (keepM m [5, 8]).frm) (.int .i64 (keepM m [5, 8]).to_) (.int .i64 (keepM m [5, 8]).epoch) (.int .i64 (keepM m [5, 8]).inc) (.int .i64 (keepM m [5, 8]).job) (.int .i64 (keepM m [5, 8]).tick) (.int .i64 (keepM m [5, 8]).prio) (.int .i64 (keepM m [5, 8]).code) (.int .i64 (keepM m [5, 8]).res.a) (.int .i64 (keepM m [5, 8]).res.b) (.int .i64 (keepM m [5, 8]).res.c)
  have HZ := Lib.hid hbe
  clear hbe
  generalize ((((((((((((w4.setCell ⟨b1 + 1, 0, none⟩ (.int .i64 (keepM m [5, 8]).kind)).setCell ⟨b1 + 1, 1, none⟩ (.int .i64 (keepM m [5, 8]).frm)).setCell ⟨b1 + 1, 2, none⟩ (.int .i64 (keepM m [5, 8]).to_)).setCell ⟨b1 + 1, 3, none⟩ (.int .i64 (keepM m [5, 8]).epoch)).setCell ⟨b1 + 1, 4, none⟩ (.int .i64 (keepM m [5, 8]).inc)).setCell ⟨b1 + 1, 5, none⟩ (.int .i64 (keepM m [5, 8]).job)).setCell ⟨b1 + 1, 6, none⟩ (.int .i64 (keepM m [5, 8]).tick)).setCell ⟨b1 + 1, 7, none⟩ (.int .i64 (keepM m [5, 8]).prio)).setCell ⟨b1 + 1, 8, none⟩ (.int .i64 (keepM m [5, 8]).code)).setCell ⟨b1 + 1, 9, none⟩ (.int .i64 (keepM m [5, 8]).res.a)).setCell ⟨b1 + 1, 10, none⟩ (.int .i64 (keepM m [5, 8]).res.b)).setCell ⟨b1 + 1, 11, none⟩ (.int .i64 (keepM m [5, 8]).res.c)) = wz at hbz HZ ⊢
  have d0 := hbz.cell 0
  have d1 := hbz.cell 1
  have d2 := hbz.cell 2
  have d3 := hbz.cell 3
  have d4 := hbz.cell 4
  have d5 := hbz.cell 5
  have d6 := hbz.cell 6
  have d7 := hbz.cell 7
  have d8 := hbz.cell 8
  have d9 := hbz.cell 9
  have d10 := hbz.cell 10
  have d11 := hbz.cell 11
  simp only [List.getElem?_toArray, List.getElem?_cons_zero, List.getElem?_cons_succ] at d0 d1 d2 d3 d4 d5 d6 d7 d8 d9 d10 d11
  refine bodyPost_ret (v := aggMsg (keepM m [5, 8])) (by simp [results, Tryd.results77, go_sem, d0, d1, d2, d3, d4, d5, d6, d7, d8, d9, d10, d11]) rfl ⟨rfl, HZ.out⟩
set_option maxRecDepth 100000 in
set_option maxHeartbeats 6400000 in
theorem rpure_kx (m : LMsg) (hk : namesM m.kind = []) (w : World) : Calls Tryd.prog 77 #[aggMsg m] w fun e w' => e = .returned (aggMsg zeroLMsg) ∧ Below w.heap.size w w' := by
 have hs1 : (w.alloc (.cells (boxMsg m) 38)).heap.size = w.heap.size + 1 := by simp
 have h1 := (Blk.new w 38 (boxMsg m)).alloc (.cells #[.int .i64 0, .int .i64 0, .int .i64 0, .int .i64 0, .int .i64 0, .int .i64 0, .int .i64 0, .int .i64 0, .int .i64 0, .int .i64 0, .int .i64 0, .int .i64 0] 38)
 have h2 := Blk.new (w.alloc (.cells (boxMsg m) 38)) 38 #[.int .i64 0, .int .i64 0, .int .i64 0, .int .i64 0, .int .i64 0, .int .i64 0, .int .i64 0, .int .i64 0, .int .i64 0, .int .i64 0, .int .i64 0, .int .i64 0]
 rw [hs1] at h2
 have hB : Below w.heap.size w ((w.alloc (.cells (boxMsg m) 38)).alloc (.cells #[.int .i64 0, .int .i64 0, .int .i64 0, .int .i64 0, .int .i64 0, .int .i64 0, .int .i64 0, .int .i64 0, .int .i64 0, .int .i64 0, .int .i64 0, .int .i64 0] 38)) := ((Below.refl _ _).alloc (Nat.le_refl _) _).alloc (by simp) _
 have c0 : ((w.alloc (.cells (boxMsg m) 38)).alloc (.cells #[.int .i64 0, .int .i64 0, .int .i64 0, .int .i64 0, .int .i64 0, .int .i64 0, .int .i64 0, .int .i64 0, .int .i64 0, .int .i64 0, .int .i64 0, .int .i64 0] 38)).cell? ⟨w.heap.size, 0, none⟩ = some (.int .i64 m.kind) := by exact (h1.cell 0).trans rfl
 have H0 := Lib.hid (And.intro h1 (And.intro h2 hB))
 have HK0 := Lib.hid hk
 clear hs1 h1 h2 hB hk
 go_enter Tryd.func77, Tryd.ntmps77
 go_wp2_with fail
 generalize (w.alloc (.cells (boxMsg m) 38)).alloc (.cells #[.int .i64 0, .int .i64 0, .int .i64 0, .int .i64 0, .int .i64 0, .int .i64 0, .int .i64 0, .int .i64 0, .int .i64 0, .int .i64 0, .int .i64 0, .int .i64 0] 38) = w1 at H0 c0 ⊢
 obtain ⟨b1, hb1⟩ : ∃ b1, w.heap.size = b1 := ⟨_, rfl⟩
 have h1 : Blk w1 b1 38 (boxMsg m) := by rw [← hb1]; exact H0.out.1
 have h2 : Blk w1 (b1 + 1) 38 #[.int .i64 0, .int .i64 0, .int .i64 0, .int .i64 0, .int .i64 0, .int .i64 0, .int .i64 0, .int .i64 0, .int .i64 0, .int .i64 0, .int .i64 0, .int .i64 0] := by rw [← hb1]; exact H0.out.2.1
 rw [hb1] at c0
 have HG := Lib.hid (show w.heap.size ≤ b1 + 1 by omega)
 try simp only [hb1]
 go_wp2_with fail
 (with_reducible refine (rnames_kx m.kind HK0.out w1).mono ?_)
 rintro e w2 ⟨rfl, hB2⟩
 have H2 := Lib.hid (And.intro (h1.below hB2 h1.lt) (And.intro (h2.below hB2 h2.lt) (H0.out.2.2.trans (hB2.mono H0.out.2.2.size))))
 clear h1 h2 hb1 H0 c0 hB2
 have z2 := H2.out.2.1.frozen
 have l2 := H2.out.2.1.lt
 have l1 := H2.out.1.lt
 have y0 := H2.out.2.1.cell 0
 have y1 := H2.out.2.1.cell 1
 have y2 := H2.out.2.1.cell 2
 have y3 := H2.out.2.1.cell 3
 have y4 := H2.out.2.1.cell 4
 have y5 := H2.out.2.1.cell 5
 have y6 := H2.out.2.1.cell 6
 have y7 := H2.out.2.1.cell 7
 have y8 := H2.out.2.1.cell 8
 have y9 := H2.out.2.1.cell 9
 have y10 := H2.out.2.1.cell 10
 have y11 := H2.out.2.1.cell 11
 simp only [List.getElem?_toArray, List.getElem?_cons_zero, List.getElem?_cons_succ] at y0 y1 y2 y3 y4 y5 y6 y7 y8 y9 y10 y11
 go_wp2_with fail
 obtain ⟨hbz, hbe⟩ := lay12 H2.out.2.1 HG.out H2.out.2.2 (.int .i64 0) (.int .i64 0) (.int .i64 0) (.int .i64 0) (.int .i64 0) (.int .i64 0) (.int .i64 0) (.int .i64 0) (.int .i64 0) (.int .i64 0) (.int .i64 0) (.int .i64 0)
 have HZ := Lib.hid hbe
 clear hbe
 generalize ((((((((((((w2.setCell ⟨b1 + 1, 0, none⟩ (.int .i64 0)).setCell ⟨b1 + 1, 1, none⟩ (.int .i64 0)).setCell ⟨b1 + 1, 2, none⟩ (.int .i64 0)).setCell ⟨b1 + 1, 3, none⟩ (.int .i64 0)).setCell ⟨b1 + 1, 4, none⟩ (.int .i64 0)).setCell ⟨b1 + 1, 5, none⟩ (.int .i64 0)).setCell ⟨b1 + 1, 6, none⟩ (.int .i64 0)).setCell ⟨b1 + 1, 7, none⟩ (.int .i64 0)).setCell ⟨b1 + 1, 8, none⟩ (.int .i64 0)).setCell ⟨b1 + 1, 9, none⟩ (.int .i64 0)).setCell ⟨b1 + 1, 10, none⟩ (.int .i64 0)).setCell ⟨b1 + 1, 11, none⟩ (.int .i64 0)) = wz at hbz HZ ⊢
 have d0 := hbz.cell 0
 have d1 := hbz.cell 1
 have d2 := hbz.cell 2
 have d3 := hbz.cell 3
 have d4 := hbz.cell 4
 have d5 := hbz.cell 5
 have d6 := hbz.cell 6
 have d7 := hbz.cell 7
 have d8 := hbz.cell 8
 have d9 := hbz.cell 9
 have d10 := hbz.cell 10
 have d11 := hbz.cell 11
 simp only [List.getElem?_toArray, List.getElem?_cons_zero, List.getElem?_cons_succ] at d0 d1 d2 d3 d4 d5 d6 d7 d8 d9 d10 d11
 refine bodyPost_ret (v := aggMsg zeroLMsg) (by simp [results, Tryd.results77, go_sem, zeroLMsg, d0, d1, d2, d3, d4, d5, d6, d7, d8, d9, d10, d11]) rfl ⟨rfl, HZ.out⟩
theorem rpure_t (m : LMsg) (w : World) : Calls Tryd.prog 77 #[aggMsg m] w fun e w' => e = .returned (aggMsg (pureM m)) ∧ Below w.heap.size w w' := by
 by_cases h : namesM m.kind = []
 ·rw [show pureM m = zeroLMsg by unfold pureM; rw [if_pos h]]
  exact rpure_kx m h w
 ·rw [show pureM m = keepM m (namesM m.kind) by unfold pureM; rw [if_neg h]]
  have hc : m.kind = 1 ∨ m.kind = 2 ∨ m.kind = 3 ∨ m.kind = 4 ∨ m.kind = 5 ∨ m.kind = 6 ∨ m.kind = 7 ∨ m.kind = 8 := by
   by_cases hc : m.kind = 1 ∨ m.kind = 2 ∨ m.kind = 3 ∨ m.kind = 4 ∨ m.kind = 5 ∨ m.kind = 6 ∨ m.kind = 7 ∨ m.kind = 8
   ·exact hc
   ·exfalso
    apply h
    simp only [not_or] at hc
    obtain ⟨h1, h2, h3, h4, h5, h6, h7, h8⟩ := hc
    simp [namesM, h1, h2, h3, h4, h5, h6, h7, h8]
  rcases hc with e | e | e | e | e | e | e | e
  ·rw [e]; exact rpure_k1 m e w
  ·rw [e]; exact rpure_k2 m e w
  ·rw [e]; exact rpure_k3 m e w
  ·rw [e]; exact rpure_k4 m e w
  ·rw [e]; exact rpure_k5 m e w
  ·rw [e]; exact rpure_k6 m e w
  ·rw [e]; exact rpure_k7 m e w
  ·rw [e]; exact rpure_k8 m e w
end Go.Proofs.YthhnocnkicoimaaDoor
