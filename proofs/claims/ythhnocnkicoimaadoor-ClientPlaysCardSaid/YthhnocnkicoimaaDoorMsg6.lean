/-
  LAYER 35 (msg): the document's names and ends of a kind.
-/
import Derived.Test.YthhnocnkicoimaaDoorMsg4
import Derived.BigRegion
set_option linter.unusedVariables false
set_option linter.unusedSimpArgs false
namespace Go.Proofs.YthhnocnkicoimaaDoor
open Go.RowKit

/-- The letters of a kind. -/
def lettersM (k : Int) : ByteArray :=
  if k = 1 then ⟨#[73, 84, 82]⟩ else if k = 2 then ⟨#[69, 73, 84]⟩ else if k = 3 then ⟨#[69, 73, 74]⟩ else if k = 4 then ⟨#[69, 73, 74]⟩ else if k = 5 then ⟨#[73, 74]⟩ else if k = 6 then ⟨#[74, 80, 82]⟩ else if k = 7 then ⟨#[74]⟩ else if k = 8 then ⟨#[74, 67]⟩ else ⟨#[]⟩
def STRS : Array Value := #[.string ⟨#[]⟩, .string ⟨#[73, 84, 82]⟩, .string ⟨#[69, 73, 84]⟩, .string ⟨#[69, 73, 74]⟩, .string ⟨#[69, 73, 74]⟩, .string ⟨#[73, 74]⟩, .string ⟨#[74, 80, 82]⟩, .string ⟨#[74]⟩, .string ⟨#[74, 67]⟩]
set_option maxRecDepth 100000 in
theorem rnames_k1 (w : World) : Calls Tryd.prog 75 #[.int .i64 1] w fun e w' => e = .returned (.string ⟨#[73, 84, 82]⟩) ∧ Below w.heap.size w w' := by
  have hB : Below w.heap.size w (w.alloc (.cells #[.string ⟨#[]⟩, .string ⟨#[73, 84, 82]⟩, .string ⟨#[69, 73, 84]⟩, .string ⟨#[69, 73, 74]⟩, .string ⟨#[69, 73, 74]⟩, .string ⟨#[73, 74]⟩, .string ⟨#[74, 80, 82]⟩, .string ⟨#[74]⟩, .string ⟨#[74, 67]⟩] 9)) := (Below.refl _ _).alloc (Nat.le_refl _) _
  have HB := Lib.hid hB
  clear hB
  go_enter Tryd.func75, Tryd.ntmps75
  go_wp2
  go_ret
  exact ⟨rfl, HB.out⟩
set_option maxRecDepth 100000 in
theorem rnames_k2 (w : World) : Calls Tryd.prog 75 #[.int .i64 2] w fun e w' => e = .returned (.string ⟨#[69, 73, 84]⟩) ∧ Below w.heap.size w w' := by
  have hB : Below w.heap.size w (w.alloc (.cells #[.string ⟨#[]⟩, .string ⟨#[73, 84, 82]⟩, .string ⟨#[69, 73, 84]⟩, .string ⟨#[69, 73, 74]⟩, .string ⟨#[69, 73, 74]⟩, .string ⟨#[73, 74]⟩, .string ⟨#[74, 80, 82]⟩, .string ⟨#[74]⟩, .string ⟨#[74, 67]⟩] 9)) := (Below.refl _ _).alloc (Nat.le_refl _) _
  have HB := Lib.hid hB
  clear hB
  go_enter Tryd.func75, Tryd.ntmps75
  go_wp2
  go_ret
  exact ⟨rfl, HB.out⟩
set_option maxRecDepth 100000 in
theorem rnames_k3 (w : World) : Calls Tryd.prog 75 #[.int .i64 3] w fun e w' => e = .returned (.string ⟨#[69, 73, 74]⟩) ∧ Below w.heap.size w w' := by
  have hB : Below w.heap.size w (w.alloc (.cells #[.string ⟨#[]⟩, .string ⟨#[73, 84, 82]⟩, .string ⟨#[69, 73, 84]⟩, .string ⟨#[69, 73, 74]⟩, .string ⟨#[69, 73, 74]⟩, .string ⟨#[73, 74]⟩, .string ⟨#[74, 80, 82]⟩, .string ⟨#[74]⟩, .string ⟨#[74, 67]⟩] 9)) := (Below.refl _ _).alloc (Nat.le_refl _) _
  have HB := Lib.hid hB
  clear hB
  go_enter Tryd.func75, Tryd.ntmps75
  go_wp2
  go_ret
  exact ⟨rfl, HB.out⟩
set_option maxRecDepth 100000 in
theorem rnames_k4 (w : World) : Calls Tryd.prog 75 #[.int .i64 4] w fun e w' => e = .returned (.string ⟨#[69, 73, 74]⟩) ∧ Below w.heap.size w w' := by
  have hB : Below w.heap.size w (w.alloc (.cells #[.string ⟨#[]⟩, .string ⟨#[73, 84, 82]⟩, .string ⟨#[69, 73, 84]⟩, .string ⟨#[69, 73, 74]⟩, .string ⟨#[69, 73, 74]⟩, .string ⟨#[73, 74]⟩, .string ⟨#[74, 80, 82]⟩, .string ⟨#[74]⟩, .string ⟨#[74, 67]⟩] 9)) := (Below.refl _ _).alloc (Nat.le_refl _) _
  have HB := Lib.hid hB
  clear hB
  go_enter Tryd.func75, Tryd.ntmps75
  go_wp2
  go_ret
  exact ⟨rfl, HB.out⟩
set_option maxRecDepth 100000 in
theorem rnames_k5 (w : World) : Calls Tryd.prog 75 #[.int .i64 5] w fun e w' => e = .returned (.string ⟨#[73, 74]⟩) ∧ Below w.heap.size w w' := by
  have hB : Below w.heap.size w (w.alloc (.cells #[.string ⟨#[]⟩, .string ⟨#[73, 84, 82]⟩, .string ⟨#[69, 73, 84]⟩, .string ⟨#[69, 73, 74]⟩, .string ⟨#[69, 73, 74]⟩, .string ⟨#[73, 74]⟩, .string ⟨#[74, 80, 82]⟩, .string ⟨#[74]⟩, .string ⟨#[74, 67]⟩] 9)) := (Below.refl _ _).alloc (Nat.le_refl _) _
  have HB := Lib.hid hB
  clear hB
  go_enter Tryd.func75, Tryd.ntmps75
  go_wp2
  go_ret
  exact ⟨rfl, HB.out⟩
set_option maxRecDepth 100000 in
theorem rnames_k6 (w : World) : Calls Tryd.prog 75 #[.int .i64 6] w fun e w' => e = .returned (.string ⟨#[74, 80, 82]⟩) ∧ Below w.heap.size w w' := by
  have hB : Below w.heap.size w (w.alloc (.cells #[.string ⟨#[]⟩, .string ⟨#[73, 84, 82]⟩, .string ⟨#[69, 73, 84]⟩, .string ⟨#[69, 73, 74]⟩, .string ⟨#[69, 73, 74]⟩, .string ⟨#[73, 74]⟩, .string ⟨#[74, 80, 82]⟩, .string ⟨#[74]⟩, .string ⟨#[74, 67]⟩] 9)) := (Below.refl _ _).alloc (Nat.le_refl _) _
  have HB := Lib.hid hB
  clear hB
  go_enter Tryd.func75, Tryd.ntmps75
  go_wp2
  go_ret
  exact ⟨rfl, HB.out⟩
set_option maxRecDepth 100000 in
theorem rnames_k7 (w : World) : Calls Tryd.prog 75 #[.int .i64 7] w fun e w' => e = .returned (.string ⟨#[74]⟩) ∧ Below w.heap.size w w' := by
  have hB : Below w.heap.size w (w.alloc (.cells #[.string ⟨#[]⟩, .string ⟨#[73, 84, 82]⟩, .string ⟨#[69, 73, 84]⟩, .string ⟨#[69, 73, 74]⟩, .string ⟨#[69, 73, 74]⟩, .string ⟨#[73, 74]⟩, .string ⟨#[74, 80, 82]⟩, .string ⟨#[74]⟩, .string ⟨#[74, 67]⟩] 9)) := (Below.refl _ _).alloc (Nat.le_refl _) _
  have HB := Lib.hid hB
  clear hB
  go_enter Tryd.func75, Tryd.ntmps75
  go_wp2
  go_ret
  exact ⟨rfl, HB.out⟩
set_option maxRecDepth 100000 in
theorem rnames_k8 (w : World) : Calls Tryd.prog 75 #[.int .i64 8] w fun e w' => e = .returned (.string ⟨#[74, 67]⟩) ∧ Below w.heap.size w w' := by
  have hB : Below w.heap.size w (w.alloc (.cells #[.string ⟨#[]⟩, .string ⟨#[73, 84, 82]⟩, .string ⟨#[69, 73, 84]⟩, .string ⟨#[69, 73, 74]⟩, .string ⟨#[69, 73, 74]⟩, .string ⟨#[73, 74]⟩, .string ⟨#[74, 80, 82]⟩, .string ⟨#[74]⟩, .string ⟨#[74, 67]⟩] 9)) := (Below.refl _ _).alloc (Nat.le_refl _) _
  have HB := Lib.hid hB
  clear hB
  go_enter Tryd.func75, Tryd.ntmps75
  go_wp2
  go_ret
  exact ⟨rfl, HB.out⟩
set_option maxRecDepth 100000 in
theorem rnames_kx (k : Int) (hk : namesM k = []) (w : World) : Calls Tryd.prog 75 #[.int .i64 k] w fun e w' => e = .returned (.string ⟨#[]⟩) ∧ Below w.heap.size w w' := by
  have hB : Below w.heap.size w (w.alloc (.cells #[.string ⟨#[]⟩, .string ⟨#[73, 84, 82]⟩, .string ⟨#[69, 73, 84]⟩, .string ⟨#[69, 73, 74]⟩, .string ⟨#[69, 73, 74]⟩, .string ⟨#[73, 74]⟩, .string ⟨#[74, 80, 82]⟩, .string ⟨#[74]⟩, .string ⟨#[74, 67]⟩] 9)) := (Below.refl _ _).alloc (Nat.le_refl _) _
  have HB := Lib.hid hB
  clear hB
  by_cases h1 : k < 1
  · clear hk
    go_enter Tryd.func75, Tryd.ntmps75
    go_wp2
    go_ret
    exact ⟨rfl, HB.out⟩
  · have h8 : 8 < k := by
      by_cases h : 8 < k
      · exact h
      · exfalso
        have hc : k = 1 ∨ k = 2 ∨ k = 3 ∨ k = 4 ∨ k = 5 ∨ k = 6 ∨ k = 7 ∨ k = 8 := by omega
        rcases hc with rfl | rfl | rfl | rfl | rfl | rfl | rfl | rfl <;> simp [namesM] at hk
    clear hk
    go_enter Tryd.func75, Tryd.ntmps75
    go_wp2
    go_ret
    exact ⟨rfl, HB.out⟩
theorem letters_nil (k : Int) (h : namesM k = []) : lettersM k = ⟨#[]⟩ := by
  revert h
  refine names_cases (C := fun k => namesM k = [] → lettersM k = ⟨#[]⟩) (by decide) (by decide) (by decide) (by decide) (by decide) (by decide) (by decide) (by decide) (fun k _ h1 h2 h3 h4 h5 h6 h7 h8 _ => by simp [lettersM, h1, h2, h3, h4, h5, h6, h7, h8]) k
theorem rnames_t (k : Int) (w : World) : Calls Tryd.prog 75 #[.int .i64 k] w fun e w' => e = .returned (.string (lettersM k)) ∧ Below w.heap.size w w' := by
  refine names_cases (C := fun k => Calls Tryd.prog 75 #[.int .i64 k] w fun e w' => e = .returned (.string (lettersM k)) ∧ Below w.heap.size w w') (rnames_k1 w) (rnames_k2 w) (rnames_k3 w) (rnames_k4 w) (rnames_k5 w) (rnames_k6 w) (rnames_k7 w) (rnames_k8 w) (fun k h _ _ _ _ _ _ _ _ => ?_) k
  rw [letters_nil k h]
  exact rnames_kx k h w
set_option maxRecDepth 100000 in
set_option maxHeartbeats 1600000 in
theorem rends_k1 (w : World) : Calls Tryd.prog 76 #[.int .i64 1] w fun e w' => e = .returned (.tuple #[.int .i64 2, .int .i64 1]) ∧ Below w.heap.size w w' := by
  have h0 := (Blk.new w 3 #[.int .i64 0, .int .i64 2, .int .i64 1, .int .i64 1, .int .i64 1, .int .i64 2, .int .i64 3, .int .i64 3, .int .i64 1]).alloc (.cells #[.int .i64 0, .int .i64 1, .int .i64 2, .int .i64 2, .int .i64 2, .int .i64 1, .int .i64 1, .int .i64 1, .int .i64 3] 3)
  have h1 := Blk.new (w.alloc (.cells #[.int .i64 0, .int .i64 2, .int .i64 1, .int .i64 1, .int .i64 1, .int .i64 2, .int .i64 3, .int .i64 3, .int .i64 1] 3)) 3 #[.int .i64 0, .int .i64 1, .int .i64 2, .int .i64 2, .int .i64 2, .int .i64 1, .int .i64 1, .int .i64 1, .int .i64 3]
  have hs : (w.alloc (.cells #[.int .i64 0, .int .i64 2, .int .i64 1, .int .i64 1, .int .i64 1, .int .i64 2, .int .i64 3, .int .i64 3, .int .i64 1] 3)).heap.size = w.heap.size + 1 := by simp
  rw [hs] at h1
  have hB : Below w.heap.size w ((w.alloc (.cells #[.int .i64 0, .int .i64 2, .int .i64 1, .int .i64 1, .int .i64 1, .int .i64 2, .int .i64 3, .int .i64 3, .int .i64 1] 3)).alloc (.cells #[.int .i64 0, .int .i64 1, .int .i64 2, .int .i64 2, .int .i64 2, .int .i64 1, .int .i64 1, .int .i64 1, .int .i64 3] 3)) := ((Below.refl _ _).alloc (Nat.le_refl _) _).alloc (by simp) _
  have g0 := (h0.cell 1).trans (show _ = some (Value.int .i64 2) from rfl)
  have g1 := (h1.cell 1).trans (show _ = some (Value.int .i64 1) from rfl)
  have HB := Lib.hid hB
  clear hB h0 h1 hs
  go_enter Tryd.func76, Tryd.ntmps76
  go_wp2_with fail
  generalize (w.alloc (.cells #[.int .i64 0, .int .i64 2, .int .i64 1, .int .i64 1, .int .i64 1, .int .i64 2, .int .i64 3, .int .i64 3, .int .i64 1] 3)).alloc (.cells #[.int .i64 0, .int .i64 1, .int .i64 2, .int .i64 2, .int .i64 2, .int .i64 1, .int .i64 1, .int .i64 1, .int .i64 3] 3) = w2 at HB g0 g1 ⊢
  obtain ⟨b0, hb0⟩ : ∃ b0, w.heap.size = b0 := ⟨_, rfl⟩
  obtain ⟨b1, hb1⟩ : ∃ b1, b0 + 1 = b1 := ⟨_, rfl⟩
  rw [hb0] at g0
  rw [hb0, hb1] at g1
  try rw [hb0]
  try rw [hb1]
  try simp only [hb1]
  go_region
  all_goals
    go_wp2_with fail
    go_ret2
    exact ⟨rfl, HB.out.drew⟩
set_option maxRecDepth 100000 in
set_option maxHeartbeats 1600000 in
theorem rends_k2 (w : World) : Calls Tryd.prog 76 #[.int .i64 2] w fun e w' => e = .returned (.tuple #[.int .i64 1, .int .i64 2]) ∧ Below w.heap.size w w' := by
  have h0 := (Blk.new w 3 #[.int .i64 0, .int .i64 2, .int .i64 1, .int .i64 1, .int .i64 1, .int .i64 2, .int .i64 3, .int .i64 3, .int .i64 1]).alloc (.cells #[.int .i64 0, .int .i64 1, .int .i64 2, .int .i64 2, .int .i64 2, .int .i64 1, .int .i64 1, .int .i64 1, .int .i64 3] 3)
  have h1 := Blk.new (w.alloc (.cells #[.int .i64 0, .int .i64 2, .int .i64 1, .int .i64 1, .int .i64 1, .int .i64 2, .int .i64 3, .int .i64 3, .int .i64 1] 3)) 3 #[.int .i64 0, .int .i64 1, .int .i64 2, .int .i64 2, .int .i64 2, .int .i64 1, .int .i64 1, .int .i64 1, .int .i64 3]
  have hs : (w.alloc (.cells #[.int .i64 0, .int .i64 2, .int .i64 1, .int .i64 1, .int .i64 1, .int .i64 2, .int .i64 3, .int .i64 3, .int .i64 1] 3)).heap.size = w.heap.size + 1 := by simp
  rw [hs] at h1
  have hB : Below w.heap.size w ((w.alloc (.cells #[.int .i64 0, .int .i64 2, .int .i64 1, .int .i64 1, .int .i64 1, .int .i64 2, .int .i64 3, .int .i64 3, .int .i64 1] 3)).alloc (.cells #[.int .i64 0, .int .i64 1, .int .i64 2, .int .i64 2, .int .i64 2, .int .i64 1, .int .i64 1, .int .i64 1, .int .i64 3] 3)) := ((Below.refl _ _).alloc (Nat.le_refl _) _).alloc (by simp) _
  have g0 := (h0.cell 2).trans (show _ = some (Value.int .i64 1) from rfl)
  have g1 := (h1.cell 2).trans (show _ = some (Value.int .i64 2) from rfl)
  have HB := Lib.hid hB
  clear hB h0 h1 hs
  go_enter Tryd.func76, Tryd.ntmps76
  go_wp2_with fail
  generalize (w.alloc (.cells #[.int .i64 0, .int .i64 2, .int .i64 1, .int .i64 1, .int .i64 1, .int .i64 2, .int .i64 3, .int .i64 3, .int .i64 1] 3)).alloc (.cells #[.int .i64 0, .int .i64 1, .int .i64 2, .int .i64 2, .int .i64 2, .int .i64 1, .int .i64 1, .int .i64 1, .int .i64 3] 3) = w2 at HB g0 g1 ⊢
  obtain ⟨b0, hb0⟩ : ∃ b0, w.heap.size = b0 := ⟨_, rfl⟩
  obtain ⟨b1, hb1⟩ : ∃ b1, b0 + 1 = b1 := ⟨_, rfl⟩
  rw [hb0] at g0
  rw [hb0, hb1] at g1
  try rw [hb0]
  try rw [hb1]
  try simp only [hb1]
  go_region
  all_goals
    go_wp2_with fail
    go_ret2
    exact ⟨rfl, HB.out.drew⟩
set_option maxRecDepth 100000 in
set_option maxHeartbeats 1600000 in
theorem rends_k3 (w : World) : Calls Tryd.prog 76 #[.int .i64 3] w fun e w' => e = .returned (.tuple #[.int .i64 1, .int .i64 2]) ∧ Below w.heap.size w w' := by
  have h0 := (Blk.new w 3 #[.int .i64 0, .int .i64 2, .int .i64 1, .int .i64 1, .int .i64 1, .int .i64 2, .int .i64 3, .int .i64 3, .int .i64 1]).alloc (.cells #[.int .i64 0, .int .i64 1, .int .i64 2, .int .i64 2, .int .i64 2, .int .i64 1, .int .i64 1, .int .i64 1, .int .i64 3] 3)
  have h1 := Blk.new (w.alloc (.cells #[.int .i64 0, .int .i64 2, .int .i64 1, .int .i64 1, .int .i64 1, .int .i64 2, .int .i64 3, .int .i64 3, .int .i64 1] 3)) 3 #[.int .i64 0, .int .i64 1, .int .i64 2, .int .i64 2, .int .i64 2, .int .i64 1, .int .i64 1, .int .i64 1, .int .i64 3]
  have hs : (w.alloc (.cells #[.int .i64 0, .int .i64 2, .int .i64 1, .int .i64 1, .int .i64 1, .int .i64 2, .int .i64 3, .int .i64 3, .int .i64 1] 3)).heap.size = w.heap.size + 1 := by simp
  rw [hs] at h1
  have hB : Below w.heap.size w ((w.alloc (.cells #[.int .i64 0, .int .i64 2, .int .i64 1, .int .i64 1, .int .i64 1, .int .i64 2, .int .i64 3, .int .i64 3, .int .i64 1] 3)).alloc (.cells #[.int .i64 0, .int .i64 1, .int .i64 2, .int .i64 2, .int .i64 2, .int .i64 1, .int .i64 1, .int .i64 1, .int .i64 3] 3)) := ((Below.refl _ _).alloc (Nat.le_refl _) _).alloc (by simp) _
  have g0 := (h0.cell 3).trans (show _ = some (Value.int .i64 1) from rfl)
  have g1 := (h1.cell 3).trans (show _ = some (Value.int .i64 2) from rfl)
  have HB := Lib.hid hB
  clear hB h0 h1 hs
  go_enter Tryd.func76, Tryd.ntmps76
  go_wp2_with fail
  generalize (w.alloc (.cells #[.int .i64 0, .int .i64 2, .int .i64 1, .int .i64 1, .int .i64 1, .int .i64 2, .int .i64 3, .int .i64 3, .int .i64 1] 3)).alloc (.cells #[.int .i64 0, .int .i64 1, .int .i64 2, .int .i64 2, .int .i64 2, .int .i64 1, .int .i64 1, .int .i64 1, .int .i64 3] 3) = w2 at HB g0 g1 ⊢
  obtain ⟨b0, hb0⟩ : ∃ b0, w.heap.size = b0 := ⟨_, rfl⟩
  obtain ⟨b1, hb1⟩ : ∃ b1, b0 + 1 = b1 := ⟨_, rfl⟩
  rw [hb0] at g0
  rw [hb0, hb1] at g1
  try rw [hb0]
  try rw [hb1]
  try simp only [hb1]
  go_region
  all_goals
    go_wp2_with fail
    go_ret2
    exact ⟨rfl, HB.out.drew⟩
set_option maxRecDepth 100000 in
set_option maxHeartbeats 1600000 in
theorem rends_k4 (w : World) : Calls Tryd.prog 76 #[.int .i64 4] w fun e w' => e = .returned (.tuple #[.int .i64 1, .int .i64 2]) ∧ Below w.heap.size w w' := by
  have h0 := (Blk.new w 3 #[.int .i64 0, .int .i64 2, .int .i64 1, .int .i64 1, .int .i64 1, .int .i64 2, .int .i64 3, .int .i64 3, .int .i64 1]).alloc (.cells #[.int .i64 0, .int .i64 1, .int .i64 2, .int .i64 2, .int .i64 2, .int .i64 1, .int .i64 1, .int .i64 1, .int .i64 3] 3)
  have h1 := Blk.new (w.alloc (.cells #[.int .i64 0, .int .i64 2, .int .i64 1, .int .i64 1, .int .i64 1, .int .i64 2, .int .i64 3, .int .i64 3, .int .i64 1] 3)) 3 #[.int .i64 0, .int .i64 1, .int .i64 2, .int .i64 2, .int .i64 2, .int .i64 1, .int .i64 1, .int .i64 1, .int .i64 3]
  have hs : (w.alloc (.cells #[.int .i64 0, .int .i64 2, .int .i64 1, .int .i64 1, .int .i64 1, .int .i64 2, .int .i64 3, .int .i64 3, .int .i64 1] 3)).heap.size = w.heap.size + 1 := by simp
  rw [hs] at h1
  have hB : Below w.heap.size w ((w.alloc (.cells #[.int .i64 0, .int .i64 2, .int .i64 1, .int .i64 1, .int .i64 1, .int .i64 2, .int .i64 3, .int .i64 3, .int .i64 1] 3)).alloc (.cells #[.int .i64 0, .int .i64 1, .int .i64 2, .int .i64 2, .int .i64 2, .int .i64 1, .int .i64 1, .int .i64 1, .int .i64 3] 3)) := ((Below.refl _ _).alloc (Nat.le_refl _) _).alloc (by simp) _
  have g0 := (h0.cell 4).trans (show _ = some (Value.int .i64 1) from rfl)
  have g1 := (h1.cell 4).trans (show _ = some (Value.int .i64 2) from rfl)
  have HB := Lib.hid hB
  clear hB h0 h1 hs
  go_enter Tryd.func76, Tryd.ntmps76
  go_wp2_with fail
  generalize (w.alloc (.cells #[.int .i64 0, .int .i64 2, .int .i64 1, .int .i64 1, .int .i64 1, .int .i64 2, .int .i64 3, .int .i64 3, .int .i64 1] 3)).alloc (.cells #[.int .i64 0, .int .i64 1, .int .i64 2, .int .i64 2, .int .i64 2, .int .i64 1, .int .i64 1, .int .i64 1, .int .i64 3] 3) = w2 at HB g0 g1 ⊢
  obtain ⟨b0, hb0⟩ : ∃ b0, w.heap.size = b0 := ⟨_, rfl⟩
  obtain ⟨b1, hb1⟩ : ∃ b1, b0 + 1 = b1 := ⟨_, rfl⟩
  rw [hb0] at g0
  rw [hb0, hb1] at g1
  try rw [hb0]
  try rw [hb1]
  try simp only [hb1]
  go_region
  all_goals
    go_wp2_with fail
    go_ret2
    exact ⟨rfl, HB.out.drew⟩
set_option maxRecDepth 100000 in
set_option maxHeartbeats 1600000 in
theorem rends_k5 (w : World) : Calls Tryd.prog 76 #[.int .i64 5] w fun e w' => e = .returned (.tuple #[.int .i64 2, .int .i64 1]) ∧ Below w.heap.size w w' := by
  have h0 := (Blk.new w 3 #[.int .i64 0, .int .i64 2, .int .i64 1, .int .i64 1, .int .i64 1, .int .i64 2, .int .i64 3, .int .i64 3, .int .i64 1]).alloc (.cells #[.int .i64 0, .int .i64 1, .int .i64 2, .int .i64 2, .int .i64 2, .int .i64 1, .int .i64 1, .int .i64 1, .int .i64 3] 3)
  have h1 := Blk.new (w.alloc (.cells #[.int .i64 0, .int .i64 2, .int .i64 1, .int .i64 1, .int .i64 1, .int .i64 2, .int .i64 3, .int .i64 3, .int .i64 1] 3)) 3 #[.int .i64 0, .int .i64 1, .int .i64 2, .int .i64 2, .int .i64 2, .int .i64 1, .int .i64 1, .int .i64 1, .int .i64 3]
  have hs : (w.alloc (.cells #[.int .i64 0, .int .i64 2, .int .i64 1, .int .i64 1, .int .i64 1, .int .i64 2, .int .i64 3, .int .i64 3, .int .i64 1] 3)).heap.size = w.heap.size + 1 := by simp
  rw [hs] at h1
  have hB : Below w.heap.size w ((w.alloc (.cells #[.int .i64 0, .int .i64 2, .int .i64 1, .int .i64 1, .int .i64 1, .int .i64 2, .int .i64 3, .int .i64 3, .int .i64 1] 3)).alloc (.cells #[.int .i64 0, .int .i64 1, .int .i64 2, .int .i64 2, .int .i64 2, .int .i64 1, .int .i64 1, .int .i64 1, .int .i64 3] 3)) := ((Below.refl _ _).alloc (Nat.le_refl _) _).alloc (by simp) _
  have g0 := (h0.cell 5).trans (show _ = some (Value.int .i64 2) from rfl)
  have g1 := (h1.cell 5).trans (show _ = some (Value.int .i64 1) from rfl)
  have HB := Lib.hid hB
  clear hB h0 h1 hs
  go_enter Tryd.func76, Tryd.ntmps76
  go_wp2_with fail
  generalize (w.alloc (.cells #[.int .i64 0, .int .i64 2, .int .i64 1, .int .i64 1, .int .i64 1, .int .i64 2, .int .i64 3, .int .i64 3, .int .i64 1] 3)).alloc (.cells #[.int .i64 0, .int .i64 1, .int .i64 2, .int .i64 2, .int .i64 2, .int .i64 1, .int .i64 1, .int .i64 1, .int .i64 3] 3) = w2 at HB g0 g1 ⊢
  obtain ⟨b0, hb0⟩ : ∃ b0, w.heap.size = b0 := ⟨_, rfl⟩
  obtain ⟨b1, hb1⟩ : ∃ b1, b0 + 1 = b1 := ⟨_, rfl⟩
  rw [hb0] at g0
  rw [hb0, hb1] at g1
  try rw [hb0]
  try rw [hb1]
  try simp only [hb1]
  go_region
  all_goals
    go_wp2_with fail
    go_ret2
    exact ⟨rfl, HB.out.drew⟩
set_option maxRecDepth 100000 in
set_option maxHeartbeats 1600000 in
theorem rends_k6 (w : World) : Calls Tryd.prog 76 #[.int .i64 6] w fun e w' => e = .returned (.tuple #[.int .i64 3, .int .i64 1]) ∧ Below w.heap.size w w' := by
  have h0 := (Blk.new w 3 #[.int .i64 0, .int .i64 2, .int .i64 1, .int .i64 1, .int .i64 1, .int .i64 2, .int .i64 3, .int .i64 3, .int .i64 1]).alloc (.cells #[.int .i64 0, .int .i64 1, .int .i64 2, .int .i64 2, .int .i64 2, .int .i64 1, .int .i64 1, .int .i64 1, .int .i64 3] 3)
  have h1 := Blk.new (w.alloc (.cells #[.int .i64 0, .int .i64 2, .int .i64 1, .int .i64 1, .int .i64 1, .int .i64 2, .int .i64 3, .int .i64 3, .int .i64 1] 3)) 3 #[.int .i64 0, .int .i64 1, .int .i64 2, .int .i64 2, .int .i64 2, .int .i64 1, .int .i64 1, .int .i64 1, .int .i64 3]
  have hs : (w.alloc (.cells #[.int .i64 0, .int .i64 2, .int .i64 1, .int .i64 1, .int .i64 1, .int .i64 2, .int .i64 3, .int .i64 3, .int .i64 1] 3)).heap.size = w.heap.size + 1 := by simp
  rw [hs] at h1
  have hB : Below w.heap.size w ((w.alloc (.cells #[.int .i64 0, .int .i64 2, .int .i64 1, .int .i64 1, .int .i64 1, .int .i64 2, .int .i64 3, .int .i64 3, .int .i64 1] 3)).alloc (.cells #[.int .i64 0, .int .i64 1, .int .i64 2, .int .i64 2, .int .i64 2, .int .i64 1, .int .i64 1, .int .i64 1, .int .i64 3] 3)) := ((Below.refl _ _).alloc (Nat.le_refl _) _).alloc (by simp) _
  have g0 := (h0.cell 6).trans (show _ = some (Value.int .i64 3) from rfl)
  have g1 := (h1.cell 6).trans (show _ = some (Value.int .i64 1) from rfl)
  have HB := Lib.hid hB
  clear hB h0 h1 hs
  go_enter Tryd.func76, Tryd.ntmps76
  go_wp2_with fail
  generalize (w.alloc (.cells #[.int .i64 0, .int .i64 2, .int .i64 1, .int .i64 1, .int .i64 1, .int .i64 2, .int .i64 3, .int .i64 3, .int .i64 1] 3)).alloc (.cells #[.int .i64 0, .int .i64 1, .int .i64 2, .int .i64 2, .int .i64 2, .int .i64 1, .int .i64 1, .int .i64 1, .int .i64 3] 3) = w2 at HB g0 g1 ⊢
  obtain ⟨b0, hb0⟩ : ∃ b0, w.heap.size = b0 := ⟨_, rfl⟩
  obtain ⟨b1, hb1⟩ : ∃ b1, b0 + 1 = b1 := ⟨_, rfl⟩
  rw [hb0] at g0
  rw [hb0, hb1] at g1
  try rw [hb0]
  try rw [hb1]
  try simp only [hb1]
  go_region
  all_goals
    go_wp2_with fail
    go_ret2
    exact ⟨rfl, HB.out.drew⟩
set_option maxRecDepth 100000 in
set_option maxHeartbeats 1600000 in
theorem rends_k7 (w : World) : Calls Tryd.prog 76 #[.int .i64 7] w fun e w' => e = .returned (.tuple #[.int .i64 3, .int .i64 1]) ∧ Below w.heap.size w w' := by
  have h0 := (Blk.new w 3 #[.int .i64 0, .int .i64 2, .int .i64 1, .int .i64 1, .int .i64 1, .int .i64 2, .int .i64 3, .int .i64 3, .int .i64 1]).alloc (.cells #[.int .i64 0, .int .i64 1, .int .i64 2, .int .i64 2, .int .i64 2, .int .i64 1, .int .i64 1, .int .i64 1, .int .i64 3] 3)
  have h1 := Blk.new (w.alloc (.cells #[.int .i64 0, .int .i64 2, .int .i64 1, .int .i64 1, .int .i64 1, .int .i64 2, .int .i64 3, .int .i64 3, .int .i64 1] 3)) 3 #[.int .i64 0, .int .i64 1, .int .i64 2, .int .i64 2, .int .i64 2, .int .i64 1, .int .i64 1, .int .i64 1, .int .i64 3]
  have hs : (w.alloc (.cells #[.int .i64 0, .int .i64 2, .int .i64 1, .int .i64 1, .int .i64 1, .int .i64 2, .int .i64 3, .int .i64 3, .int .i64 1] 3)).heap.size = w.heap.size + 1 := by simp
  rw [hs] at h1
  have hB : Below w.heap.size w ((w.alloc (.cells #[.int .i64 0, .int .i64 2, .int .i64 1, .int .i64 1, .int .i64 1, .int .i64 2, .int .i64 3, .int .i64 3, .int .i64 1] 3)).alloc (.cells #[.int .i64 0, .int .i64 1, .int .i64 2, .int .i64 2, .int .i64 2, .int .i64 1, .int .i64 1, .int .i64 1, .int .i64 3] 3)) := ((Below.refl _ _).alloc (Nat.le_refl _) _).alloc (by simp) _
  have g0 := (h0.cell 7).trans (show _ = some (Value.int .i64 3) from rfl)
  have g1 := (h1.cell 7).trans (show _ = some (Value.int .i64 1) from rfl)
  have HB := Lib.hid hB
  clear hB h0 h1 hs
  go_enter Tryd.func76, Tryd.ntmps76
  go_wp2_with fail
  generalize (w.alloc (.cells #[.int .i64 0, .int .i64 2, .int .i64 1, .int .i64 1, .int .i64 1, .int .i64 2, .int .i64 3, .int .i64 3, .int .i64 1] 3)).alloc (.cells #[.int .i64 0, .int .i64 1, .int .i64 2, .int .i64 2, .int .i64 2, .int .i64 1, .int .i64 1, .int .i64 1, .int .i64 3] 3) = w2 at HB g0 g1 ⊢
  obtain ⟨b0, hb0⟩ : ∃ b0, w.heap.size = b0 := ⟨_, rfl⟩
  obtain ⟨b1, hb1⟩ : ∃ b1, b0 + 1 = b1 := ⟨_, rfl⟩
  rw [hb0] at g0
  rw [hb0, hb1] at g1
  try rw [hb0]
  try rw [hb1]
  try simp only [hb1]
  go_region
  all_goals
    go_wp2_with fail
    go_ret2
    exact ⟨rfl, HB.out.drew⟩
set_option maxRecDepth 100000 in
set_option maxHeartbeats 1600000 in
theorem rends_k8 (w : World) : Calls Tryd.prog 76 #[.int .i64 8] w fun e w' => e = .returned (.tuple #[.int .i64 1, .int .i64 3]) ∧ Below w.heap.size w w' := by
  have h0 := (Blk.new w 3 #[.int .i64 0, .int .i64 2, .int .i64 1, .int .i64 1, .int .i64 1, .int .i64 2, .int .i64 3, .int .i64 3, .int .i64 1]).alloc (.cells #[.int .i64 0, .int .i64 1, .int .i64 2, .int .i64 2, .int .i64 2, .int .i64 1, .int .i64 1, .int .i64 1, .int .i64 3] 3)
  have h1 := Blk.new (w.alloc (.cells #[.int .i64 0, .int .i64 2, .int .i64 1, .int .i64 1, .int .i64 1, .int .i64 2, .int .i64 3, .int .i64 3, .int .i64 1] 3)) 3 #[.int .i64 0, .int .i64 1, .int .i64 2, .int .i64 2, .int .i64 2, .int .i64 1, .int .i64 1, .int .i64 1, .int .i64 3]
  have hs : (w.alloc (.cells #[.int .i64 0, .int .i64 2, .int .i64 1, .int .i64 1, .int .i64 1, .int .i64 2, .int .i64 3, .int .i64 3, .int .i64 1] 3)).heap.size = w.heap.size + 1 := by simp
  rw [hs] at h1
  have hB : Below w.heap.size w ((w.alloc (.cells #[.int .i64 0, .int .i64 2, .int .i64 1, .int .i64 1, .int .i64 1, .int .i64 2, .int .i64 3, .int .i64 3, .int .i64 1] 3)).alloc (.cells #[.int .i64 0, .int .i64 1, .int .i64 2, .int .i64 2, .int .i64 2, .int .i64 1, .int .i64 1, .int .i64 1, .int .i64 3] 3)) := ((Below.refl _ _).alloc (Nat.le_refl _) _).alloc (by simp) _
  have g0 := (h0.cell 8).trans (show _ = some (Value.int .i64 1) from rfl)
  have g1 := (h1.cell 8).trans (show _ = some (Value.int .i64 3) from rfl)
  have HB := Lib.hid hB
  clear hB h0 h1 hs
  go_enter Tryd.func76, Tryd.ntmps76
  go_wp2_with fail
  generalize (w.alloc (.cells #[.int .i64 0, .int .i64 2, .int .i64 1, .int .i64 1, .int .i64 1, .int .i64 2, .int .i64 3, .int .i64 3, .int .i64 1] 3)).alloc (.cells #[.int .i64 0, .int .i64 1, .int .i64 2, .int .i64 2, .int .i64 2, .int .i64 1, .int .i64 1, .int .i64 1, .int .i64 3] 3) = w2 at HB g0 g1 ⊢
  obtain ⟨b0, hb0⟩ : ∃ b0, w.heap.size = b0 := ⟨_, rfl⟩
  obtain ⟨b1, hb1⟩ : ∃ b1, b0 + 1 = b1 := ⟨_, rfl⟩
  rw [hb0] at g0
  rw [hb0, hb1] at g1
  try rw [hb0]
  try rw [hb1]
  try simp only [hb1]
  go_region
  all_goals
    go_wp2_with fail
    go_ret2
    exact ⟨rfl, HB.out.drew⟩
end Go.Proofs.YthhnocnkicoimaaDoor
