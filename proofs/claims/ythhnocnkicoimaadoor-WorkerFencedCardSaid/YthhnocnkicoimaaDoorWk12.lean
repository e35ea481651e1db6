/-
  LAYER 39 (worker): awake.
-/
import Derived.Test.YthhnocnkicoimaaDoorWk11
set_option linter.unusedVariables false
set_option linter.unusedSimpArgs false
namespace Go.Proofs.YthhnocnkicoimaaDoor
open Go.RowKit Go.Maps

set_option maxRecDepth 100000 in
set_option maxHeartbeats 3200000 in
theorem awake39 (w : World) (hw : WaysAt w) : Calls Tryd.prog 22 #[] w fun e w' => e = .returned (.bool true) ∧ Below w.heap.size w w' := by
  obtain ⟨q, hq⟩ : ∃ q : LMsg, q = ⟨1, 102, 0, 0, 1, 0, 3, 0, 0, ⟨4, 4, 4⟩⟩ := ⟨_, rfl⟩
  obtain ⟨s1, hs1⟩ : ∃ s1 : WS, s1 = ⟨0, 2, 5, 1, 0, 4, ⟨4, 4, 4⟩, true, [], [], []⟩ := ⟨_, rfl⟩
  obtain ⟨s2, hs2⟩ : ∃ s2 : WS, s2 = ⟨2, 2, 5, 1, 8, 4, ⟨4, 4, 4⟩, true, [], [], []⟩ := ⟨_, rfl⟩
  obtain ⟨s3, hs3⟩ : ∃ s3 : WS, s3 = ⟨2, 2, 5, 1, 8, 4, ⟨4, 4, 4⟩, true, [7], [], []⟩ := ⟨_, rfl⟩
  obtain ⟨s4, hs4⟩ : ∃ s4 : WS, s4 = ⟨2, 2, 5, 2, 0, 9, ⟨4, 4, 4⟩, true, [], [], []⟩ := ⟨_, rfl⟩
  have a1 : (WS.made 2 5 ⟨4, 4, 4⟩).tick 3 = s1 := by subst hs1; decide +kernel
  have a2 : s1.out 3 (min 1 5 : Int).toNat = [q] := by subst hs1 hq; decide +kernel
  have a3 : s1.hear 4 ⟨2, 0, 102, 2, 1, 0, 3, 0, 0, ⟨0, 0, 0⟩⟩ = (s2, true) := by subst hs1 hs2; decide +kernel
  have a4 : s2.hear 5 ⟨3, 0, 102, 2, 1, 7, 0, 0, 0, ⟨0, 0, 0⟩⟩ = (s3, true) := by subst hs3 hs2; decide +kernel
  have a5 : s3.hear 5 ⟨3, 1, 102, 1, 1, 8, 0, 0, 0, ⟨0, 0, 0⟩⟩ = (s3, false) := by subst hs3; decide +kernel
  have a6 : s3.tick 8 = s4 := by subst hs3 hs4; decide +kernel
  have f1 : 0 ≤ s1.node ∧ s1.node ≤ 15 ∧ s1.held.length ≤ 1000000 ∧ s1.told.length ≤ 1000000 := by subst hs1; decide
  have f2 : 0 ≤ s2.node ∧ s2.node ≤ 15 ∧ s2.held.length ≤ 1000000 ∧ s2.told.length ≤ 1000000 := by subst hs2; decide
  have f3 : 0 ≤ s3.node ∧ s3.node ≤ 15 ∧ s3.held.length ≤ 1000000 ∧ s3.told.length ≤ 1000000 := by subst hs3; decide
  have f3b : s3.up = true ∧ (0 ≤ s3.inc ∧ s3.inc ≤ 2147483647) ∧ (0 ≤ s3.until_ ∧ 0 ≤ s3.first ∧ s3.first ≤ 2199023255552 ∧ 0 < s3.span ∧ s3.span ≤ 64) ∧ s3.done.length ≤ 1000 ∧ s3.held = [7] ∧ s3.inc = 1 ∧ s3.until_ = 8 ∧ s3.epoch = 2 := by subst hs3; decide
  have f4 : s4.held = [] ∧ s4.live 8 = false := by subst hs4; decide
  have HQ := Lib.hid hq
  have HA := Lib.hid (And.intro a1 (And.intro a2 (And.intro a3 (And.intro a4 (And.intro a5 a6)))))
  have HG := Lib.hid (And.intro f1 (And.intro f2 (And.intro f3 (And.intro f3b f4))))
  have HW := Lib.hid hw
  clear hq hs1 hs2 hs3 hs4 a1 a2 a3 a4 a5 a6 f1 f2 f3 f3b f4 hw
  go_enter Tryd.func22, Tryd.ntmps22
  go_wp2_with fail
  have hcx := wkNew (w := w) 2 5 ⟨4, 4, 4⟩ (by decide) (by decide) (by decide)
  (with_reducible refine hcx.mono ?_)
  clear hcx
  rintro e w1 ⟨c, v, rfl, hw1, hs, hb⟩
  have HI1 : Hid (WI w w1 c (WS.made 2 5 ⟨4, 4, 4⟩) none 0 0 [] none 0 0 []) := Lib.hid ⟨⟨v, hw1, hs⟩, OwnL.nil _ _, OwnL.nil _ _, hb⟩
  clear hw1 hs hb
  go_wp2_with fail
  have hcx := HI1.out.tick 3 1 rfl (by decide) (by decide) (by decide) (by decide) s1 HA.out.1 [q] HA.out.2.1
  (with_reducible refine hcx.mono ?_)
  clear hcx
  rintro e w2 ⟨A, n, ca, rfl, h2, ho⟩
  have HI2 : Hid (WI w w2 c s1 A n ca [q] none 0 0 []) := Lib.hid ⟨h2.ob, ho, h2.obb, h2.bel⟩
  clear h2 ho HI1
  go_wp2_with fail
  have hcx := HI2.out.hear HW.out ⟨HG.out.1.1, HG.out.1.2.1⟩ 4 ⟨2, 0, 102, 2, 1, 0, 3, 0, 0, ⟨0, 0, 0⟩⟩ (by decide) (by decide) HG.out.1.2.2.1 HG.out.1.2.2.2 s2 true HA.out.2.2.1
  (with_reducible refine hcx.mono ?_)
  clear hcx
  rintro e w3 ⟨rfl, h3⟩
  have HI3 := Lib.hid h3
  clear h3 HI2
  go_wp2_with fail
  have hcx := HI3.out.hear HW.out ⟨HG.out.2.1.1, HG.out.2.1.2.1⟩ 5 ⟨3, 0, 102, 2, 1, 7, 0, 0, 0, ⟨0, 0, 0⟩⟩ (by decide) (by decide) HG.out.2.1.2.2.1 HG.out.2.1.2.2.2 s3 true HA.out.2.2.2.1
  (with_reducible refine hcx.mono ?_)
  clear hcx
  rintro e w4 ⟨rfl, h4⟩
  have HI4 := Lib.hid h4
  clear h4 HI3
  go_wp2_with fail
  have hcx := HI4.out.hear HW.out ⟨HG.out.2.2.1.1, HG.out.2.2.1.2.1⟩ 5 ⟨3, 1, 102, 1, 1, 8, 0, 0, 0, ⟨0, 0, 0⟩⟩ (by decide) (by decide) HG.out.2.2.1.2.2.1 HG.out.2.2.1.2.2.2 s3 false HA.out.2.2.2.2.1
  (with_reducible refine hcx.mono ?_)
  clear hcx
  rintro e w5 ⟨rfl, h5⟩
  have HI5 := Lib.hid h5
  clear h5 HI4
  go_wp2_with fail
  obtain ⟨v5, hv5, _⟩ := HI5.out.ob
  have hcx := wkHeld hv5 (by rw [HG.out.2.2.2.1.2.2.2.2.1]; decide)
  rw [HG.out.2.2.2.1.2.2.2.2.1] at hcx
  (with_reducible refine hcx.mono ?_)
  clear hcx hv5
  rintro e w6 ⟨B, m, cb, rfl, ho6, hb6⟩
  have h6 := HI5.out.then hb6
  have HI6 : Hid (WI w w6 c s3 A n ca [q] B m cb [7]) := Lib.hid ⟨h6.ob, h6.oa, ho6.lower (Nat.zero_le _), h6.bel⟩
  clear h6 ho6 hb6 HI5
  go_wp2_with fail
  obtain ⟨v6, hv6, _⟩ := HI6.out.ob
  have hcx := wkInfo hv6 (HG.out.2.2.2.1.2.2.1.2.2.2.1)
  rw [HG.out.2.2.2.1.2.2.2.2.2.1, HG.out.2.2.2.1.2.2.2.2.2.2.1, HG.out.2.2.2.1.2.2.2.2.2.2.2] at hcx
  (with_reducible refine hcx.mono ?_)
  clear hcx hv6
  rintro e w7 ⟨rfl, hb7⟩
  have HI7 := Lib.hid (HI6.out.then hb7)
  clear hb7 HI6
  go_wp2_with fail
  have hcx := HI7.out.tick 8 1 HG.out.2.2.2.1.1 HG.out.2.2.2.1.2.1 HG.out.2.2.2.1.2.2.1 ⟨HG.out.2.2.1.1, HG.out.2.2.1.2.1⟩ HG.out.2.2.2.1.2.2.2.1 s4 HA.out.2.2.2.2.2 _ rfl
  (with_reducible refine hcx.mono ?_)
  clear hcx
  rintro e w8 ⟨A8, n8, ca8, rfl, h8, _⟩
  have HI8 := Lib.hid h8
  clear h8 HI7
  have hn : n ≤ 10 := by have := HI8.out.oa.len; simp at this; omega
  have hm : m ≤ 10 := by have := HI8.out.obb.len; simp at this; omega
  go_wp2_with fail
  have hlit : Rd encMsg 12 (w8.alloc (.cells #[.int .i64 1, .int .i64 102, .int .i64 0, .int .i64 0, .int .i64 1, .int .i64 0, .int .i64 3, .int .i64 0, .int .i64 0, .int .i64 4, .int .i64 4, .int .i64 4] 38)) (some ⟨w8.heap.size, 0, none⟩) 1 [q] := Rd.new1 _ _ _ _ _ (by rw [HQ.out]; rfl)
  have hcx := sameM_t A (some ⟨w8.heap.size, 0, none⟩) n ca 1 1 [q] _ ((HI8.out.oa.rd (enc := encMsg) (sz := 12) (fun _ => rfl)).below ((Below.refl _ _).alloc (Nat.le_refl _) _)) hlit (by omega)
  (with_reducible refine hcx.mono ?_)
  clear hcx hlit
  rintro e w9 ⟨rfl, hb9⟩
  have HI9 := Lib.hid (HI8.out.then (((Below.refl w8.heap.size w8).alloc (Nat.le_refl _) (.cells #[.int .i64 1, .int .i64 102, .int .i64 0, .int .i64 0, .int .i64 1, .int .i64 0, .int .i64 3, .int .i64 0, .int .i64 0, .int .i64 4, .int .i64 4, .int .i64 4] 38)).trans (hb9.mono (by simp))))
  clear hb9 HI8
  go_wp2_with fail
  have hcx := same01_t B (some ⟨w9.heap.size, 0, none⟩) m cb 1 1 [7] (w9.alloc (.cells #[.int .i64 7] 3)) ((HI9.out.obb.rd (enc := encI) (sz := 1) (fun _ => rfl)).below ((Below.refl _ _).alloc (Nat.le_refl _) _)) (RdI.lit39 w9 w9.heap.size rfl _ _ _ [7] rfl) (by omega) (by omega)
  (with_reducible refine hcx.mono ?_)
  clear hcx
  rintro e w10 ⟨rfl, q10, rfl⟩
  have HI10 := Lib.hid (HI9.out.then (w' := (w9.alloc (.cells #[.int .i64 7] 3)).drewN q10) (((Below.refl _ _).alloc (Nat.le_refl _) _).trans (below_dN39 q10)))
  generalize (w9.alloc (.cells #[.int .i64 7] 3)).drewN q10 = w10 at HI10 ⊢
  go_wp2_with fail
  obtain ⟨v10, hv10, _⟩ := HI10.out.ob
  have hcx := wkHeld hv10 (by rw [HG.out.2.2.2.2.1]; decide)
  rw [HG.out.2.2.2.2.1] at hcx
  (with_reducible refine hcx.mono ?_)
  clear hcx hv10
  rintro e w11 ⟨B11, m11, cb11, rfl, ho11, hb11⟩
  have hm11 : m11 = 0 := by have := ho11.len; simpa using this.symm
  subst hm11
  have HI11 := Lib.hid (HI10.out.then hb11)
  clear ho11 hb11
  go_wp2_with fail
  obtain ⟨v11, hv11, _⟩ := HI11.out.ob
  have hcx := wkLive hv11 8
  rw [HG.out.2.2.2.2.2] at hcx
  (with_reducible refine hcx.mono ?_)
  clear hcx hv11
  rintro e w12 ⟨rfl, hw12⟩
  have HF := Lib.hid HI11.out.bel
  subst hw12
  go_wp2
  go_ret
  exact ⟨rfl, HF.out⟩
end Go.Proofs.YthhnocnkicoimaaDoor
