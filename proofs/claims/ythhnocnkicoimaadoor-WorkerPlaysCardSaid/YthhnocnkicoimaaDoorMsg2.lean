/-
 LAYER 35 (msg): named, whole.
-/
import Derived.Test.YthhnocnkicoimaaDoorMsg1
import Derived.BigRegion
import Derived.Deep.DeepCutAuto
set_option linter.unusedVariables false
set_option linter.unusedSimpArgs false
namespace Go.Proofs.YthhnocnkicoimaaDoor
open Go.RowKit

def NamedPost (b : Nat) (w : World) (L : List Nat) (e : Ending) (w' : World) : Prop := ∃ A n c, e = .returned (.slice A n c) ∧ Rd (encO b) 1 w' A n L ∧ Below w.heap.size w w'
theorem NamedPost.of_lit {b : Nat} {w w1 : World} {L : List Nat} {n : Nat} {cs : Array Value} (hb : Below w.heap.size w w1) (hn : L.length = n) (hn2 : n ≤ 1000000) (hcs : cs.toList = L.flatMap (encO b)) (hl : (L.flatMap (encO b)).length = n * 1) {g : Nat} (hg : w1.heap.size = g) :
  NamedPost b w L (.returned (.slice (some ⟨g, 0, none⟩) n n)) (w1.alloc (.cells cs 145)) := by
 subst hg
 exact ⟨_, _, _, rfl, (OwnL.lit (enc := encO b) (e := 145) (sz := 1) w1 0 (Nat.zero_le _) L n cs hn hn2 hcs hl).rd (fun _ => rfl), hb.alloc hb.size _⟩
theorem NamedPost.of_own {b base : Nat} {w w1 w2 : World} {L L' : List Nat} {n c n' c' : Nat} {A A' : Option Addr} (hb : Below w.heap.size w w1) (ho : OwnL (encO b) 145 1 w1 base A n c L) (hbase : w.heap.size ≤ base) (ho2 : OwnL (encO b) 145 1 w2 base A' n' c' L') (hk : Kept (fun k => some k = (Value.slice A n c).ownBlock) w1 w2) :
  NamedPost b w L' (.returned (.slice A' n' c')) w2 :=
 ⟨_, _, _, rfl, ho2.rd (fun _ => rfl), hb.trans (hk.below hb.size (fun i hi e => by have := own_block_ge ho i e.symm; omega))⟩
set_option maxRecDepth 100000 in
set_option maxHeartbeats 3200000 in
theorem named_k1 (b : Nat) (w : World) (hc : w.cell? ⟨b, 0, none⟩ = some (.int .i64 1)) : Calls Tryd.prog 82 #[.pointer (some ⟨b, 0, none⟩)] w (NamedPost b w [4, 6, 9, 10, 11]) := by
 have hlb := block_lt_of_cell hc
 have hB : Below w.heap.size w (w.alloc (.cells #[.pointer (some ⟨b, 0, none⟩)] 124)) := (Below.refl _ _).alloc (Nat.le_refl _) _
 have hg := (Blk.new w 124 #[.pointer (some ⟨b, 0, none⟩)]).cell 0
 have hlg := (Blk.new w 124 #[.pointer (some ⟨b, 0, none⟩)]).lt
 have hc1 := (hB.cell (p := ⟨b, 0, none⟩) hlb).trans hc
 simp only [List.getElem?_toArray, List.getElem?_cons_zero] at hg
 have HB := Lib.hid hB
 have HSZ := Lib.hid (show (w.alloc (.cells #[.pointer (some ⟨b, 0, none⟩)] 124)).heap.size = w.heap.size + 1 by simp)
 clear hB hlb
 go_enter Tryd.func82, Tryd.ntmps82
 go_wp2_with fail
 generalize w.alloc (.cells #[.pointer (some ⟨b, 0, none⟩)] 124) = w1 at HB HSZ hg hlg hc1 ⊢
 obtain ⟨g, hgg⟩ : ∃ g, w.heap.size = g := ⟨_, rfl⟩
 rw [hgg] at hg hlg HSZ
 try rw [hgg]
 go_wp2_with fail
 have hBX : Below w1.heap.size w1 ((w1.alloc (.cells #[.pointer (some ⟨b, 4, none⟩), .pointer (some ⟨b, 6, none⟩)] 145)).drew) := ((Below.refl _ _).alloc (Nat.le_refl _) _).drew
 have HBX := Lib.hid hBX
 have HG2 := Lib.hid ((hBX.cell (p := ⟨g, 0, none⟩) hlg).trans hg)
 have HL := Lib.hid ((OwnL.lit (enc := encO b) (e := 145) (sz := 1) w1 w1.heap.size (Nat.le_refl _) [4, 6] 2 #[.pointer (some ⟨b, 4, none⟩), .pointer (some ⟨b, 6, none⟩)] rfl (by omega) rfl rfl).drew)
 clear hBX
 go_region_held3 (fun w' => w'.cell? ⟨g, 0, none⟩ = some (.pointer (some ⟨b, 0, none⟩))) (first | exact hg | exact HG2.out | exact hg2)
  ((go_at_call 101; have hcx := three_t g b _ 2 2 w1.heap.size [4, 6] _ HG2.out HL.out hlg (by omega) HBX.out.size; (with_reducible refine hcx.mono ?_); clear hcx; rintro e w2 ⟨A2, c2, rfl, hown, hkept⟩; have hg2 := (hkept.cell (p := ⟨g, 0, none⟩) (Nat.lt_of_lt_of_le hlg HBX.out.size) (fun e => by simp [Value.ownBlock] at e; omega)).trans HG2.out))
 all_goals
  go_wp2_with fail
  go_ret
  exact NamedPost.of_own (HB.out.trans (HBX.out.mono HB.out.size)) HL.out HB.out.size hown hkept
set_option maxRecDepth 100000 in
set_option maxHeartbeats 3200000 in
theorem named_k2 (b : Nat) (w : World) (hc : w.cell? ⟨b, 0, none⟩ = some (.int .i64 2)) : Calls Tryd.prog 82 #[.pointer (some ⟨b, 0, none⟩)] w (NamedPost b w [3, 4, 6]) := by
 have hlb := block_lt_of_cell hc
 have hB : Below w.heap.size w (w.alloc (.cells #[.pointer (some ⟨b, 0, none⟩)] 124)) := (Below.refl _ _).alloc (Nat.le_refl _) _
 have hg := (Blk.new w 124 #[.pointer (some ⟨b, 0, none⟩)]).cell 0
 have hlg := (Blk.new w 124 #[.pointer (some ⟨b, 0, none⟩)]).lt
 have hc1 := (hB.cell (p := ⟨b, 0, none⟩) hlb).trans hc
 simp only [List.getElem?_toArray, List.getElem?_cons_zero] at hg
 have HB := Lib.hid hB
 have HSZ := Lib.hid (show (w.alloc (.cells #[.pointer (some ⟨b, 0, none⟩)] 124)).heap.size = w.heap.size + 1 by simp)
 clear hB hlb
 go_enter Tryd.func82, Tryd.ntmps82
 go_wp2_with fail
 generalize w.alloc (.cells #[.pointer (some ⟨b, 0, none⟩)] 124) = w1 at HB HSZ hg hlg hc1 ⊢
 obtain ⟨g, hgg⟩ : ∃ g, w.heap.size = g := ⟨_, rfl⟩
 rw [hgg] at hg hlg HSZ
 try rw [hgg]
 go_wp2_with fail
 go_region
 all_goals
  go_wp2_with fail
  go_ret
  exact NamedPost.of_lit (w1 := w1.drew) HB.out.drew rfl (by decide) rfl rfl rfl
set_option maxRecDepth 100000 in
set_option maxHeartbeats 3200000 in
theorem named_k3 (b : Nat) (w : World) (hc : w.cell? ⟨b, 0, none⟩ = some (.int .i64 3)) : Calls Tryd.prog 82 #[.pointer (some ⟨b, 0, none⟩)] w (NamedPost b w [3, 4, 5]) := by
 have hlb := block_lt_of_cell hc
 have hB : Below w.heap.size w (w.alloc (.cells #[.pointer (some ⟨b, 0, none⟩)] 124)) := (Below.refl _ _).alloc (Nat.le_refl _) _
 have hg := (Blk.new w 124 #[.pointer (some ⟨b, 0, none⟩)]).cell 0
 have hlg := (Blk.new w 124 #[.pointer (some ⟨b, 0, none⟩)]).lt
 have hc1 := (hB.cell (p := ⟨b, 0, none⟩) hlb).trans hc
 simp only [List.getElem?_toArray, List.getElem?_cons_zero] at hg
 have HB := Lib.hid hB
 have HSZ := Lib.hid (show (w.alloc (.cells #[.pointer (some ⟨b, 0, none⟩)] 124)).heap.size = w.heap.size + 1 by simp)
 clear hB hlb
 go_enter Tryd.func82, Tryd.ntmps82
 go_wp2_with fail
 generalize w.alloc (.cells #[.pointer (some ⟨b, 0, none⟩)] 124) = w1 at HB HSZ hg hlg hc1 ⊢
 obtain ⟨g, hgg⟩ : ∃ g, w.heap.size = g := ⟨_, rfl⟩
 rw [hgg] at hg hlg HSZ
 try rw [hgg]
 go_wp2_with fail
 go_region
 all_goals
  go_wp2_with fail
  go_ret
  exact NamedPost.of_lit (w1 := w1.drew) HB.out.drew rfl (by decide) rfl rfl rfl
set_option maxRecDepth 100000 in
set_option maxHeartbeats 3200000 in
theorem named_k4 (b : Nat) (w : World) (hc : w.cell? ⟨b, 0, none⟩ = some (.int .i64 4)) : Calls Tryd.prog 82 #[.pointer (some ⟨b, 0, none⟩)] w (NamedPost b w [3, 4, 5]) := by
 have hlb := block_lt_of_cell hc
 have hB : Below w.heap.size w (w.alloc (.cells #[.pointer (some ⟨b, 0, none⟩)] 124)) := (Below.refl _ _).alloc (Nat.le_refl _) _
 have hg := (Blk.new w 124 #[.pointer (some ⟨b, 0, none⟩)]).cell 0
 have hlg := (Blk.new w 124 #[.pointer (some ⟨b, 0, none⟩)]).lt
 have hc1 := (hB.cell (p := ⟨b, 0, none⟩) hlb).trans hc
 simp only [List.getElem?_toArray, List.getElem?_cons_zero] at hg
 have HB := Lib.hid hB
 have HSZ := Lib.hid (show (w.alloc (.cells #[.pointer (some ⟨b, 0, none⟩)] 124)).heap.size = w.heap.size + 1 by simp)
 clear hB hlb
 go_enter Tryd.func82, Tryd.ntmps82
 go_wp2_with fail
 generalize w.alloc (.cells #[.pointer (some ⟨b, 0, none⟩)] 124) = w1 at HB HSZ hg hlg hc1 ⊢
 obtain ⟨g, hgg⟩ : ∃ g, w.heap.size = g := ⟨_, rfl⟩
 rw [hgg] at hg hlg HSZ
 try rw [hgg]
 go_wp2_with fail
 go_region
 all_goals
  go_wp2_with fail
  go_ret
  exact NamedPost.of_lit (w1 := w1.drew) HB.out.drew rfl (by decide) rfl rfl rfl
set_option maxRecDepth 100000 in
set_option maxHeartbeats 3200000 in
theorem named_k5 (b : Nat) (w : World) (hc : w.cell? ⟨b, 0, none⟩ = some (.int .i64 5)) : Calls Tryd.prog 82 #[.pointer (some ⟨b, 0, none⟩)] w (NamedPost b w [4, 5]) := by
 have hlb := block_lt_of_cell hc
 have hB : Below w.heap.size w (w.alloc (.cells #[.pointer (some ⟨b, 0, none⟩)] 124)) := (Below.refl _ _).alloc (Nat.le_refl _) _
 have hg := (Blk.new w 124 #[.pointer (some ⟨b, 0, none⟩)]).cell 0
 have hlg := (Blk.new w 124 #[.pointer (some ⟨b, 0, none⟩)]).lt
 have hc1 := (hB.cell (p := ⟨b, 0, none⟩) hlb).trans hc
 simp only [List.getElem?_toArray, List.getElem?_cons_zero] at hg
 have HB := Lib.hid hB
 have HSZ := Lib.hid (show (w.alloc (.cells #[.pointer (some ⟨b, 0, none⟩)] 124)).heap.size = w.heap.size + 1 by simp)
 clear hB hlb
 go_enter Tryd.func82, Tryd.ntmps82
 go_wp2_with fail
 generalize w.alloc (.cells #[.pointer (some ⟨b, 0, none⟩)] 124) = w1 at HB HSZ hg hlg hc1 ⊢
 obtain ⟨g, hgg⟩ : ∃ g, w.heap.size = g := ⟨_, rfl⟩
 rw [hgg] at hg hlg HSZ
 try rw [hgg]
 go_wp2_with fail
 go_region
 all_goals
  go_wp2_with fail
  go_ret
  exact NamedPost.of_lit (w1 := w1.drew) HB.out.drew rfl (by decide) rfl rfl rfl
set_option maxRecDepth 100000 in
set_option maxHeartbeats 3200000 in
theorem named_k6 (b : Nat) (w : World) (hc : w.cell? ⟨b, 0, none⟩ = some (.int .i64 6)) : Calls Tryd.prog 82 #[.pointer (some ⟨b, 0, none⟩)] w (NamedPost b w [5, 7, 9, 10, 11]) := by
 have hlb := block_lt_of_cell hc
 have hB : Below w.heap.size w (w.alloc (.cells #[.pointer (some ⟨b, 0, none⟩)] 124)) := (Below.refl _ _).alloc (Nat.le_refl _) _
 have hg := (Blk.new w 124 #[.pointer (some ⟨b, 0, none⟩)]).cell 0
 have hlg := (Blk.new w 124 #[.pointer (some ⟨b, 0, none⟩)]).lt
 have hc1 := (hB.cell (p := ⟨b, 0, none⟩) hlb).trans hc
 simp only [List.getElem?_toArray, List.getElem?_cons_zero] at hg
 have HB := Lib.hid hB
 have HSZ := Lib.hid (show (w.alloc (.cells #[.pointer (some ⟨b, 0, none⟩)] 124)).heap.size = w.heap.size + 1 by simp)
 clear hB hlb
 go_enter Tryd.func82, Tryd.ntmps82
 go_wp2_with fail
 generalize w.alloc (.cells #[.pointer (some ⟨b, 0, none⟩)] 124) = w1 at HB HSZ hg hlg hc1 ⊢
 obtain ⟨g, hgg⟩ : ∃ g, w.heap.size = g := ⟨_, rfl⟩
 rw [hgg] at hg hlg HSZ
 try rw [hgg]
 go_wp2_with fail
 have hBX : Below w1.heap.size w1 ((w1.alloc (.cells #[.pointer (some ⟨b, 5, none⟩), .pointer (some ⟨b, 7, none⟩)] 145)).drew) := ((Below.refl _ _).alloc (Nat.le_refl _) _).drew
 have HBX := Lib.hid hBX
 have HG2 := Lib.hid ((hBX.cell (p := ⟨g, 0, none⟩) hlg).trans hg)
 have HL := Lib.hid ((OwnL.lit (enc := encO b) (e := 145) (sz := 1) w1 w1.heap.size (Nat.le_refl _) [5, 7] 2 #[.pointer (some ⟨b, 5, none⟩), .pointer (some ⟨b, 7, none⟩)] rfl (by omega) rfl rfl).drew)
 clear hBX
 go_region_held3 (fun w' => w'.cell? ⟨g, 0, none⟩ = some (.pointer (some ⟨b, 0, none⟩))) (first | exact hg | exact HG2.out | exact hg2)
  ((go_at_call 101; have hcx := three_t g b _ 2 2 w1.heap.size [5, 7] _ HG2.out HL.out hlg (by omega) HBX.out.size; (with_reducible refine hcx.mono ?_); clear hcx; rintro e w2 ⟨A2, c2, rfl, hown, hkept⟩; have hg2 := (hkept.cell (p := ⟨g, 0, none⟩) (Nat.lt_of_lt_of_le hlg HBX.out.size) (fun e => by simp [Value.ownBlock] at e; omega)).trans HG2.out))
 all_goals
  go_wp2_with fail
  go_ret
  exact NamedPost.of_own (HB.out.trans (HBX.out.mono HB.out.size)) HL.out HB.out.size hown hkept
set_option maxRecDepth 100000 in
set_option maxHeartbeats 3200000 in
theorem named_k7 (b : Nat) (w : World) (hc : w.cell? ⟨b, 0, none⟩ = some (.int .i64 7)) : Calls Tryd.prog 82 #[.pointer (some ⟨b, 0, none⟩)] w (NamedPost b w [5]) := by
 have hlb := block_lt_of_cell hc
 have hB : Below w.heap.size w (w.alloc (.cells #[.pointer (some ⟨b, 0, none⟩)] 124)) := (Below.refl _ _).alloc (Nat.le_refl _) _
 have hg := (Blk.new w 124 #[.pointer (some ⟨b, 0, none⟩)]).cell 0
 have hlg := (Blk.new w 124 #[.pointer (some ⟨b, 0, none⟩)]).lt
 have hc1 := (hB.cell (p := ⟨b, 0, none⟩) hlb).trans hc
 simp only [List.getElem?_toArray, List.getElem?_cons_zero] at hg
 have HB := Lib.hid hB
 have HSZ := Lib.hid (show (w.alloc (.cells #[.pointer (some ⟨b, 0, none⟩)] 124)).heap.size = w.heap.size + 1 by simp)
 clear hB hlb
 go_enter Tryd.func82, Tryd.ntmps82
 go_wp2_with fail
 generalize w.alloc (.cells #[.pointer (some ⟨b, 0, none⟩)] 124) = w1 at HB HSZ hg hlg hc1 ⊢
 obtain ⟨g, hgg⟩ : ∃ g, w.heap.size = g := ⟨_, rfl⟩
 rw [hgg] at hg hlg HSZ
 try rw [hgg]
 go_wp2_with fail
 go_ret
 exact NamedPost.of_lit HB.out rfl (by decide) rfl rfl HSZ.out
set_option maxRecDepth 100000 in
set_option maxHeartbeats 3200000 in
theorem named_k8 (b : Nat) (w : World) (hc : w.cell? ⟨b, 0, none⟩ = some (.int .i64 8)) : Calls Tryd.prog 82 #[.pointer (some ⟨b, 0, none⟩)] w (NamedPost b w [5, 8]) := by
 have hlb := block_lt_of_cell hc
 have hB : Below w.heap.size w (w.alloc (.cells #[.pointer (some ⟨b, 0, none⟩)] 124)) := (Below.refl _ _).alloc (Nat.le_refl _) _
 have hg := (Blk.new w 124 #[.pointer (some ⟨b, 0, none⟩)]).cell 0
 have hlg := (Blk.new w 124 #[.pointer (some ⟨b, 0, none⟩)]).lt
 have hc1 := (hB.cell (p := ⟨b, 0, none⟩) hlb).trans hc
 simp only [List.getElem?_toArray, List.getElem?_cons_zero] at hg
 have HB := Lib.hid hB
 have HSZ := Lib.hid (show (w.alloc (.cells #[.pointer (some ⟨b, 0, none⟩)] 124)).heap.size = w.heap.size + 1 by simp)
 clear hB hlb
 go_enter Tryd.func82, Tryd.ntmps82
 go_wp2_with fail
 generalize w.alloc (.cells #[.pointer (some ⟨b, 0, none⟩)] 124) = w1 at HB HSZ hg hlg hc1 ⊢
 obtain ⟨g, hgg⟩ : ∃ g, w.heap.size = g := ⟨_, rfl⟩
 rw [hgg] at hg hlg HSZ
 try rw [hgg]
 go_wp2_with fail
 go_region
 all_goals
  go_wp2_with fail
  go_ret
  exact NamedPost.of_lit (w1 := w1.drew) HB.out.drew rfl (by decide) rfl rfl rfl
set_option maxRecDepth 100000 in
set_option maxHeartbeats 3200000 in
theorem named_kx (b : Nat) (w : World) (k : Int) (h1 : k ≠ 1) (h2 : k ≠ 2) (h3 : k ≠ 3) (h4 : k ≠ 4) (h5 : k ≠ 5) (h6 : k ≠ 6) (h7 : k ≠ 7) (h8 : k ≠ 8) (hc : w.cell? ⟨b, 0, none⟩ = some (.int .i64 k)) : Calls Tryd.prog 82 #[.pointer (some ⟨b, 0, none⟩)] w (NamedPost b w []) := by
 have e1 : (k == 1) = false := by simpa using h1
 have e2 : (k == 2) = false := by simpa using h2
 have e3 : (k == 3) = false := by simpa using h3
 have e4 : (k == 4) = false := by simpa using h4
 have e5 : (k == 5) = false := by simpa using h5
 have e6 : (k == 6) = false := by simpa using h6
 have e7 : (k == 7) = false := by simpa using h7
 have e8 : (k == 8) = false := by simpa using h8
 clear h1 h2 h3 h4 h5 h6 h7 h8
 have hlb := block_lt_of_cell hc
 have hB : Below w.heap.size w (w.alloc (.cells #[.pointer (some ⟨b, 0, none⟩)] 124)) := (Below.refl _ _).alloc (Nat.le_refl _) _
 have hg := (Blk.new w 124 #[.pointer (some ⟨b, 0, none⟩)]).cell 0
 have hlg := (Blk.new w 124 #[.pointer (some ⟨b, 0, none⟩)]).lt
 have hc1 := (hB.cell (p := ⟨b, 0, none⟩) hlb).trans hc
 simp only [List.getElem?_toArray, List.getElem?_cons_zero] at hg
 have HB := Lib.hid hB
 have HSZ := Lib.hid (show (w.alloc (.cells #[.pointer (some ⟨b, 0, none⟩)] 124)).heap.size = w.heap.size + 1 by simp)
 clear hB hlb
 go_enter Tryd.func82, Tryd.ntmps82
 go_wp2_with fail
 generalize w.alloc (.cells #[.pointer (some ⟨b, 0, none⟩)] 124) = w1 at HB HSZ hg hlg hc1 ⊢
 obtain ⟨g, hgg⟩ : ∃ g, w.heap.size = g := ⟨_, rfl⟩
 rw [hgg] at hg hlg HSZ
 try rw [hgg]
 go_wp2_with fail
 go_ret
 exact ⟨_, _, _, rfl, Rd.nil _ _, HB.out⟩
/-- NAMED. -/
theorem named_t (b : Nat) (k : Int) (w : World) (hc : w.cell? ⟨b, 0, none⟩ = some (.int .i64 k)) : Calls Tryd.prog 82 #[.pointer (some ⟨b, 0, none⟩)] w (NamedPost b w (namesM k)) := by
 revert hc
 refine names_cases (C := fun k => w.cell? ⟨b, 0, none⟩ = some (.int .i64 k) → Calls Tryd.prog 82 #[.pointer (some ⟨b, 0, none⟩)] w (NamedPost b w (namesM k))) (named_k1 b w) (named_k2 b w) (named_k3 b w) (named_k4 b w) (named_k5 b w) (named_k6 b w) (named_k7 b w) (named_k8 b w) (fun k h h1 h2 h3 h4 h5 h6 h7 h8 hc => ?_) k
 rw [h]
 exact named_kx b w k h1 h2 h3 h4 h5 h6 h7 h8 hc
end Go.Proofs.YthhnocnkicoimaaDoor
