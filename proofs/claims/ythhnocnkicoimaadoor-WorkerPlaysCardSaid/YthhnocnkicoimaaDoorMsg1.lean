/-
 LAYER 35 (msg): named: the pointers to the numbers that a message's kind names.
-/
import Derived.Test.YthhnocnkicoimaaDoorMsgP
import Derived.Test.YthhnocnkicoimaaDoorStepApp
import Derived.Deep.AppendLies
set_option linter.unusedVariables false
set_option linter.unusedSimpArgs false
namespace Go.Proofs.YthhnocnkicoimaaDoor
open Go.RowKit

theorem Tryd.infoPtrInt : (Tryd.prog.info? 145).map (fun i => (i.zero, i.size, i.bytes)) = some (some (.pointer none), 1, 8) := by kernel_rfl
/-- A slice that the call has just built: its row is the whole block. -/
theorem OwnL.lit {α : Type} {enc : α → List Value} {e sz : Nat} (w : World) (base : Nat) (hb : base ≤ w.heap.size) (l : List α) (n : Nat) (cs : Array Value) (hn : l.length = n) (hn2 : n ≤ 1000000) (hcs : cs.toList = l.flatMap enc) (hl : (l.flatMap enc).length = n * sz) : OwnL enc e sz (w.alloc (.cells cs e)) base (some ⟨w.heap.size, 0, none⟩) n n l := by
 refine ⟨⟨hl, .inr ⟨w.heap.size, n, cs, rfl, hb, heap_alloc_new w _, Nat.le_refl _, by unfold maxLen; omega, ?_, ?_⟩⟩, hn⟩
 ·rw [← Array.length_toList, hcs, hl]
 ·rw [hcs, List.take_of_length_le (by rw [hl]; exact Nat.le_refl _)]
set_option maxRecDepth 100000 in
set_option maxHeartbeats 1600000 in
/-- The three places of the need, behind whatever came in. -/
theorem three_t (g b : Nat) (A : Option Addr) (n c base : Nat) (L : List Nat) (w : World) (hg : w.cell? ⟨g, 0, none⟩ = some (.pointer (some ⟨b, 0, none⟩))) (ho : OwnL (encO b) 145 1 w base A n c L) (hgb : g < base) (hn : n ≤ 100) (hb : base ≤ w.heap.size) :
  Calls Tryd.prog 101 #[.slice A n c, .pointer (some ⟨g, 0, none⟩)] w fun e w' => ∃ A' c', e = .returned (.slice A' (n + 3) c') ∧ OwnL (encO b) 145 1 w' base A' (n + 3) c' (L ++ [9, 10, 11]) ∧ Kept (fun k => some k = (Value.slice A n c).ownBlock) w w' := by
 have HN : Hid (some g ≠ (Value.slice A n c).ownBlock) := Lib.hid (fun e => by have := own_block_ge ho g e.symm; omega)
 have HO := Lib.hid ho
 clear ho hgb
 go_enter Tryd.func101, Tryd.ntmps101
 go_wp2
 have HB : Hid (Below w.heap.size w (w.alloc (.cells #[.pointer (some ⟨b, 9, none⟩), .pointer (some ⟨b, 10, none⟩), .pointer (some ⟨b, 11, none⟩)] 145)).drew) := Lib.hid ((Below.refl _ _).alloc (Nat.le_refl _) _).drew
 have HL := Lib.hid (OwnL.lit (enc := encO b) (e := 145) (sz := 1) w 0 (Nat.zero_le _) [9, 10, 11] 3 #[.pointer (some ⟨b, 9, none⟩), .pointer (some ⟨b, 10, none⟩), .pointer (some ⟨b, 11, none⟩)] rfl (by omega) rfl rfl)
 go_region_held3 (fun w' => w'.cell? ⟨g, 0, none⟩ = some (.pointer (some ⟨b, 0, none⟩))) (first | exact hg | exact (HB.out.cell (p := ⟨g, 0, none⟩) (block_lt_of_cell hg)).trans hg | exact hg2)
  ((refine step_app_ (enc := encO b) (fun _ => rfl) (O_one b) (by rfl) (.tmp 4) (.tmp 17) 122 (by rfl) 145 (.pointer none) 8 Tryd.underlying122 Tryd.infoPtrInt (by rfl) (by decide) base A n c L (by rfl) (HO.out.below HB.out) (some ⟨w.heap.size, 0, none⟩) 3 3 [9, 10, 11] (by rfl) ((HL.out.drew).rd (fun _ => rfl)) (n + 3) (by rfl) (L ++ [9, 10, 11]) (by rfl) (by omega) (by omega) (by have := HB.out.size; omega) ?_; intro A' c' w' hown hgrow; have hg2 := (hgrow.cell_far ⟨g, 0, none⟩ (Nat.lt_of_lt_of_le (block_lt_of_cell hg) HB.out.size) HN.out).trans ((HB.out.cell (p := ⟨g, 0, none⟩) (block_lt_of_cell hg)).trans hg)))
 all_goals
  go_wp2_with fail
  go_ret
  exact ⟨A', c', rfl, hown, (Kept.of_below HB.out).trans (Kept.of_grown hgrow (fun k e _ => e.symm)) (fun _ _ h => h)⟩
end Go.Proofs.YthhnocnkicoimaaDoor
