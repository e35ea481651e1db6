/-
  LAYER 30 (class): known, walked.
-/
import Derived.Test.YthhnocnkicoimaaClass6
import Derived.Deep.RegionHeld3
import Derived.Deep.RegionLaw
set_option linter.unusedVariables false
set_option linter.unusedSimpArgs false
namespace Go.Proofs.Ythhnocnkicoimaa
open Go.RowKit Go.Maps

theorem Try.infoPtrClass : (Try.prog.info? 98).map (fun i => (i.zero, i.size, i.bytes)) = some (some (.pointer none), 1, 8) := by kernel_rfl
section
variable {w : World} {c n cap : Nat} {m : CM} {R : Nat → List Int} {gs : List (Nat × Option Nat)} {A : Option Addr} {am jm : Option Nat}
set_option maxRecDepth 100000 in
set_option maxHeartbeats 800000 in
/-- known, of a need that is known. -/
theorem cKnown_yes (h : CAt w c m R gs A n cap am jm) (r : LRes) (hr : wfRes r) (hin : r ∈ m.needs) : Calls Try.prog 39 #[.pointer (some ⟨c, 0, none⟩), aggRes r] w fun e w' => e = .returned (.int .i64 (idxR m.needs r)) ∧ Below w.heap.size w w' := by
  have hb := Blk.new w 24 (boxRes r)
  have hc1 := (h.blk.alloc (.cells (boxRes r) 24)).cell 1
  have hl := fun k => (((h.at_.alloc (.cells (boxRes r) 24)).below (w' := (w.alloc (.cells (boxRes r) 24)).drewN k) (below_dN k))).look hr
  have hB : Below w.heap.size w (w.alloc (.cells (boxRes r) 24)) := (Below.refl _ _).alloc (Nat.le_refl _) _
  have c0 := hb.cell 0
  have c1 := hb.cell 1
  have c2 := hb.cell 2
  simp only [List.getElem?_toArray, List.getElem?_cons_zero, List.getElem?_cons_succ] at c0 c1 c2 hc1
  clear h hb
  simp only [if_pos hin, decide_eq_true hin] at hl
  clear hin
  go_enter Try.func39, Try.ntmps39
  go_wp2
  generalize w.alloc (.cells (boxRes r) 24) = w1 at hc1 hl hB c0 c1 c2 ⊢
  go_quiet (fail)
  go_wp2
  go_ret
  exact ⟨rfl, hB.trans (below_dN _)⟩
end

end Go.Proofs.Ythhnocnkicoimaa
