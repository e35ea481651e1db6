/-
 FROM THE CONDITION 'laid' TO WHAT THE WALKS ASK OF THE LISTED VARIABLE (reeve/msg.ways).
-/
import Derived.Test.YthhnocnkicoimaaDoorRows
import Derived.Test.YthhnocnkicoimaaDoorMsg7
import Derived.ProofKit
import Derived.LaidMore
import Derived.OpenShut
import Derived.MakeChecks
import Derived.FnData
set_option linter.unusedVariables false
set_option linter.unusedSimpArgs false
namespace Go.Proofs.YthhnocnkicoimaaDoor
open Go.ChangeShapes Go.WideShapes Go.ChangeAt Go.RowKit

def waysLaid : List (String × DataW Unit) := [("reeve/msg.ways", Rows.laid_reeve_msg_ways)]
theorem gWays : Tryd.prog.globalNamed "reeve/msg.ways" = some 0 := by kernel_rfl
theorem tWays : (Tryd.prog.globals[0]?).map (·.type) = some 126 := by kernel_rfl
set_option maxRecDepth 100000 in
theorem way_pair {H : Type} {enc : TypeId × Value → H} {W : World} {base m : Nat} {sp : Nat → Bool} {hd : Bool} {cs : List Value} {x : DataW H × List MemPlace} {a b : Int} (h : DataW.trod enc Tryd.prog W base sp hd m 125 cs = some x) (hx : x.1 = .agg [.lit (.int .i64 a), .lit (.int .i64 b)]) :
  cs[0]? = some (.int .i64 a) ∧ cs[1]? = some (.int .i64 b) := by
 obtain ⟨xs, m1, rfl, rfl, hlen, hn, hel⟩ := DataW.trod_array Tryd.underlying125 h
 have c3 : Tryd.prog.cellsOf 3 = 1 := by kernel_rfl
 have h0 := hel 0 (by decide)
 have h1 := hel 1 (by decide)
 rw [c3] at h0 h1
 match xs, hn with
 | [y0, y1], _ =>
  simp only [List.map_cons, List.map_nil, DataW.agg.injEq, List.cons.injEq, and_true] at hx
  obtain ⟨k0, e0, f0, _⟩ := DataW.trod_int Tryd.underlying3 (show DataW.trod enc Tryd.prog W base sp hd m1 3 _ = some y0 from h0)
  obtain ⟨k1, e1, f1, _⟩ := DataW.trod_int Tryd.underlying3 (show DataW.trod enc Tryd.prog W base sp hd m1 3 _ = some y1 from h1)
  rw [f0, f1] at hx
  obtain ⟨ha, hb⟩ := hx
  have ha : k0 = a := by simpa using ha
  have hb : k1 = b := by simpa using hb
  subst ha
  subst hb
  have g0 := congrArg (fun l => l[0]?) e0
  have g1 := congrArg (fun l => l[0]?) e1
  simp [List.getElem?_take, List.getElem?_drop] at g0 g1
  exact ⟨by simpa using g0, by simpa using g1⟩
theorem pair_up {cs : List Value} {i : Nat} {a b : Value} (h : ((cs.drop (i * 2)).take 2)[0]? = some a ∧ ((cs.drop (i * 2)).take 2)[1]? = some b) : cs[i * 2]? = some a ∧ cs[i * 2 + 1]? = some b := by
 obtain ⟨h1, h2⟩ := h
 simp [List.getElem?_take, List.getElem?_drop] at h1 h2
 exact ⟨h1, h2⟩
set_option maxRecDepth 100000 in
theorem of_laid {W : World} (h : laidMetH Tryd.prog waysLaid W) : WaysAt W := by
 rw [MakeChecks.laidMetH_plain _ _ _ (by kernel_rfl)] at h
 obtain ⟨ps, ⟨g0, t0, cs0, f0, p0, q0, hg0, ht0, hv0, hd0, _, _⟩, _, _⟩ := h
 obtain rfl := Option.some.inj (gWays.symm.trans hg0)
 obtain rfl := Option.some.inj (tWays.symm.trans ht0)
 obtain ⟨xs, m1, rfl, hx, hlen, hn, hel⟩ := DataW.trod_array Tryd.underlying126 hd0
 have c2 : Tryd.prog.cellsOf 125 = 2 := by kernel_rfl
 rw [c2] at hel
 have hcell := fun j => World.var?_cell hg0 hv0 j
 have hall : ∀ j, j < 16 → cs0[j]? = some (.int .i64 (WAYS.getD j 0)) := by
  match xs, hn with
  | [y0, y1, y2, y3, y4, y5, y6, y7], _ =>
   simp only [Rows.laid_reeve_msg_ways, Prod.mk.injEq, List.map_cons, List.map_nil, DataW.agg.injEq, List.cons.injEq, and_true] at hx
   obtain ⟨⟨x0, x1, x2, x3, x4, x5, x6, x7⟩, _⟩ := hx
   have q0 := pair_up (way_pair (hel 0 (by decide)) x0.symm)
   have q1 := pair_up (way_pair (hel 1 (by decide)) x1.symm)
   have q2 := pair_up (way_pair (hel 2 (by decide)) x2.symm)
   have q3 := pair_up (way_pair (hel 3 (by decide)) x3.symm)
   have q4 := pair_up (way_pair (hel 4 (by decide)) x4.symm)
   have q5 := pair_up (way_pair (hel 5 (by decide)) x5.symm)
   have q6 := pair_up (way_pair (hel 6 (by decide)) x6.symm)
   have q7 := pair_up (way_pair (hel 7 (by decide)) x7.symm)
   simp only [Array.getElem?_toList] at q0 q1 q2 q3 q4 q5 q6 q7
   intro j hj
   match j with
   | 0 => exact q0.1
   | 1 => exact q0.2
   | 2 => exact q1.1
   | 3 => exact q1.2
   | 4 => exact q2.1
   | 5 => exact q2.2
   | 6 => exact q3.1
   | 7 => exact q3.2
   | 8 => exact q4.1
   | 9 => exact q4.2
   | 10 => exact q5.1
   | 11 => exact q5.2
   | 12 => exact q6.1
   | 13 => exact q6.2
   | 14 => exact q7.1
   | 15 => exact q7.2
   | j + 16 => omega
 refine ⟨?_, fun j hj => (hcell j).trans (hall j hj)⟩
 have h0 := (hcell 0).trans (hall 0 (by decide))
 rcases Nat.eq_zero_or_pos W.heap.size with hz | hz
 ·have hn : W.heap[0]? = none := Array.getElem?_eq_none (by omega)
  unfold World.cell? at h0
  simp only [hn] at h0
  cases h0
 ·exact hz
/-- The door's own heap meets the condition. -/
theorem door_met (os : Os) (args : Array Value) : laidMetH Tryd.prog waysLaid ((World.doorLaid Tryd.prog 400 os).forCall (fun _ _ => 0) ⟨#[], args, []⟩).memory :=
 laidMetH_of_parts3 (fuel := 8) (laidMet_of_run' 8 (by kernel_rfl) (by kernel_rfl)) (by kernel_rfl) (by kernel_rfl)
end Go.Proofs.YthhnocnkicoimaaDoor
