/-
 LAYER 35 (msg): what a message names, what is pure, what may be: plain law.
-/
import Derived.Test.YthhnocnkicoimaaDoorTMsg
import Derived.Test.YthhnocnkicoimaaDoorRes2
import Derived.Test.YthhnocnkicoimaaDoorAnyBy
set_option linter.unusedVariables false
set_option linter.unusedSimpArgs false
namespace Go.Proofs.YthhnocnkicoimaaDoor
open Go.RowKit

def intsM (m : LMsg) : List Int := [m.kind, m.frm, m.to_, m.epoch, m.inc, m.job, m.tick, m.prio, m.code, m.res.a, m.res.b, m.res.c]
theorem intsM_enc (m : LMsg) : encMsg m = (intsM m).map (Value.int .i64) := rfl
/-- The places of the numbers that a kind names. -/
def namesM (k : Int) : List Nat :=
 if k = 1 then [4, 6, 9, 10, 11] else if k = 2 then [3, 4, 6] else if k = 3 then [3, 4, 5] else if k = 4 then [3, 4, 5] else if k = 5 then [4, 5]
 else if k = 6 then [5, 7, 9, 10, 11] else if k = 7 then [5] else if k = 8 then [5, 8] else []
theorem names_cases {C : Int → Prop} (h1 : C 1) (h2 : C 2) (h3 : C 3) (h4 : C 4) (h5 : C 5) (h6 : C 6) (h7 : C 7) (h8 : C 8) (h : ∀ k, namesM k = [] → k ≠ 1 → k ≠ 2 → k ≠ 3 → k ≠ 4 → k ≠ 5 → k ≠ 6 → k ≠ 7 → k ≠ 8 → C k) (k : Int) : C k := by
 by_cases e1 : k = 1; · subst e1; exact h1
 by_cases e2 : k = 2; · subst e2; exact h2
 by_cases e3 : k = 3; · subst e3; exact h3
 by_cases e4 : k = 4; · subst e4; exact h4
 by_cases e5 : k = 5; · subst e5; exact h5
 by_cases e6 : k = 6; · subst e6; exact h6
 by_cases e7 : k = 7; · subst e7; exact h7
 by_cases e8 : k = 8; · subst e8; exact h8
 exact h k (by simp [namesM, e1, e2, e3, e4, e5, e6, e7, e8]) e1 e2 e3 e4 e5 e6 e7 e8
theorem names_bound (k : Int) : (namesM k).length ≤ 5 ∧ ∀ o ∈ namesM k, 3 ≤ o ∧ o < 12 := by
 refine names_cases (C := fun k => (namesM k).length ≤ 5 ∧ ∀ o ∈ namesM k, 3 ≤ o ∧ o < 12) ?_ ?_ ?_ ?_ ?_ ?_ ?_ ?_ (fun k h _ _ _ _ _ _ _ _ => by rw [h]; simp) k <;> decide
/-- A message with the numbers at some places alone. -/
def keepM (m : LMsg) (L : List Nat) : LMsg :=
 ⟨m.kind, m.frm, m.to_, if 3 ∈ L then m.epoch else 0, if 4 ∈ L then m.inc else 0, if 5 ∈ L then m.job else 0, if 6 ∈ L then m.tick else 0, if 7 ∈ L then m.prio else 0, if 8 ∈ L then m.code else 0,
  ⟨if 9 ∈ L then m.res.a else 0, if 10 ∈ L then m.res.b else 0, if 11 ∈ L then m.res.c else 0⟩⟩
def zeroLMsg : LMsg := ⟨0, 0, 0, 0, 0, 0, 0, 0, 0, ⟨0, 0, 0⟩⟩
def pureM (m : LMsg) : LMsg := if namesM m.kind = [] then zeroLMsg else keepM m (namesM m.kind)
theorem keepM_nil (m : LMsg) : keepM m [] = ⟨m.kind, m.frm, m.to_, 0, 0, 0, 0, 0, 0, ⟨0, 0, 0⟩⟩ := by simp [keepM]
/-- One number more. -/
theorem keepM_set (m : LMsg) (L : List Nat) (o : Nat) (v : Int) (h3 : 3 ≤ o) (h12 : o < 12) (hv : (intsM m)[o]? = some v) :
  (boxMsg (keepM m L)).setIfInBounds o (.int .i64 v) = boxMsg (keepM m (L ++ [o])) := by
 have hc : o = 3 ∨ o = 4 ∨ o = 5 ∨ o = 6 ∨ o = 7 ∨ o = 8 ∨ o = 9 ∨ o = 10 ∨ o = 11 := by omega
 rcases hc with rfl | rfl | rfl | rfl | rfl | rfl | rfl | rfl | rfl <;> (simp only [intsM, List.getElem?_cons_succ, List.getElem?_cons_zero, Option.some.injEq] at hv; subst hv; simp [boxMsg, keepM])
def placeM (n : Int) : Int := if 0 ≤ n ∧ n ≤ 4 then 1 else if 100 ≤ n ∧ n ≤ 115 then 2 else if n = 200 then 3 else 0
def inM (n a b : Int) : Bool := decide (a ≤ n) && decide (n ≤ b)
/-- Of the six bounded numbers: may it be? -/
def bndM : List (Nat × Int × Int) := [(3, 1, 4294967295), (4, 1, 2147483647), (5, 1, 2147483647), (6, 0, 1099511627776), (7, 0, 99), (8, 0, 14)]
def okB (m : LMsg) (x : Nat × Int × Int) : Bool := !(decide (x.1 ∈ namesM m.kind) && !inM ((intsM m).getD x.1 0) x.2.1 x.2.2)
def rightM (m : LMsg) : Bool := bndM.all (okB m) && rightR m.res
/-- From where to where a kind goes. -/
def wayM (k : Int) : Int × Int :=
 if k = 1 then (2, 1) else if k = 2 then (1, 2) else if k = 3 then (1, 2) else if k = 4 then (1, 2) else if k = 5 then (2, 1) else if k = 6 then (3, 1) else if k = 7 then (3, 1) else (1, 3)
def checkM (m : LMsg) : Int :=
 if namesM m.kind = [] then 5 else if pureM m ≠ m ∨ (placeM m.frm, placeM m.to_) ≠ wayM m.kind ∨ rightM m = false then 1 else 0
/-- Pointers to the numbers of a message in block b. -/
def encO (b : Nat) (o : Nat) : List Value := [.pointer (some ⟨b, o, none⟩)]
theorem O_one (b : Nat) (o : Nat) : ∀ u ∈ encO b o, u.oneCell' = true := by
 intro u hu
 simp [encO] at hu
 subst hu
 rfl
end Go.Proofs.YthhnocnkicoimaaDoor
