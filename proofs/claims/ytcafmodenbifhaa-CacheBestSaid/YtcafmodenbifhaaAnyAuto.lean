/-
 THE LAW BY INVARIANT, what is true or false reckoned by one test: the rows of moves, picks, negations and of what a guard passes over need no proof of their own.
-/
import Derived.Test.YtcafmodenbifhaaAnyLex
set_option linter.unusedVariables false
set_option linter.unusedSimpArgs false
namespace Go.Proofs.Ytcafmodenbifhaa
open Go.RowKit

/-- What a slot holds: true or false, nothing, or what a relation says. -/
inductive TE where
 | b (x : Bool)
 | u
 | o (V : MV)
def TE.mv : TE → MV
 | .b x => eqV (.bool x)
 | .u => eqV undef
 | .o V => V
section
variable {P : Program} {ops : Array Oper} {Q : Exit → Act → World → Prop}
/-- The operation that writes slot t, among those that o waits for. -/
def srcOf (ops : Array Oper) (o : Oper) (t : Tmp) : Option Nat := (o.after.toList.find? fun e => Region.binds .any e && (dstOf ops e.on == some t)).map (·.on)
/-- A Bool that an operand holds. -/
def boolOf (ops : Array Oper) (Ts : List TE) (o : Oper) : Operand → Option Bool
 | .const (.bool x) => some x
 | .tmp t => (srcOf ops o t).bind fun j => match Ts[j]? with
  | some (.b x) => some x
  | _ => none
 | _ => none
/-- Is it passed over (some false), carried out (some true), or not known? -/
def wantOf (ops : Array Oper) (Ts : List TE) (o : Oper) : Option Bool :=
 match o.guard with
 | none => some true
 | some (j, want) =>
  if (o.after.any fun e => Region.binds .any e && e.on == j) && (dstOf ops j).isSome then
   match Ts[j]? with
   | some (.b x) => some (x == want)
   | some .u => some false
   | _ => none
  else none
def teB : Option TE → Option Bool
 | some (.b x) => some x
 | _ => none
def teU : Option TE → Bool
 | some .u => true
 | _ => false
def autoVal (ops : Array Oper) (Ts : List TE) (o : Oper) : Option Bool :=
 match o.op with
 | .move x => boolOf ops Ts o x
 | .assign x => boolOf ops Ts o x
 | .unOp .not _ x => (boolOf ops Ts o x).map (!·)
 | .pick c x y => match boolOf ops Ts o c with
  | some true => boolOf ops Ts o x
  | some false => boolOf ops Ts o y
  | none => none
 | _ => none
def autoOk (ops : Array Oper) (Ts : List TE) (i : Nat) (o : Oper) : Bool :=
 match wantOf ops Ts o with
 | some false => teU Ts[i]?
 | some true => match autoVal ops Ts o with
  | some x => teB Ts[i]? == some x
  | none => false
 | none => false
theorem vof_te {Ts : List TE} {i : Nat} {v : Value} {w : World} : Vof (Ts.map TE.mv) i v w = (match Ts[i]? with | some T => T.mv.r v w | none => True) := by
 unfold Vof
 rw [List.getElem?_map]
 cases Ts[i]? <;> rfl
theorem vof_b {Ts : List TE} {i : Nat} {x : Bool} {v : Value} {w : World} (h : Ts[i]? = some (.b x)) : Vof (Ts.map TE.mv) i v w = (v = .bool x) := by
 rw [vof_te, h]; rfl
theorem vof_u {Ts : List TE} {i : Nat} {v : Value} {w : World} (h : Ts[i]? = some .u) : Vof (Ts.map TE.mv) i v w = (v = undef) := by
 rw [vof_te, h]; rfl
theorem boolOf_eval {Ts : List TE} {o : Oper} {x : Operand} {b : Bool} {a : Act} {w : World} (h : boolOf ops Ts o x = some b)
  (hdep : ∀ j, (o.after.any fun e => Region.binds .any e && e.on == j) = true → ∀ dj, dstOf ops j = some dj → ∃ v, a.tmps[dj]? = some v ∧ Vof (Ts.map TE.mv) j v w) : a.eval x = .bool b := by
 unfold boolOf at h
 split at h
 ·injection h with h; subst h; rfl
 ·rename_i t
  cases hs : srcOf ops o t with
  | none => rw [hs] at h; cases h
  | some j =>
   rw [hs] at h
   simp only [Option.bind_some] at h
   have ht : Ts[j]? = some (.b b) := by
    split at h
    ·rename_i y hy; injection h with h; subst h; exact hy
    ·cases h
   unfold srcOf at hs
   obtain ⟨e, he, rfl⟩ := Option.map_eq_some_iff.1 hs
   have h1 := List.find?_some he
   have h2 := List.mem_of_find?_eq_some he
   simp only [Bool.and_eq_true, beq_iff_eq] at h1
   obtain ⟨v, h3, h4⟩ := hdep e.on (by
    rw [Array.any_eq_true']
    exact ⟨e, by simpa using h2, by simp [h1.1]⟩) t h1.2
   rw [vof_b ht] at h4
   subst h4
   exact ev_of h3
 ·cases h
theorem run_not {ρ : Operand → Value} {o : Oper} {t : TypeId} {x : Operand} {b : Bool} (h : o.op = .unOp .not t x) (hx : ρ x = .bool b) (w : World) : (execOp ρ o).run P w = .ok (.value (.bool (!b))) w := by
 unfold execOp; rw [h]; simp [go_sem, hx]
theorem run_pick {ρ : Operand → Value} {o : Oper} {c x y : Operand} {b : Bool} (h : o.op = .pick c x y) (hc : ρ c = .bool b) (w : World) : (execOp ρ o).run P w = .ok (.value (if b then ρ x else ρ y)) w := by
 unfold execOp; rw [h]; cases b <;> simp [go_sem, hc]
theorem wantOf_ok {Ts : List TE} {o : Oper} {x : Bool} {a : Act} {w : World} (h : wantOf ops Ts o = some x)
  (hdep : ∀ j, (o.after.any fun e => Region.binds .any e && e.on == j) = true → ∀ dj, dstOf ops j = some dj → ∃ v, a.tmps[dj]? = some v ∧ Vof (Ts.map TE.mv) j v w) : Region.wanted o (yielded ops a.tmps) = x := by
 unfold wantOf at h
 split at h
 ·rename_i hg
  injection h with h; subst h
  exact want_none hg
 ·rename_i j want hg
  split at h
  ·rename_i hc
   rw [Bool.and_eq_true] at hc
   obtain ⟨dj, hdj⟩ := Option.isSome_iff_exists.1 hc.2
   split at h
   ·rename_i y hy
    injection h with h; subst h
    exact want_dep hdep j dj y hg hc.1 hdj (fun v hv => by rw [vof_b hy] at hv; exact hv)
   ·rename_i hy
    injection h with h; subst h
    exact want_undef hdep j dj hg hc.1 hdj (fun v hv => by rw [vof_u hy] at hv; exact hv)
   ·cases h
  ·cases h
theorem autoOk_step {Ts : List TE} {l : List Value} {w0 : World} {i : Nat} {o : Oper} (h : autoOk ops Ts i o = true) : StepAt P ops Q (Ts.map TE.mv) l w0 i o := by
 intro a w hb hoth hdep
 unfold autoOk at h
 split at h
 ·rename_i hw
  refine step_off (wantOf_ok hw hdep) ?_
  unfold teU at h
  split at h
  ·rename_i hT; rw [vof_u hT]
  ·cases h
 ·rename_i hw
  refine step_on (wantOf_ok hw hdep) ?_
  split at h
  ·rename_i x hx
   have hT : Ts[i]? = some (.b x) := by
    simp only [beq_iff_eq] at h
    unfold teB at h
    split at h
    ·rename_i y hy; injection h with h; subst h; exact hy
    ·cases h
   have key : (execOp a.eval o).run P w = .ok (.value (.bool x)) w := by
    unfold autoVal at hx
    split at hx
    ·rename_i y hy; rw [BigFrame.run_move y hy w, boolOf_eval hx hdep]
    ·rename_i y hy; rw [BigFrame.run_assign y hy w, boolOf_eval hx hdep]
    ·rename_i t y hy
     obtain ⟨z, hz, rfl⟩ := Option.map_eq_some_iff.1 hx
     exact run_not hy (boolOf_eval hz hdep) w
    ·rename_i c y z hy
     split at hx
     ·rename_i hc; rw [run_pick hy (boolOf_eval hc hdep) w]; simp [boolOf_eval hx hdep]
     ·rename_i hc; rw [run_pick hy (boolOf_eval hc hdep) w]; simp [boolOf_eval hx hdep]
     ·cases hx
    ·cases hx
   exact step_val key (by rw [vof_b hT])
  ·cases h
 ·cases h
/-- The rows that are left. -/
def StepsB (P : Program) (ops : Array Oper) (Q : Exit → Act → World → Prop) (Vs : List MV) (l : List Value) (w0 : World) : Nat → List Bool → List Oper → Prop
 | _, _, [] => True
 | i, true :: fs, _ :: r => StepsB P ops Q Vs l w0 (i + 1) fs r
 | i, _ :: fs, o :: r => StepAt P ops Q Vs l w0 i o ∧ StepsB P ops Q Vs l w0 (i + 1) fs r
 | i, [], o :: r => StepAt P ops Q Vs l w0 i o ∧ StepsB P ops Q Vs l w0 (i + 1) [] r
def autoAll (ops : Array Oper) (Ts : List TE) : Nat → List Bool → List Oper → Bool
 | _, _, [] => true
 | i, true :: fs, o :: r => autoOk ops Ts i o && autoAll ops Ts (i + 1) fs r
 | i, false :: fs, _ :: r => autoAll ops Ts (i + 1) fs r
 | i, [], _ :: r => autoAll ops Ts (i + 1) [] r
theorem StepsB.all {Ts : List TE} {l : List Value} {w0 : World} : ∀ (r : List Oper) (fs : List Bool) (i : Nat), autoAll ops Ts i fs r = true → StepsB P ops Q (Ts.map TE.mv) l w0 i fs r → StepsAt P ops Q (Ts.map TE.mv) l w0 i r
 | [], _, _, _, _ => trivial
 | o :: r, true :: fs, i, ha, h => by
  simp only [autoAll, Bool.and_eq_true] at ha
  exact ⟨autoOk_step ha.1, StepsB.all r fs (i + 1) ha.2 h⟩
 | o :: r, false :: fs, i, ha, h => ⟨h.1, StepsB.all r fs (i + 1) ha h.2⟩
 | o :: r, [], i, ha, h => ⟨h.1, StepsB.all r [] (i + 1) ha h.2⟩
theorem wp_region_autoL {id : Nat} {l : List Value} {df : List Deferred} {w0 : World} {os : List Oper} (lo : Nat) (Ts : List TE) (fs : List Bool) (hok : regionOk os.toArray l.length = true) (hds : os.map (·.dst) = (List.range' lo Ts.length).map some) (hlen : Nat.ble (lo + Ts.length) l.length = true) (hau : autoAll os.toArray Ts 0 fs os = true)
  (step : StepsB P os.toArray Q (Ts.map TE.mv) l w0 0 fs os)
  (fin : ∀ w, Below w0.heap.size w0 w → FinC (fun ls => Q .normal ⟨ls.toArray, df⟩ w) w l lo (Ts.map TE.mv) []) :
  (Code.region id os.toArray false).wp P Q ⟨l.toArray, df⟩ w0 :=
 wp_region_lex lo (Ts.map TE.mv) hok (by rw [List.length_map]; exact hds) (by rw [List.length_map]; exact hlen) (StepsB.all os fs 0 hau step) fin
theorem wp_region_autoD {id : Nat} {l : List Value} {df : List Deferred} {w0 : World} {os : List Oper} (lo : Nat) (Ts : List TE) (fs : List Bool) (hm : P.follows .mixedOrders = true) (hok : regionOk os.toArray l.length = true) (hds : os.map (·.dst) = (List.range' lo Ts.length).map some) (hlen : Nat.ble (lo + Ts.length) l.length = true) (hau : autoAll os.toArray Ts 0 fs os = true)
  (step : StepsB P os.toArray Q (Ts.map TE.mv) l w0 0 fs os)
  (fin : ∀ w, Below w0.heap.size w0 w → FinC (fun ls => Q .normal ⟨ls.toArray, df⟩ w) w l lo (Ts.map TE.mv) []) :
  (Code.region id os.toArray true).wp P Q ⟨l.toArray, df⟩ w0 :=
 wp_region_by lo (Ts.map TE.mv) hm hok (by rw [List.length_map]; exact hds) (by rw [List.length_map]; exact hlen) (StepsB.all os fs 0 hau step) fin
end
end Go.Proofs.Ytcafmodenbifhaa
