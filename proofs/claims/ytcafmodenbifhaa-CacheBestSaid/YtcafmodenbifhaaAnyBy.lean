/-
 THE LAW BY INVARIANT FOR A REGION THAT DRAWS ITS ORDER, LAID OUT AS A LIST: one row for each operation, what each has yielded in a table.
-/
import Derived.Test.YtcafmodenbifhaaAnyInv
set_option linter.unusedVariables false
set_option linter.unusedSimpArgs false
namespace Go.Proofs.Ytcafmodenbifhaa
open Go.RowKit

/-- What a slot holds, kept as the world grows. -/
structure MV where
 r : Value → World → Prop
 mono : ∀ v w w', r v w → Below w.heap.size w w' → r v w'
/-- A value that is known. -/
def eqV (x : Value) : MV := ⟨fun v _ => v = x, fun _ _ _ h _ => h⟩
/-- A slice that reads as a list. -/
def rdV {α : Type} (enc : α → List Value) (sz : Nat) (l : List α) (m : Nat) : MV :=
 ⟨fun v w => ∃ A n c, v = .slice A n c ∧ Rd enc sz w A n l ∧ n ≤ m, fun _ _ _ ⟨A, n, c, e, h, hn⟩ hb => ⟨A, n, c, e, h.below hb, hn⟩⟩
def Vof (Vs : List MV) (i : Nat) (v : Value) (w : World) : Prop :=
 match Vs[i]? with
 | some V => V.r v w
 | none => True
section
variable {P : Program} {ops : Array Oper} {Q : Exit → Act → World → Prop}
def StepAt (P : Program) (ops : Array Oper) (Q : Exit → Act → World → Prop) (Vs : List MV) (l : List Value) (w0 : World) (i : Nat) (o : Oper) : Prop :=
 ∀ (a : Act) (w : World), Below w0.heap.size w0 w → (∀ t v, (∀ i, dstOf ops i ≠ some t) → l[t]? = some v → a.tmps[t]? = some v) →
  (∀ j, (o.after.any fun e => Region.binds .any e && e.on == j) = true → ∀ dj, dstOf ops j = some dj → ∃ v, a.tmps[dj]? = some v ∧ Vof Vs j v w) →
  if Region.wanted o (yielded ops a.tmps) = true then Oper.wp P o a w (fun a' w' => ∃ v, a' = a.put o.dst v ∧ Vof Vs i v w' ∧ Below w.heap.size w w') Q else Vof Vs i undef w
def StepsAt (P : Program) (ops : Array Oper) (Q : Exit → Act → World → Prop) (Vs : List MV) (l : List Value) (w0 : World) : Nat → List Oper → Prop
 | _, [] => True
 | i, o :: r => StepAt P ops Q Vs l w0 i o ∧ StepsAt P ops Q Vs l w0 (i + 1) r
theorem StepsAt.at_ {Vs : List MV} {l : List Value} {w0 : World} : ∀ (r : List Oper) (k : Nat), StepsAt P ops Q Vs l w0 k r → ∀ i o, r[i]? = some o → StepAt P ops Q Vs l w0 (k + i) o
 | [], _, _, i, o, h => by simp at h
 | o' :: r, k, hs, 0, o, h => by simp at h; subst h; exact hs.1
 | o' :: r, k, hs, i + 1, o, h => by
  have := StepsAt.at_ r (k + 1) hs.2 i o (by simpa using h)
  rw [show k + (i + 1) = k + 1 + i by omega]
  exact this
/-- What comes behind the region, slot by slot. -/
def FinAt (K : Act → Prop) (w : World) : List Oper → List MV → Act → Prop
 | [], _, a => K a
 | o :: r, V :: Vs, a => ∀ v, V.r v w → FinAt K w r Vs (a.put o.dst v)
 | o :: r, [], a => ∀ v, FinAt K w r [] (a.put o.dst v)
theorem FinAt.nil {K : Act → Prop} {w : World} {Vs : List MV} {a : Act} (h : K a) : FinAt K w [] Vs a := h
theorem FinAt.of_ {K : Act → Prop} {w : World} {a : Act} : ∀ (r : List Oper) (Vs : List MV) (b : Act), b.defers = a.defers → b.tmps.size = a.tmps.size →
  (∀ t, (∀ i, dstOf r.toArray i ≠ some t) → b.tmps[t]? = a.tmps[t]?) → (∀ i d, dstOf r.toArray i = some d → ∃ v, a.tmps[d]? = some v ∧ Vof Vs i v w) → (∀ (i : Nat) (o : Oper), r[i]? = some o → ∃ d, o.dst = some d) → FinAt K w r Vs b → K a
 | [], Vs, b, hd, hs, ho, hv, _, h => by
  have e : b = a := by
   obtain ⟨bt, bd⟩ := b
   obtain ⟨at_, ad⟩ := a
   simp only at hd
   subst hd
   have : bt = at_ := Array.ext_getElem? (fun t => ho t (fun i => by simp [dstOf]))
   rw [this]
  rw [← e]; exact h
 | o :: r, Vs, b, hd, hs, ho, hv, hdst, h => by
  obtain ⟨d, hod⟩ := hdst 0 o rfl
  obtain ⟨v, hav, hV⟩ := hv 0 d (by simp [dstOf, hod])
  have hrest : FinAt K w r Vs.tail (b.put o.dst v) := by
   cases Vs with
   | nil => exact h v
   | cons V Vs => exact h v hV
  refine FinAt.of_ r Vs.tail (b.put o.dst v) (by rw [hod]; exact hd) (by rw [hod]; show (b.tmps.setIfInBounds d v).size = _; rw [Array.size_setIfInBounds]; exact hs) (fun t ht => ?_) (fun i d' hi => ?_) (fun i o' hi => hdst (i + 1) o' (by simpa using hi)) hrest
  ·rw [hod]
   show (b.tmps.setIfInBounds d v)[t]? = _
   have hsz : d < b.tmps.size := by rw [hs]; exact (Array.getElem?_eq_some_iff.1 hav).1
   by_cases e : d = t
   ·subst e; rw [Array.getElem?_setIfInBounds_self_of_lt hsz, hav]
   ·rw [Array.getElem?_setIfInBounds_ne e]
    refine ho t (fun i => ?_)
    cases i with
    | zero => simp [dstOf, hod, e]
    | succ i => have := ht i; simpa [dstOf] using this
  ·obtain ⟨v', h1, h2⟩ := hv (i + 1) d' (by simpa [dstOf] using hi)
   refine ⟨v', h1, ?_⟩
   unfold Vof at h2 ⊢
   rw [List.getElem?_tail]
   exact h2
/-- .. over a list of slots. -/
def FinL (K : Act → Prop) (w : World) (df : List Deferred) : List Nat → List MV → List Value → Prop
 | [], _, ls => K ⟨ls.toArray, df⟩
 | d :: r, V :: Vs, ls => ∀ v, V.r v w → FinL K w df r Vs (ls.set d v)
 | d :: r, [], ls => ∀ v, FinL K w df r [] (ls.set d v)
theorem FinL.nil {K : Act → Prop} {w : World} {df : List Deferred} {Vs : List MV} {ls : List Value} (h : K ⟨ls.toArray, df⟩) : FinL K w df [] Vs ls := h
theorem FinL.nil_at {K : Act → Prop} {w : World} {df : List Deferred} {Vs : List MV} {ls : List Value} (h : ∀ x : List Value, x = ls → K ⟨x.toArray, df⟩) : FinL K w df [] Vs ls := h ls rfl
theorem put_list (ls : List Value) (df : List Deferred) (d : Nat) (v : Value) : (⟨ls.toArray, df⟩ : Act).put (some d) v = ⟨(ls.set d v).toArray, df⟩ := by
 show (⟨ls.toArray.setIfInBounds d v, df⟩ : Act) = _
 rw [List.setIfInBounds_toArray]
theorem FinL.at_ {K : Act → Prop} {w : World} {df : List Deferred} : ∀ (os : List Oper) (ds : List Nat) (Vs : List MV) (ls : List Value), os.map (·.dst) = ds.map some → FinL K w df ds Vs ls → FinAt K w os Vs ⟨ls.toArray, df⟩
 | [], [], _, _, _, h => h
 | [], _ :: _, _, _, e, _ => by simp at e
 | _ :: _, [], _, _, e, _ => by simp at e
 | o :: os, d :: ds, Vs, ls, e, h => by
  simp only [List.map_cons, List.cons.injEq] at e
  cases Vs with
  | nil => intro v; rw [e.1, put_list]; exact FinL.at_ os ds [] _ e.2 (h v)
  | cons V Vs => intro v hv; rw [e.1, put_list]; exact FinL.at_ os ds Vs _ e.2 (h v hv)
/-- .. where the slots stand in a row: the frame in one piece. -/
def FinC (E : List Value → Prop) (w : World) (l : List Value) (lo : Nat) : List MV → List Value → Prop
 | [], acc => E (l.take lo ++ acc.reverseAux (l.drop (lo + acc.length)))
 | V :: Vs, acc => ∀ v, V.r v w → FinC E w l lo Vs (v :: acc)
theorem FinC.nil {E : List Value → Prop} {w : World} {l : List Value} {lo : Nat} {acc : List Value} (h : E (l.take lo ++ acc.reverseAux (l.drop (lo + acc.length)))) : FinC E w l lo [] acc := h
theorem set_row (l : List Value) (lo : Nat) (acc : List Value) (v : Value) (h : lo + acc.length < l.length) :
  (l.take lo ++ acc.reverseAux (l.drop (lo + acc.length))).set (lo + acc.length) v = l.take lo ++ (v :: acc).reverseAux (l.drop (lo + (v :: acc).length)) := by
 have hl : (l.take lo).length = lo := by rw [List.length_take]; omega
 rw [List.reverseAux_eq, List.reverseAux_eq, List.set_append_right _ _ (by omega), hl, show lo + acc.length - lo = acc.length by omega, List.set_append_right _ _ (by simp), List.length_reverse, Nat.sub_self]
 rw [show l.drop (lo + acc.length) = l[lo + acc.length] :: l.drop (lo + acc.length + 1) from List.drop_eq_getElem_cons h]
 simp [Nat.add_assoc]
theorem FinC.at_ {K : Act → Prop} {w : World} {df : List Deferred} {l : List Value} {lo : Nat} (xs : List Nat) (Vx : List MV) : ∀ (Vs : List MV) (acc : List Value), lo + acc.length + Vs.length ≤ l.length → FinC (FinL K w df xs Vx) w l lo Vs acc →
  FinL K w df (List.range' (lo + acc.length) Vs.length ++ xs) (Vs ++ Vx) (l.take lo ++ acc.reverseAux (l.drop (lo + acc.length)))
 | [], acc, _, h => h
 | V :: Vs, acc, hn, h => by
  rw [List.length_cons, List.range'_succ]
  intro v hv
  simp only [List.length_cons] at hn
  rw [set_row l lo acc v (by omega)]
  have := FinC.at_ xs Vx Vs (v :: acc) (by simp only [List.length_cons]; omega) (h v hv)
  rw [show lo + (v :: acc).length = lo + acc.length + 1 by simp only [List.length_cons]; omega] at this ⊢
  exact this
/-- THE LAW, AS A LIST: the slots of Vs stand in a row from lo on; behind them those of Vx, in the slots xs. -/
theorem wp_region_by2 {id : Nat} {l : List Value} {df : List Deferred} {w0 : World} {os : List Oper} (lo : Nat) (Vs : List MV) (xs : List Nat) (Vx : List MV) (hm : P.follows .mixedOrders = true) (hok : regionOk os.toArray l.length = true) (hds : os.map (·.dst) = (List.range' lo Vs.length ++ xs).map some) (hlen : Nat.ble (lo + Vs.length) l.length = true)
  (step : StepsAt P os.toArray Q (Vs ++ Vx) l w0 0 os)
  (fin : ∀ w, Below w0.heap.size w0 w → FinC (FinL (fun a => Q .normal a w) w df xs Vx) w l lo Vs []) :
  (Code.region id os.toArray true).wp P Q ⟨l.toArray, df⟩ w0 := by
 refine wp_region_inv_ok hm (by simpa using hok) (Vof (Vs ++ Vx)) (fun i v w w' h hb => ?_) (fun i o d a w ho hd hb hoth hdep => ?_) (fun a w hb hs hdf hoth hv => ?_)
 ·unfold Vof at h ⊢
  split <;> rename_i hV
  ·rw [hV] at h; exact MV.mono _ _ _ _ h hb
  ·trivial
 ·have := StepsAt.at_ os 0 step i o (by simpa using ho) a w hb (fun t v ht hl => by rw [hoth t ht]; simpa using hl) hdep
  rw [Nat.zero_add, hd] at this
  exact this
 ·have hle := Nat.le_of_ble_eq_true hlen
  have hf := FinC.at_ xs Vx Vs [] (by simpa using hle) (fin w hb)
  simp only [List.length_nil, Nat.add_zero, List.reverseAux, List.take_append_drop] at hf
  refine FinAt.of_ os (Vs ++ Vx) ⟨l.toArray, df⟩ hdf.symm hs.symm (fun t ht => (hoth t ht).symm) hv (fun i o hi => ?_) (FinL.at_ os _ (Vs ++ Vx) l hds hf)
  have h1 := region_ok hok i o (by simpa using hi)
  obtain ⟨⟨d, h2, _⟩, _⟩ := op_ok h1
  exact ⟨d, h2⟩
theorem wp_region_by {id : Nat} {l : List Value} {df : List Deferred} {w0 : World} {os : List Oper} (lo : Nat) (Vs : List MV) (hm : P.follows .mixedOrders = true) (hok : regionOk os.toArray l.length = true) (hds : os.map (·.dst) = (List.range' lo Vs.length).map some) (hlen : Nat.ble (lo + Vs.length) l.length = true)
  (step : StepsAt P os.toArray Q Vs l w0 0 os)
  (fin : ∀ w, Below w0.heap.size w0 w → FinC (fun ls => Q .normal ⟨ls.toArray, df⟩ w) w l lo Vs []) :
  (Code.region id os.toArray true).wp P Q ⟨l.toArray, df⟩ w0 :=
 wp_region_by2 lo Vs [] [] hm hok (by rw [List.append_nil]; exact hds) hlen (by rw [List.append_nil]; exact step) fin
/-- A slot that no operation of the region writes. -/
theorem ev_other {a : Act} {l : List Value} (hoth : ∀ t v, (∀ i, dstOf ops i ≠ some t) → l[t]? = some v → a.tmps[t]? = some v) (t : Nat) {v : Value} (h : ((List.range ops.size).all fun i => dstOf ops i != some t) = true) (hv : l[t]? = some v) : a.tmps[t]? = some v :=
 hoth t v (not_dst h) hv
/-- The slot of an operation that came ahead. -/
theorem ev_dep {a : Act} {w : World} {o : Oper} {Vs : List MV} (hdep : ∀ j, (o.after.any fun e => Region.binds .any e && e.on == j) = true → ∀ dj, dstOf ops j = some dj → ∃ v, a.tmps[dj]? = some v ∧ Vof Vs j v w)
  (j dj : Nat) (h1 : (o.after.any fun e => Region.binds .any e && e.on == j) = true) (h2 : dstOf ops j = some dj) : ∃ v, a.tmps[dj]? = some v ∧ Vof Vs j v w := hdep j h1 dj h2
theorem ev_of {a : Act} {t : Nat} {v : Value} (h : a.tmps[t]? = some v) : a.eval (.tmp t) = v := by
 show a.tmps.getD t undef = v
 rw [Array.getD_eq_getD_getElem?, h]; rfl
theorem want_none {o : Oper} {y : Nat → Option Bool} (h : o.guard = none) : Region.wanted o y = true := by unfold Region.wanted; rw [h]
/-- A guard that stands as the table says. -/
theorem want_dep {a : Act} {w : World} {o : Oper} {Vs : List MV} (hdep : ∀ j, (o.after.any fun e => Region.binds .any e && e.on == j) = true → ∀ dj, dstOf ops j = some dj → ∃ v, a.tmps[dj]? = some v ∧ Vof Vs j v w)
  (j dj : Nat) (b : Bool) {want : Bool} (hg : o.guard = some (j, want)) (h1 : (o.after.any fun e => Region.binds .any e && e.on == j) = true) (h2 : dstOf ops j = some dj) (hb : ∀ v, Vof Vs j v w → v = .bool b) :
  Region.wanted o (yielded ops a.tmps) = (b == want) := by
 obtain ⟨v, h3, h4⟩ := hdep j h1 dj h2
 have h5 := hb v h4
 subst h5
 unfold Region.wanted
 rw [hg]
 have : yielded ops a.tmps j = some b := by
  unfold yielded
  have : (ops[j]?).bind (·.dst) = some dj := h2
  rw [this]
  simp [h3]
 simp only [this]
 cases b <;> cases want <;> rfl
/-- .. of one that was passed over. -/
theorem want_undef {a : Act} {w : World} {o : Oper} {Vs : List MV} (hdep : ∀ j, (o.after.any fun e => Region.binds .any e && e.on == j) = true → ∀ dj, dstOf ops j = some dj → ∃ v, a.tmps[dj]? = some v ∧ Vof Vs j v w)
  (j dj : Nat) {want : Bool} (hg : o.guard = some (j, want)) (h1 : (o.after.any fun e => Region.binds .any e && e.on == j) = true) (h2 : dstOf ops j = some dj) (hb : ∀ v, Vof Vs j v w → v = undef) :
  Region.wanted o (yielded ops a.tmps) = false := by
 obtain ⟨v, h3, h4⟩ := hdep j h1 dj h2
 have h5 := hb v h4
 subst h5
 unfold Region.wanted
 rw [hg]
 have : yielded ops a.tmps j = none := by
  unfold yielded
  have : (ops[j]?).bind (·.dst) = some dj := h2
  rw [this]
  simp [h3, undef]
 simp only [this]
 cases want <;> rfl
theorem step_on {a : Act} {w : World} {o : Oper} {Vs : List MV} {i : Nat} (hw : Region.wanted o (yielded ops a.tmps) = true) (h : Oper.wp P o a w (fun a' w' => ∃ v, a' = a.put o.dst v ∧ Vof Vs i v w' ∧ Below w.heap.size w w') Q) :
  if Region.wanted o (yielded ops a.tmps) = true then Oper.wp P o a w (fun a' w' => ∃ v, a' = a.put o.dst v ∧ Vof Vs i v w' ∧ Below w.heap.size w w') Q else Vof Vs i undef w := by
 rw [if_pos hw]; exact h
theorem step_off {a : Act} {w : World} {o : Oper} {Vs : List MV} {i : Nat} {K : Prop} (hw : Region.wanted o (yielded ops a.tmps) = false) (h : Vof Vs i undef w) :
  if Region.wanted o (yielded ops a.tmps) = true then K else Vof Vs i undef w := by
 rw [if_neg (by rw [hw]; exact Bool.false_ne_true)]; exact h
theorem step_val {a : Act} {w : World} {o : Oper} {Vs : List MV} {i : Nat} {x : Value} (hr : (execOp a.eval o).run P w = .ok (.value x) w) (hx : Vof Vs i x w) :
  Oper.wp P o a w (fun a' w' => ∃ v, a' = a.put o.dst v ∧ Vof Vs i v w' ∧ Below w.heap.size w w') Q := by
 unfold Oper.wp
 rw [hr]
 exact ⟨x, rfl, hx, Below.refl _ _⟩
theorem step_call {a : Act} {w : World} {o : Oper} {Vs : List MV} {i : Nat} {f : FuncId} {args : Array Value} (hr : (execOp a.eval o).run P w = .ok (.enter f args) w)
  (hc : Calls P f args w fun e w' => ∃ v, e = .returned v ∧ Vof Vs i v w' ∧ Below w.heap.size w w') :
  Oper.wp P o a w (fun a' w' => ∃ v, a' = a.put o.dst v ∧ Vof Vs i v w' ∧ Below w.heap.size w w') Q := by
 unfold Oper.wp
 rw [hr]
 refine hc.mono (fun e w' h => ?_)
 obtain ⟨v, rfl, h1, h2⟩ := h
 exact ⟨v, rfl, h1, h2⟩
end
end Go.Proofs.Ytcafmodenbifhaa
