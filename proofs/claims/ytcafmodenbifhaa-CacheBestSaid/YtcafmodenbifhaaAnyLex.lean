/-
 THE LAW BY INVARIANT FOR A REGION THAT KEEPS THE ORDER OF ITS TEXT: the same rows as XAnyBy's.
-/
import Derived.Test.YtcafmodenbifhaaAnyBy
set_option linter.unusedVariables false
set_option linter.unusedSimpArgs false
namespace Go.Proofs.Ytcafmodenbifhaa
open Go.RowKit

section
variable {P : Program} {ops : Array Oper} {Q : Exit → Act → World → Prop}
/-- Behind the first k operations. -/
structure LInv (ops : Array Oper) (V : Nat → Value → World → Prop) (a0 : Act) (w0 : World) (k : Nat) (a : Act) (w : World) : Prop where
 bel : Below w0.heap.size w0 w
 tm : a.tmps.size = a0.tmps.size
 df : a.defers = a0.defers
 other : ∀ t, (∀ i, dstOf ops i ≠ some t) → a.tmps[t]? = a0.tmps[t]?
 val : ∀ i d, i < k → dstOf ops i = some d → ∃ v, a.tmps[d]? = some v ∧ V i v w
theorem LInv.put {V : Nat → Value → World → Prop} {a0 a : Act} {w0 w w' : World} {k d : Nat} {v : Value} (h : LInv ops V a0 w0 k a w)
  (mono : ∀ i v w w', V i v w → Below w.heap.size w w' → V i v w') (hd : dstOf ops k = some d) (hds : d < a0.tmps.size) (hinj : ∀ i j d, dstOf ops i = some d → dstOf ops j = some d → i = j)
  (hv : V k v w') (hb : Below w.heap.size w w') : LInv ops V a0 w0 (k + 1) (a.put (some d) v) w' := by
 refine ⟨h.bel.trans (hb.mono h.bel.size), ?_, h.df, fun t ht => ?_, fun j dj hj hdj => ?_⟩
 ·show (a.tmps.setIfInBounds d v).size = _
  rw [Array.size_setIfInBounds]; exact h.tm
 ·show (a.tmps.setIfInBounds d v)[t]? = _
  rw [Array.getElem?_setIfInBounds_ne (fun e => ht k (by rw [hd, e]))]
  exact h.other t ht
 ·show ∃ u, (a.tmps.setIfInBounds d v)[dj]? = some u ∧ _
  by_cases e : k = j
  ·subst e
   rw [hd] at hdj
   cases hdj
   exact ⟨v, by rw [Array.getElem?_setIfInBounds_self_of_lt (by rw [h.tm]; exact hds)], hv⟩
  ·obtain ⟨u, h2, h3⟩ := h.val j dj (by omega) hdj
   refine ⟨u, ?_, mono _ _ _ _ h3 hb⟩
   rw [Array.getElem?_setIfInBounds_ne (fun e2 => e (hinj k j d hd (by rw [hdj, e2])))]
   exact h2
theorem wpOps_inv {a0 : Act} {w0 : World} (V : Nat → Value → World → Prop)
  (mono : ∀ i v w w', V i v w → Below w.heap.size w w' → V i v w')
  (hdst : ∀ i, i < ops.size → ∃ d, dstOf ops i = some d ∧ d < a0.tmps.size) (hinj : ∀ i j d, dstOf ops i = some d → dstOf ops j = some d → i = j)
  (hback : ∀ (i : Nat) (o : Oper), ops[i]? = some o → (o.after.all fun e => decide (e.on < i)) = true)
  (step : ∀ i o d a w, ops[i]? = some o → o.dst = some d → Below w0.heap.size w0 w → (∀ t, (∀ i, dstOf ops i ≠ some t) → a.tmps[t]? = a0.tmps[t]?) →
   (∀ j, (o.after.any fun e => Region.binds .any e && e.on == j) = true → ∀ dj, dstOf ops j = some dj → ∃ v, a.tmps[dj]? = some v ∧ V j v w) →
   if Region.wanted o (yielded ops a.tmps) = true then Oper.wp P o a w (fun a' w' => ∃ v, a' = a.put (some d) v ∧ V i v w' ∧ Below w.heap.size w w') Q else V i undef w)
  (fin : ∀ a w, LInv ops V a0 w0 ops.size a w → Q .normal a w) :
  ∀ (m k : Nat) (a : Act) (w : World), k + m = ops.size → LInv ops V a0 w0 k a w → wpOps P ops Q (List.range' k m) a w
 | 0, k, a, w, hk, hI => by
  have : k = ops.size := by omega
  subst this
  exact fin a w hI
 | m + 1, k, a, w, hk, hI => by
  rw [List.range'_succ]
  obtain ⟨d, hd, hds⟩ := hdst k (by omega)
  obtain ⟨o, ho, hod⟩ : ∃ o, ops[k]? = some o ∧ o.dst = some d := by
   unfold dstOf at hd
   cases ho : ops[k]? with
   | none => rw [ho] at hd; cases hd
   | some o => rw [ho] at hd; exact ⟨o, rfl, hd⟩
  have hs := step k o d a w ho hod hI.bel hI.other (fun j hj dj hdj => hI.val j dj (by
   obtain ⟨q, hq, hq2⟩ := Array.any_eq_true.1 hj
   have h4 := (Array.all_eq_true.1 (hback k o ho)) q hq
   simp only [Bool.and_eq_true, beq_iff_eq] at hq2
   have h5 := of_decide_eq_true h4
   rw [hq2.2] at h5
   exact h5) hdj)
  unfold wpOps
  simp only [ho]
  split
  ·rename_i hw
   rw [if_pos hw] at hs
   refine .inl (Oper.wp_mono (fun a' w' hh => ?_) hs)
   obtain ⟨v, rfl, hv, hb⟩ := hh
   exact wpOps_inv V mono hdst hinj hback step fin m (k + 1) _ _ (by omega) (hI.put mono hd hds hinj hv hb)
  ·rename_i hw
   rw [if_neg hw] at hs
   rw [hod]
   exact wpOps_inv V mono hdst hinj hback step fin m (k + 1) _ _ (by omega) (hI.put mono hd hds hinj hs (Below.refl _ _))
/-- THE LAW, AS A LIST, for a region in the order of its text. -/
theorem wp_region_lex2 {id : Nat} {l : List Value} {df : List Deferred} {w0 : World} {os : List Oper} (lo : Nat) (Vs : List MV) (xs : List Nat) (Vx : List MV) (hok : regionOk os.toArray l.length = true) (hds : os.map (·.dst) = (List.range' lo Vs.length ++ xs).map some) (hlen : Nat.ble (lo + Vs.length) l.length = true)
  (step : StepsAt P os.toArray Q (Vs ++ Vx) l w0 0 os)
  (fin : ∀ w, Below w0.heap.size w0 w → FinC (FinL (fun a => Q .normal a w) w df xs Vx) w l lo Vs []) :
  (Code.region id os.toArray false).wp P Q ⟨l.toArray, df⟩ w0 := by
 refine wp_region ?_
 rw [List.range_eq_range']
 have at_ : ∀ i d, dstOf os.toArray i = some d → ∃ o, os.toArray[i]? = some o ∧ o.dst = some d := fun i d h => by
  unfold dstOf at h
  cases ho : os.toArray[i]? with
  | none => rw [ho] at h; cases h
  | some o => rw [ho] at h; exact ⟨o, rfl, h⟩
 refine wpOps_inv (a0 := ⟨l.toArray, df⟩) (w0 := w0) (Vof (Vs ++ Vx)) (fun i v w w' h hb => ?_) (fun i hi => ?_) (fun i j d hi hj => ?_) (fun i o ho => (op_ok (region_ok hok i o ho)).2) (fun i o d a w ho hd hb hoth hdep => ?_) (fun a w hI => ?_) _ 0 _ _ (by simp) ⟨Below.refl _ _, rfl, rfl, fun _ _ => rfl, fun i d hi => absurd hi (by omega)⟩
 ·unfold Vof at h ⊢
  split <;> rename_i hV
  ·rw [hV] at h; exact MV.mono _ _ _ _ h hb
  ·trivial
 ·have ho : os.toArray[i]? = some os.toArray[i] := Array.getElem?_eq_getElem hi
  obtain ⟨⟨d, h1, h2, _⟩, _⟩ := op_ok (region_ok hok i _ ho)
  exact ⟨d, by unfold dstOf; rw [ho]; exact h1, by simpa using h2⟩
 ·obtain ⟨o, ho, hod⟩ := at_ i d hi
  obtain ⟨o', ho', _⟩ := at_ j d hj
  obtain ⟨⟨d', h1, _, h3⟩, _⟩ := op_ok (region_ok hok i o ho)
  rw [hod] at h1
  cases h1
  exact h3 j (Array.getElem?_eq_some_iff.1 ho').1 hj
 ·have := StepsAt.at_ os 0 step i o (by simpa using ho) a w hb (fun t v ht hl => by rw [hoth t ht]; simpa using hl) hdep
  rw [Nat.zero_add, hd] at this
  exact this
 ·have hle := Nat.le_of_ble_eq_true hlen
  have hf := FinC.at_ xs Vx Vs [] (by simpa using hle) (fin w hI.bel)
  simp only [List.length_nil, Nat.add_zero, List.reverseAux, List.take_append_drop] at hf
  refine FinAt.of_ os (Vs ++ Vx) ⟨l.toArray, df⟩ hI.df.symm hI.tm.symm (fun t ht => (hI.other t ht).symm) (fun i d hd => hI.val i d ?_ hd) (fun i o hi => ?_) (FinL.at_ os _ (Vs ++ Vx) l hds hf)
  ·obtain ⟨o, ho, _⟩ := at_ i d hd
   exact (Array.getElem?_eq_some_iff.1 ho).1
  ·have h1 := region_ok hok i o (by simpa using hi)
   obtain ⟨⟨d, h2, _⟩, _⟩ := op_ok h1
   exact ⟨d, h2⟩
theorem wp_region_lex {id : Nat} {l : List Value} {df : List Deferred} {w0 : World} {os : List Oper} (lo : Nat) (Vs : List MV) (hok : regionOk os.toArray l.length = true) (hds : os.map (·.dst) = (List.range' lo Vs.length).map some) (hlen : Nat.ble (lo + Vs.length) l.length = true)
  (step : StepsAt P os.toArray Q Vs l w0 0 os)
  (fin : ∀ w, Below w0.heap.size w0 w → FinC (fun ls => Q .normal ⟨ls.toArray, df⟩ w) w l lo Vs []) :
  (Code.region id os.toArray false).wp P Q ⟨l.toArray, df⟩ w0 :=
 wp_region_lex2 lo Vs [] [] hok (by rw [List.append_nil]; exact hds) hlen (by rw [List.append_nil]; exact step) fin
end
end Go.Proofs.Ytcafmodenbifhaa
