/-
  A REGION THAT DRAWS ITS ORDER, BY AN INVARIANT: each operation is looked at once.
-/
import Derived.Test.YtcafmodenbifhaaLib
import Derived.Orders
import Derived.RegionTactic
set_option linter.unusedVariables false
set_option linter.unusedSimpArgs false
namespace Go.Proofs.Ytcafmodenbifhaa
open Go.RowKit

theorem countP_lt {α : Type} {p q : α → Bool} (l : List α) (h : ∀ x ∈ l, q x = true → p x = true) (he : ∃ x ∈ l, p x = true ∧ q x = false) : l.countP q < l.countP p := by
  induction l with
  | nil => obtain ⟨x, hx, _⟩ := he; cases hx
  | cons y r ih =>
    have hle : r.countP q ≤ r.countP p := List.countP_mono_left (fun x hx => h x (by simp [hx]))
    rw [List.countP_cons, List.countP_cons]
    obtain ⟨x, hx, h1, h2⟩ := he
    rcases List.mem_cons.1 hx with rfl | hx
    · rw [h1, h2]; simp; omega
    · have := ih (fun z hz => h z (by simp [hz])) ⟨x, hx, h1, h2⟩
      have hy := h y (by simp)
      cases hq : q y with
      | true => rw [hy hq]; simp; omega
      | false => cases hp : p y <;> simp <;> omega
section
variable {P : Program} {ops : Array Oper} {Q : Exit → Act → World → Prop} {md : Region.Mode}
/-- How many operations are still to come. -/
def free (ops : Array Oper) (listed : Array Bool) : Nat := (List.range ops.size).countP (fun i => !listed.getD i true)
theorem ready_free {listed : Array Bool} {i : Nat} (h : i ∈ Region.ready md ops listed) : i < ops.size ∧ listed.getD i true = false := by
  unfold Region.ready at h
  have h1 := List.mem_filter.1 h
  refine ⟨List.mem_range.1 h1.1, ?_⟩
  have h2 := h1.2
  cases hb : listed.getD i true with
  | false => rfl
  | true => rw [hb] at h2; simp at h2
theorem getD_set (listed : Array Bool) (i j : Nat) : (listed.setIfInBounds i true).getD j true = if i = j then true else listed.getD j true := by
  by_cases h : i = j
  · subst h
    rw [if_pos rfl]
    by_cases hlt : i < listed.size
    · simp [Array.getD_eq_getD_getElem?, Array.getElem?_setIfInBounds, hlt]
    · simp [Array.getD_eq_getD_getElem?, Array.getElem?_setIfInBounds, hlt]
  · simp [Array.getD_eq_getD_getElem?, Array.getElem?_setIfInBounds, h]
theorem free_set {listed : Array Bool} {i : Nat} (h : i ∈ Region.ready md ops listed) : free ops (listed.setIfInBounds i true) < free ops listed := by
  obtain ⟨h1, h2⟩ := ready_free h
  refine countP_lt _ (fun j _ hj => ?_) ⟨i, List.mem_range.2 h1, by rw [h2]; rfl, by rw [getD_set]; simp⟩
  rw [getD_set] at hj
  split at hj
  · simp at hj
  · exact hj
theorem wpAny_inv (I : Array Bool → Act → World → Prop)
    (step : ∀ listed a w i, I listed a w → i ∈ Region.ready md ops listed → wpOp P ops Q i (I (listed.setIfInBounds i true)) a w)
    (fin : ∀ listed a w, I listed a w → Region.ready md ops listed = [] → Q .normal a w) :
    ∀ (fuel : Nat) (listed : Array Bool) (a : Act) (w : World), free ops listed ≤ fuel → I listed a w → wpAny P md ops Q fuel listed a w := by
  intro fuel
  induction fuel with
  | zero =>
    intro listed a w hf hI
    have hr : Region.ready md ops listed = [] := by
      cases hr : Region.ready md ops listed with
      | nil => rfl
      | cons i r =>
        have := free_set (md := md) (ops := ops) (listed := listed) (i := i) (by rw [hr]; simp)
        omega
    exact ⟨hr, fin _ _ _ hI hr⟩
  | succ fuel ih =>
    intro listed a w hf hI
    refine ⟨fun hr => fin _ _ _ hI hr, fun i hi => ?_⟩
    exact wpOp_mono (fun a' w' h => ih _ a' w' (by have := free_set hi; omega) h) (step _ _ _ _ hI hi)
theorem getD_setF {listed : Array Bool} {i j : Nat} (h : (listed.setIfInBounds i true).getD j false = true) : i = j ∨ listed.getD j false = true := by
  by_cases e : i = j
  · exact .inl e
  · right
    simpa [Array.getD_eq_getD_getElem?, Array.getElem?_setIfInBounds, e] using h
def dstOf (ops : Array Oper) (i : Nat) : Option Tmp := (ops[i]?).bind (·.dst)
/-- Behind some of the operations: what each has yielded is as V says; no other slot has turned. -/
structure RInv (ops : Array Oper) (V : Nat → Value → World → Prop) (a0 : Act) (w0 : World) (listed : Array Bool) (a : Act) (w : World) : Prop where
  bel : Below w0.heap.size w0 w
  tm : a.tmps.size = a0.tmps.size
  df : a.defers = a0.defers
  other : ∀ t, (∀ i, dstOf ops i ≠ some t) → a.tmps[t]? = a0.tmps[t]?
  val : ∀ i d, listed.getD i false = true → dstOf ops i = some d → ∃ v, a.tmps[d]? = some v ∧ V i v w
theorem RInv.put {V : Nat → Value → World → Prop} {a0 a : Act} {w0 w w' : World} {listed : Array Bool} {i d : Nat} {v : Value} (h : RInv ops V a0 w0 listed a w)
    (mono : ∀ i v w w', V i v w → Below w.heap.size w w' → V i v w') (hd : dstOf ops i = some d) (hds : d < a0.tmps.size) (hinj : ∀ i j d, dstOf ops i = some d → dstOf ops j = some d → i = j)
    (hv : V i v w') (hb : Below w.heap.size w w') : RInv ops V a0 w0 (listed.setIfInBounds i true) (a.put (some d) v) w' := by
  refine ⟨h.bel.trans (hb.mono h.bel.size), ?_, h.df, fun t ht => ?_, fun j dj hj hdj => ?_⟩
  · show (a.tmps.setIfInBounds d v).size = _
    rw [Array.size_setIfInBounds]; exact h.tm
  · show (a.tmps.setIfInBounds d v)[t]? = _
    rw [Array.getElem?_setIfInBounds_ne (fun e => ht i (by rw [hd, e]))]
    exact h.other t ht
  · show ∃ u, (a.tmps.setIfInBounds d v)[dj]? = some u ∧ _
    by_cases e : i = j
    · subst e
      rw [hd] at hdj
      cases hdj
      exact ⟨v, by rw [Array.getElem?_setIfInBounds_self_of_lt (by rw [h.tm]; exact hds)], hv⟩
    · rcases getD_setF hj with h1 | h1
      · exact absurd h1 e
      · obtain ⟨u, h2, h3⟩ := h.val j dj h1 hdj
        refine ⟨u, ?_, mono _ _ _ _ h3 hb⟩
        rw [Array.getElem?_setIfInBounds_ne (fun e2 => e (hinj i j d hd (by rw [hdj, e2])))]
        exact h2
/-- THE LAW: of each operation, what it yields out of what those ahead of it have yielded. -/
theorem wp_region_inv {id : Nat} {a0 : Act} {w0 : World} (hm : P.follows .mixedOrders = true) (V : Nat → Value → World → Prop)
    (mono : ∀ i v w w', V i v w → Below w.heap.size w w' → V i v w')
    (hdst : ∀ i, i < ops.size → ∃ d, dstOf ops i = some d ∧ d < a0.tmps.size) (hinj : ∀ i j d, dstOf ops i = some d → dstOf ops j = some d → i = j)
    (hback : ∀ (i : Nat) (o : Oper), ops[i]? = some o → (o.after.all fun e => decide (e.on < i)) = true)
    (step : ∀ i o d a w, ops[i]? = some o → o.dst = some d → Below w0.heap.size w0 w → (∀ t, (∀ i, dstOf ops i ≠ some t) → a.tmps[t]? = a0.tmps[t]?) →
      (∀ j, (o.after.any fun e => Region.binds .any e && e.on == j) = true → ∀ dj, dstOf ops j = some dj → ∃ v, a.tmps[dj]? = some v ∧ V j v w) →
      if Region.wanted o (yielded ops a.tmps) = true then Oper.wp P o a w (fun a' w' => ∃ v, a' = a.put (some d) v ∧ V i v w' ∧ Below w.heap.size w w') Q else V i undef w)
    (fin : ∀ a w, Below w0.heap.size w0 w → a.tmps.size = a0.tmps.size → a.defers = a0.defers → (∀ t, (∀ i, dstOf ops i ≠ some t) → a.tmps[t]? = a0.tmps[t]?) → (∀ i d, dstOf ops i = some d → ∃ v, a.tmps[d]? = some v ∧ V i v w) → Q .normal a w) :
    (Code.region id ops true).wp P Q a0 w0 := by
  refine wp_region_any hm (wpAny_inv (fun listed a w => listed.size = ops.size ∧ RInv ops V a0 w0 listed a w) ?_ ?_ ops.size _ a0 _ ?_ ⟨by simp, ?_⟩)
  · rintro listed a w i ⟨hsz, hI⟩ hi
    obtain ⟨h1, h2⟩ := ready_free hi
    obtain ⟨d, hd, hds⟩ := hdst i h1
    obtain ⟨o, ho, hod⟩ : ∃ o, ops[i]? = some o ∧ o.dst = some d := by
      unfold dstOf at hd
      cases ho : ops[i]? with
      | none => rw [ho] at hd; cases hd
      | some o => rw [ho] at hd; exact ⟨o, rfl, hd⟩
    have hall : (o.after.all fun e => !Region.binds .any e || listed.getD e.on false) = true := by
      unfold Region.ready at hi
      have h3 := (List.mem_filter.1 hi).2
      rw [ho] at h3
      simpa [h2] using h3
    have hs := step i o d a w ho hod hI.bel hI.other (fun j hj dj hdj => hI.val j dj (by
      obtain ⟨k, hk, hk2⟩ := Array.any_eq_true.1 hj
      have h4 := (Array.all_eq_true.1 hall) k hk
      simp only [Bool.and_eq_true, beq_iff_eq] at hk2
      rw [hk2.1, hk2.2] at h4
      simpa using h4) hdj)
    unfold wpOp
    simp only [ho]
    split
    · rename_i hw
      rw [if_pos hw] at hs
      refine .inl (Oper.wp_mono (fun a' w' hh => ?_) hs)
      obtain ⟨v, rfl, hv, hb⟩ := hh
      exact ⟨by rw [Array.size_setIfInBounds]; exact hsz, hI.put mono hd hds hinj hv hb⟩
    · rename_i hw
      rw [if_neg hw] at hs
      rw [hod]
      exact ⟨by rw [Array.size_setIfInBounds]; exact hsz, hI.put mono hd hds hinj hs (Below.refl _ _)⟩
  · rintro listed a w ⟨hsz, hI⟩ hr
    refine fin a w hI.bel hI.tm hI.df hI.other (fun i d hd => hI.val i d ?_ hd)
    have key : ∀ n i, i ≤ n → i < ops.size → listed.getD i false = true := by
      intro n
      induction n using Nat.strongRecOn with
      | _ n ih =>
        intro i hin his
        cases hb : listed.getD i false with
        | true => rfl
        | false =>
          have hir : i ∈ Region.ready .any ops listed := by
            unfold Region.ready
            refine List.mem_filter.2 ⟨List.mem_range.2 his, ?_⟩
            have ho : ops[i]? = some ops[i] := Array.getElem?_eq_getElem his
            have hd2 : listed.getD i true = false := by
              rw [Array.getD_eq_getD_getElem?] at hb ⊢
              rw [Array.getElem?_eq_getElem (by omega)] at hb ⊢
              simpa using hb
            rw [hd2, ho]
            simp only [Bool.not_false, Bool.true_and, Option.map_some, Option.getD_some]
            rw [Array.all_eq_true]
            intro k hk
            have h4 := (Array.all_eq_true.1 (hback i _ ho)) k hk
            have h5 := of_decide_eq_true h4
            have h6 : listed.getD (ops[i].after[k]).on false = true := ih _ (Nat.lt_of_lt_of_le h5 hin) _ (Nat.le_refl _) (by omega)
            simp [h6]
          rw [hr] at hir
          cases hir
    have his : i < ops.size := by
      unfold dstOf at hd
      cases ho : ops[i]? with
      | none => rw [ho] at hd; cases hd
      | some o => exact (Array.getElem?_eq_some_iff.1 ho).1
    exact key i i (Nat.le_refl _) his
  · exact Nat.le_trans List.countP_le_length (by simp)
  · exact ⟨(Below.refl _ _).drew, rfl, rfl, fun _ _ => rfl, fun i d hi _ => by simp [Array.getD_eq_getD_getElem?, Array.getElem?_replicate] at hi; split at hi <;> simp_all⟩
/-- What the law asks of the region itself, as one test. -/
def opOk (ops : Array Oper) (N i : Nat) (o : Oper) : Bool :=
  (match o.dst with
   | some d => decide (d < N) && ((List.range ops.size).all fun j => i == j || dstOf ops j != some d)
   | none => false) && o.after.all fun e => decide (e.on < i)
def regionOk (ops : Array Oper) (N : Nat) : Bool := (List.range ops.size).all fun i => match ops[i]? with
  | some o => opOk ops N i o
  | none => false
theorem region_ok {N : Nat} (h : regionOk ops N = true) (i : Nat) (o : Oper) (ho : ops[i]? = some o) : opOk ops N i o = true := by
  have h1 := (List.all_eq_true.1 h) i (List.mem_range.2 (Array.getElem?_eq_some_iff.1 ho).1)
  rw [ho] at h1
  exact h1
theorem op_ok {N i : Nat} {o : Oper} (h : opOk ops N i o = true) : (∃ d, o.dst = some d ∧ d < N ∧ ∀ j, j < ops.size → dstOf ops j = some d → i = j) ∧ (o.after.all fun e => decide (e.on < i)) = true := by
  unfold opOk at h
  rw [Bool.and_eq_true] at h
  refine ⟨?_, h.2⟩
  cases hd : o.dst with
  | none => rw [hd] at h; simp at h
  | some d =>
    rw [hd] at h
    have h1 := h.1
    simp only [Bool.and_eq_true, decide_eq_true_iff] at h1
    refine ⟨d, rfl, h1.1, fun j hj hdj => ?_⟩
    have h2 := (List.all_eq_true.1 h1.2) j (List.mem_range.2 hj)
    rw [hdj] at h2
    simpa using h2
theorem wp_region_inv_ok {id : Nat} {a0 : Act} {w0 : World} (hm : P.follows .mixedOrders = true) (hok : regionOk ops a0.tmps.size = true) (V : Nat → Value → World → Prop)
    (mono : ∀ i v w w', V i v w → Below w.heap.size w w' → V i v w')
    (step : ∀ (i : Nat) (o : Oper) (d : Nat) (a : Act) (w : World), ops[i]? = some o → o.dst = some d → Below w0.heap.size w0 w → (∀ t, (∀ i, dstOf ops i ≠ some t) → a.tmps[t]? = a0.tmps[t]?) →
      (∀ j, (o.after.any fun e => Region.binds .any e && e.on == j) = true → ∀ dj, dstOf ops j = some dj → ∃ v, a.tmps[dj]? = some v ∧ V j v w) →
      if Region.wanted o (yielded ops a.tmps) = true then Oper.wp P o a w (fun a' w' => ∃ v, a' = a.put (some d) v ∧ V i v w' ∧ Below w.heap.size w w') Q else V i undef w)
    (fin : ∀ a w, Below w0.heap.size w0 w → a.tmps.size = a0.tmps.size → a.defers = a0.defers → (∀ t, (∀ i, dstOf ops i ≠ some t) → a.tmps[t]? = a0.tmps[t]?) → (∀ i d, dstOf ops i = some d → ∃ v, a.tmps[d]? = some v ∧ V i v w) → Q .normal a w) :
    (Code.region id ops true).wp P Q a0 w0 := by
  have at_ : ∀ i d, dstOf ops i = some d → ∃ o, ops[i]? = some o ∧ o.dst = some d := fun i d h => by
    unfold dstOf at h
    cases ho : ops[i]? with
    | none => rw [ho] at h; cases h
    | some o => rw [ho] at h; exact ⟨o, rfl, h⟩
  refine wp_region_inv hm V mono (fun i hi => ?_) (fun i j d hi hj => ?_) (fun i o ho => (op_ok (region_ok hok i o ho)).2) step fin
  · have ho : ops[i]? = some ops[i] := Array.getElem?_eq_getElem hi
    obtain ⟨⟨d, h1, h2, _⟩, _⟩ := op_ok (region_ok hok i _ ho)
    exact ⟨d, by unfold dstOf; rw [ho]; exact h1, h2⟩
  · obtain ⟨o, ho, hod⟩ := at_ i d hi
    obtain ⟨o', ho', _⟩ := at_ j d hj
    obtain ⟨⟨d', h1, _, h3⟩, _⟩ := op_ok (region_ok hok i o ho)
    rw [hod] at h1
    cases h1
    exact h3 j (Array.getElem?_eq_some_iff.1 ho').1 hj
/-- A slot that no operation of the region writes. -/
theorem not_dst {t : Tmp} (h : ((List.range ops.size).all fun i => dstOf ops i != some t) = true) (i : Nat) : dstOf ops i ≠ some t := by
  intro e
  have hi : i < ops.size := by
    unfold dstOf at e
    cases ho : ops[i]? with
    | none => rw [ho] at e; cases e
    | some o => exact (Array.getElem?_eq_some_iff.1 ho).1
  have := (List.all_eq_true.1 h) i (List.mem_range.2 hi)
  rw [e] at this
  simp at this
end
end Go.Proofs.Ytcafmodenbifhaa
