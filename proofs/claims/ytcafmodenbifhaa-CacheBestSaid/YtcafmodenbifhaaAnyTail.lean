/-
 THE LAW BY INVARIANT FOR A DRAWN REGION WHOSE LAST OPERATIONS (stores) WAIT, BY WHATEVER CHAIN, FOR ALL THAT STANDS AHEAD OF THEM: those are run in the order of the text.
-/
import Derived.Test.YtcafmodenbifhaaAnyAuto
set_option linter.unusedVariables false
set_option linter.unusedSimpArgs false
namespace Go.Proofs.Ytcafmodenbifhaa
open Go.RowKit

section
variable {P : Program} {ops : Array Oper} {Q : Exit → Act → World → Prop}
/-- What an operation waits for. -/
def depsOf (ops : Array Oper) (i : Nat) : List Nat := match ops[i]? with
 | some o => (o.after.toList.filter (Region.binds .any)).map (·.on)
 | none => []
/-- .. and what that waits for, and so on. -/
def down (ops : Array Oper) : Nat → List Nat → List Nat
 | 0, S => S
 | k + 1, S => if S.contains k then down ops k (S ++ depsOf ops k) else down ops k S
theorem down_all {p : Nat → Prop} (hc : ∀ j, p j → ∀ k ∈ depsOf ops j, p k) : ∀ (k : Nat) (S : List Nat), (∀ j ∈ S, p j) → ∀ j ∈ down ops k S, p j
 | 0, S, h, j, hj => h j hj
 | k + 1, S, h, j, hj => by
  unfold down at hj
  split at hj
  ·rename_i hk
   refine down_all hc k _ (fun x hx => ?_) j hj
   rcases List.mem_append.1 hx with hx | hx
   ·exact h x hx
   ·exact hc k (h k (by simpa using hk)) x hx
  ·exact down_all hc k _ h j hj
def tailOk (ops : Array Oper) (n : Nat) : Bool := (List.range ops.size).all fun i => Nat.blt i n || (List.range i).all fun j => (down ops i (depsOf ops i)).contains j
def backOk (ops : Array Oper) : Bool := (List.range ops.size).all fun i => (depsOf ops i).all fun j => Nat.blt j i
theorem mem_deps {i j : Nat} {o : Oper} (ho : ops[i]? = some o) : j ∈ depsOf ops i ↔ (o.after.any fun e => Region.binds .any e && e.on == j) = true := by
 unfold depsOf
 rw [ho]
 simp only [List.mem_map, List.mem_filter, Array.any_eq_true', Bool.and_eq_true, beq_iff_eq, Array.mem_toList_iff]
 constructor
 ·rintro ⟨e, ⟨h1, h2⟩, h3⟩; exact ⟨e, h1, h2, h3⟩
 ·rintro ⟨e, h1, h2, h3⟩; exact ⟨e, ⟨h1, h2⟩, h3⟩
/-- Just the first m are listed. -/
def UpTo (ops : Array Oper) (listed : Array Bool) (m : Nat) : Prop := (∀ i, i < m → listed.getD i false = true) ∧ ∀ i, m ≤ i → i < ops.size → listed.getD i true = false
def ClosedL (ops : Array Oper) (listed : Array Bool) : Prop := ∀ j, listed.getD j false = true → ∀ k ∈ depsOf ops j, listed.getD k false = true
theorem getD_up {listed : Array Bool} {i j : Nat} (h : listed.getD j false = true) : (listed.setIfInBounds i true).getD j false = true := by
 by_cases e : i = j
 ·subst e
  have hlt : i < listed.size := by
   rw [Array.getD_eq_getD_getElem?] at h
   cases hg : listed[i]? with
   | none => rw [hg] at h; cases h
   | some b => exact (Array.getElem?_eq_some_iff.1 hg).1
  simp [Array.getD_eq_getD_getElem?, Array.getElem?_setIfInBounds, hlt]
 ·simpa [Array.getD_eq_getD_getElem?, Array.getElem?_setIfInBounds, e] using h
theorem getD_clash {listed : Array Bool} {i n : Nat} (hs : listed.size = n) (hi : i < n) (h1 : listed.getD i false = true) (h2 : listed.getD i true = false) : False := by
 have hlt : i < listed.size := by omega
 simp [Array.getD_eq_getD_getElem?, Array.getElem?_eq_getElem hlt] at h1 h2
 rw [h2] at h1
 cases h1
theorem getD_none (n j : Nat) : (Array.replicate n false).getD j false = false := by
 rw [Array.getD_eq_getD_getElem?, Array.getElem?_replicate]
 split <;> rfl
theorem wp_region_tail {id : Nat} {a0 : Act} {w0 : World} (n : Nat) (hn : n ≤ ops.size) (hm : P.follows .mixedOrders = true) (opn : Array Oper) (hopn : ∀ i, dstOf opn i = if i < n then dstOf ops i else none) (V : Nat → Value → World → Prop)
  (mono : ∀ i v w w', V i v w → Below w.heap.size w w' → V i v w')
  (hdst : ∀ i, i < n → ∃ d, dstOf ops i = some d ∧ d < a0.tmps.size) (hinj : ∀ i j d, dstOf opn i = some d → dstOf opn j = some d → i = j)
  (hback : ∀ (i j : Nat), j ∈ depsOf ops i → j < i)
  (htail : tailOk ops n = true)
  (step : ∀ i o d a w, i < n → ops[i]? = some o → o.dst = some d → Below w0.heap.size w0 w → (∀ t, (∀ i, dstOf opn i ≠ some t) → a.tmps[t]? = a0.tmps[t]?) →
   (∀ j, (o.after.any fun e => Region.binds .any e && e.on == j) = true → ∀ dj, dstOf ops j = some dj → ∃ v, a.tmps[dj]? = some v ∧ V j v w) →
   if Region.wanted o (yielded ops a.tmps) = true then Oper.wp P o a w (fun a' w' => ∃ v, a' = a.put (some d) v ∧ V i v w' ∧ Below w.heap.size w w') Q else V i undef w)
  (fin : ∀ a w, Below w0.heap.size w0 w → a.tmps.size = a0.tmps.size → a.defers = a0.defers → (∀ t, (∀ i, dstOf opn i ≠ some t) → a.tmps[t]? = a0.tmps[t]?) → (∀ i d, dstOf opn i = some d → ∃ v, a.tmps[d]? = some v ∧ V i v w) → wpOps P ops Q (List.range' n (ops.size - n)) a w) :
  (Code.region id ops true).wp P Q a0 w0 := by
 have at_ : ∀ i, i < ops.size → ∃ o, ops[i]? = some o := fun i h => ⟨_, Array.getElem?_eq_getElem h⟩
 have hready : ∀ (listed : Array Bool) (i : Nat), i ∈ Region.ready .any ops listed → ∀ j ∈ depsOf ops i, listed.getD j false = true := by
  intro listed i hi j hj
  obtain ⟨h1, h2⟩ := ready_free hi
  obtain ⟨o, ho⟩ := at_ i h1
  have hall : (o.after.all fun e => !Region.binds .any e || listed.getD e.on false) = true := by
   unfold Region.ready at hi
   have h3 := (List.mem_filter.1 hi).2
   rw [ho] at h3
   simpa [h2] using h3
  obtain ⟨k, hk, hk2⟩ := Array.any_eq_true.1 ((mem_deps ho).1 hj)
  have h4 := (Array.all_eq_true.1 hall) k hk
  simp only [Bool.and_eq_true, beq_iff_eq] at hk2
  rw [hk2.1, hk2.2] at h4
  simpa using h4
 -- who is ready in the tail has all that stands ahead of it behind him
 have hahead : ∀ (listed : Array Bool) (i : Nat), ClosedL ops listed → i ∈ Region.ready .any ops listed → n ≤ i → ∀ j, j < i → listed.getD j false = true := by
  intro listed i hcl hi hni j hj
  have h1 := (List.all_eq_true.1 htail) i (List.mem_range.2 (ready_free hi).1)
  rw [Bool.or_eq_true] at h1
  rcases h1 with h1 | h1
  ·have : i < n := Nat.le_of_ble_eq_true h1
   omega
  ·have h2 := (List.all_eq_true.1 h1) j (List.mem_range.2 hj)
   exact down_all (p := fun j => listed.getD j false = true) hcl i _ (hready listed i hi) j (by simpa using h2)
 have hclose : ∀ (listed : Array Bool) (i : Nat), ClosedL ops listed → i ∈ Region.ready .any ops listed → ClosedL ops (listed.setIfInBounds i true) := by
  intro listed i hcl hi j hj k hk
  rcases getD_setF hj with e | e
  ·subst e; exact getD_up (hready listed i hi k hk)
  ·exact getD_up (hcl j e k hk)
 refine wp_region_any hm (wpAny_inv (fun listed a w => (listed.size = ops.size ∧ ClosedL ops listed) ∧ (((∀ i, n ≤ i → i < ops.size → listed.getD i true = false) ∧ RInv opn V a0 w0 listed a w) ∨ ∃ q, n ≤ q ∧ q ≤ ops.size ∧ UpTo ops listed q ∧ wpOps P ops Q (List.range' q (ops.size - q)) a w)) ?_ ?_ ops.size _ a0 _ ?_ ⟨⟨by simp, ?_⟩, .inl ⟨?_, ?_⟩⟩)
 ·rintro listed a w i ⟨⟨hsz, hcl⟩, hI⟩ hi
  obtain ⟨h1, h2⟩ := ready_free hi
  obtain ⟨o, ho⟩ := at_ i h1
  have hsz' : (listed.setIfInBounds i true).size = ops.size ∧ ClosedL ops (listed.setIfInBounds i true) := ⟨by rw [Array.size_setIfInBounds]; exact hsz, hclose listed i hcl hi⟩
  have tail : ∀ q, n ≤ q → q ≤ ops.size → UpTo ops listed q → wpOps P ops Q (List.range' q (ops.size - q)) a w → wpOp P ops Q i (fun a' w' => ((listed.setIfInBounds i true).size = ops.size ∧ ClosedL ops (listed.setIfInBounds i true)) ∧ (((∀ k, n ≤ k → k < ops.size → (listed.setIfInBounds i true).getD k true = false) ∧ RInv opn V a0 w0 (listed.setIfInBounds i true) a' w') ∨ ∃ q, n ≤ q ∧ q ≤ ops.size ∧ UpTo ops (listed.setIfInBounds i true) q ∧ wpOps P ops Q (List.range' q (ops.size - q)) a' w')) a w := by
   intro q hnq hqs hu hw
   have hiq : q ≤ i := by
    by_cases h : i < q
    ·exact (getD_clash hsz h1 (hu.1 i h) h2).elim
    ·omega
   have hi2 : i = q := by
    by_cases h : i = q
    ·exact h
    ·exact (getD_clash hsz (by omega) (hahead listed i hcl hi (by omega) q (by omega)) (hu.2 q (Nat.le_refl _) (by omega))).elim
   subst hi2
   have hu' : UpTo ops (listed.setIfInBounds i true) (i + 1) := by
    refine ⟨fun k hk => ?_, fun k hk hks => ?_⟩
    ·by_cases e : i = k
     ·subst e
      have hlt : i < listed.size := by omega
      simp [Array.getD_eq_getD_getElem?, Array.getElem?_setIfInBounds, hlt]
     ·exact getD_up (hu.1 k (by omega))
    ·rw [getD_set, if_neg (by omega)]
     exact hu.2 k (by omega) hks
   rw [show ops.size - i = (ops.size - (i + 1)) + 1 by omega, List.range'_succ] at hw
   unfold wpOps at hw
   unfold wpOp
   simp only [ho] at hw ⊢
   split at hw
   ·rename_i hwn
    rw [if_pos hwn]
    rcases hw with hw | hw
    ·exact .inl (Oper.wp_mono (fun a' w' hh => ⟨hsz', .inr ⟨i + 1, by omega, by omega, hu', hh⟩⟩) hw)
    ·exact .inr hw
   ·rename_i hwn
    rw [if_neg hwn]
    exact ⟨hsz', .inr ⟨i + 1, by omega, by omega, hu', hw⟩⟩
  rcases hI with ⟨ht, hR⟩ | ⟨q, hnq, hqs, hu, hw⟩
  ·by_cases hin : i < n
   ·obtain ⟨d, hd, hds⟩ := hdst i hin
    have hod : o.dst = some d := by
     have := hd
     unfold dstOf at this
     rw [ho] at this
     exact this
    have hdn : dstOf opn i = some d := by rw [hopn, if_pos hin]; exact hd
    have hs := step i o d a w hin ho hod hR.bel hR.other (fun j hj dj hdj => by
     have hj2 := (mem_deps ho).2 hj
     have hji := hback i j hj2
     exact hR.val j dj (hready listed i hi j hj2) (by rw [hopn, if_pos (by omega)]; exact hdj))
    have ht' : ∀ k, n ≤ k → k < ops.size → (listed.setIfInBounds i true).getD k true = false := fun k hk hks => by rw [getD_set, if_neg (by omega)]; exact ht k hk hks
    unfold wpOp
    simp only [ho]
    split
    ·rename_i hw
     rw [if_pos hw] at hs
     refine .inl (Oper.wp_mono (fun a' w' hh => ?_) hs)
     obtain ⟨v, rfl, hv, hb⟩ := hh
     exact ⟨hsz', .inl ⟨ht', hR.put mono hdn hds hinj hv hb⟩⟩
    ·rename_i hw
     rw [if_neg hw] at hs
     rw [hod]
     exact ⟨hsz', .inl ⟨ht', hR.put mono hdn hds hinj hs (Below.refl _ _)⟩⟩
   ·have hall := hahead listed i hcl hi (by omega)
    have hin2 : i = n := by
     by_cases h : i = n
     ·exact h
     ·exact (getD_clash hsz (by omega) (hall n (by omega)) (ht n (Nat.le_refl _) (by omega))).elim
    refine tail n (Nat.le_refl _) hn ⟨fun j hj => hall j (by omega), ht⟩ (fin a w hR.bel hR.tm hR.df hR.other (fun j d hd => hR.val j d (hall j ?_) hd))
    rw [hopn] at hd
    split at hd
    ·omega
    ·cases hd
  ·exact tail q hnq hqs hu hw
 ·rintro listed a w ⟨⟨hsz, hcl⟩, hI⟩ hr
  have key : ∀ m i, i ≤ m → i < ops.size → listed.getD i false = true := by
   intro m
   induction m using Nat.strongRecOn with
   | _ m ih =>
    intro i him his
    cases hb : listed.getD i false with
    | true => rfl
    | false =>
     have hir : i ∈ Region.ready .any ops listed := by
      unfold Region.ready
      refine List.mem_filter.2 ⟨List.mem_range.2 his, ?_⟩
      have ho : ops[i]? = some ops[i] := Array.getElem?_eq_getElem his
      have hd2 : listed.getD i true = false := by
       rw [Array.getD_eq_getD_getElem?] at hb ⊢
       rw [Array.getElem?_eq_getElem (by omega)] at hb ⊢
       simpa using hb
      rw [hd2, ho]
      simp only [Bool.not_false, Bool.true_and, Option.map_some, Option.getD_some]
      rw [Array.all_eq_true]
      intro k hk
      cases hbk : Region.binds .any ops[i].after[k] with
      | false => simp
      | true =>
       have h5 := hback i _ ((mem_deps ho (j := (ops[i].after[k]).on)).2 (by
        rw [Array.any_eq_true]
        exact ⟨k, hk, by simp [hbk]⟩))
       have h6 : listed.getD (ops[i].after[k]).on false = true := ih _ (Nat.lt_of_lt_of_le h5 him) _ (Nat.le_refl _) (by omega)
       simp [h6]
     rw [hr] at hir
     cases hir
  rcases hI with ⟨ht, hR⟩ | ⟨q, hnq, hqs, hu, hw⟩
  ·have hns : n = ops.size := by
    by_cases h : n = ops.size
    ·exact h
    ·exact (getD_clash hsz (by omega) (key n n (Nat.le_refl _) (by omega)) (ht n (Nat.le_refl _) (by omega))).elim
   have := fin a w hR.bel hR.tm hR.df hR.other (fun j d hd => hR.val j d (key j j (Nat.le_refl _) (by
    rw [hopn] at hd
    split at hd
    ·omega
    ·cases hd)) hd)
   rw [hns, Nat.sub_self] at this
   exact this
  ·have hqe : q = ops.size := by
    by_cases h : q = ops.size
    ·exact h
    ·exact (getD_clash hsz (by omega) (key q q (Nat.le_refl _) (by omega)) (hu.2 q (Nat.le_refl _) (by omega))).elim
   rw [hqe, Nat.sub_self] at hw
   exact hw
 ·exact Nat.le_trans List.countP_le_length (by simp)
 ·intro j hj
  rw [getD_none] at hj
  cases hj
 ·intro i _ his
  simp [Array.getD_eq_getD_getElem?, Array.getElem?_replicate, his]
 ·exact ⟨(Below.refl _ _).drew, rfl, rfl, fun _ _ => rfl, fun i d hi _ => by rw [getD_none] at hi; cases hi⟩
theorem dstOf_take (os : List Oper) (n i : Nat) : dstOf (os.take n).toArray i = if i < n then dstOf os.toArray i else none := by
 unfold dstOf
 simp only [List.getElem?_toArray, List.getElem?_take]
 split
 ·rfl
 ·rfl
/-- THE LAW, AS A LIST: the first n operations by their table, what stands behind them in the order of the text. -/
theorem wp_region_tailD {id : Nat} {l : List Value} {df : List Deferred} {w0 : World} {os : List Oper} (n lo : Nat) (Ts : List TE) (fs : List Bool) (hm : P.follows .mixedOrders = true) (hn : Nat.ble n os.length = true) (hok : regionOk (os.take n).toArray l.length = true)
  (hback : backOk os.toArray = true) (htail : tailOk os.toArray n = true) (hds : (os.take n).map (·.dst) = (List.range' lo Ts.length).map some) (hlen : Nat.ble (lo + Ts.length) l.length = true) (hau : autoAll os.toArray Ts 0 fs (os.take n) = true)
  (step : StepsB P os.toArray Q (Ts.map TE.mv) l w0 0 fs (os.take n))
  (fin : ∀ w, Below w0.heap.size w0 w → FinC (fun ls => wpList P os.toArray Q (os.drop n) ⟨ls.toArray, df⟩ w) w l lo (Ts.map TE.mv) []) :
  (Code.region id os.toArray true).wp P Q ⟨l.toArray, df⟩ w0 := by
 have hn' : n ≤ os.length := Nat.le_of_ble_eq_true hn
 have at_ : ∀ i d, dstOf (os.take n).toArray i = some d → ∃ o, (os.take n).toArray[i]? = some o ∧ o.dst = some d := fun i d h => by
  unfold dstOf at h
  cases ho : (os.take n).toArray[i]? with
  | none => rw [ho] at h; cases h
  | some o => rw [ho] at h; exact ⟨o, rfl, h⟩
 refine wp_region_tail (a0 := ⟨l.toArray, df⟩) n (by simpa using hn') hm (os.take n).toArray (fun i => dstOf_take os n i) (Vof (Ts.map TE.mv)) (fun i v w w' h hb => ?_) (fun i hi => ?_) (fun i j d hi hj => ?_) (fun i j hj => ?_) htail (fun i o d a w hin ho hd hb hoth hdep => ?_) (fun a w hb hs hdf hoth hv => ?_)
 ·unfold Vof at h ⊢
  split <;> rename_i hV
  ·rw [hV] at h; exact MV.mono _ _ _ _ h hb
  ·trivial
 ·have hlt : i < (os.take n).toArray.size := by simp; omega
  have ho : (os.take n).toArray[i]? = some (os.take n).toArray[i] := Array.getElem?_eq_getElem hlt
  obtain ⟨⟨d, h1, h2, _⟩, _⟩ := op_ok (region_ok hok i _ ho)
  refine ⟨d, ?_, by simpa using h2⟩
  have h3 : dstOf (os.take n).toArray i = some d := by unfold dstOf; rw [ho]; exact h1
  rw [dstOf_take, if_pos hi] at h3
  exact h3
 ·obtain ⟨o, ho, hod⟩ := at_ i d hi
  obtain ⟨o', ho', _⟩ := at_ j d hj
  obtain ⟨⟨d', h1, _, h3⟩, _⟩ := op_ok (region_ok hok i o ho)
  rw [hod] at h1
  cases h1
  exact h3 j (Array.getElem?_eq_some_iff.1 ho').1 hj
 ·have hi : i < os.toArray.size := by
   unfold depsOf at hj
   cases ho : os.toArray[i]? with
   | none => rw [ho] at hj; cases hj
   | some o => exact (Array.getElem?_eq_some_iff.1 ho).1
  have h1 := (List.all_eq_true.1 hback) i (List.mem_range.2 hi)
  exact Nat.le_of_ble_eq_true ((List.all_eq_true.1 h1) j hj)
 ·have hot : (os.take n)[i]? = some o := by
   rw [List.getElem?_take, if_pos hin]
   simpa using ho
  have := StepsAt.at_ (os.take n) 0 (StepsB.all (os.take n) fs 0 hau step) i o hot a w hb (fun t v ht hl => by
   rw [hoth t (fun k hk => ?_)]
   ·simpa using hl
   ·rw [dstOf_take] at hk
    split at hk
    ·exact ht k hk
    ·cases hk) hdep
  rw [Nat.zero_add, hd] at this
  exact this
 ·have hle := Nat.le_of_ble_eq_true hlen
  have hf := FinC.at_ (K := fun a => wpList P os.toArray Q (os.drop n) a w) (df := df) [] [] (Ts.map TE.mv) [] (by simpa using hle) (fin w hb)
  simp only [List.length_nil, Nat.add_zero, List.reverseAux, List.take_append_drop, List.append_nil] at hf
  have hfin := FinAt.of_ (K := fun a => wpList P os.toArray Q (os.drop n) a w) (os.take n) (Ts.map TE.mv) ⟨l.toArray, df⟩ hdf.symm hs.symm (fun t ht => (hoth t ht).symm) hv (fun i o hi => by
   obtain ⟨⟨d, h2, _⟩, _⟩ := op_ok (region_ok hok i o (by simpa using hi))
   exact ⟨d, h2⟩) (FinL.at_ (os.take n) _ (Ts.map TE.mv) l (by rw [hds, List.length_map]) hf)
  have e := wpOps_eq_wpList (P := P) (Q := Q) (ops := os.toArray) (os.drop n) n (fun j => by simp)
  rw [List.length_drop] at e
  rw [List.size_toArray, e]
  exact hfin
end
end Go.Proofs.Ytcafmodenbifhaa
