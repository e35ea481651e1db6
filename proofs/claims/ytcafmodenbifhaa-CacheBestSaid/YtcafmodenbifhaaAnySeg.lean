/-
 A DRAWN REGION IN SEGMENTS: operations that must stand as the text has them (a call that turns memory, a store), and between them operations that only yield a value, in whatever order.
-/
import Derived.Test.YtcafmodenbifhaaAnyTail
set_option linter.unusedVariables false
set_option linter.unusedSimpArgs false
namespace Go.Proofs.Ytcafmodenbifhaa
open Go.RowKit

section
variable {P : Program} {ops : Array Oper} {Q : Exit → Act → World → Prop}
theorem UpTo.closed {listed : Array Bool} {k : Nat} (h : UpTo ops listed k) (hs : listed.size = ops.size) (hback : backOk ops = true) : ClosedL ops listed := by
 intro j hj q hq
 have hjs : j < ops.size := by
  rw [← hs]
  rw [Array.getD_eq_getD_getElem?] at hj
  cases hg : listed[j]? with
  | none => rw [hg] at hj; cases hj
  | some b => exact (Array.getElem?_eq_some_iff.1 hg).1
 have hjk : j < k := by
  by_cases e : j < k
  ·exact e
  ·exact (getD_clash hs hjs hj (h.2 j (by omega) hjs)).elim
 have h1 := (List.all_eq_true.1 hback) j (List.mem_range.2 hjs)
 have h2 : q < j := Nat.le_of_ble_eq_true ((List.all_eq_true.1 h1) q hq)
 exact h.1 q (by omega)
/-- What is to be shown where just the first k operations are behind. -/
def Cont (P : Program) (ops : Array Oper) (Q : Exit → Act → World → Prop) (k : Nat) (a : Act) (w : World) : Prop :=
 ∀ (listed : Array Bool), listed.size = ops.size → UpTo ops listed k → ∀ fuel, free ops listed ≤ fuel → wpAny P .any ops Q fuel listed a w
theorem ready_deps {listed : Array Bool} {i : Nat} (hi : i ∈ Region.ready .any ops listed) : ∀ j ∈ depsOf ops i, listed.getD j false = true := by
 intro j hj
 obtain ⟨h1, h2⟩ := ready_free hi
 have ho : ops[i]? = some ops[i] := Array.getElem?_eq_getElem h1
 have hall : (ops[i].after.all fun e => !Region.binds .any e || listed.getD e.on false) = true := by
  unfold Region.ready at hi
  have h3 := (List.mem_filter.1 hi).2
  rw [ho] at h3
  simpa [h2] using h3
 obtain ⟨k, hk, hk2⟩ := Array.any_eq_true.1 ((mem_deps ho).1 hj)
 have h4 := (Array.all_eq_true.1 hall) k hk
 simp only [Bool.and_eq_true, beq_iff_eq] at hk2
 rw [hk2.1, hk2.2] at h4
 simpa using h4
theorem ready_of {listed : Array Bool} {i : Nat} (hs : listed.size = ops.size) (his : i < ops.size) (hb : listed.getD i false = false) (hd : ∀ j ∈ depsOf ops i, listed.getD j false = true) : i ∈ Region.ready .any ops listed := by
 unfold Region.ready
 refine List.mem_filter.2 ⟨List.mem_range.2 his, ?_⟩
 have ho : ops[i]? = some ops[i] := Array.getElem?_eq_getElem his
 have hd2 : listed.getD i true = false := by
  rw [Array.getD_eq_getD_getElem?] at hb ⊢
  rw [Array.getElem?_eq_getElem (by omega)] at hb ⊢
  simpa using hb
 rw [hd2, ho]
 simp only [Bool.not_false, Bool.true_and, Option.map_some, Option.getD_some]
 rw [Array.all_eq_true]
 intro k hk
 cases hbk : Region.binds .any ops[i].after[k] with
 | false => simp
 | true =>
  have h6 := hd (ops[i].after[k]).on ((mem_deps ho).2 (by
   rw [Array.any_eq_true]
   exact ⟨k, hk, by simp [hbk]⟩))
  simp [h6]
theorem Cont.start {id : Nat} {a : Act} {w : World} (hm : P.follows .mixedOrders = true) (h : Cont P ops Q 0 a w.drew) : (Code.region id ops true).wp P Q a w := by
 refine wp_region_any hm (h _ (by simp) ⟨fun i hi => absurd hi (by omega), fun i _ his => ?_⟩ _ (Nat.le_trans List.countP_le_length (by simp)))
 simp [Array.getD_eq_getD_getElem?, Array.getElem?_replicate, his]
theorem Cont.end_ {a : Act} {w : World} (h : Q .normal a w) : Cont P ops Q ops.size a w := by
 intro listed hs hu fuel _
 have hr : Region.ready .any ops listed = [] := by
  cases hr : Region.ready .any ops listed with
  | nil => rfl
  | cons i r =>
   obtain ⟨h1, h2⟩ := ready_free (md := .any) (ops := ops) (listed := listed) (i := i) (by rw [hr]; simp)
   exact (getD_clash hs h1 (hu.1 i h1) h2).elim
 cases fuel with
 | zero => exact ⟨hr, h⟩
 | succ n => exact ⟨fun _ => h, fun i hi => by rw [hr] at hi; cases hi⟩
/-- All that comes later waits for each of those from k to m. -/
def barOk (ops : Array Oper) (k m : Nat) : Bool := (List.range ops.size).all fun i => Nat.blt i m || (List.range' k (m - k)).all fun j => (down ops i (depsOf ops i)).contains j
/-- Each from k to m is waited for by all that comes later. -/
def lineOk (ops : Array Oper) (k m : Nat) : Bool := (List.range' k (m - k)).all fun j => (List.range ops.size).all fun i => Nat.ble i j || (down ops i (depsOf ops i)).contains j
theorem bar_ahead {k m : Nat} (hbar : barOk ops k m = true) {listed : Array Bool} {i : Nat} (hcl : ClosedL ops listed) (hi : i ∈ Region.ready .any ops listed) (him : m ≤ i) : ∀ j, k ≤ j → j < m → listed.getD j false = true := by
 intro j hkj hjm
 have h1 := (List.all_eq_true.1 hbar) i (List.mem_range.2 (ready_free hi).1)
 rw [Bool.or_eq_true] at h1
 rcases h1 with h1 | h1
 ·have : i < m := Nat.le_of_ble_eq_true h1
  omega
 ·have h2 := (List.all_eq_true.1 h1) j (List.mem_range'_1.2 (by omega))
  exact down_all (p := fun j => listed.getD j false = true) hcl i _ (ready_deps hi) j (by simpa using h2)
theorem UpTo.step {listed : Array Bool} {k : Nat} (h : UpTo ops listed k) (hs : listed.size = ops.size) (hk : k < ops.size) : UpTo ops (listed.setIfInBounds k true) (k + 1) := by
 refine ⟨fun i hi => ?_, fun i hi his => ?_⟩
 ·by_cases e : k = i
  ·subst e
   have hlt : k < listed.size := by omega
   simp [Array.getD_eq_getD_getElem?, Array.getElem?_setIfInBounds, hlt]
  ·exact getD_up (h.1 i (by omega))
 ·rw [getD_set, if_neg (by omega)]
  exact h.2 i (by omega) his
/-- One operation that stands where the text has it. -/
theorem Cont.one {k : Nat} {a : Act} {w : World} (hk : k < ops.size) (hback : backOk ops = true) (hline : ((List.range ops.size).all fun i => Nat.ble i k || (down ops i (depsOf ops i)).contains k) = true)
  (h : wpOp P ops Q k (Cont P ops Q (k + 1)) a w) : Cont P ops Q k a w := by
 intro listed hs hu fuel hf
 have hcl := hu.closed hs hback
 have hkr : k ∈ Region.ready .any ops listed := by
  refine ready_of hs hk ?_ (fun j hj => ?_)
  ·cases hb : listed.getD k false with
   | false => rfl
   | true => exact (getD_clash hs hk hb (hu.2 k (Nat.le_refl _) hk)).elim
  ·have h1 := (List.all_eq_true.1 hback) k (List.mem_range.2 hk)
   have h2 : j < k := Nat.le_of_ble_eq_true ((List.all_eq_true.1 h1) j hj)
   exact hu.1 j h2
 have only : ∀ i, i ∈ Region.ready .any ops listed → i = k := by
  intro i hi
  obtain ⟨h1, h2⟩ := ready_free hi
  by_cases hik : i ≤ k
  ·by_cases e : i = k
   ·exact e
   ·exact (getD_clash hs h1 (hu.1 i (by omega)) h2).elim
  ·have h3 := (List.all_eq_true.1 hline) i (List.mem_range.2 h1)
   rw [Bool.or_eq_true] at h3
   rcases h3 with h3 | h3
   ·have := Nat.le_of_ble_eq_true h3; omega
   ·have h4 := down_all (p := fun j => listed.getD j false = true) hcl i _ (ready_deps hi) k (by simpa using h3)
    exact (getD_clash hs hk h4 (hu.2 k (Nat.le_refl _) hk)).elim
 cases fuel with
 | zero =>
  have := free_set hkr
  omega
 | succ fuel =>
  refine ⟨fun hr => (by rw [hr] at hkr; cases hkr), fun i hi => ?_⟩
  have e := only i hi
  subst e
  have hf2 := free_set hi
  exact wpOp_mono (fun a' w' hh => hh _ (by rw [Array.size_setIfInBounds]; exact hs) (hu.step hs hk) _ (by omega)) h
/-- The exit that goes on. -/
def QC (P : Program) (ops : Array Oper) (Q : Exit → Act → World → Prop) (m : Nat) : Exit → Act → World → Prop
 | .normal, a, w => Cont P ops Q m a w
 | e, a, w => Q e a w
end
section
variable {P : Program} {Q : Exit → Act → World → Prop}
theorem letsOut_QC {ops : Array Oper} {m : Nat} (h : LetsOut (QC P ops Q m)) : LetsOut Q := h
theorem wp_QC {ops : Array Oper} {m : Nat} {o : Oper} {a : Act} {w : World} {next : Act → World → Prop} (h : Oper.wp P o a w next (QC P ops Q m)) : Oper.wp P o a w next Q := by
 unfold Oper.wp at *
 generalize (execOp a.eval o).run P w = r at *
 cases r with
 | ok n w' =>
  cases n <;> simp only [Oper.upon] at h ⊢ <;>
   first
    | exact h
    | exact Calls.mono h (fun e w'' he => by cases e <;> exact he)
 | halt x w' => cases x <;> simp only [Oper.upon] at h ⊢ <;> exact h
theorem Cont.line {os : List Oper} (hback : backOk os.toArray = true) (m : Nat) : ∀ (n k : Nat), k + n = m → m ≤ os.length → lineOk os.toArray k m = true →
  ∀ {a : Act} {w : World}, wpOps P os.toArray (QC P os.toArray Q m) (List.range' k n) a w → Cont P os.toArray Q k a w
 | 0, k, e, _, _, a, w, h => by
  have : k = m := by omega
  subst this
  exact h
 | n + 1, k, e, hle, hline, a, w, h => by
  have hk : k < os.toArray.size := by simp; omega
  have h0 := (List.all_eq_true.1 hline) k (List.mem_range'_1.2 (by omega))
  refine Cont.one hk hback h0 ?_
  rw [List.range'_succ, wpOps_cons] at h
  have hrest : lineOk os.toArray (k + 1) m = true := by
   unfold lineOk
   refine List.all_eq_true.2 fun j hj => ?_
   have hj2 := List.mem_range'_1.1 hj
   exact (List.all_eq_true.1 hline) j (List.mem_range'_1.2 (by omega))
  have ho : os.toArray[k]? = some os.toArray[k] := Array.getElem?_eq_getElem hk
  unfold wpOp at h ⊢
  simp only [ho] at h ⊢
  split at h
  ·rename_i hw
   rw [if_pos hw]
   rcases h with h | h
   ·exact .inl (wp_QC (Oper.wp_mono (fun a' w' hh => Cont.line hback m n (k + 1) (by omega) hle hrest hh) h))
   ·exact .inr ⟨h.1, letsOut_QC h.2⟩
  ·rename_i hw
   rw [if_neg hw]
   exact Cont.line hback m n (k + 1) (by omega) hle hrest h
theorem wpOps_list {ops : Array Oper} {R : Exit → Act → World → Prop} : ∀ (l : List Oper) (k : Nat), (∀ j, j < l.length → l[j]? = ops[k + j]?) → wpOps P ops R (List.range' k l.length) = wpList P ops R l
 | [], k, _ => by funext a w; simp [wpOps, wpList]
 | o :: l, k, h => by
  have h0 : ops[k]? = some o := by simpa using (h 0 (by simp)).symm
  have ih := wpOps_list (R := R) l (k + 1) (fun j hj => by have := h (j + 1) (by simp; omega); simpa [Nat.add_assoc, Nat.add_comm 1 j] using this)
  funext a w
  simp only [List.length_cons, List.range'_succ, wpOps, h0, wpList, ih]
/-- Operations that stand where the text has them, n of them from k on. -/
theorem cont_line {os : List Oper} {a : Act} {w : World} (k n : Nat) (hback : backOk os.toArray = true) (hle : Nat.ble (k + n) os.length = true) (hline : lineOk os.toArray k (k + n) = true)
  (h : wpList P os.toArray (QC P os.toArray Q (k + n)) ((os.drop k).take n) a w) : Cont P os.toArray Q k a w := by
 have hle' : k + n ≤ os.length := Nat.le_of_ble_eq_true hle
 have hlen : ((os.drop k).take n).length = n := by simp; omega
 have e := wpOps_list (P := P) (ops := os.toArray) (R := QC P os.toArray Q (k + n)) ((os.drop k).take n) k (fun j hj => by
  rw [hlen] at hj
  simp [List.getElem?_take, List.getElem?_drop, hj])
 rw [hlen] at e
 exact Cont.line hback (k + n) n k rfl hle' hline (by rw [e]; exact h)
theorem cont_end {os : List Oper} {a : Act} {w : World} {m : Nat} (hm : Nat.beq m os.length = true) (h : Q .normal a w) : Cont P os.toArray Q m a w := by
 have e := Nat.eq_of_beq_eq_true hm
 have e2 : m = os.toArray.size := by simpa using e
 rw [e2]
 exact Cont.end_ h
/-- Those from k to m. -/
def segDst (ops : Array Oper) (k m i : Nat) : Option Nat := if k ≤ i ∧ i < m then dstOf ops i else none
structure SInv (D : Nat → Option Nat) (V : Nat → Value → World → Prop) (a0 : Act) (w0 : World) (listed : Array Bool) (a : Act) (w : World) : Prop where
 bel : Below w0.heap.size w0 w
 tm : a.tmps.size = a0.tmps.size
 df : a.defers = a0.defers
 other : ∀ t, (∀ i, D i ≠ some t) → a.tmps[t]? = a0.tmps[t]?
 val : ∀ i d, listed.getD i false = true → D i = some d → ∃ v, a.tmps[d]? = some v ∧ V i v w
theorem SInv.put {D : Nat → Option Nat} {V : Nat → Value → World → Prop} {a0 a : Act} {w0 w w' : World} {listed : Array Bool} {i d : Nat} {v : Value} (h : SInv D V a0 w0 listed a w)
  (mono : ∀ i v w w', V i v w → Below w.heap.size w w' → V i v w') (hd : D i = some d) (hds : d < a0.tmps.size) (hinj : ∀ i j d, D i = some d → D j = some d → i = j)
  (hv : V i v w') (hb : Below w.heap.size w w') : SInv D V a0 w0 (listed.setIfInBounds i true) (a.put (some d) v) w' := by
 refine ⟨h.bel.trans (hb.mono h.bel.size), ?_, h.df, fun t ht => ?_, fun j dj hj hdj => ?_⟩
 ·show (a.tmps.setIfInBounds d v).size = _
  rw [Array.size_setIfInBounds]; exact h.tm
 ·show (a.tmps.setIfInBounds d v)[t]? = _
  rw [Array.getElem?_setIfInBounds_ne (fun e => ht i (by rw [hd, e]))]
  exact h.other t ht
 ·show ∃ u, (a.tmps.setIfInBounds d v)[dj]? = some u ∧ _
  by_cases e : i = j
  ·subst e
   rw [hd] at hdj
   cases hdj
   exact ⟨v, by rw [Array.getElem?_setIfInBounds_self_of_lt (by rw [h.tm]; exact hds)], hv⟩
  ·rcases getD_setF hj with h1 | h1
   ·exact absurd h1 e
   ·obtain ⟨u, h2, h3⟩ := h.val j dj h1 hdj
    refine ⟨u, ?_, mono _ _ _ _ h3 hb⟩
    rw [Array.getElem?_setIfInBounds_ne (fun e2 => e (hinj i j d hd (by rw [hdj, e2])))]
    exact h2
theorem cont_free_inv {ops : Array Oper} {a0 : Act} {w0 : World} (k m : Nat) (hkm : k ≤ m) (hms : m ≤ ops.size) (hback : backOk ops = true) (hbar : barOk ops k m = true) (V : Nat → Value → World → Prop)
  (mono : ∀ i v w w', V i v w → Below w.heap.size w w' → V i v w')
  (hdst : ∀ i, k ≤ i → i < m → ∃ d, dstOf ops i = some d ∧ d < a0.tmps.size) (hinj : ∀ i j d, segDst ops k m i = some d → segDst ops k m j = some d → i = j)
  (hpre : ∀ j dj, j < k → dstOf ops j = some dj → (∀ i, segDst ops k m i ≠ some dj) ∧ ∃ v, a0.tmps[dj]? = some v ∧ ∀ w, V j v w)
  (step : ∀ i o d a w, k ≤ i → i < m → ops[i]? = some o → o.dst = some d → Below w0.heap.size w0 w → (∀ t, (∀ i, segDst ops k m i ≠ some t) → a.tmps[t]? = a0.tmps[t]?) →
   (∀ j, (o.after.any fun e => Region.binds .any e && e.on == j) = true → ∀ dj, dstOf ops j = some dj → ∃ v, a.tmps[dj]? = some v ∧ V j v w) →
   if Region.wanted o (yielded ops a.tmps) = true then Oper.wp P o a w (fun a' w' => ∃ v, a' = a.put (some d) v ∧ V i v w' ∧ Below w.heap.size w w') Q else V i undef w)
  (fin : ∀ a w, Below w0.heap.size w0 w → a.tmps.size = a0.tmps.size → a.defers = a0.defers → (∀ t, (∀ i, segDst ops k m i ≠ some t) → a.tmps[t]? = a0.tmps[t]?) → (∀ i d, segDst ops k m i = some d → ∃ v, a.tmps[d]? = some v ∧ V i v w) → Cont P ops Q m a w) :
  Cont P ops Q k a0 w0 := by
 have key : ∀ (fuel : Nat) (listed : Array Bool) (a : Act) (w : World), free ops listed ≤ fuel → (listed.size = ops.size ∧ ClosedL ops listed) → (∀ i, i < k → listed.getD i false = true) → (∀ i, m ≤ i → i < ops.size → listed.getD i true = false) → SInv (segDst ops k m) V a0 w0 listed a w → wpAny P .any ops Q fuel listed a w := by
  intro fuel
  induction fuel with
  | zero =>
   intro listed a w hf hsz hlo hhi hI
   have hall : ∀ i, i < m → listed.getD i false = true := by
    intro i hi
    cases hb : listed.getD i false with
    | true => rfl
    | false =>
     have hd2 : listed.getD i true = false := by
      rw [Array.getD_eq_getD_getElem?] at hb ⊢
      rw [Array.getElem?_eq_getElem (by omega)] at hb ⊢
      simpa using hb
     have : 0 < free ops listed := List.countP_pos_iff.2 ⟨i, List.mem_range.2 (by omega), by rw [hd2]; rfl⟩
     omega
   exact fin a w hI.bel hI.tm hI.df hI.other (fun i d hd => hI.val i d (hall i (by unfold segDst at hd; split at hd; omega; cases hd)) hd) listed hsz.1 ⟨hall, hhi⟩ 0 hf
  | succ fuel ih =>
   intro listed a w hf hsz hlo hhi hI
   by_cases hall : ∀ i, i < m → listed.getD i false = true
   ·exact fin a w hI.bel hI.tm hI.df hI.other (fun i d hd => hI.val i d (hall i (by unfold segDst at hd; split at hd; omega; cases hd)) hd) listed hsz.1 ⟨hall, hhi⟩ _ hf
   ·have hex : ∃ i, i ∈ Region.ready .any ops listed := by
     obtain ⟨i, hi, hn⟩ : ∃ i, i < m ∧ listed.getD i false = false := by
      by_cases he : ∃ i, i < m ∧ listed.getD i false = false
      ·exact he
      ·refine (hall fun i hi => ?_).elim
       cases hb : listed.getD i false with
       | true => rfl
       | false => exact (he ⟨i, hi, hb⟩).elim
     have least : ∀ n i, i ≤ n → i < m → listed.getD i false = false → ∃ i, i ∈ Region.ready .any ops listed := by
      intro n
      induction n with
      | zero =>
       intro i hin him hb
       have e : i = 0 := by omega
       subst e
       refine ⟨0, ready_of hsz.1 (by omega) hb (fun j hj => ?_)⟩
       have h1 := (List.all_eq_true.1 hback) 0 (List.mem_range.2 (by omega))
       have h2 : j < 0 := Nat.le_of_ble_eq_true ((List.all_eq_true.1 h1) j hj)
       omega
      | succ n ihn =>
       intro i hin him hb
       by_cases hd : ∀ j ∈ depsOf ops i, listed.getD j false = true
       ·exact ⟨i, ready_of hsz.1 (by omega) hb hd⟩
       ·obtain ⟨j, hj, hjb⟩ : ∃ j, j ∈ depsOf ops i ∧ listed.getD j false = false := by
         by_cases he : ∃ j, j ∈ depsOf ops i ∧ listed.getD j false = false
         ·exact he
         ·refine (hd fun j hj => ?_).elim
          cases hb2 : listed.getD j false with
          | true => rfl
          | false => exact (he ⟨j, hj, hb2⟩).elim
        have h1 := (List.all_eq_true.1 hback) i (List.mem_range.2 (by omega))
        have h2 : j < i := Nat.le_of_ble_eq_true ((List.all_eq_true.1 h1) j hj)
        exact ihn j (by omega) (by omega) hjb
     exact least i i (Nat.le_refl _) hi hn
    refine ⟨fun hr => (by obtain ⟨i, hi⟩ := hex; rw [hr] at hi; cases hi), fun i hi => ?_⟩
    obtain ⟨h1, h2⟩ := ready_free hi
    have hik : k ≤ i := by
     by_cases e : k ≤ i
     ·exact e
     ·exact (getD_clash hsz.1 h1 (hlo i (by omega)) h2).elim
    have him : i < m := by
     by_cases e : i < m
     ·exact e
     ·refine (hall fun j hj => ?_).elim
      by_cases hjk : j < k
      ·exact hlo j hjk
      ·exact bar_ahead hbar hsz.2 hi (by omega) j (by omega) hj
    have ho : ops[i]? = some ops[i] := Array.getElem?_eq_getElem h1
    obtain ⟨d, hd, hds⟩ := hdst i hik him
    have hod : ops[i].dst = some d := by
     have := hd
     unfold dstOf at this
     rw [ho] at this
     exact this
    have hdn : segDst ops k m i = some d := by unfold segDst; rw [if_pos ⟨hik, him⟩]; exact hd
    have hs := step i ops[i] d a w hik him ho hod hI.bel hI.other (fun j hj dj hdj => by
     have hj2 := (mem_deps ho).2 hj
     have h3 := (List.all_eq_true.1 hback) i (List.mem_range.2 h1)
     have hji : j < i := Nat.le_of_ble_eq_true ((List.all_eq_true.1 h3) j hj2)
     by_cases hjk : j < k
     ·obtain ⟨hne, v, hv1, hv2⟩ := hpre j dj hjk hdj
      exact ⟨v, by rw [hI.other dj hne]; exact hv1, hv2 w⟩
     ·exact hI.val j dj (ready_deps hi j hj2) (by unfold segDst; rw [if_pos ⟨by omega, by omega⟩]; exact hdj))
    have hf2 := free_set hi
    have hsz' : (listed.setIfInBounds i true).size = ops.size ∧ ClosedL ops (listed.setIfInBounds i true) := by
     refine ⟨by rw [Array.size_setIfInBounds]; exact hsz.1, fun j hj q hq => ?_⟩
     rcases getD_setF hj with e | e
     ·subst e; exact getD_up (ready_deps hi q hq)
     ·exact getD_up (hsz.2 j e q hq)
    have hlo' : ∀ j, j < k → (listed.setIfInBounds i true).getD j false = true := fun j hj => getD_up (hlo j hj)
    have hhi' : ∀ j, m ≤ j → j < ops.size → (listed.setIfInBounds i true).getD j true = false := fun j hj hjs => by rw [getD_set, if_neg (by omega)]; exact hhi j hj hjs
    unfold wpOp
    simp only [ho]
    split
    ·rename_i hw
     rw [if_pos hw] at hs
     refine .inl (Oper.wp_mono (fun a' w' hh => ?_) hs)
     obtain ⟨v, rfl, hv, hb⟩ := hh
     exact ih _ _ _ (by omega) hsz' hlo' hhi' (hI.put mono hdn hds hinj hv hb)
    ·rename_i hw
     rw [if_neg hw] at hs
     rw [hod]
     exact ih _ _ _ (by omega) hsz' hlo' hhi' (hI.put mono hdn hds hinj hs (Below.refl _ _))
 intro listed hs hu fuel hf
 refine key fuel listed a0 w0 hf ⟨hs, hu.closed hs hback⟩ hu.1 (fun i hi his => hu.2 i (by omega) his) ⟨Below.refl _ _, rfl, rfl, fun _ _ => rfl, fun i d hl hd => ?_⟩
 unfold segDst at hd
 split at hd
 ·rename_i hik
  exact (getD_clash hs (by omega) hl (hu.2 i hik.1 (by omega))).elim
 ·cases hd
end
def anyV : MV := ⟨fun _ _ => True, fun _ _ _ _ _ => trivial⟩
/-- What is known of a slot that was written ahead of a segment. -/
inductive PE where
 | b (x : Bool)
 | any
def PE.te : PE → TE
 | .b x => .b x
 | .any => .o anyV
def isBV : Option Value → Bool → Bool
 | some (.bool y), x => x == y
 | _, _ => false
def preOk (ops : Array Oper) (l : List Value) (k m : Nat) (pre : List PE) : Bool := (List.range k).all fun j => match dstOf ops j with
 | none => true
 | some dj => ((List.range' k (m - k)).all fun i => dstOf ops i != some dj) && (match pre[j]? with
  | some (.b x) => isBV l[dj]? x
  | some .any => Nat.blt dj l.length
  | none => false)
def segOk (ops : Array Oper) (k m N : Nat) : Bool := (List.range' k (m - k)).all fun i => match dstOf ops i with
 | some d => Nat.blt d N && ((List.range' k (m - k)).all fun j => i == j || dstOf ops j != some d)
 | none => false
section
variable {P : Program} {ops : Array Oper} {Q : Exit → Act → World → Prop}
theorem isBV_eq {v : Option Value} {x : Bool} (h : isBV v x = true) : v = some (.bool x) := by
 unfold isBV at h
 split at h
 ·rw [beq_iff_eq] at h; rw [h]
 ·cases h
theorem seg_not {k m : Nat} {t : Tmp} (h : ((List.range' k (m - k)).all fun i => dstOf ops i != some t) = true) (i : Nat) : segDst ops k m i ≠ some t := by
 intro e
 unfold segDst at e
 split at e
 ·rename_i hi
  have := (List.all_eq_true.1 h) i (List.mem_range'_1.2 (by omega))
  rw [e] at this
  simp at this
 ·cases e
def StepSeg (P : Program) (ops : Array Oper) (Q : Exit → Act → World → Prop) (Vs : List MV) (l : List Value) (w0 : World) (k m i : Nat) (o : Oper) : Prop :=
 ∀ (a : Act) (w : World), Below w0.heap.size w0 w → (∀ t v, (∀ i, segDst ops k m i ≠ some t) → l[t]? = some v → a.tmps[t]? = some v) →
  (∀ j, (o.after.any fun e => Region.binds .any e && e.on == j) = true → ∀ dj, dstOf ops j = some dj → ∃ v, a.tmps[dj]? = some v ∧ Vof Vs j v w) →
  if Region.wanted o (yielded ops a.tmps) = true then Oper.wp P o a w (fun a' w' => ∃ v, a' = a.put o.dst v ∧ Vof Vs i v w' ∧ Below w.heap.size w w') Q else Vof Vs i undef w
theorem StepAt.seg {Vs : List MV} {l : List Value} {w0 : World} {k m i : Nat} {o : Oper} (h : StepAt P ops Q Vs l w0 i o) : StepSeg P ops Q Vs l w0 k m i o := fun a w hb hoth hdep =>
 h a w hb (fun t v ht hl => hoth t v (fun i hi => by unfold segDst at hi; split at hi; exact ht i hi; cases hi) hl) hdep
/-- A slot that no operation of the segment writes. -/
theorem ev_seg {k m : Nat} {a : Act} {l : List Value} (hoth : ∀ t v, (∀ i, segDst ops k m i ≠ some t) → l[t]? = some v → a.tmps[t]? = some v) (t : Nat) {v : Value} (h : ((List.range' k (m - k)).all fun i => dstOf ops i != some t) = true) (hv : l[t]? = some v) : a.tmps[t]? = some v :=
 hoth t v (seg_not h) hv
def StepsG (P : Program) (ops : Array Oper) (Q : Exit → Act → World → Prop) (Vs : List MV) (l : List Value) (w0 : World) (k m : Nat) : Nat → List Bool → List Oper → Prop
 | _, _, [] => True
 | i, true :: fs, _ :: r => StepsG P ops Q Vs l w0 k m (i + 1) fs r
 | i, _ :: fs, o :: r => StepSeg P ops Q Vs l w0 k m i o ∧ StepsG P ops Q Vs l w0 k m (i + 1) fs r
 | i, [], o :: r => StepSeg P ops Q Vs l w0 k m i o ∧ StepsG P ops Q Vs l w0 k m (i + 1) [] r
theorem StepsG.at_ {Ts : List TE} {l : List Value} {w0 : World} {k m : Nat} : ∀ (r : List Oper) (fs : List Bool) (i : Nat), autoAll ops Ts i fs r = true → StepsG P ops Q (Ts.map TE.mv) l w0 k m i fs r → ∀ j o, r[j]? = some o → StepSeg P ops Q (Ts.map TE.mv) l w0 k m (i + j) o
 | [], _, _, _, _, j, o, h => by simp at h
 | o' :: r, true :: fs, i, ha, hs, 0, o, h => by
  simp only [autoAll, Bool.and_eq_true] at ha
  simp at h; subst h
  exact (autoOk_step ha.1).seg
 | o' :: r, true :: fs, i, ha, hs, j + 1, o, h => by
  simp only [autoAll, Bool.and_eq_true] at ha
  have := StepsG.at_ r fs (i + 1) ha.2 hs j o (by simpa using h)
  rw [show i + (j + 1) = i + 1 + j by omega]
  exact this
 | o' :: r, false :: fs, i, ha, hs, 0, o, h => by simp at h; subst h; exact hs.1
 | o' :: r, false :: fs, i, ha, hs, j + 1, o, h => by
  have := StepsG.at_ r fs (i + 1) ha hs.2 j o (by simpa using h)
  rw [show i + (j + 1) = i + 1 + j by omega]
  exact this
 | o' :: r, [], i, ha, hs, 0, o, h => by simp at h; subst h; exact hs.1
 | o' :: r, [], i, ha, hs, j + 1, o, h => by
  have := StepsG.at_ r [] (i + 1) ha hs.2 j o (by simpa using h)
  rw [show i + (j + 1) = i + 1 + j by omega]
  exact this
theorem dstOf_seg (os : List Oper) (k m i : Nat) : dstOf ((os.drop k).take (m - k)).toArray i = segDst os.toArray k m (k + i) := by
 unfold segDst dstOf
 simp only [List.getElem?_toArray, List.getElem?_take, List.getElem?_drop]
 by_cases h : i < m - k
 ·rw [if_pos h, if_pos ⟨by omega, by omega⟩]
 ·rw [if_neg h, if_neg (by omega)]; rfl
/-- THE LAW FOR A SEGMENT WHOSE ORDER IS FREE, AS A LIST. -/
theorem cont_free {l : List Value} {df : List Deferred} {w0 : World} {os : List Oper} (k m lo : Nat) (pre : List PE) (Ts : List TE) (fs : List Bool) (hkm : Nat.ble k m = true) (hle : Nat.ble m os.length = true) (hback : backOk os.toArray = true) (hbar : barOk os.toArray k m = true) (hok : segOk os.toArray k m l.length = true)
  (hpl : Nat.beq pre.length k = true) (hpre : preOk os.toArray l k m pre = true) (hds : ((os.drop k).take (m - k)).map (·.dst) = (List.range' lo Ts.length).map some) (hlen : Nat.ble (lo + Ts.length) l.length = true) (hau : autoAll os.toArray (pre.map PE.te ++ Ts) k fs ((os.drop k).take (m - k)) = true)
  (step : StepsG P os.toArray Q ((pre.map PE.te ++ Ts).map TE.mv) l w0 k m k fs ((os.drop k).take (m - k)))
  (fin : ∀ w, Below w0.heap.size w0 w → FinC (fun ls => Cont P os.toArray Q m ⟨ls.toArray, df⟩ w) w l lo (Ts.map TE.mv) []) :
  Cont P os.toArray Q k ⟨l.toArray, df⟩ w0 := by
 have hkm' : k ≤ m := Nat.le_of_ble_eq_true hkm
 have hle' : m ≤ os.length := Nat.le_of_ble_eq_true hle
 have hpk : pre.length = k := Nat.eq_of_beq_eq_true hpl
 have sok : ∀ i, k ≤ i → i < m → ∃ d, dstOf os.toArray i = some d ∧ d < l.length ∧ ∀ j, k ≤ j → j < m → dstOf os.toArray j = some d → i = j := by
  intro i hi him
  have h1 := (List.all_eq_true.1 hok) i (List.mem_range'_1.2 (by omega))
  cases hd : dstOf os.toArray i with
  | none => rw [hd] at h1; cases h1
  | some d =>
   rw [hd] at h1
   simp only [Bool.and_eq_true] at h1
   refine ⟨d, rfl, Nat.le_of_ble_eq_true h1.1, fun j hj hjm hjd => ?_⟩
   have h2 := (List.all_eq_true.1 h1.2) j (List.mem_range'_1.2 (by omega))
   rw [hjd] at h2
   simpa using h2
 refine cont_free_inv (a0 := ⟨l.toArray, df⟩) k m hkm' (by simpa using hle') hback hbar (Vof ((pre.map PE.te ++ Ts).map TE.mv)) (fun i v w w' h hb => ?_) (fun i hi him => ?_) (fun i j d hi hj => ?_) (fun j dj hj hdj => ?_) (fun i o d a w hi him ho hd hb hoth hdep => ?_) (fun a w hb hs hdf hoth hv => ?_)
 ·unfold Vof at h ⊢
  split <;> rename_i hV
  ·rw [hV] at h; exact MV.mono _ _ _ _ h hb
  ·trivial
 ·obtain ⟨d, h1, h2, _⟩ := sok i hi him
  exact ⟨d, h1, by simpa using h2⟩
 ·unfold segDst at hi hj
  split at hi
  ·split at hj
   ·rename_i h1 h2
    obtain ⟨d', e1, _, e2⟩ := sok i h1.1 h1.2
    rw [hi] at e1
    cases e1
    exact e2 j h2.1 h2.2 hj
   ·cases hj
  ·cases hi
 ·have h1 := (List.all_eq_true.1 hpre) j (List.mem_range.2 hj)
  rw [hdj] at h1
  simp only [Bool.and_eq_true] at h1
  refine ⟨seg_not h1.1, ?_⟩
  have hTj : (pre.map PE.te ++ Ts)[j]? = (pre[j]?).map PE.te := by
   rw [List.getElem?_append_left (by simp; omega), List.getElem?_map]
  have h2 := h1.2
  cases hp : pre[j]? with
  | none => rw [hp] at h2; cases h2
  | some e =>
   rw [hp] at h2
   cases e with
   | b x =>
    have h3 := isBV_eq h2
    exact ⟨.bool x, by simpa using h3, fun w => by rw [vof_b (x := x) (by rw [hTj, hp]; rfl)]⟩
   | any =>
    have h3 : dj < l.length := Nat.le_of_ble_eq_true h2
    refine ⟨l[dj], by simp [h3], fun w => ?_⟩
    rw [vof_te, hTj, hp]
    trivial
 ·have hot : ((os.drop k).take (m - k))[i - k]? = some o := by
   rw [List.getElem?_take, if_pos (by omega), List.getElem?_drop, show k + (i - k) = i by omega]
   simpa using ho
  have := StepsG.at_ _ fs k hau step (i - k) o hot
  rw [show k + (i - k) = i by omega] at this
  have h3 := this a w hb (fun t v ht hl => by rw [hoth t ht]; simpa using hl) hdep
  rw [hd] at h3
  exact h3
 ·have hlen' := Nat.le_of_ble_eq_true hlen
  have hf := FinC.at_ (K := fun a => Cont P os.toArray Q m a w) (df := df) [] [] (Ts.map TE.mv) [] (by simpa using hlen') (fin w hb)
  simp only [List.length_nil, Nat.add_zero, List.reverseAux, List.take_append_drop, List.append_nil] at hf
  refine FinAt.of_ (K := fun a => Cont P os.toArray Q m a w) ((os.drop k).take (m - k)) (Ts.map TE.mv) ⟨l.toArray, df⟩ hdf.symm hs.symm (fun t ht => (hoth t (fun i hi => ?_)).symm) (fun i d hd => ?_) (fun i o hi => ?_) (FinL.at_ ((os.drop k).take (m - k)) _ (Ts.map TE.mv) l (by rw [hds, List.length_map]) hf)
  ·have hki : k ≤ i := by
    unfold segDst at hi
    split at hi
    ·omega
    ·cases hi
   refine ht (i - k) ?_
   rw [dstOf_seg, show k + (i - k) = i by omega]
   exact hi
  ·rw [dstOf_seg] at hd
   obtain ⟨v, h1, h2⟩ := hv _ _ hd
   refine ⟨v, h1, ?_⟩
   unfold Vof at h2 ⊢
   rw [List.map_append, List.getElem?_append_right (by simp; omega)] at h2
   simpa [hpk] using h2
  ·have hi2 : i < m - k := by
    have := (List.getElem?_eq_some_iff.1 hi).1
    simp at this
    omega
   obtain ⟨d, h1, _⟩ := sok (k + i) (by omega) (by omega)
   refine ⟨d, ?_⟩
   have h2 := dstOf_seg os k m i
   unfold segDst at h2
   rw [if_pos ⟨by omega, by omega⟩, h1] at h2
   unfold dstOf at h2
   simp only [List.getElem?_toArray] at h2
   rw [hi] at h2
   exact h2
/-- THE LAW FOR A SEGMENT WHOSE ORDER IS FREE, AS A LIST. -/
theorem cont_free2 {l : List Value} {df : List Deferred} {w0 : World} {os : List Oper} (k m lo : Nat) (pre : List PE) (Ts : List TE) (xs : List Nat) (Tx : List TE) (fs : List Bool) (hkm : Nat.ble k m = true) (hle : Nat.ble m os.length = true) (hback : backOk os.toArray = true) (hbar : barOk os.toArray k m = true) (hok : segOk os.toArray k m l.length = true)
  (hpl : Nat.beq pre.length k = true) (hpre : preOk os.toArray l k m pre = true) (hds : ((os.drop k).take (m - k)).map (·.dst) = (List.range' lo Ts.length ++ xs).map some) (hlen : Nat.ble (lo + Ts.length) l.length = true) (hau : autoAll os.toArray (pre.map PE.te ++ (Ts ++ Tx)) k fs ((os.drop k).take (m - k)) = true)
  (step : StepsG P os.toArray Q ((pre.map PE.te ++ (Ts ++ Tx)).map TE.mv) l w0 k m k fs ((os.drop k).take (m - k)))
  (fin : ∀ w, Below w0.heap.size w0 w → FinC (FinL (fun a => Cont P os.toArray Q m a w) w df xs (Tx.map TE.mv)) w l lo (Ts.map TE.mv) []) :
  Cont P os.toArray Q k ⟨l.toArray, df⟩ w0 := by
 have hkm' : k ≤ m := Nat.le_of_ble_eq_true hkm
 have hle' : m ≤ os.length := Nat.le_of_ble_eq_true hle
 have hpk : pre.length = k := Nat.eq_of_beq_eq_true hpl
 have sok : ∀ i, k ≤ i → i < m → ∃ d, dstOf os.toArray i = some d ∧ d < l.length ∧ ∀ j, k ≤ j → j < m → dstOf os.toArray j = some d → i = j := by
  intro i hi him
  have h1 := (List.all_eq_true.1 hok) i (List.mem_range'_1.2 (by omega))
  cases hd : dstOf os.toArray i with
  | none => rw [hd] at h1; cases h1
  | some d =>
   rw [hd] at h1
   simp only [Bool.and_eq_true] at h1
   refine ⟨d, rfl, Nat.le_of_ble_eq_true h1.1, fun j hj hjm hjd => ?_⟩
   have h2 := (List.all_eq_true.1 h1.2) j (List.mem_range'_1.2 (by omega))
   rw [hjd] at h2
   simpa using h2
 refine cont_free_inv (a0 := ⟨l.toArray, df⟩) k m hkm' (by simpa using hle') hback hbar (Vof ((pre.map PE.te ++ (Ts ++ Tx)).map TE.mv)) (fun i v w w' h hb => ?_) (fun i hi him => ?_) (fun i j d hi hj => ?_) (fun j dj hj hdj => ?_) (fun i o d a w hi him ho hd hb hoth hdep => ?_) (fun a w hb hs hdf hoth hv => ?_)
 ·unfold Vof at h ⊢
  split <;> rename_i hV
  ·rw [hV] at h; exact MV.mono _ _ _ _ h hb
  ·trivial
 ·obtain ⟨d, h1, h2, _⟩ := sok i hi him
  exact ⟨d, h1, by simpa using h2⟩
 ·unfold segDst at hi hj
  split at hi
  ·split at hj
   ·rename_i h1 h2
    obtain ⟨d', e1, _, e2⟩ := sok i h1.1 h1.2
    rw [hi] at e1
    cases e1
    exact e2 j h2.1 h2.2 hj
   ·cases hj
  ·cases hi
 ·have h1 := (List.all_eq_true.1 hpre) j (List.mem_range.2 hj)
  rw [hdj] at h1
  simp only [Bool.and_eq_true] at h1
  refine ⟨seg_not h1.1, ?_⟩
  have hTj : (pre.map PE.te ++ (Ts ++ Tx))[j]? = (pre[j]?).map PE.te := by
   rw [List.getElem?_append_left (by simp; omega), List.getElem?_map]
  have h2 := h1.2
  cases hp : pre[j]? with
  | none => rw [hp] at h2; cases h2
  | some e =>
   rw [hp] at h2
   cases e with
   | b x =>
    have h3 := isBV_eq h2
    exact ⟨.bool x, by simpa using h3, fun w => by rw [vof_b (x := x) (by rw [hTj, hp]; rfl)]⟩
   | any =>
    have h3 : dj < l.length := Nat.le_of_ble_eq_true h2
    refine ⟨l[dj], by simp [h3], fun w => ?_⟩
    rw [vof_te, hTj, hp]
    trivial
 ·have hot : ((os.drop k).take (m - k))[i - k]? = some o := by
   rw [List.getElem?_take, if_pos (by omega), List.getElem?_drop, show k + (i - k) = i by omega]
   simpa using ho
  have := StepsG.at_ _ fs k hau step (i - k) o hot
  rw [show k + (i - k) = i by omega] at this
  have h3 := this a w hb (fun t v ht hl => by rw [hoth t ht]; simpa using hl) hdep
  rw [hd] at h3
  exact h3
 ·have hlen' := Nat.le_of_ble_eq_true hlen
  have hf := FinC.at_ (K := fun a => Cont P os.toArray Q m a w) (df := df) xs (Tx.map TE.mv) (Ts.map TE.mv) [] (by simpa using hlen') (fin w hb)
  simp only [List.length_nil, Nat.add_zero, List.reverseAux, List.take_append_drop] at hf
  refine FinAt.of_ (K := fun a => Cont P os.toArray Q m a w) ((os.drop k).take (m - k)) (Ts.map TE.mv ++ Tx.map TE.mv) ⟨l.toArray, df⟩ hdf.symm hs.symm (fun t ht => (hoth t (fun i hi => ?_)).symm) (fun i d hd => ?_) (fun i o hi => ?_) (FinL.at_ ((os.drop k).take (m - k)) _ (Ts.map TE.mv ++ Tx.map TE.mv) l (by rw [hds, List.length_map]) hf)
  ·have hki : k ≤ i := by
    unfold segDst at hi
    split at hi
    ·omega
    ·cases hi
   refine ht (i - k) ?_
   rw [dstOf_seg, show k + (i - k) = i by omega]
   exact hi
  ·rw [dstOf_seg] at hd
   obtain ⟨v, h1, h2⟩ := hv _ _ hd
   refine ⟨v, h1, ?_⟩
   unfold Vof at h2 ⊢
   rw [List.map_append, List.getElem?_append_right (by simp; omega)] at h2
   rw [← List.map_append]
   simpa [hpk] using h2
  ·have hi2 : i < m - k := by
    have := (List.getElem?_eq_some_iff.1 hi).1
    simp at this
    omega
   obtain ⟨d, h1, _⟩ := sok (k + i) (by omega) (by omega)
   refine ⟨d, ?_⟩
   have h2 := dstOf_seg os k m i
   unfold segDst at h2
   rw [if_pos ⟨by omega, by omega⟩, h1] at h2
   unfold dstOf at h2
   simp only [List.getElem?_toArray] at h2
   rw [hi] at h2
   exact h2
end
end Go.Proofs.Ytcafmodenbifhaa
