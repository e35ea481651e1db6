/-
  LAYER 9 (heap): plain law: a thing that rises, or sinks, in a row that is a heap but for it.
-/
import Derived.Test.YtcafmodenbifhaaLib
set_option linter.unusedVariables false
set_option linter.unusedSimpArgs false
namespace Go.Proofs.Ytcafmodenbifhaa

def par (i : Nat) : Nat := (i - 1) / 2
def swp {α : Type} (v : Nat → α) (k j : Nat) : Nat → α := fun i => if i = k then v j else if i = j then v k else v i
section
variable {α : Type} {lt : α → α → Prop} {v : Nat → α} {n k m : Nat}
/-- Each thing is not less than the one above it. -/
def HeapF (lt : α → α → Prop) (v : Nat → α) (n : Nat) : Prop := ∀ i, 0 < i → i < n → ¬ lt (v i) (v (par i))
/-- But for what stands at k. -/
structure AF (lt : α → α → Prop) (v : Nat → α) (n k : Nat) : Prop where
  out : ∀ i, 0 < i → i < n → i ≠ k → par i ≠ k → ¬ lt (v i) (v (par i))
  over : 0 < k → ∀ c, 0 < c → c < n → par c = k → ¬ lt (v c) (v (par k))
/-- But for k and what is above it. -/
structure UF (lt : α → α → Prop) (v : Nat → α) (n k : Nat) : Prop where
  out : ∀ i, 0 < i → i < n → i ≠ k → ¬ lt (v i) (v (par i))
  over : 0 < k → ∀ c, 0 < c → c < n → par c = k → ¬ lt (v c) (v (par k))
/-- But for k and what is below it. -/
structure DF (lt : α → α → Prop) (v : Nat → α) (n k : Nat) : Prop where
  out : ∀ i, 0 < i → i < n → par i ≠ k → ¬ lt (v i) (v (par i))
  over : 0 < k → ∀ c, 0 < c → c < n → par c = k → ¬ lt (v c) (v (par k))
theorem swp_l (v : Nat → α) (k j : Nat) : swp v k j k = v j := by simp [swp]
theorem swp_r (v : Nat → α) (k j : Nat) : swp v k j j = v k := by
  unfold swp
  by_cases h : j = k
  · rw [if_pos h, h]
  · rw [if_neg h, if_pos rfl]
theorem swp_o (v : Nat → α) {k j i : Nat} (h1 : i ≠ k) (h2 : i ≠ j) : swp v k j i = v i := by simp [swp, h1, h2]
theorem swp_mem (v : Nat → α) {k j n : Nat} (hk : k < n) (hj : j < n) (a : α) : (∃ i, i < n ∧ swp v k j i = a) ↔ ∃ i, i < n ∧ v i = a := by
  constructor
  · rintro ⟨i, hi, rfl⟩
    by_cases h1 : i = k
    · subst h1; exact ⟨j, hj, (swp_l v i j).symm⟩
    · by_cases h2 : i = j
      · subst h2; exact ⟨k, hk, (swp_r v k i).symm⟩
      · exact ⟨i, hi, (swp_o v h1 h2).symm⟩
  · rintro ⟨i, hi, rfl⟩
    by_cases h1 : i = k
    · subst h1; exact ⟨j, hj, swp_r v i j⟩
    · by_cases h2 : i = j
      · subst h2; exact ⟨k, hk, swp_l v k i⟩
      · exact ⟨i, hi, swp_o v h1 h2⟩
/-- The whole that a heap becomes when another thing stands at k. -/
theorem HeapF.set (tr : ∀ a b c, ¬ lt b a → ¬ lt c b → ¬ lt c a) (h : HeapF lt v n) (hk : k < n) (x : α) : AF lt (fun i => if i = k then x else v i) n k := by
  refine ⟨fun i h0 hi h1 h2 => ?_, fun h0 c hc hcn hp => ?_⟩
  · simp only [if_neg h1, if_neg h2]
    exact h i h0 hi
  · have e1 : c ≠ k := by unfold par at hp; omega
    have e2 : par k ≠ k := by unfold par; omega
    simp only [if_neg e1, if_neg e2]
    have h3 := h c hc hcn
    rw [hp] at h3
    exact tr _ _ _ (h k h0 hk) h3
theorem AF.up (tr : ∀ a b c, ¬ lt b a → ¬ lt c b → ¬ lt c a) (an : ∀ a b, lt a b → ¬ lt b a) (h : AF lt v n k) (h0 : 0 < k) (hk : k < n) (hl : lt (v k) (v (par k))) : UF lt (swp v k (par k)) n (par k) := by
  have hpk : par k < k := by unfold par; omega
  have hpn : par k < n := by omega
  refine ⟨fun i hi hin hne => ?_, fun hp c hc hcn hpc => ?_⟩
  · by_cases h1 : i = k
    · subst h1
      rw [swp_l, swp_r]
      exact an _ _ hl
    · rw [swp_o v h1 hne]
      by_cases h2 : par i = k
      · rw [h2, swp_l]
        exact h.over h0 i hi hin h2
      · by_cases h3 : par i = par k
        · rw [h3, swp_r]
          have h4 := h.out i hi hin h1 h2
          rw [h3] at h4
          exact tr _ _ _ (an _ _ hl) h4
        · rw [swp_o v h2 h3]
          exact h.out i hi hin h1 h2
  · have e1 : par (par k) ≠ k := by unfold par; omega
    have e2 : par (par k) ≠ par k := by unfold par at *; omega
    rw [swp_o v e1 e2]
    have hpp : ¬ lt (v (par k)) (v (par (par k))) := h.out (par k) hp hpn (by omega) e1
    by_cases h1 : c = k
    · subst h1
      rw [swp_l]
      exact hpp
    · have e3 : c ≠ par k := by unfold par at *; omega
      rw [swp_o v h1 e3]
      have h4 := h.out c hc hcn h1 (by rw [hpc]; omega)
      rw [hpc] at h4
      exact tr _ _ _ hpp h4
theorem UF.af (h : UF lt v n k) : AF lt v n k := ⟨fun i hi hin h1 _ => h.out i hi hin h1, h.over⟩
theorem UF.up (tr : ∀ a b c, ¬ lt b a → ¬ lt c b → ¬ lt c a) (an : ∀ a b, lt a b → ¬ lt b a) (h : UF lt v n k) (h0 : 0 < k) (hk : k < n) (hl : lt (v k) (v (par k))) : UF lt (swp v k (par k)) n (par k) := AF.up tr an h.af h0 hk hl
theorem UF.end_ (h : UF lt v n k) (he : k = 0 ∨ ¬ lt (v k) (v (par k))) : HeapF lt v n := by
  intro i hi hin
  by_cases h1 : i = k
  · subst h1
    rcases he with e | e
    · omega
    · exact e
  · exact h.out i hi hin h1
theorem AF.down (h : AF lt v n k) (he : k = 0 ∨ ¬ lt (v k) (v (par k))) : DF lt v n k := by
  refine ⟨fun i hi hin h1 => ?_, h.over⟩
  by_cases h2 : i = k
  · subst h2
    rcases he with e | e
    · omega
    · exact e
  · exact h.out i hi hin h2 h1
theorem DF.down (tr : ∀ a b c, ¬ lt b a → ¬ lt c b → ¬ lt c a) (an : ∀ a b, lt a b → ¬ lt b a) (h : DF lt v n k) (hk : k < n) (hm : m < n) (hp : par m = k) (hm0 : 0 < m) (hmin : ∀ o, 0 < o → o < n → par o = k → ¬ lt (v o) (v m)) (hl : lt (v m) (v k)) : DF lt (swp v k m) n m := by
  have hkm : k < m := by unfold par at hp; omega
  refine ⟨fun i hi hin h1 => ?_, fun _ c hc hcn hpc => ?_⟩
  · by_cases h2 : i = m
    · subst h2
      rw [swp_r, hp, swp_l]
      exact an _ _ hl
    · by_cases h3 : i = k
      · subst h3
        rw [swp_l, swp_o v (show par i ≠ i by unfold par; omega) h1]
        exact h.over hi m hm0 hm hp
      · rw [swp_o v h3 h2]
        by_cases h4 : par i = k
        · rw [h4, swp_l]
          exact hmin i hi hin h4
        · rw [swp_o v h4 h1]
          exact h.out i hi hin h4
  · have e1 : c ≠ k := by unfold par at *; omega
    have e2 : c ≠ m := by unfold par at *; omega
    rw [swp_o v e1 e2, hp, swp_l]
    have h5 := h.out c hc hcn (by rw [hpc]; omega)
    rw [hpc] at h5
    exact h5
theorem DF.end_ (h : DF lt v n k) (he : ∀ c, 0 < c → c < n → par c = k → ¬ lt (v c) (v k)) : HeapF lt v n := by
  intro i hi hin
  by_cases h1 : par i = k
  · rw [h1]; exact he i hi hin h1
  · exact h.out i hi hin h1
theorem HeapF.top (tr : ∀ a b c, ¬ lt b a → ¬ lt c b → ¬ lt c a) (an : ∀ a b, lt a b → ¬ lt b a) (h : HeapF lt v n) : ∀ i, i < n → ¬ lt (v i) (v 0) := by
  intro i
  induction i using Nat.strongRecOn with
  | _ i ih =>
    intro hi
    by_cases h0 : i = 0
    · subst h0; exact fun e => an _ _ e e
    · have hp : par i < i := by unfold par; omega
      exact tr _ _ _ (ih (par i) hp (by omega)) (h i (by omega) hi)
end
/-! The row in memory, and where each thing stands: k is the place whose thing (x) is held back. -/
def updF {α : Type} (u : Nat → α) (k : Nat) (x : α) : Nat → α := fun i => if i = k then x else u i
structure HM {α : Type} (idf : α → Int) (n k : Nat) (x : α) (u : Nat → α) (g : Int → Int) : Prop where
  at_ : ∀ i, i < n → i ≠ k → g (idf (u i)) = i
  inj : ∀ i j, i < n → j < n → idf (updF u k x i) = idf (updF u k x j) → i = j
section
variable {α : Type} {idf : α → Int} {n k j : Nat} {x : α} {u : Nat → α} {g : Int → Int}
theorem vir_step (u : Nat → α) (x : α) {k j : Nat} (hne : j ≠ k) : updF (updF u k (u j)) j x = swp (updF u k x) k j := by
  funext i
  simp only [updF, swp]
  by_cases h1 : i = j
  · subst h1
    have h2 : ¬ i = k := hne
    simp [h2]
  · by_cases h2 : i = k
    · subst h2
      have h3 : ¬ j = i := fun e => h1 e.symm
      simp [h1, h3]
    · simp [h1, h2]
theorem HM.step (h : HM idf n k x u g) (hk : k < n) (hj : j < n) (hne : j ≠ k) : HM idf n j x (updF u k (u j)) (fun z => if z = idf (u j) then (k : Int) else g z) := by
  have hu : ∀ i, i ≠ k → updF u k x i = u i := fun i hi => by unfold updF; rw [if_neg hi]
  have hd : ∀ i, i < n → i ≠ k → i ≠ j → idf (u i) ≠ idf (u j) := fun i hi h1 h2 e => h2 (h.inj i j hi hj (by rw [hu i h1, hu j hne]; exact e))
  refine ⟨fun i hi h1 => ?_, fun a b ha hb e => ?_⟩
  · by_cases h2 : i = k
    · subst h2
      have e : updF u i (u j) i = u j := by unfold updF; rw [if_pos rfl]
      simp only [e, if_true]
    · have e : updF u k (u j) i = u i := by unfold updF; rw [if_neg h2]
      simp only [e]
      rw [if_neg (hd i hi h2 h1)]
      exact h.at_ i hi h2
  · rw [vir_step u x hne] at e
    have hs : ∀ i, i < n → ∃ i', i' < n ∧ swp (updF u k x) k j i = updF u k x i' ∧ i' = (if i = k then j else if i = j then k else i) := by
      intro i hi
      by_cases h1 : i = k
      · exact ⟨j, hj, by rw [h1, swp_l], by rw [if_pos h1]⟩
      · by_cases h2 : i = j
        · exact ⟨k, hk, by rw [h2, swp_r], by rw [if_neg h1, if_pos h2]⟩
        · exact ⟨i, hi, swp_o _ h1 h2, by rw [if_neg h1, if_neg h2]⟩
    obtain ⟨a', ha', e1, e2⟩ := hs a ha
    obtain ⟨b', hb', e3, e4⟩ := hs b hb
    rw [e1, e3] at e
    have h5 := h.inj a' b' ha' hb' e
    rw [e2, e4] at h5
    split at h5 <;> (try split at h5) <;> (try split at h5) <;> (try split at h5) <;> omega
theorem HM.done (h : HM idf n k x u g) (hk : k < n) : ∀ i, i < n → (fun z => if z = idf x then (k : Int) else g z) (idf (updF u k x i)) = i := by
  intro i hi
  by_cases h1 : i = k
  · subst h1
    have e : updF u i x i = x := by unfold updF; rw [if_pos rfl]
    simp only [e, if_true]
  · have e : updF u k x i = u i := by unfold updF; rw [if_neg h1]
    have e0 : updF u k x k = x := by unfold updF; rw [if_pos rfl]
    have hne : idf (u i) ≠ idf x := fun e2 => h1 (h.inj i k hi hk (by rw [e, e0]; exact e2))
    simp only [e]
    rw [if_neg hne]
    exact h.at_ i hi h1
end
end Go.Proofs.Ytcafmodenbifhaa
