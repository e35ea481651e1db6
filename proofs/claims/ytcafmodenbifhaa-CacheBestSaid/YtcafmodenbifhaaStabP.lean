/-
  THE PLAIN LAW OF A STABLE SORT: insertion from the left, merging, and what Go's symMerge does to a row. No program in sight.
-/
set_option linter.unusedVariables false
set_option linter.unusedSimpArgs false
namespace Go.Proofs.Ytcafmodenbifhaa
section
variable {α : Type} (lt : α → α → Bool)
/-- 'is ahead of' is an order: at most one way, and what stands between is told apart from one of both. -/
structure Ord3 (lt : α → α → Bool) : Prop where
  asym : ∀ a b, lt a b = true → lt b a = false
  co : ∀ a b c, lt a c = true → lt a b = true ∨ lt b c = true
def sIns (x : α) : List α → List α
  | [] => [x]
  | y :: r => if lt x y = true then x :: y :: r else y :: sIns x r
def ssort (l : List α) : List α := l.foldl (fun o x => sIns lt x o) []
def smerge : List α → List α → List α
  | [], ys => ys
  | x :: xs, [] => x :: xs
  | x :: xs, y :: ys => if lt y x = true then y :: smerge (x :: xs) ys else x :: smerge xs (y :: ys)
termination_by xs ys => xs.length + ys.length
def Asc (l : List α) : Prop := l.Pairwise fun a b => lt b a = false
end
section
variable {α : Type} {lt : α → α → Bool}
theorem smerge_nil (l : List α) : smerge lt l [] = l := by cases l <;> simp [smerge]
theorem nil_smerge (l : List α) : smerge lt [] l = l := by simp [smerge]
theorem mem_sIns {x y : α} {l : List α} : y ∈ sIns lt x l ↔ y = x ∨ y ∈ l := by
  induction l with
  | nil => simp [sIns]
  | cons z r ih =>
    unfold sIns
    split
    · simp
    · simp only [List.mem_cons, ih]
      constructor
      · rintro (h | h | h)
        · exact .inr (.inl h)
        · exact .inl h
        · exact .inr (.inr h)
      · rintro (h | h | h)
        · exact .inr (.inl h)
        · exact .inl h
        · exact .inr (.inr h)
theorem length_sIns (x : α) (l : List α) : (sIns lt x l).length = l.length + 1 := by
  induction l with
  | nil => rfl
  | cons z r ih => unfold sIns; split <;> simp [ih]
theorem Ord3.nn (h : Ord3 lt) {a b c : α} (h1 : lt b a = false) (h2 : lt c b = false) : lt c a = false := by
  cases h3 : lt c a with
  | false => rfl
  | true =>
    rcases h.co c b a h3 with h4 | h4
    · rw [h4] at h2; cases h2
    · rw [h4] at h1; cases h1
theorem Ord3.tr (h : Ord3 lt) {a b c : α} (h1 : lt a b = true) (h2 : lt b c = true) : lt a c = true := by
  rcases h.co a c b h1 with h4 | h4
  · exact h4
  · rw [h.asym _ _ h4] at h2; cases h2
theorem asc_sIns (h : Ord3 lt) {x : α} {l : List α} (hl : Asc lt l) : Asc lt (sIns lt x l) := by
  induction l with
  | nil => simp [sIns, Asc]
  | cons z r ih =>
    unfold Asc at hl ⊢
    rw [List.pairwise_cons] at hl
    unfold sIns
    split
    · rename_i hx
      rw [List.pairwise_cons, List.pairwise_cons]
      refine ⟨fun y hy => ?_, hl⟩
      rcases List.mem_cons.1 hy with rfl | hy
      · exact h.asym _ _ hx
      · exact h.nn (h.asym _ _ hx) (hl.1 y hy)
    · rename_i hx
      rw [List.pairwise_cons]
      refine ⟨fun y hy => ?_, ih hl.2⟩
      rcases mem_sIns.1 hy with rfl | hy
      · simpa using hx
      · exact hl.1 y hy
theorem ssort_snoc (l : List α) (x : α) : ssort lt (l ++ [x]) = sIns lt x (ssort lt l) := by simp [ssort, List.foldl_append]
theorem snoc_ind {P : List α → Prop} (h0 : P []) (h1 : ∀ l x, P l → P (l ++ [x])) (l : List α) : P l := by
  have : ∀ r : List α, P r.reverse := by
    intro r
    induction r with
    | nil => exact h0
    | cons x r ih => rw [List.reverse_cons]; exact h1 _ _ ih
  simpa using this l.reverse
theorem asc_ssort (h : Ord3 lt) (l : List α) : Asc lt (ssort lt l) := by
  induction l using snoc_ind with
  | h0 => simp [ssort, Asc]
  | h1 l x ih => rw [ssort_snoc]; exact asc_sIns h ih
theorem length_ssort (l : List α) : (ssort lt l).length = l.length := by
  induction l using snoc_ind with
  | h0 => rfl
  | h1 l x ih => rw [ssort_snoc, length_sIns, ih]; simp
theorem mem_ssort {l : List α} {y : α} : y ∈ ssort lt l ↔ y ∈ l := by
  induction l using snoc_ind with
  | h0 => simp [ssort]
  | h1 l x ih => rw [ssort_snoc, mem_sIns, ih]; simp [or_comm]
theorem smerge_sIns (h : Ord3 lt) (x : α) : ∀ (n : Nat) (s t : List α), s.length + t.length ≤ n → smerge lt s (sIns lt x t) = sIns lt x (smerge lt s t) := by
  intro n
  induction n with
  | zero =>
    intro s t hn
    have hs : s = [] := List.eq_nil_of_length_eq_zero (by omega)
    subst hs
    rw [nil_smerge, nil_smerge]
  | succ n ih =>
    intro s t hn
    cases s with
    | nil => rw [nil_smerge, nil_smerge]
    | cons a s =>
      cases t with
      | nil =>
        have e := ih s [] (by simpa using hn)
        rw [smerge_nil]
        show smerge lt (a :: s) [x] = _
        rw [smerge, sIns]
        split
        · rw [smerge_nil]
        · have e2 : smerge lt s [x] = sIns lt x s := by rw [show [x] = sIns lt x [] from rfl, e, smerge_nil]
          rw [e2]
      | cons b t =>
        have e1 := ih s (b :: t) (by simp at hn ⊢; omega)
        have e2 := ih (a :: s) t (by simp at hn ⊢; omega)
        cases hxb : lt x b with
        | true =>
          have e0 : sIns lt x (b :: t) = x :: b :: t := by rw [sIns, if_pos hxb]
          rw [e0] at e1 ⊢
          rw [smerge]
          cases hxa : lt x a with
          | true =>
            rw [if_pos rfl]
            rw [smerge]
            split
            · rw [sIns, if_pos hxb]
            · rw [sIns, if_pos hxa]
          | false =>
            have hba : lt b a = false := by
              cases hb : lt b a with
              | false => rfl
              | true => rw [h.tr hxb hb] at hxa; cases hxa
            rw [if_neg (by simp), smerge, hba, if_neg (by simp), sIns, hxa, if_neg (by simp), e1]
        | false =>
          have e0 : sIns lt x (b :: t) = b :: sIns lt x t := by rw [sIns, hxb, if_neg (by simp)]
          rw [e0] at e1 ⊢
          rw [smerge, smerge]
          cases hba : lt b a with
          | true => rw [if_pos rfl, if_pos rfl, sIns, hxb, if_neg (by simp), e2]
          | false =>
            have hxa : lt x a = false := h.nn hba hxb
            rw [if_neg (by simp), if_neg (by simp), sIns, hxa, if_neg (by simp), e1]
theorem ssort_append (h : Ord3 lt) (l m : List α) : ssort lt (l ++ m) = smerge lt (ssort lt l) (ssort lt m) := by
  induction m using snoc_ind with
  | h0 => rw [List.append_nil]; exact (smerge_nil _).symm
  | h1 m x ih => rw [← List.append_assoc, ssort_snoc, ssort_snoc, ih, smerge_sIns h x _ _ _ (Nat.le_refl _)]
theorem length_smerge : ∀ (n : Nat) (s t : List α), s.length + t.length ≤ n → (smerge lt s t).length = s.length + t.length := by
  intro n
  induction n with
  | zero =>
    intro s t hn
    have hs : s = [] := List.eq_nil_of_length_eq_zero (by omega)
    subst hs
    simp [nil_smerge]
  | succ n ih =>
    intro s t hn
    cases s with
    | nil => simp [nil_smerge]
    | cons a s =>
      cases t with
      | nil => simp [smerge_nil]
      | cons b t =>
        rw [smerge]
        split
        · rw [List.length_cons, ih (a :: s) t (by simp at hn ⊢; omega)]; simp; omega
        · rw [List.length_cons, ih s (b :: t) (by simp at hn ⊢; omega)]; simp; omega
theorem smerge_pre_y (ys1 ys2 xs : List α) (h : ∀ y ∈ ys1, ∀ x ∈ xs, lt y x = true) : smerge lt xs (ys1 ++ ys2) = ys1 ++ smerge lt xs ys2 := by
  induction ys1 with
  | nil => rfl
  | cons y r ih =>
    cases xs with
    | nil => rw [nil_smerge, nil_smerge]
    | cons x xs =>
      rw [List.cons_append, smerge, if_pos (h y (by simp) x (by simp)), ih (fun y' hy' => h y' (by simp [hy']))]
      rfl
theorem smerge_pre_x (xs1 xs2 ys : List α) (h : ∀ x ∈ xs1, ∀ y ∈ ys, lt y x = false) : smerge lt (xs1 ++ xs2) ys = xs1 ++ smerge lt xs2 ys := by
  induction xs1 with
  | nil => rfl
  | cons x r ih =>
    cases ys with
    | nil => rw [smerge_nil, smerge_nil]
    | cons y ys =>
      rw [List.cons_append, smerge, h x (by simp) y (by simp), if_neg (by simp), ih (fun x' hx' => h x' (by simp [hx']))]
      rfl
/-- Two rows that are cut so that what is ahead stands in the first parts. -/
theorem smerge_split (xs2 ys2 : List α) : ∀ (n : Nat) (xs1 ys1 : List α), xs1.length + ys1.length ≤ n → (∀ y ∈ ys1, ∀ x ∈ xs2, lt y x = true) → (∀ x ∈ xs1, ∀ y ∈ ys2, lt y x = false) →
    smerge lt (xs1 ++ xs2) (ys1 ++ ys2) = smerge lt xs1 ys1 ++ smerge lt xs2 ys2 := by
  intro n
  induction n with
  | zero =>
    intro xs1 ys1 hn _ _
    have hs : xs1 = [] := List.eq_nil_of_length_eq_zero (by omega)
    have ht : ys1 = [] := List.eq_nil_of_length_eq_zero (by omega)
    subst hs ht
    simp [nil_smerge]
  | succ n ih =>
    intro xs1 ys1 hn h1 h2
    cases xs1 with
    | nil => rw [List.nil_append, nil_smerge]; exact smerge_pre_y ys1 ys2 xs2 h1
    | cons x xs1 =>
      cases ys1 with
      | nil => rw [List.nil_append, smerge_nil]; exact smerge_pre_x (x :: xs1) xs2 ys2 h2
      | cons y ys1 =>
        rw [List.cons_append, List.cons_append, smerge, smerge]
        split
        · rw [← List.cons_append, ih (x :: xs1) ys1 (by simp at hn ⊢; omega) (fun y' hy' => h1 y' (by simp [hy'])) h2]; rfl
        · rw [← List.cons_append, ih xs1 (y :: ys1) (by simp at hn ⊢; omega) h1 (fun x' hx' => h2 x' (by simp [hx']))]; rfl
theorem sIns_at {x : α} {o1 o2 : List α} (h1 : ∀ u ∈ o1, lt x u = false) (h2 : ∀ u ∈ o2, lt x u = true) : sIns lt x (o1 ++ o2) = o1 ++ x :: o2 := by
  induction o1 with
  | nil =>
    cases o2 with
    | nil => rfl
    | cons z r => rw [List.nil_append, sIns, if_pos (h2 z (by simp))]; rfl
  | cons z r ih =>
    rw [List.cons_append, sIns, h1 z (by simp), if_neg (by simp), ih (fun u hu => h1 u (by simp [hu]))]
    rfl
/-- One element ahead of a row, or behind it. -/
theorem smerge_one_left (x : α) (o1 o2 : List α) (h1 : ∀ u ∈ o1, lt u x = true) (h2 : ∀ u ∈ o2, lt u x = false) : smerge lt [x] (o1 ++ o2) = o1 ++ x :: o2 := by
  rw [smerge_pre_y o1 o2 [x] (fun y hy z hz => by rw [List.mem_singleton.1 hz]; exact h1 y hy)]
  congr 1
  cases o2 with
  | nil => rw [smerge_nil]
  | cons z r => rw [smerge, h2 z (by simp), if_neg (by simp), nil_smerge]
theorem smerge_one_right (x : α) (o1 o2 : List α) (h1 : ∀ u ∈ o1, lt x u = false) (h2 : ∀ u ∈ o2, lt x u = true) : smerge lt (o1 ++ o2) [x] = o1 ++ x :: o2 := by
  rw [smerge_pre_x o1 o2 [x] (fun u hu y hy => by rw [List.mem_singleton.1 hy]; exact h1 u hu)]
  congr 1
  cases o2 with
  | nil => rw [nil_smerge]
  | cons z r => rw [smerge, if_pos (h2 z (by simp)), smerge_nil]
/-- In a rising row what is behind one that is not ahead of x is not .. -/
theorem Asc.le {l : List α} (h : Asc lt l) {i j : Nat} {a b : α} (hij : i < j) (ha : l[i]? = some a) (hb : l[j]? = some b) : lt b a = false := by
  obtain ⟨hi, rfl⟩ := List.getElem?_eq_some_iff.1 ha
  obtain ⟨hj, rfl⟩ := List.getElem?_eq_some_iff.1 hb
  exact List.pairwise_iff_getElem.1 h i j hi hj hij
theorem Asc.le' (o : Ord3 lt) {l : List α} (h : Asc lt l) {i j : Nat} {a b : α} (hij : i ≤ j) (ha : l[i]? = some a) (hb : l[j]? = some b) : lt b a = false := by
  rcases Nat.lt_or_eq_of_le hij with h1 | rfl
  · exact h.le h1 ha hb
  · rw [ha] at hb
    cases hb
    cases h2 : lt a a with
    | false => rfl
    | true => have h3 := o.asym _ _ h2; rw [h2] at h3; cases h3
/-- Sorted block by block, blocks of k. -/
def SB (lt : α → α → Bool) (k : Nat) (o l : List α) : Prop := l.length = o.length ∧ ∀ c, (l.drop (c * k)).take k = ssort lt ((o.drop (c * k)).take k)
theorem SB.whole {k : Nat} {o l : List α} (h : SB lt k o l) (hk : o.length ≤ k) : l = ssort lt o := by
  have := h.2 0
  rw [Nat.zero_mul, List.drop_zero, List.drop_zero, List.take_of_length_le (by rw [h.1]; exact hk), List.take_of_length_le hk] at this
  exact this
/-- A pair of blocks, side by side. -/
theorem pair_blocks (o : List α) (a k : Nat) : (o.drop a).take (2 * k) = (o.drop a).take k ++ (o.drop (a + k)).take k := by
  rw [show 2 * k = k + k by omega, List.take_add, List.drop_drop]
theorem SB.pair {k : Nat} {o l : List α} (h : SB lt k o l) (ho : Ord3 lt) (c : Nat) :
    ssort lt ((o.drop (c * (2 * k))).take (2 * k)) = smerge lt ((l.drop (c * (2 * k))).take k) ((l.drop (c * (2 * k) + k)).take k) := by
  rw [pair_blocks, ssort_append ho]
  have e1 := h.2 (2 * c)
  have e2 := h.2 (2 * c + 1)
  rw [show 2 * c * k = c * (2 * k) by rw [Nat.mul_comm 2 c, Nat.mul_assoc]] at e1
  rw [show (2 * c + 1) * k = c * (2 * k) + k by rw [Nat.add_mul, Nat.one_mul, Nat.mul_comm 2 c, Nat.mul_assoc]] at e2
  rw [e1, e2]
theorem SB.asc {k : Nat} {o l : List α} (h : SB lt k o l) (ho : Ord3 lt) (c : Nat) : Asc lt ((l.drop (c * k)).take k) := by rw [h.2 c]; exact asc_ssort ho _
end
end Go.Proofs.Ytcafmodenbifhaa
