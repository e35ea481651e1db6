/-
  THE PLAIN LAW OF PlaceTurns: in which order nodes and jobs stand plays no part.
-/
import Derived.Test.YtcfninipcghbmaaPlaceE
set_option linter.unusedVariables false
set_option linter.unusedSimpArgs false
namespace Go.Proofs.Ytcfninipcghbmaa
open Go.RowKit Go.Sort

section
variable {α : Type} {lt : α → α → Bool}
/-- Of any two, the one or the other is ahead. -/
def Apart (lt : α → α → Bool) (s t : List α) : Prop := ∀ x ∈ s, ∀ y ∈ t, (lt x y = true ∧ lt y x = false) ∨ (lt y x = true ∧ lt x y = false)
theorem smerge_comm : ∀ (n : Nat) (s t : List α), s.length + t.length ≤ n → Apart lt s t → smerge lt s t = smerge lt t s := by
  intro n
  induction n with
  | zero =>
    intro s t h _
    have h1 : s = [] := List.eq_nil_of_length_eq_zero (by omega)
    have h2 : t = [] := List.eq_nil_of_length_eq_zero (by omega)
    subst h1 h2
    rfl
  | succ n ih =>
    intro s t h ha
    cases s with
    | nil => rw [nil_smerge, smerge_nil]
    | cons x xs =>
      cases t with
      | nil => rw [nil_smerge, smerge_nil]
      | cons y ys =>
        simp at h
        rw [smerge, smerge]
        rcases ha x (by simp) y (by simp) with ⟨h1, h2⟩ | ⟨h1, h2⟩
        · rw [if_neg (by rw [h2]; decide), if_pos h1]
          congr 1
          exact ih xs (y :: ys) (by simp; omega) (fun u hu v hv => ha u (by simp [hu]) v hv)
        · rw [if_pos h1, if_neg (by rw [h2]; decide)]
          congr 1
          exact ih (x :: xs) ys (by simp; omega) (fun u hu v hv => ha u hu v (by simp [hv]))
theorem ssort_turn (o : Ord3 lt) (p q : List α) (h : Apart lt p q) : ssort lt (q ++ p) = ssort lt (p ++ q) := by
  rw [ssort_append o, ssort_append o]
  exact (smerge_comm _ _ _ (Nat.le_refl _) (fun x hx y hy => h x (mem_ssort.1 hx) y (mem_ssort.1 hy))).symm
end
def JApart (p q : List LJob) : Prop := ∀ x ∈ p, ∀ y ∈ q, x.id ≠ y.id
def NApart (p q : List LNode) : Prop := ∀ x ∈ p, ∀ y ∈ q, x.id ≠ y.id
theorem job_apart {p q : List LJob} (h : JApart p q) : Apart jobLt p q := by
  intro x hx y hy
  have hne := h x hx y hy
  cases h1 : jobLt x y with
  | true => exact .inl ⟨rfl, jobOrd.asym _ _ h1⟩
  | false =>
    cases h2 : jobLt y x with
    | true => exact .inr ⟨rfl, rfl⟩
    | false =>
      have e1 : ¬ jobLt x y = true := by rw [h1]; decide
      have e2 : ¬ jobLt y x = true := by rw [h2]; decide
      rw [jobLt_iff] at e1 e2
      omega
theorem node_apart {p q : List LNode} (h : NApart p q) : Apart nodeLt p q := by
  intro x hx y hy
  have hne := h x hx y hy
  cases h1 : nodeLt x y with
  | true => exact .inl ⟨rfl, nodeOrd.asym _ _ h1⟩
  | false =>
    cases h2 : nodeLt y x with
    | true => exact .inr ⟨rfl, rfl⟩
    | false =>
      have e1 : ¬ nodeLt x y = true := by rw [h1]; decide
      have e2 : ¬ nodeLt y x = true := by rw [h2]; decide
      rw [nodeLt_iff] at e1 e2
      omega
theorem waitJ_turn {p q : List LJob} (h : JApart p q) : waitJ (q ++ p) = waitJ (p ++ q) := by
  unfold waitJ
  rw [List.filter_append, List.filter_append]
  exact ssort_turn jobOrd _ _ (job_apart (fun x hx y hy => h x (List.mem_filter.1 hx).1 y (List.mem_filter.1 hy).1))
theorem waitJ_filter (l : List LJob) : waitJ (l.filter (fun j => j.phase == 1)) = waitJ l := by
  unfold waitJ
  rw [List.filter_filter]
  simp
theorem best_turn {p q : List LNode} (h : NApart p q) (need : LRes) : bestN need (q ++ p) = bestN need (p ++ q) := by
  unfold bestN takersN
  rw [least_head, least_head, List.filter_append, List.filter_append, ssort_turn nodeOrd _ _ (node_apart (fun x hx y hy => h x (List.mem_filter.1 hx).1 y (List.mem_filter.1 hy).1))]
theorem with1_id (id : Int) (need : LRes) (n : LNode) : (with1 id need n).id = n.id := by
  unfold with1
  split
  · split <;> rfl
  · rfl
theorem napart_with {p q : List LNode} (h : NApart p q) (id : Int) (need : LRes) : NApart (withN p id need) (withN q id need) := by
  intro x hx y hy
  obtain ⟨x0, hx0, rfl⟩ := List.mem_map.1 hx
  obtain ⟨y0, hy0, rfl⟩ := List.mem_map.1 hy
  rw [with1_id, with1_id]
  exact h x0 hx0 y0 hy0
/-- The one state's nodes stand as the other's, turned. -/
def Turn (s t : PSt) : Prop := ∃ p q, s.nodes = p ++ q ∧ t.nodes = q ++ p ∧ NApart p q ∧ s.out = t.out ∧ s.left = t.left
theorem turn_step {s t : PSt} (h : Turn s t) (j : LJob) : Turn (placeStep s j) (placeStep t j) := by
  obtain ⟨p, q, h1, h2, h3, h4, h5⟩ := h
  have hb := best_turn h3 j.need
  rw [← h1, ← h2] at hb
  cases hbb : bestN j.need s.nodes with
  | none =>
    rw [placeStep, placeStep, hbb, hb, hbb]
    exact ⟨p, q, h1, h2, h3, h4, by rw [h5]⟩
  | some b =>
    rw [placeStep, placeStep, hbb, hb, hbb]
    refine ⟨withN p b.id j.need, withN q b.id j.need, ?_, ?_, napart_with h3 _ _, by simp only [h4], h5⟩
    · rw [h1]; simp [withN]
    · rw [h2]; simp [withN]
theorem turn_all (js : List LJob) : ∀ s t, Turn s t → Turn (js.foldl placeStep s) (js.foldl placeStep t) := by
  induction js with
  | nil => intro s t h; exact h
  | cons j r ih => intro s t h; exact ih _ _ (turn_step h j)
theorem placeP_turn {p q : List LNode} {u v : List LJob} (hn : NApart p q) (hj : JApart u v) : (placeP (q ++ p) (v ++ u)).out = (placeP (p ++ q) (u ++ v)).out ∧ (placeP (q ++ p) (v ++ u)).left = (placeP (p ++ q) (u ++ v)).left := by
  unfold placeP
  rw [waitJ_turn hj]
  obtain ⟨_, _, _, _, _, h4, h5⟩ := turn_all (waitJ (u ++ v)) ⟨p ++ q, [], []⟩ ⟨q ++ p, [], []⟩ ⟨p, q, rfl, rfl, hn, rfl, rfl⟩
  exact ⟨h4.symm, h5.symm⟩
theorem placeP_waiting (l : List LNode) (js : List LJob) : placeP l (js.filter (fun j => j.phase == 1)) = placeP l js := by
  unfold placeP
  rw [waitJ_filter]
theorem place_len (js : List LJob) : ∀ s, (js.foldl placeStep s).out.length + (js.foldl placeStep s).left.length = s.out.length + s.left.length + js.length := by
  induction js with
  | nil => intro s; simp
  | cons j r ih =>
    intro s
    rw [List.foldl_cons, ih]
    rw [placeStep]
    cases bestN j.need s.nodes <;> simp <;> omega
theorem placeP_len (l : List LNode) (js : List LJob) : (placeP l js).out.length + (placeP l js).left.length = (js.filter (fun j => j.phase == 1)).length := by
  unfold placeP placeAll
  rw [place_len, waitJ, length_ssort]
  simp
/-- Ids that part. -/
theorem napart_of {l : List LNode} (h : ∀ (i j : Nat) x y, j < i → l[j]? = some x → l[i]? = some y → x.id ≠ y.id) (k : Nat) : NApart (l.take k) (l.drop k) := by
  intro x hx y hy
  obtain ⟨j, hj⟩ := List.mem_iff_getElem?.1 hx
  obtain ⟨i, hi⟩ := List.mem_iff_getElem?.1 hy
  rw [List.getElem?_take] at hj
  rw [List.getElem?_drop] at hi
  split at hj
  · exact h (k + i) j x y (by omega) hj hi
  · cases hj
theorem japart_of {l : List LJob} (h : ∀ (i j : Nat) x y, j < i → l[j]? = some x → l[i]? = some y → x.id ≠ y.id) (k : Nat) : JApart (l.take k) (l.drop k) := by
  intro x hx y hy
  obtain ⟨j, hj⟩ := List.mem_iff_getElem?.1 hx
  obtain ⟨i, hi⟩ := List.mem_iff_getElem?.1 hy
  rw [List.getElem?_take] at hj
  rw [List.getElem?_drop] at hi
  split at hj
  · exact h (k + i) j x y (by omega) hj hi
  · cases hj
end Go.Proofs.Ytcfninipcghbmaa
