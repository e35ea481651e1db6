/-
  LAYER 30 (class): the plain law of ClassParts.
-/
import Derived.Test.YthhnocnkicoimaaClassB
import Derived.Test.YthhnocnkicoimaaTAct30
set_option linter.unusedVariables false
set_option linter.unusedSimpArgs false
namespace Go.Proofs.Ythhnocnkicoimaa
open Go.RowKit Go.Maps

theorem CM.add_needs (m : CM) (id : Int) (r : LRes) : (m.add id r).needs = if r ∈ m.needs then m.needs else m.needs ++ [r] := by
  show ((m.drop id).know r).needs = _
  unfold CM.know
  show (if r ∈ m.needs then m.drop id else ⟨m.needs ++ [r], (m.drop id).jrow, (m.drop id).jf⟩ : CM).needs = _
  split <;> rfl
theorem CM.add_len (m : CM) (id : Int) (r : LRes) : (m.add id r).needs.length ≤ m.needs.length + 1 := by
  rw [CM.add_needs]
  split <;> simp
theorem CM.add_jrow (m : CM) (id : Int) (r : LRes) : (m.add id r).jrow = putR (m.jrow.filter (· != id)) id := by
  show putR ((m.drop id).know r).jrow id = _
  rw [(CM.know_jrow _ _).1]
  rfl
theorem CM.add_jf (m : CM) (id : Int) (r : LRes) (q : Int) : (m.add id r).jf q = if q = id then ((m.add id r).needs.idxOf r : Int) else m.jf q := by
  show (((m.drop id).know r).put id (((m.drop id).know r).needs.idxOf r)).jf q = _
  rw [CM.put_jf]
  by_cases e : q = id
  · rw [if_pos e, if_pos e]; rfl
  · rw [if_neg e, if_neg e, (CM.know_jrow _ _).2]; rfl
theorem CM.add_at (m : CM) (id : Int) (r : LRes) : (m.add id r).needs[(m.add id r).needs.idxOf r]? = some r := by
  have hm : r ∈ (m.add id r).needs := by rw [CM.add_needs]; split <;> simp_all
  rw [List.getElem?_eq_getElem (List.idxOf_lt_length_of_mem hm)]
  exact congrArg some (List.getElem_idxOf (List.idxOf_lt_length_of_mem hm))
theorem CM.add_old (m : CM) (id : Int) (r : LRes) {k : Nat} {x : LRes} (h : m.needs[k]? = some x) : (m.add id r).needs[k]? = some x := by
  rw [CM.add_needs]
  split
  · exact h
  · rw [List.getElem?_append_left (List.getElem?_eq_some_iff.1 h).1]; exact h
def stepC (m : CM) (a : LAct30) : CM := if a.kind = 1 then (if rightR a.need = true then m.add a.id a.need else m) else m.drop a.id
def runC (l : List LAct30) : CM := l.foldl stepC CM.zero
theorem runC_snoc (l : List LAct30) (a : LAct30) : runC (l ++ [a]) = stepC (runC l) a := by simp [runC, List.foldl_append]
theorem CM.drop_len (m : CM) (id : Int) : (m.drop id).jrow.length ≤ m.jrow.length := List.length_filter_le _ _
theorem stepC_len (m : CM) (a : LAct30) : (stepC m a).needs.length ≤ m.needs.length + 1 ∧ (stepC m a).jrow.length ≤ m.jrow.length + 1 := by
  unfold stepC
  split
  · split
    · refine ⟨m.add_len _ _, ?_⟩
      rw [CM.add_jrow, length_putR]
      have := m.drop_len a.id
      unfold CM.drop at this
      simp only at this
      split <;> omega
    · exact ⟨Nat.le_succ _, Nat.le_succ _⟩
  · exact ⟨Nat.le_succ _, Nat.le_succ_of_le (m.drop_len a.id)⟩
theorem runC_len (l : List LAct30) : (runC l).needs.length ≤ l.length ∧ (runC l).jrow.length ≤ l.length := by
  have key : ∀ (l : List LAct30) (m : CM), (l.foldl stepC m).needs.length ≤ m.needs.length + l.length ∧ (l.foldl stepC m).jrow.length ≤ m.jrow.length + l.length := by
    intro l
    induction l with
    | nil => intro m; exact ⟨Nat.le_refl _, Nat.le_refl _⟩
    | cons a l ih =>
      intro m
      have h1 := ih (stepC m a)
      have h2 := stepC_len m a
      rw [List.foldl_cons, List.length_cons]
      omega
  have := key l CM.zero
  simpa [runC, CM.zero] using this

def effA (id : Int) (a : LAct30) : Bool := a.id == id && (a.kind != 1 || rightR a.need)
def lastA {α : Type} (p : α → Bool) (l : List α) : Option α := l.foldl (fun a r => if p r then some r else a) none
theorem lastA_snoc {α : Type} (p : α → Bool) (l : List α) (r : α) : lastA p (l ++ [r]) = if p r then some r else lastA p l := by simp [lastA, List.foldl_append]
structure InvC (l : List LAct30) (m : CM) : Prop where
  mem : ∀ id, id ∈ m.jrow ↔ ∃ a, lastA (effA id) l = some a ∧ a.kind = 1
  at_ : ∀ id a, lastA (effA id) l = some a → a.kind = 1 → ∃ k : Nat, m.jf id = k ∧ m.needs[k]? = some a.need
theorem InvC.start : InvC [] CM.zero := ⟨fun id => by simp [CM.zero, lastA], fun id a h => by simp [lastA] at h⟩
theorem InvC.step {l : List LAct30} {m : CM} (h : InvC l m) (a : LAct30) : InvC (l ++ [a]) (stepC m a) := by
  by_cases hk : a.kind = 1
  · by_cases hr : rightR a.need = true
    · have hs : stepC m a = m.add a.id a.need := by rw [stepC, if_pos hk, if_pos hr]
      rw [hs]
      refine ⟨fun id => ?_, fun id b hb hb1 => ?_⟩
      · rw [lastA_snoc, CM.add_jrow, mem_putR]
        by_cases e : id = a.id
        · subst e
          have : effA a.id a = true := by simp [effA, hr]
          rw [if_pos this]
          exact ⟨fun _ => ⟨a, rfl, hk⟩, fun _ => .inl rfl⟩
        · have : effA id a = false := by simp [effA]; intro e'; exact absurd e'.symm e
          rw [this]
          simp only [Bool.false_eq_true, if_false]
          rw [← h.mem id, List.mem_filter]
          simp [e]
      · rw [lastA_snoc] at hb
        by_cases e : id = a.id
        · subst e
          have : effA a.id a = true := by simp [effA, hr]
          rw [if_pos this] at hb
          cases hb
          exact ⟨_, by rw [CM.add_jf, if_pos rfl], m.add_at _ _⟩
        · have : effA id a = false := by simp [effA]; intro e'; exact absurd e'.symm e
          rw [this] at hb
          obtain ⟨k, h1, h2⟩ := h.at_ id b hb hb1
          exact ⟨k, by rw [CM.add_jf, if_neg e]; exact h1, m.add_old _ _ h2⟩
    · have hs : stepC m a = m := by rw [stepC, if_pos hk, if_neg hr]
      rw [hs]
      have : ∀ id, effA id a = false := fun id => by simp [effA, hk, hr]
      refine ⟨fun id => ?_, fun id b hb hb1 => ?_⟩
      · rw [lastA_snoc, this]; exact h.mem id
      · rw [lastA_snoc, this] at hb; exact h.at_ id b hb hb1
  · have hs : stepC m a = m.drop a.id := by rw [stepC, if_neg hk]
    rw [hs]
    refine ⟨fun id => ?_, fun id b hb hb1 => ?_⟩
    · rw [lastA_snoc]
      show id ∈ m.jrow.filter (· != a.id) ↔ _
      by_cases e : id = a.id
      · subst e
        have : effA a.id a = true := by simp [effA, hk]
        rw [if_pos this]
        constructor
        · intro hm; have := (List.mem_filter.1 hm).2; simp at this
        · rintro ⟨b, hb, hb1⟩; cases hb; exact absurd hb1 hk
      · have : effA id a = false := by simp [effA]; intro e'; exact absurd e'.symm e
        rw [this]
        simp only [Bool.false_eq_true, if_false]
        rw [← h.mem id, List.mem_filter]
        simp [e]
    · rw [lastA_snoc] at hb
      by_cases e : id = a.id
      · subst e
        have : effA a.id a = true := by simp [effA, hk]
        rw [if_pos this] at hb
        cases hb
        exact absurd hb1 hk
      · have : effA id a = false := by simp [effA]; intro e'; exact absurd e'.symm e
        rw [this] at hb
        exact h.at_ id b hb hb1
theorem InvC.run (l : List LAct30) : InvC l (runC l) := by
  have key : ∀ (l p : List LAct30) (m : CM), InvC p m → InvC (p ++ l) (l.foldl stepC m) := by
    intro l
    induction l with
    | nil => intro p m h; simpa using h
    | cons a l ih =>
      intro p m h
      have := ih (p ++ [a]) (stepC m a) (h.step a)
      simpa using this
  simpa [runC] using key l [] CM.zero InvC.start

/-! ### in how many lists a job stands -/
def cntJ (l : List Int) (x : Int) : Nat := (l.filter (fun y => y == x)).length
theorem cntJ_snoc (l : List Int) (y x : Int) : cntJ (l ++ [y]) x = cntJ l x + if y = x then 1 else 0 := by
  unfold cntJ
  rw [List.filter_append, List.length_append]
  by_cases e : y = x <;> simp [e]
theorem cntJ_nodup {l : List Int} (h : l.Nodup) (x : Int) : cntJ l x = if x ∈ l then 1 else 0 := by
  induction l with
  | nil => rfl
  | cons a l ih =>
    obtain ⟨h1, h2⟩ := List.nodup_cons.1 h
    have ih := ih h2
    unfold cntJ at ih ⊢
    by_cases e : a = x
    · subst e
      simp [h1] at ih ⊢
      intro b hb e'
      exact h1 (e' ▸ hb)
    · have e' : ¬ x = a := fun h => e h.symm
      simp [e, e'] at ih ⊢
      exact ih
def manyJ (m : CM) (L : List Int) (id : Int) : Nat := (L.map (fun x => cntJ (m.rows x) id)).sum
theorem manyJ_snoc (m : CM) (L : List Int) (x id : Int) : manyJ m (L ++ [x]) id = manyJ m L id + cntJ (m.rows x) id := by simp [manyJ]
theorem manyJ_le (m : CM) (L : List Int) (id : Int) (B : Nat) (hB : m.jrow.length ≤ B) : manyJ m L id ≤ L.length * B := by
  induction L with
  | nil => simp [manyJ]
  | cons x L ih =>
    unfold manyJ at ih ⊢
    rw [List.map_cons, List.sum_cons, List.length_cons, Nat.add_mul]
    have : cntJ (m.rows x) id ≤ B := Nat.le_trans (List.length_filter_le _ _) (Nat.le_trans (m.rows_le x) hB)
    omega
theorem live_mem (m : CM) (x : Int) : x ∈ m.live ↔ ∃ k : Nat, x = k ∧ k < m.needs.length ∧ m.rows k ≠ [] := by
  unfold CM.live CM.liveTo
  rw [List.mem_map]
  constructor
  · rintro ⟨k, hk, rfl⟩
    obtain ⟨h1, h2⟩ := List.mem_filter.1 hk
    refine ⟨k, rfl, List.mem_range.1 h1, fun e => ?_⟩
    rw [e] at h2
    simp at h2
  · rintro ⟨k, rfl, h1, h2⟩
    exact ⟨k, List.mem_filter.2 ⟨List.mem_range.2 h1, by simpa using h2⟩, rfl⟩
theorem live_nodup (m : CM) : m.live.Nodup := by
  unfold CM.live CM.liveTo
  refine List.Pairwise.map _ (fun a b h => ?_) (List.Pairwise.filter _ List.nodup_range)
  intro e
  exact h (by omega)
theorem live_len (m : CM) : m.live.length ≤ m.needs.length := by
  unfold CM.live CM.liveTo
  rw [List.length_map]
  have := List.length_filter_le (fun i : Nat => decide ((m.rows (i : Int)).length ≠ 0)) (List.range m.needs.length)
  rwa [List.length_range] at this
theorem manyJ_all (m : CM) (h : m.Ok) (hr : Rising m.jrow) (id : Int) : manyJ m m.live id = if id ∈ m.jrow then 1 else 0 := by
  have hterm : ∀ x, cntJ (m.rows x) id = if id ∈ m.jrow ∧ m.jf id = x then 1 else 0 := by
    intro x
    have hnd : (m.rows x).Nodup := rising_nodup (rising_filter hr _)
    rw [cntJ_nodup hnd]
    have : id ∈ m.rows x ↔ id ∈ m.jrow ∧ m.jf id = x := by unfold CM.rows; rw [List.mem_filter]; simp
    by_cases e : id ∈ m.jrow ∧ m.jf id = x
    · rw [if_pos e, if_pos (this.2 e)]
    · rw [if_neg e, if_neg (fun e' => e (this.1 e'))]
  by_cases hin : id ∈ m.jrow
  · rw [if_pos hin]
    obtain ⟨k, hk, hlt⟩ := h.at_ id hin
    have hmem : (k : Int) ∈ m.live := (live_mem m _).2 ⟨k, rfl, hlt, fun e => by
      have : id ∈ m.rows (k : Int) := List.mem_filter.2 ⟨hin, by simpa using hk⟩
      rw [e] at this
      cases this⟩
    have key : ∀ L : List Int, L.Nodup → manyJ m L id = if (k : Int) ∈ L then 1 else 0 := by
      intro L
      induction L with
      | nil => intro _; rfl
      | cons x L ih =>
        intro hn
        obtain ⟨h1, h2⟩ := List.nodup_cons.1 hn
        have hh : manyJ m (x :: L) id = cntJ (m.rows x) id + manyJ m L id := by simp [manyJ]
        rw [hh, ih h2, hterm x, hk]
        by_cases e : (k : Int) = x
        · subst e
          simp [hin, h1]
        · simp [hin, e]
    rw [key _ (live_nodup m), if_pos hmem]
  · rw [if_neg hin]
    have key : ∀ L : List Int, manyJ m L id = 0 := by
      intro L
      induction L with
      | nil => rfl
      | cons x L ih =>
        have hh : manyJ m (x :: L) id = cntJ (m.rows x) id + manyJ m L id := by simp [manyJ]
        rw [hh, ih, hterm x]
        simp [hin]
    exact key _

end Go.Proofs.Ythhnocnkicoimaa
