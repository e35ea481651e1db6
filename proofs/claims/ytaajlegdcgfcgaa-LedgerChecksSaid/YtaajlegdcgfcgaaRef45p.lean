/-
  LAYER 45: the plain law of Check: the state of the four rules against the document's 'why'.
-/
import Derived.Test.YtaajlegdcgfcgaaLedger3
set_option linter.unusedVariables false
set_option linter.unusedSimpArgs false
namespace Go.Proofs.Ytaajlegdcgfcgaa
open Go.RowKit Go.Maps

/-- The last one of which p holds. -/
def lastBy {α : Type} (p : α → Bool) (l : List α) : Option α := l.foldl (fun a r => if p r then some r else a) none
theorem lastBy_snoc {α : Type} (p : α → Bool) (l : List α) (r : α) : lastBy p (l ++ [r]) = if p r then some r else lastBy p l := by simp [lastBy, List.foldl_append]
theorem lastBy_none {α : Type} (p : α → Bool) (l : List α) (h : ∀ y ∈ l, p y = false) : lastBy p l = none := by
  have key : ∀ (l : List α) (a : Option α), (∀ y ∈ l, p y = false) → l.foldl (fun a r => if p r then some r else a) a = a := by
    intro l
    induction l with
    | nil => intro a _; rfl
    | cons x l ih =>
      intro a hx
      rw [List.foldl_cons, if_neg (by rw [hx x List.mem_cons_self]; simp)]
      exact ih a fun y hy => hx y (List.mem_cons_of_mem _ hy)
  exact key l none h
theorem lastBy_hit {α : Type} (p : α → Bool) (l : List α) (k : Nat) (r : α) (hk : l[k]? = some r) (hp : p r = true) (h : ∀ y ∈ l.drop (k + 1), p y = false) : lastBy p l = some r := by
  have key : ∀ (l : List α) (a : Option α), (∀ y ∈ l, p y = false) → l.foldl (fun a r => if p r then some r else a) a = a := by
    intro l
    induction l with
    | nil => intro a _; rfl
    | cons x l ih =>
      intro a hx
      rw [List.foldl_cons, if_neg (by rw [hx x List.mem_cons_self]; simp)]
      exact ih a fun y hy => hx y (List.mem_cons_of_mem _ hy)
  have hs := List.take_append_drop (k + 1) l
  unfold lastBy
  rw [← hs, List.foldl_append, key _ _ h, take_succ_of l k r hk, List.foldl_append]
  simp [hp]

def isLead (r : LRow) : Bool := r.kind == 1
def isHeed (q : Int) (r : LRow) : Bool := r.kind == 2 && r.place == q
def ledE (p : List LRow) : Int := ((lastBy isLead p).map (·.epoch)).getD 0
/-- What the last heed of a place is. -/
def heedE (p : List LRow) (q : Int) : Option Int := (lastBy (isHeed q) p).map (·.epoch)
def holdStep (j : Int) (row : List Int) (r : LRow) : List Int :=
  let row1 := if (r.job == j && r.kind == 4) = true then putR row r.place else row
  if (r.job == j && r.kind == 5) = true then row1.filter (· != r.place) else row1
def holdersL (j : Int) (p : List LRow) : List Int := p.foldl (holdStep j) []
theorem holdersL_snoc (j : Int) (p : List LRow) (r : LRow) : holdersL j (p ++ [r]) = holdStep j (holdersL j p) r := by simp [holdersL, List.foldl_append]
/-- The document's 'why'. -/
def whyE (p : List LRow) (r : LRow) : Int :=
  if r.kind < 1 ∨ 5 < r.kind then 5
  else if (∃ t, p.getLast? = some t ∧ r.tick < t.tick) then 10
  else if r.kind = 1 then (if r.epoch = wrap64 (ledE p + 1) then 0 else 11)
  else if r.kind = 2 then (if (∃ n, heedE p r.place = some n ∧ r.epoch < n) ∨ ledE p < r.epoch then 11 else 0)
  else if r.kind = 4 then (if holdersL r.job p = [] then 0 else 12)
  else if r.kind = 5 then (if r.place ∈ holdersL r.job p then 0 else 7)
  else 0
instance (p : List LRow) (r : LRow) : Decidable (∃ t, p.getLast? = some t ∧ r.tick < t.tick) := by
  cases h : p.getLast? with
  | none => exact .isFalse (by rintro ⟨t, e, _⟩; cases e)
  | some t => exact if h' : r.tick < t.tick then .isTrue ⟨t, rfl, h'⟩ else .isFalse (by rintro ⟨_, e, h2⟩; cases e; exact h' h2)
def checkR : Nat → List LRow → List LRow → Nat × Int
  | _, _, [] => (0, 0)
  | i, p, r :: l => if whyE p r = 0 then checkR (i + 1) (p ++ [r]) l else (i, whyE p r)

structure CInv (p : List LRow) (s : LSt) : Prop where
  has : s.some_ = true ↔ p ≠ []
  last : ∀ t, p.getLast? = some t → s.last = t.tick
  led : s.led = ledE p
  heed : ∀ q, heedE p q = if q ∈ s.hr then some (s.hf q) else none
  hold : ∀ j, holdersL j p = if j ∈ s.dr then [s.df j] else []
theorem CInv.start : CInv [] LSt.zero := ⟨by simp [LSt.zero], by simp, rfl, fun q => by simp [LSt.zero, heedE, lastBy], fun j => by simp [LSt.zero, holdersL]⟩
theorem CInv.ask {p : List LRow} {s : LSt} (h : CInv p s) (r : LRow) : asksE 4 0 s r = whyE p r := by
  by_cases h1 : r.kind < 1 ∨ 5 < r.kind
  · simp [asksE, askE, kindsE, whyE, h1]
  · have ht : (s.some_ = true ∧ r.tick < s.last) ↔ (∃ t, p.getLast? = some t ∧ r.tick < t.tick) := by
      constructor
      · rintro ⟨a, b⟩
        have hne := h.has.1 a
        exact ⟨p.getLast hne, List.getLast?_eq_some_getLast hne, by rw [← h.last _ (List.getLast?_eq_some_getLast hne)]; exact b⟩
      · rintro ⟨t, a, b⟩
        exact ⟨h.has.2 (by rintro rfl; simp at a), by rw [h.last t a]; exact b⟩
    by_cases h2 : (∃ t, p.getLast? = some t ∧ r.tick < t.tick)
    · have h2' := ht.2 h2
      simp only [asksE, askE, askS, kindsE, if_neg h1, ticksE, if_pos h2', whyE, if_pos h2]
      simp
    · have h2' : ¬ (s.some_ = true ∧ r.tick < s.last) := fun e => h2 (ht.1 e)
      have e1 : asksE 4 0 s r = asksE 2 2 (askS 1 s r) r := by
        simp only [asksE, askE, askS, kindsE, if_neg h1, ticksE, if_neg h2', if_pos]
      rw [e1]
      simp only [whyE, if_neg h1, if_neg h2]
      have hled : (askS 1 s r).led = ledE p := h.led
      by_cases k1 : r.kind = 1
      · have : holdsE (askS 2 (askS 1 s r) r).dr (askS 2 (askS 1 s r) r).df r = 0 := by simp [holdsE, k1]
        simp only [asksE, askE, epochsE, if_pos k1, hled]
        by_cases k2 : r.epoch = wrap64 (ledE p + 1)
        · simp only [if_pos k2, if_pos, this]
        · simp only [if_neg k2]
          simp
      · by_cases k2 : r.kind = 2
        · have h0 : holdsE (askS 2 (askS 1 s r) r).dr (askS 2 (askS 1 s r) r).df r = 0 := by simp [holdsE, k2]
          have hh := h.heed r.place
          have hcond : ((r.place ∈ (askS 1 s r).hr ∧ r.epoch < (askS 1 s r).hf r.place) ∨ (askS 1 s r).led < r.epoch) ↔ ((∃ n, heedE p r.place = some n ∧ r.epoch < n) ∨ ledE p < r.epoch) := by
            show ((r.place ∈ s.hr ∧ r.epoch < s.hf r.place) ∨ s.led < r.epoch) ↔ _
            rw [hh, h.led]
            by_cases hm : r.place ∈ s.hr
            · simp [hm]
            · simp [hm]
          simp only [asksE, askE, epochsE, if_neg k1, if_pos k2]
          by_cases c : (∃ n, heedE p r.place = some n ∧ r.epoch < n) ∨ ledE p < r.epoch
          · rw [if_pos (hcond.2 c), if_pos c]
            simp
          · rw [if_neg (fun e => c (hcond.1 e)), if_neg c]
            simp only [if_pos, h0]
        · have e2 : askE 2 (askS 1 s r) r = 0 := by simp [askE, epochsE, k1, k2]
          have hd : (askS 2 (askS 1 s r) r).dr = s.dr := rfl
          have hf : (askS 2 (askS 1 s r) r).df = s.df := rfl
          have e3 : asksE 2 2 (askS 1 s r) r = holdsE s.dr s.df r := by
            simp only [asksE, e2, if_pos]
            show (if holdsE s.dr s.df r = 0 then 0 else holdsE s.dr s.df r) = _
            split
            · rename_i e; exact e.symm
            · rfl
          rw [e3, if_neg k1, if_neg k2, holdsE, h.hold r.job]
          by_cases k4 : r.kind = 4
          · simp only [if_pos k4]
            by_cases hm : r.job ∈ s.dr <;> simp [hm]
          · simp only [if_neg k4]
            by_cases k5 : r.kind = 5
            · simp only [if_pos k5]
              by_cases hm : r.job ∈ s.dr
              · simp only [hm, true_and, if_true, List.mem_singleton]
                by_cases e : s.df r.job = r.place
                · rw [if_pos e, if_pos e.symm]
                · rw [if_neg e, if_neg (fun e' => e e'.symm)]
              · simp [hm]
            · simp only [if_neg k5]
theorem CInv.step {p : List LRow} {s : LSt} (h : CInv p s) (r : LRow) (h0 : whyE p r = 0) : CInv (p ++ [r]) (asksS 4 0 s r) := by
  have e : asksS 4 0 s r = { last := r.tick, some_ := true, led := epochsL s.led r, hr := epochsR s.hr r, hf := epochsF s.hf r, dr := holdsR s.dr r, df := holdsF s.df r } := rfl
  rw [e]
  refine ⟨by simp, by simp, ?_, fun q => ?_, fun j => ?_⟩
  · show epochsL s.led r = ledE (p ++ [r])
    unfold ledE epochsL
    rw [lastBy_snoc]
    by_cases k : r.kind = 1
    · simp [isLead, k]
    · have := h.led
      unfold ledE at this
      simp [isLead, k, this]
  · show heedE (p ++ [r]) q = if q ∈ epochsR s.hr r then some (epochsF s.hf r q) else none
    have hh := h.heed q
    unfold heedE at hh ⊢
    rw [lastBy_snoc]
    by_cases k : r.kind = 2
    · by_cases hq : r.place = q
      · subst hq
        simp [isHeed, k, epochsR, epochsF, mem_putR]
      · have hq' : ¬ q = r.place := fun e => hq e.symm
        simp only [isHeed, k, epochsR, epochsF, if_pos, mem_putR, hq', false_or, if_false]
        rw [← hh]
        simp [hq]
    · simp only [isHeed, k, epochsR, epochsF, if_false]
      rw [← hh]
      simp [k]
  · show holdersL j (p ++ [r]) = if j ∈ holdsR s.dr r then [holdsF s.df r j] else []
    have hh := h.hold j
    rw [holdersL_snoc]
    by_cases k4 : r.kind = 4
    · have hw : holdersL r.job p = [] := by
        unfold whyE at h0
        have n1 : ¬ (r.kind < 1 ∨ 5 < r.kind) := by omega
        have n2 : ¬ r.kind = 1 := by omega
        have n3 : ¬ r.kind = 2 := by omega
        rw [if_neg n1] at h0
        by_cases ht : (∃ t, p.getLast? = some t ∧ r.tick < t.tick)
        · rw [if_pos ht] at h0
          exact absurd h0 (by decide)
        · rw [if_neg ht, if_neg n2, if_neg n3, if_pos k4] at h0
          by_cases hw : holdersL r.job p = []
          · exact hw
          · rw [if_neg hw] at h0
            exact absurd h0 (by decide)
      by_cases hj : r.job = j
      · subst hj
        have m : r.job ∈ holdsR s.dr r := by rw [holdsR, if_pos k4]; exact (mem_putR _ _ _).2 (.inl rfl)
        rw [if_pos m, hw]
        simp [holdStep, k4, holdsF, putR]
      · have hj' : ¬ j = r.job := fun e => hj e.symm
        simp only [holdsR, holdsF, k4, if_pos, mem_putR, hj', false_or, if_false]
        rw [← hh]
        simp [holdStep, hj]
    · by_cases k5 : r.kind = 5
      · have hw : r.place ∈ holdersL r.job p := by
          unfold whyE at h0
          have n1 : ¬ (r.kind < 1 ∨ 5 < r.kind) := by omega
          have n2 : ¬ r.kind = 1 := by omega
          have n3 : ¬ r.kind = 2 := by omega
          rw [if_neg n1] at h0
          by_cases ht : (∃ t, p.getLast? = some t ∧ r.tick < t.tick)
          · rw [if_pos ht] at h0
            exact absurd h0 (by decide)
          · rw [if_neg ht, if_neg n2, if_neg n3, if_neg k4, if_pos k5] at h0
            by_cases hw : r.place ∈ holdersL r.job p
            · exact hw
            · rw [if_neg hw] at h0
              exact absurd h0 (by decide)
        by_cases hj : r.job = j
        · subst hj
          rw [hh] at hw ⊢
          by_cases hm : r.job ∈ s.dr
          · simp only [hm, if_true, List.mem_singleton] at hw ⊢
            simp [holdStep, k4, k5, holdsR, hw]
          · simp [hm] at hw
        · have hj' : ¬ j = r.job := fun e => hj e.symm
          have hm : (j ∈ s.dr.filter (· != r.job)) ↔ j ∈ s.dr := by simp [List.mem_filter, hj']
          simp only [holdsR, holdsF, if_neg k4, if_pos k5]
          have hm' : (if j ∈ s.dr.filter (· != r.job) then [s.df j] else ([] : List Int)) = if j ∈ s.dr then [s.df j] else [] := by
            by_cases e : j ∈ s.dr
            · rw [if_pos (hm.2 e), if_pos e]
            · rw [if_neg (fun e' => e (hm.1 e')), if_neg e]
          rw [hm', ← hh]
          simp [holdStep, hj]
      · simp only [holdsR, holdsF, if_neg k4, if_neg k5]
        rw [← hh]
        simp [holdStep, k4, k5]
/-- The program's Check is the document's. -/
theorem checkL_eq (l : List LRow) : ∀ (i : Nat) (p : List LRow) (s : LSt), CInv p s → checkL i s l = checkR i p l := by
  induction l with
  | nil => intro i p s _; rfl
  | cons r l ih =>
    intro i p s h
    simp only [checkL, checkR, h.ask r]
    split
    · rename_i h0
      exact ih _ _ _ (h.step r h0)
    · rfl

end Go.Proofs.Ytaajlegdcgfcgaa
