/-
  LAYER 32 (cache): plain law: what a shelf holds, what of it may be old; the best node.
-/
import Derived.Test.YtcafmodenbifhaaHeapQ
import Derived.Test.YtcafmodenbifhaaPlace4
set_option linter.unusedVariables false
set_option linter.unusedSimpArgs false
namespace Go.Proofs.Ytcafmodenbifhaa

def idsN (L : List LNode) : List Int := L.map LNode.id
def nodeOf (L : List LNode) (id : Int) : LNode := (L.find? (fun n => n.id == id)).getD zeroN
def insN : List LNode → LNode → List LNode
  | [], n => [n]
  | m :: r, n => if m.id < n.id then m :: insN r n else if m.id = n.id then n :: r else n :: m :: r
theorem mem_ids_insN (L : List LNode) (n : LNode) (z : Int) : z ∈ idsN (insN L n) ↔ z = n.id ∨ z ∈ idsN L := by
  induction L with
  | nil => simp [insN, idsN]
  | cons m r ih =>
    unfold insN
    split
    · show z ∈ m.id :: idsN (insN r n) ↔ _
      rw [List.mem_cons, ih]
      show _ ↔ z = n.id ∨ z ∈ m.id :: idsN r
      rw [List.mem_cons]
      constructor
      · rintro (h | h | h)
        · exact .inr (.inl h)
        · exact .inl h
        · exact .inr (.inr h)
      · rintro (h | h | h)
        · exact .inr (.inl h)
        · exact .inl h
        · exact .inr (.inr h)
    · split
      · rename_i h1 h2
        show z ∈ n.id :: idsN r ↔ z = n.id ∨ z ∈ m.id :: idsN r
        rw [List.mem_cons, List.mem_cons, h2]
        constructor
        · rintro (h | h)
          · exact .inl h
          · exact .inr (.inr h)
        · rintro (h | h | h)
          · exact .inl h
          · exact .inl h
          · exact .inr h
      · show z ∈ n.id :: idsN (m :: r) ↔ _
        rw [List.mem_cons]
theorem rising_insN {L : List LNode} (h : Rising (idsN L)) (n : LNode) : Rising (idsN (insN L n)) := by
  induction L with
  | nil => simp [insN, idsN, Rising]
  | cons m r ih =>
    have h' : Rising (m.id :: idsN r) := h
    obtain ⟨h1, h2⟩ := List.pairwise_cons.1 h'
    unfold insN
    split
    · rename_i hlt
      show Rising (m.id :: idsN (insN r n))
      refine List.pairwise_cons.2 ⟨fun z hz => ?_, ih h2⟩
      rcases (mem_ids_insN r n z).1 hz with rfl | hz
      · exact hlt
      · exact h1 z hz
    · split
      · rename_i _ he
        show Rising (n.id :: idsN r)
        exact List.pairwise_cons.2 ⟨fun z hz => by rw [← he]; exact h1 z hz, h2⟩
      · rename_i hn he
        show Rising (n.id :: m.id :: idsN r)
        refine List.pairwise_cons.2 ⟨fun z hz => ?_, h'⟩
        rcases List.mem_cons.1 hz with rfl | hz
        · omega
        · have := h1 z hz; omega
theorem idsN_insN {L : List LNode} (h : Rising (idsN L)) (n : LNode) : idsN (insN L n) = putR (idsN L) n.id :=
  rising_ext (rising_insN h n) (rising_putR h n.id) fun z => by rw [mem_ids_insN, mem_putR]
theorem mem_insN {L : List LNode} (h : Rising (idsN L)) (n m : LNode) : m ∈ insN L n ↔ m = n ∨ (m ∈ L ∧ m.id ≠ n.id) := by
  induction L with
  | nil => simp [insN]
  | cons a r ih =>
    have h' : Rising (a.id :: idsN r) := h
    obtain ⟨h1, h2⟩ := List.pairwise_cons.1 h'
    have hr : ∀ x ∈ r, a.id < x.id := fun x hx => h1 x.id (List.mem_map.2 ⟨x, hx, rfl⟩)
    unfold insN
    split
    · rename_i hlt
      rw [List.mem_cons, ih h2, List.mem_cons]
      constructor
      · rintro (rfl | rfl | ⟨h3, h4⟩)
        · exact .inr ⟨.inl rfl, by omega⟩
        · exact .inl rfl
        · exact .inr ⟨.inr h3, h4⟩
      · rintro (rfl | ⟨rfl | h3, h4⟩)
        · exact .inr (.inl rfl)
        · exact .inl rfl
        · exact .inr (.inr ⟨h3, h4⟩)
    · split
      · rename_i _ he
        rw [List.mem_cons, List.mem_cons]
        constructor
        · rintro (rfl | h3)
          · exact .inl rfl
          · exact .inr ⟨.inr h3, by have := hr m h3; omega⟩
        · rintro (rfl | ⟨rfl | h3, h4⟩)
          · exact .inl rfl
          · exact absurd he h4
          · exact .inr h3
      · rename_i hn he
        rw [List.mem_cons, List.mem_cons]
        constructor
        · rintro (rfl | rfl | h3)
          · exact .inl rfl
          · exact .inr ⟨.inl rfl, he⟩
          · exact .inr ⟨.inr h3, by have := hr m h3; omega⟩
        · rintro (rfl | ⟨h3, h4⟩)
          · exact .inl rfl
          · exact .inr h3
theorem node_uniq {L : List LNode} (h : Rising (idsN L)) {m n : LNode} (hm : m ∈ L) (hn : n ∈ L) (e : m.id = n.id) : m = n := by
  induction L with
  | nil => cases hm
  | cons a r ih =>
    have h' : Rising (a.id :: idsN r) := h
    obtain ⟨h1, h2⟩ := List.pairwise_cons.1 h'
    have hr : ∀ x ∈ r, a.id < x.id := fun x hx => h1 x.id (List.mem_map.2 ⟨x, hx, rfl⟩)
    rcases List.mem_cons.1 hm with e1 | hm2
    · rcases List.mem_cons.1 hn with e2 | hn2
      · rw [e1, e2]
      · have := hr n hn2; rw [e1] at e; omega
    · rcases List.mem_cons.1 hn with e2 | hn2
      · have := hr m hm2; rw [e2] at e; omega
      · exact ih h2 hm2 hn2
theorem nodeOf_mem {L : List LNode} (h : Rising (idsN L)) {n : LNode} (hn : n ∈ L) : nodeOf L n.id = n := by
  unfold nodeOf
  cases hf : L.find? (fun m => m.id == n.id) with
  | none =>
    have := List.find?_eq_none.1 hf n hn
    simp at this
  | some m =>
    have h1 := List.find?_some hf
    have h2 := List.mem_of_find?_eq_some hf
    simp at h1
    exact node_uniq h h2 hn h1
theorem nodeOf_in {L : List LNode} {id : Int} (h : id ∈ idsN L) : nodeOf L id ∈ L ∧ (nodeOf L id).id = id := by
  obtain ⟨m, hm, e⟩ := List.mem_map.1 h
  unfold nodeOf
  cases hf : L.find? (fun m => m.id == id) with
  | none =>
    have := List.find?_eq_none.1 hf m hm
    simp [e] at this
  | some x =>
    have h1 := List.find?_some hf
    have h2 := List.mem_of_find?_eq_some hf
    simp at h1
    exact ⟨h2, h1⟩
theorem nodeOf_out {L : List LNode} {id : Int} (h : id ∉ idsN L) : nodeOf L id = zeroN := by
  unfold nodeOf
  cases hf : L.find? (fun m => m.id == id) with
  | none => rfl
  | some x =>
    have h1 := List.find?_some hf
    have h2 := List.mem_of_find?_eq_some hf
    simp at h1
    exact absurd (List.mem_map.2 ⟨x, h2, h1⟩) h
theorem nodeOf_insN {L : List LNode} (h : Rising (idsN L)) (n : LNode) (k : Int) : nodeOf (insN L n) k = if k = n.id then n else nodeOf L k := by
  have hr := rising_insN h n
  by_cases e : k = n.id
  · rw [if_pos e, e]
    exact nodeOf_mem hr ((mem_insN h n n).2 (.inl rfl))
  · rw [if_neg e]
    by_cases hk : k ∈ idsN L
    · obtain ⟨h1, h2⟩ := nodeOf_in hk
      have h3 : nodeOf L k ∈ insN L n := (mem_insN h n _).2 (.inr ⟨h1, by rw [h2]; exact e⟩)
      have h4 := nodeOf_mem hr h3
      rw [h2] at h4
      exact h4
    · rw [nodeOf_out hk]
      exact nodeOf_out (fun hm => ((mem_ids_insN L n k).1 hm).elim e hk)
theorem length_insN (L : List LNode) (n : LNode) : (insN L n).length ≤ L.length + 1 := by
  induction L with
  | nil => simp [insN]
  | cons m r ih =>
    unfold insN
    split
    · simp only [List.length_cons]; omega
    · split
      · simp
      · simp
/-- By its parts: k is the place ahead of which all ids are less. -/
theorem insN_split {L : List LNode} (n : LNode) (k : Nat) (hk : k ≤ L.length) (h1 : ∀ m ∈ L.take k, m.id < n.id) (h2 : ∀ m, L[k]? = some m → ¬ m.id < n.id) :
    insN L n = L.take k ++ [n] ++ L.drop (if (∃ m, L[k]? = some m ∧ m.id = n.id) then k + 1 else k) := by
  induction L generalizing k with
  | nil => simp [insN]
  | cons a r ih =>
    cases k with
    | zero =>
      have h3 := h2 a rfl
      unfold insN
      rw [if_neg h3]
      by_cases e : a.id = n.id
      · rw [if_pos e, if_pos ⟨a, rfl, e⟩]; simp
      · rw [if_neg e, if_neg (by rintro ⟨m, hm, e2⟩; simp at hm; exact e (by rw [hm]; exact e2))]; simp
    | succ k =>
      have h3 := h1 a (by simp)
      unfold insN
      rw [if_pos h3, ih k (by simpa using hk) (fun m hm => h1 m (by simp [hm])) (fun m hm => h2 m (by simpa using hm))]
      simp only [List.getElem?_cons_succ, List.take_succ_cons, List.cons_append]
      by_cases e : ∃ m, r[k]? = some m ∧ m.id = n.id
      · rw [if_pos e, if_pos e]; simp
      · rw [if_neg e, if_neg e]; simp

/-! ### the best one -/
theorem best_is {need : LRes} {L : List LNode} {x : LNode} (hx : x ∈ L) (ht : takesN x need = true) (hmin : ∀ y ∈ L, takesN y need = true → y ≠ x → nodeLt x y = true) : bestN need L = some x := by
  unfold bestN
  rw [least_head]
  have hxm : x ∈ ssort nodeLt (takersN need L) := mem_ssort.2 (List.mem_filter.2 ⟨hx, ht⟩)
  have ha := asc_ssort nodeOrd (takersN need L)
  cases hs : ssort nodeLt (takersN need L) with
  | nil => rw [hs] at hxm; cases hxm
  | cons b r =>
    rw [hs] at hxm ha
    show some b = some x
    congr 1
    rcases List.mem_cons.1 hxm with h | h
    · exact h.symm
    · obtain ⟨h1, _⟩ := List.pairwise_cons.1 ha
      by_cases e : b = x
      · exact e
      · have hb : b ∈ takersN need L := mem_ssort.1 (by rw [hs]; exact List.mem_cons_self)
        obtain ⟨hb1, hb2⟩ := List.mem_filter.1 hb
        have := hmin b hb1 hb2 e
        rw [h1 x h] at this
        cases this
theorem best_no {need : LRes} {L : List LNode} (h : ∀ y ∈ L, takesN y need = false) : bestN need L = none := by
  have : takersN need L = [] := List.filter_eq_nil_iff.2 fun a ha => by rw [h a ha]; simp
  unfold bestN
  rw [this]
  rfl

/-! ### shelves -/
def keyT (n : LNode) : LTh := ⟨n.id, n.load, n.id, 0⟩
/-- What a shelf of r holds, the nodes L being known; what is told of those of st may be old. -/
structure ShOk (L : List LNode) (st : Int → Prop) (r : LRes) (T : LTh → Prop) : Prop where
  sub : ∀ a, T a → a.id ∈ idsN L
  now : ∀ n ∈ L, ¬ st n.id → ∀ a, a.id = n.id → (T a ↔ (takesN n r = true ∧ a = keyT n))
def shPut (T : LTh → Prop) (n : LNode) (r : LRes) : LTh → Prop := fun a => (T a ∧ a.id ≠ n.id) ∨ (takesN n r = true ∧ a = keyT n)
section
variable {L : List LNode} {st st' : Int → Prop} {r : LRes} {T : LTh → Prop}
theorem ShOk.hold (h : ShOk L st r T) (hL : Rising (idsN L)) {n : LNode} (hn : n ∈ L) : ShOk L (fun z => st z ∧ z ≠ n.id) r (shPut T n r) := by
  refine ⟨fun a ha => ?_, fun m hm hst a ha => ?_⟩
  · rcases ha with ⟨ha, _⟩ | ⟨_, rfl⟩
    · exact h.sub a ha
    · exact List.mem_map.2 ⟨n, hn, rfl⟩
  · by_cases e : m.id = n.id
    · obtain rfl := node_uniq hL hm hn e
      constructor
      · rintro (⟨_, h2⟩ | h2)
        · exact absurd ha h2
        · exact h2
      · exact fun h2 => .inr h2
    · have hs : ¬ st m.id := fun h2 => hst ⟨h2, e⟩
      have hne : a.id ≠ n.id := by rw [ha]; exact e
      constructor
      · rintro (⟨h2, _⟩ | ⟨_, rfl⟩)
        · exact (h.now m hm hs a ha).1 h2
        · exact absurd rfl hne
      · exact fun h2 => .inl ⟨(h.now m hm hs a ha).2 h2, hne⟩
theorem ShOk.ins (h : ShOk L st r T) (hL : Rising (idsN L)) (n : LNode) : ShOk (insN L n) (fun z => st z ∨ z = n.id) r T := by
  refine ⟨fun a ha => (mem_ids_insN L n _).2 (.inr (h.sub a ha)), fun m hm hst a ha => ?_⟩
  rcases (mem_insN hL n m).1 hm with rfl | ⟨hm, _⟩
  · exact absurd (.inr rfl) hst
  · exact h.now m hm (fun h2 => hst (.inl h2)) a ha
theorem ShOk.new (L : List LNode) (r : LRes) : ShOk L (fun _ => True) r (fun _ => False) := ⟨fun a h => h.elim, fun n hn h => absurd trivial h⟩
theorem ShOk.mono (h : ShOk L st r T) (hs : ∀ n ∈ L, st n.id → st' n.id) : ShOk L st' r T := ⟨h.sub, fun n hn h2 => h.now n hn (fun h3 => h2 (hs n hn h3))⟩
theorem ShOk.congr {T' : LTh → Prop} (h : ShOk L st r T) (hT : ∀ a, T' a ↔ T a) : ShOk L st r T' := ⟨fun a ha => h.sub a ((hT a).1 ha), fun n hn h2 a ha => (hT a).trans (h.now n hn h2 a ha)⟩
/-- The least thing of a shelf, none old. -/
theorem ShOk.top (h : ShOk L st r T) (hL : Rising (idsN L)) (hst : ∀ n ∈ L, ¬ st n.id) {a : LTh} (ha : T a) (hmin : ∀ b, T b → ¬ ltP b a) : bestN r L = some (nodeOf L a.id) := by
  obtain ⟨hn, hid⟩ := nodeOf_in (h.sub a ha)
  obtain ⟨ht, hk⟩ := (h.now _ hn (hst _ hn) a hid.symm).1 ha
  refine best_is hn ht fun y hy hty hne => ?_
  have hyT : T (keyT y) := (h.now y hy (hst y hy) (keyT y) rfl).2 ⟨hty, rfl⟩
  have h2 := hmin _ hyT
  have hidne : y.id ≠ (nodeOf L a.id).id := fun e => hne (node_uniq hL hy hn e)
  rw [hk] at h2
  unfold ltP at h2
  rw [ltTh_iff] at h2
  rw [nodeLt_iff]
  unfold lexTh keyT at h2
  simp only at h2
  omega
theorem ShOk.none_ (h : ShOk L st r T) (hst : ∀ n ∈ L, ¬ st n.id) (hT : ∀ a, ¬ T a) : bestN r L = none := by
  refine best_no fun y hy => ?_
  by_cases e : takesN y r = true
  · exact absurd ((h.now y hy (hst y hy) (keyT y) rfl).2 ⟨e, rfl⟩) (hT _)
  · simpa using e
end
end Go.Proofs.Ytcafmodenbifhaa
