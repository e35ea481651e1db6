/-
  LAYER 30 (class): what the writing calls do to a Classes in memory.
-/
import Derived.Test.YthhnocnkicoimaaClass3
set_option linter.unusedVariables false
set_option linter.unusedSimpArgs false
namespace Go.Proofs.Ythhnocnkicoimaa
open Go.RowKit Go.Maps

/-! ### kinds of blocks -/
def isMapB (w : World) (b : Nat) : Prop := ∃ es clock, w.heap[b]? = some (.map es clock)
def isCellsB (w : World) (b : Nat) (t : TypeId) : Prop := ∃ cs fr, w.heap[b]? = some (.cells cs t fr)
theorem map_ne_cells {w : World} {a b : Nat} {t : TypeId} (h : isMapB w a) (h' : isCellsB w b t) : a ≠ b := by
  rintro rfl
  obtain ⟨_, _, e⟩ := h
  obtain ⟨_, _, e'⟩ := h'
  rw [e] at e'
  cases e'
theorem cells_ne {w : World} {a b : Nat} {t t' : TypeId} (h : isCellsB w a t) (h' : isCellsB w b t') (ht : t ≠ t') : a ≠ b := by
  rintro rfl
  obtain ⟨_, _, e⟩ := h
  obtain ⟨_, _, e'⟩ := h'
  rw [e] at e'
  cases e'
  exact ht rfl
theorem Blk.isC {w : World} {b : Nat} {t : TypeId} {cs : Array Value} (h : Blk w b t cs) : isCellsB w b t := ⟨_, _, h⟩
theorem MapSet.isM {w : World} {row : List Int} {b : Nat} (h : MapSet w (.map (some b)) row) : isMapB w b := by
  rcases h.is with ⟨h0, _⟩ | ⟨b', D, hv, ho, _⟩
  · cases h0
  · cases hv; obtain ⟨es, clock, hb, _⟩ := ho; exact ⟨_, _, hb⟩
theorem MapKV.isM {w : World} {row : List Int} {f : Int → Int} {b : Nat} (h : MapKV w (.map (some b)) row f) : isMapB w b := h.set_.isM
theorem MapRes.isM {w : World} {dom : List LRes} {f : LRes → Int} {b : Nat} (h : MapRes w (.map (some b)) dom f) : isMapB w b := by
  rcases h.is with ⟨h0, _⟩ | ⟨b', D, hv, ho, _⟩
  · cases h0
  · cases hv; obtain ⟨es, clock, hb, _⟩ := ho; exact ⟨_, _, hb⟩
theorem OwnL.isC {α : Type} {enc : α → List Value} {e : TypeId} {sz : Nat} {w : World} {base n c : Nat} {A : Option Addr} {l : List α} (h : OwnL enc e sz w base A n c l) {ad : Addr} (ha : A = some ad) : isCellsB w ad.block e := by
  subst ha
  rcases h.own.2 with ⟨hv, _⟩ | ⟨g, cap, cur, hv, hg, hh, _⟩
  · cases hv
  · cases hv; exact ⟨_, _, hh⟩

section
variable {w w' : World} {c n cap : Nat} {m : CM} {R : Nat → List Int} {gs : List (Nat × Option Nat)} {A : Option Addr} {am jm : Option Nat}
theorem CAt.class_unique (h : CAt w c m R gs A n cap am jm) {i j g : Nat} {mo mo' : Option Nat} (hi : gs[i]? = some (g, mo)) (hj : gs[j]? = some (g, mo')) : i = j := by
  have h1 : (gs.map (·.1))[i]? = some g := by rw [List.getElem?_map, hi]; rfl
  have h2 : (gs.map (·.1))[j]? = some g := by rw [List.getElem?_map, hj]; rfl
  obtain ⟨l1, e1⟩ := List.getElem?_eq_some_iff.1 h1
  obtain ⟨l2, e2⟩ := List.getElem?_eq_some_iff.1 h2
  exact (List.getElem_inj h.ndg).1 (e1.trans e2.symm)
/-- A set of one class is turned. -/
theorem CAt.turn (h : CAt w c m R gs A n cap am jm) {k g : Nat} {mo : Option Nat} (hg : gs[k]? = some (g, mo)) {row' : List Int} (ht : SetTurn g 0 (.map mo) row' w w') :
    ∃ mo', CAt w' c m (fun i => if i = k then row' else R i) (gs.set k (g, mo')) A n cap am jm ∧ Turned (cfoot c gs A am jm) (cfoot c (gs.set k (g, mo')) A am jm) w w' := by
  obtain ⟨⟨mv', hs', hblk', hnew⟩, hkept⟩ := ht
  obtain ⟨mo', rfl⟩ := hs'.shape
  obtain ⟨r, hr, hbg, hsg⟩ := h.cls k g mo hg
  have hkl : k < gs.length := (List.getElem?_eq_some_iff.1 hg).1
  have hnew' : mo' = mo ∨ ∃ b, mo' = some b ∧ w.heap.size ≤ b := hnew.imp (fun e => by injection e) (fun ⟨b, e, hb⟩ => ⟨b, by injection e, hb⟩)
  have hself : ∀ i, (gs.set k (g, mo'))[i]? = if i = k then some (g, mo') else gs[i]? := by
    intro i
    rw [List.getElem?_set]
    by_cases e : k = i
    · subst e; simp [hkl]
    · rw [if_neg e, if_neg (fun e' => e e'.symm)]
  have hmap : (gs.set k (g, mo')).map (·.1) = gs.map (·.1) := by
    apply List.ext_getElem?
    intro i
    rw [List.getElem?_map, hself, List.getElem?_map]
    by_cases e : i = k
    · subst e; rw [if_pos rfl, hg]; rfl
    · rw [if_neg e]
  have hold : ∀ b, b < w.heap.size → b ≠ g → mo ≠ some b → w'.heap[b]? = w.heap[b]? := fun b hb h1 h2 => hkept.block b hb (fun e => e.elim h1 (fun e => h2 (by injection e)))
  have hin : ∀ b, mo' = some b → mo = some b ∨ w.heap.size ≤ b := fun b e => hnew'.elim (fun e' => .inl (e' ▸ e)) (fun ⟨b', e', hb⟩ => .inr (by rw [e'] at e; cases e; exact hb))
  refine ⟨mo', ⟨?_, ?_, by rw [List.length_set]; exact h.len, ?_, ?_, ?_, by rw [hmap]; exact h.ndg, ?_, ?_, h.two, h.both, h.ok⟩, ⟨hkept.mono ?_, ?_⟩⟩
  · exact (hold c h.blk.lt (cells_ne h.blk.isC hbg.isC (by decide)) (fun e => map_ne_cells (by subst e; exact hsg.isM) h.blk.isC rfl)).trans h.blk
  · rw [hmap]
    exact h.own.step fun ad ha _ hl => hold _ hl (cells_ne (h.own.isC ha) hbg.isC (by decide)) (fun e => map_ne_cells (by subst e; exact hsg.isM) (h.own.isC ha) rfl)
  · exact h.at_.step fun b hb hl => hold b hl (map_ne_cells (by cases hb; exact h.at_.isM) hbg.isC) (fun e => by cases hb; subst e; exact (h.apart k g b hg).1 rfl)
  · exact h.jb.step fun b hb hl => hold b hl (map_ne_cells (by cases hb; exact h.jb.isM) hbg.isC) (fun e => by cases hb; subst e; exact (h.apart k g b hg).2 rfl)
  · intro i g' mo'' hi
    rw [hself] at hi
    by_cases e : i = k
    · subst e
      rw [if_pos rfl] at hi
      cases hi
      refine ⟨r, hr, ?_, by rw [if_pos rfl]; exact hs'⟩
      exact hblk' _ _ hbg
    · rw [if_neg e] at hi
      obtain ⟨r', hr', hb', hs''⟩ := h.cls i g' mo'' hi
      refine ⟨r', hr', ?_, ?_⟩
      · exact (hold g' hb'.lt (fun e' => by subst e'; exact e (h.class_unique hi hg)) (fun e' => map_ne_cells (by subst e'; exact hsg.isM) hb'.isC rfl)).trans hb'
      · rw [if_neg e]
        exact hs''.step fun b hb hl => hold b hl (map_ne_cells (by cases hb; exact hs''.isM) hbg.isC) (fun e' => by cases hb; subst e'; exact e (h.ndm i k g' g b hi hg))
  · intro i j g1 g2 b hi hj
    rw [hself] at hi hj
    by_cases ei : i = k
    · by_cases ej : j = k
      · rw [ei, ej]
      · rw [if_pos ei] at hi
        rw [if_neg ej] at hj
        cases hi
        exfalso
        rcases hin b rfl with e | e
        · subst e; exact ej (h.ndm j k g2 g b hj hg)
        · obtain ⟨_, _, _, h3⟩ := h.cls j g2 (some b) hj
          have := h3.lt b rfl
          omega
    · by_cases ej : j = k
      · rw [if_neg ei] at hi
        rw [if_pos ej] at hj
        cases hj
        exfalso
        rcases hin b rfl with e | e
        · subst e; exact ei (h.ndm i k g1 g b hi hg)
        · obtain ⟨_, _, _, h3⟩ := h.cls i g1 (some b) hi
          have := h3.lt b rfl
          omega
      · rw [if_neg ei] at hi
        rw [if_neg ej] at hj
        exact h.ndm i j g1 g2 b hi hj
  · intro i g1 b hi
    rw [hself] at hi
    by_cases ei : i = k
    · rw [if_pos ei] at hi
      cases hi
      rcases hin b rfl with e | e
      · subst e; exact h.apart k g b hg
      · exact ⟨fun e' => by have := h.at_.lt b (by rw [e']); omega, fun e' => by have := h.jb.lt b (by rw [e']); omega⟩
    · rw [if_neg ei] at hi
      exact h.apart i g1 b hi
  · rintro i hi (rfl | e)
    · exact .inr (.inr (.inr (.inr ⟨k, i, mo, hg, .inl rfl⟩)))
    · exact .inr (.inr (.inr (.inr ⟨k, g, mo, hg, .inr (by injection e)⟩)))
  · rintro i (rfl | e | e | e | ⟨j, g1, m1, hj, hh⟩)
    · exact .inl (.inl rfl)
    · exact .inl (.inr (.inl e))
    · exact .inl (.inr (.inr (.inl e)))
    · exact .inl (.inr (.inr (.inr (.inl e))))
    · rw [hself] at hj
      by_cases ej : j = k
      · rw [if_pos ej] at hj
        cases hj
        rcases hh with rfl | hh
        · exact .inl (.inr (.inr (.inr (.inr ⟨k, i, mo, hg, .inl rfl⟩))))
        · rcases hin i hh with e | e
          · exact .inl (.inr (.inr (.inr (.inr ⟨k, g, mo, hg, .inr e⟩))))
          · exact .inr e
      · rw [if_neg ej] at hj
        exact .inl (.inr (.inr (.inr (.inr ⟨j, g1, m1, hj, hh⟩))))
/-- The jobs' map is turned. -/
theorem CAt.jobs (h : CAt w c m R gs A n cap am jm) {row' : List Int} {f' : Int → Int} (hk : MapKV w' (.map jm) row' f') (hg : w.grownBy w' jm) (hok : CM.Ok ⟨m.needs, row', f'⟩) :
    CAt w' c ⟨m.needs, row', f'⟩ R gs A n cap am jm ∧ Turned (cfoot c gs A am jm) (cfoot c gs A am jm) w w' := by
  have hold : ∀ b, b < w.heap.size → jm ≠ some b → w'.heap[b]? = w.heap[b]? := fun b hb h1 => hg.block b hb (fun e => h1 e.symm)
  have hjm : ∀ b, jm = some b → isMapB w b := fun b e => by subst e; exact h.jb.isM
  refine ⟨⟨?_, ?_, h.len, ?_, hk, ?_, h.ndg, h.ndm, h.apart, h.two, h.both, hok⟩, ⟨⟨hg.os, hg.tape, hg.output, hg.size, fun i hi hn => hold i hi (fun e => hn (.inr (.inr (.inr (.inl e)))))⟩, fun i hi => .inl hi⟩⟩
  · exact (hold c h.blk.lt (fun e => map_ne_cells (hjm _ e) h.blk.isC rfl)).trans h.blk
  · exact h.own.step fun ad ha _ hl => hold _ hl (fun e => map_ne_cells (hjm _ e) (h.own.isC ha) rfl)
  · exact h.at_.step fun b hb hl => hold b hl (h.two b (by injection hb))
  · intro k g mo hi
    obtain ⟨r, h1, h2, h3⟩ := h.cls k g mo hi
    exact ⟨r, h1, (hold g h2.lt (fun e => map_ne_cells (hjm _ e) h2.isC rfl)).trans h2, h3.step fun b hb hl => hold b hl (fun e => by cases hb; exact (h.apart k g b hi).2 e)⟩
end

end Go.Proofs.Ythhnocnkicoimaa
