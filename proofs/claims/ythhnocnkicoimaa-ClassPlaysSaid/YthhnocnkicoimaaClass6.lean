/-
  LAYER 30 (class): known.
-/
import Derived.Test.YthhnocnkicoimaaClass5
import Derived.Deep.AppendLies
set_option linter.unusedVariables false
set_option linter.unusedSimpArgs false
namespace Go.Proofs.Ythhnocnkicoimaa
open Go.RowKit Go.Maps

def CM.know (m : CM) (r : LRes) : CM := if r ∈ m.needs then m else ⟨m.needs ++ [r], m.jrow, m.jf⟩
theorem CM.rows_end (m : CM) (h : m.Ok) : m.rows (m.needs.length : Int) = [] := by
  unfold CM.rows
  rw [List.filter_eq_nil_iff]
  intro i hi e
  obtain ⟨k, hk, hlt⟩ := h.at_ i hi
  have : m.jf i = (m.needs.length : Int) := by simpa using e
  omega
theorem idxR_old {l : List LRes} {r x : LRes} (h : x ∈ l) : idxR (l ++ [r]) x = idxR l x := by
  unfold idxR
  rw [List.idxOf_append, if_pos h]
theorem idxR_new {l : List LRes} {r : LRes} (h : r ∉ l) : idxR (l ++ [r]) r = l.length := by
  unfold idxR
  rw [List.idxOf_append, if_neg h]
  simp

section
variable {w W : World} {c n cap cap' a j g : Nat} {m : CM} {R : Nat → List Int} {gs : List (Nat × Option Nat)} {A A' : Option Addr} {r : LRes}
theorem CAt.grow (h : CAt w c m R gs A n cap (some a) (some j)) (hr : r ∉ m.needs) (hsm : m.needs.length < 1000) (hR : R m.needs.length = [])
    (hAt : MapRes W (.map (some a)) (m.needs ++ [r]) (idxR (m.needs ++ [r]))) (hblk : Blk W c 32 #[.slice A' (n + 1) cap', .map (some a), .map (some j)])
    (hown : OwnL encPtr 98 1 W 0 A' (n + 1) cap' (gs.map (·.1) ++ [g])) (hcls : Blk W g 101 #[.map none, .int .i64 r.a, .int .i64 r.b, .int .i64 r.c]) (hg : w.heap.size ≤ g)
    (hA' : ∀ ad, A' = some ad → A = some ad ∨ w.heap.size ≤ ad.block) (hos : W.os = w.os) (htp : W.tape = w.tape) (hou : W.output = w.output) (hsz : w.heap.size ≤ W.heap.size)
    (hold : ∀ b, b < w.heap.size → b ≠ c → b ≠ a → (∀ ad, A = some ad → b ≠ ad.block) → W.heap[b]? = w.heap[b]?) :
    CAt W c ⟨m.needs ++ [r], m.jrow, m.jf⟩ R (gs ++ [(g, none)]) A' (n + 1) cap' (some a) (some j) ∧ Turned (cfoot c gs A (some a) (some j)) (cfoot c (gs ++ [(g, none)]) A' (some a) (some j)) w W := by
  have hgl := h.len
  have hat : ∀ i, (gs ++ [(g, none)])[i]? = if i < gs.length then gs[i]? else if i = gs.length then some (g, none) else none := by
    intro i
    by_cases h1 : i < gs.length
    · rw [if_pos h1, List.getElem?_append_left h1]
    · rw [if_neg h1, List.getElem?_append_right (by omega)]
      by_cases h2 : i = gs.length
      · subst h2; simp
      · rw [if_neg h2, List.getElem?_eq_none (by simp; omega)]
  have hsp : ∀ i g' mo, (gs ++ [(g, none)])[i]? = some (g', mo) → gs[i]? = some (g', mo) ∨ (i = gs.length ∧ g' = g ∧ mo = none) := by
    intro i g' mo hi
    rw [hat] at hi
    by_cases h1 : i < gs.length
    · rw [if_pos h1] at hi; exact .inl hi
    · rw [if_neg h1] at hi
      by_cases h2 : i = gs.length
      · rw [if_pos h2] at hi; cases hi; exact .inr ⟨h2, rfl, rfl⟩
      · rw [if_neg h2] at hi; cases hi
  refine ⟨⟨hblk, by rw [List.map_append]; exact hown, by simp [hgl], hAt, ?_, ?_, ?_, ?_, ?_, h.two, h.both, ?_⟩, ⟨⟨hos, htp, hou, hsz, fun i hi hn => hold i hi (fun e => hn (.inl e)) (fun e => hn (.inr (.inr (.inl (by rw [e]))))) (fun ad ha e => hn (.inr (.inl ⟨ad, ha, e.symm⟩)))⟩, ?_⟩⟩
  · exact h.jb.step fun b hb hl => hold b hl (map_ne_cells (by cases hb; exact h.jb.isM) h.blk.isC) (fun e => by cases hb; subst e; exact h.two _ rfl rfl) (fun ad ha => map_ne_cells (by cases hb; exact h.jb.isM) (h.own.isC ha))
  · intro k g' mo hk
    rcases hsp k g' mo hk with hk | ⟨rfl, rfl, rfl⟩
    · obtain ⟨r', h1, h2, h3⟩ := h.cls k g' mo hk
      have hkl : k < m.needs.length := (List.getElem?_eq_some_iff.1 h1).1
      refine ⟨r', by rw [List.getElem?_append_left hkl]; exact h1, ?_, ?_⟩
      · exact (hold g' h2.lt (cells_ne h2.isC h.blk.isC (by decide)) (fun e => map_ne_cells (by subst e; exact h.at_.isM) h2.isC rfl) (fun ad ha => (cells_ne (h.own.isC ha) h2.isC (by decide)).symm)).trans h2
      · exact h3.step fun b hb hl => hold b hl (map_ne_cells (by cases hb; exact h3.isM) h.blk.isC) (fun e => by cases hb; subst e; exact (h.apart k g' _ hk).1 rfl) (fun ad ha => map_ne_cells (by cases hb; exact h3.isM) (h.own.isC ha))
    · refine ⟨r, by rw [hgl]; simp, hcls, ?_⟩
      rw [hgl, hR]
      exact MapSet.nil W
  · rw [List.map_append, List.nodup_append]
    refine ⟨h.ndg, by simp, fun x hx y hy => ?_⟩
    simp at hy
    subst hy
    obtain ⟨⟨g', mo⟩, hm, rfl⟩ := List.mem_map.1 hx
    obtain ⟨k, hk⟩ := List.mem_iff_getElem?.1 hm
    obtain ⟨_, _, h2, _⟩ := h.cls k g' mo hk
    have := h2.lt
    show g' ≠ y
    omega
  · intro i k g1 g2 b hi hk
    rcases hsp i g1 _ hi with hi | ⟨_, _, e⟩
    · rcases hsp k g2 _ hk with hk | ⟨_, _, e⟩
      · exact h.ndm i k g1 g2 b hi hk
      · cases e
    · cases e
  · intro i g1 b hi
    rcases hsp i g1 _ hi with hi | ⟨_, _, e⟩
    · exact h.apart i g1 b hi
    · cases e
  · refine ⟨List.nodup_append.2 ⟨h.ok.nd, by simp, fun x hx y hy => by rw [List.mem_singleton.1 hy]; exact fun e => hr (e ▸ hx)⟩, fun i hi => ?_, by simp; omega, h.ok.small.2⟩
    obtain ⟨k, hk, hlt⟩ := h.ok.at_ i hi
    exact ⟨k, hk, by simp; omega⟩
  · rintro i (rfl | ⟨ad, ha, rfl⟩ | e | e | ⟨k, g1, m1, hk, hh⟩)
    · exact .inl (.inl rfl)
    · exact (hA' ad ha).imp (fun e => .inr (.inl ⟨ad, e, rfl⟩)) id
    · exact .inl (.inr (.inr (.inl e)))
    · exact .inl (.inr (.inr (.inr (.inl e))))
    · rcases hsp k g1 m1 hk with hk | ⟨_, rfl, rfl⟩
      · exact .inl (.inr (.inr (.inr (.inr ⟨k, g1, m1, hk, hh⟩))))
      · rcases hh with rfl | hh
        · exact .inr hg
        · cases hh
end

end Go.Proofs.Ythhnocnkicoimaa
