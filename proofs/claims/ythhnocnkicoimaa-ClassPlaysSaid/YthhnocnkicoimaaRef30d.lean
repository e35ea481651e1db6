/-
  LAYER 30: the reference: Add, of what may not be; the plain law of ClassPlays.
-/
import Derived.Test.YthhnocnkicoimaaRef30c
import Derived.Test.YthhnocnkicoimaaClassP
set_option linter.unusedVariables false
set_option linter.unusedSimpArgs false
namespace Go.Proofs.Ythhnocnkicoimaa
open Go.RowKit Go.Maps

section
variable {w : World} {N J : Option Addr} {nn nc jn jc : Nat}
set_option maxRecDepth 100000 in
set_option maxHeartbeats 1600000 in
theorem rAdd_no (id : Int) (r : LRes) (hr : rightR r = false) :
    Calls Try.prog 9 #[aggC N nn nc J jn jc, .int .i64 id, aggRes r] w fun e w' => e = .returned (.tuple #[aggC N nn nc J jn jc, .int .i64 (-1)]) ∧ Below w.heap.size w w' := by
  have hs1 : (w.alloc (.cells #[.slice N nn nc, .slice J jn jc] 36)).heap.size = w.heap.size + 1 := by simp
  have hs2 : ((w.alloc (.cells #[.slice N nn nc, .slice J jn jc] 36)).alloc (.cells (boxRes r) 24)).heap.size = w.heap.size + 1 + 1 := by simp
  have hb := ((Blk.new w 36 #[.slice N nn nc, .slice J jn jc]).alloc (.cells (boxRes r) 24)).alloc (.cells #[.slice none 0 0, .slice none 0 0] 36)
  have hz := Blk.new ((w.alloc (.cells #[.slice N nn nc, .slice J jn jc] 36)).alloc (.cells (boxRes r) 24)) 36 #[.slice none 0 0, .slice none 0 0]
  rw [hs2] at hz
  have hB : Below w.heap.size w (((w.alloc (.cells #[.slice N nn nc, .slice J jn jc] 36)).alloc (.cells (boxRes r) 24)).alloc (.cells #[.slice none 0 0, .slice none 0 0] 36)) := (((Below.refl _ _).alloc (Nat.le_refl _) _).alloc (by simp) _).alloc (by simp; omega) _
  have HBL := Lib.hid (And.intro hb hz)
  have HB := Lib.hid hB
  clear hb hz hB hs1 hs2
  go_enter Try.func9, Try.ntmps9
  go_wp2_with fail
  generalize ((w.alloc (.cells #[.slice N nn nc, .slice J jn jc] 36)).alloc (.cells (boxRes r) 24)).alloc (.cells #[.slice none 0 0, .slice none 0 0] 36) = w1 at HBL HB ⊢
  have hcx := refRight_t r w1
  rw [hr] at hcx
  (with_reducible refine hcx.mono ?_)
  clear hcx
  rintro e w2 ⟨rfl, hw2⟩
  have hB2 : Below w1.heap.size w1 w2 := by rw [hw2]; exact (Below.refl _ _).alloc (Nat.le_refl _) _
  have hb2 := HBL.out.1.below hB2 HBL.out.1.lt
  have hz2 := HBL.out.2.below hB2 HBL.out.2.lt
  have hBw := HB.out.trans (hB2.mono HB.out.size)
  have hZ : Blk ((w2.setCell ⟨w.heap.size + 1 + 1, 0, none⟩ (.slice N nn nc)).setCell ⟨w.heap.size + 1 + 1, 1, none⟩ (.slice J jn jc)) (w.heap.size + 1 + 1) 36 #[.slice N nn nc, .slice J jn jc] := (hz2.set_ 0 _).set_ 1 _
  have hBZ : Below w.heap.size w ((w2.setCell ⟨w.heap.size + 1 + 1, 0, none⟩ (.slice N nn nc)).setCell ⟨w.heap.size + 1 + 1, 1, none⟩ (.slice J jn jc)) := (hBw.setCell (p := ⟨w.heap.size + 1 + 1, 0, none⟩) (show w.heap.size ≤ w.heap.size + 1 + 1 by omega) _).setCell (p := ⟨w.heap.size + 1 + 1, 1, none⟩) (show w.heap.size ≤ w.heap.size + 1 + 1 by omega) _
  have c0 := hb2.cell 0
  have c1 := hb2.cell 1
  have f1 := hz2.frozen
  have z0 := hz2.cell 0
  have z1 := hz2.cell 1
  have l0 := hz2.lt
  simp only [List.getElem?_toArray, List.getElem?_cons_zero, List.getElem?_cons_succ] at c0 c1 z0 z1
  have HZ := Lib.hid (And.intro hZ hBZ)
  clear hw2 hB2 HBL HB hb2 hz2 hBw hZ hBZ
  go_wp2
  obtain ⟨hZ, hBZ⟩ := HZ.out
  generalize (w2.setCell ⟨w.heap.size + 1 + 1, 0, none⟩ (.slice N nn nc)).setCell ⟨w.heap.size + 1 + 1, 1, none⟩ (.slice J jn jc) = W3 at hZ hBZ ⊢
  have y0 := hZ.cell 0
  have y1 := hZ.cell 1
  simp only [List.getElem?_toArray] at y0 y1
  exact bodyPost_ret (v := .tuple #[aggC N nn nc J jn jc, .int .i64 (-1)]) (by simp [results, Try.results9, go_sem, y0, y1]) rfl ⟨rfl, hBZ⟩
end

/-- The document's jobs are the model's. -/
structure RelJ (m : CM) (jobs : List LMember) : Prop where
  nd : (jobs.map (·.id)).Nodup
  to_ : ∀ j ∈ jobs, j.id ∈ m.jrow ∧ m.jf j.id = j.cls
  from_ : ∀ id ∈ m.jrow, ∃ j ∈ jobs, j.id = id
theorem RelJ.start : RelJ CM.zero [] := ⟨by simp, by simp, by simp [CM.zero]⟩
theorem RelJ.drop {m : CM} {jobs : List LMember} (h : RelJ m jobs) (id : Int) : RelJ (m.drop id) (dropJ jobs id) := by
  refine ⟨?_, fun j hj => ?_, fun i hi => ?_⟩
  · exact h.nd.sublist (List.filter_sublist.map _)
  · obtain ⟨h1, h2⟩ := List.mem_filter.1 hj
    obtain ⟨h3, h4⟩ := h.to_ j h1
    exact ⟨List.mem_filter.2 ⟨h3, h2⟩, h4⟩
  · obtain ⟨h1, h2⟩ := List.mem_filter.1 hi
    obtain ⟨j, hj, rfl⟩ := h.from_ i h1
    exact ⟨j, List.mem_filter.2 ⟨hj, h2⟩, rfl⟩
theorem RelJ.add {m : CM} {jobs : List LMember} (h : RelJ m jobs) (id : Int) (r : LRes) : RelJ (m.add id r) (addJ jobs id m.needs r) := by
  have hd := h.drop id
  have hn : addN m.needs r = (m.add id r).needs := by rw [CM.add_needs]; rfl
  refine ⟨?_, fun j hj => ?_, fun i hi => ?_⟩
  · unfold addJ
    rw [List.map_append, List.nodup_append]
    refine ⟨hd.nd, by simp, fun x hx y hy => ?_⟩
    simp at hy
    subst hy
    obtain ⟨j, hj, rfl⟩ := List.mem_map.1 hx
    have := (List.mem_filter.1 hj).2
    simpa using this
  · rw [CM.add_jrow]
    rcases List.mem_append.1 hj with hj | hj
    · obtain ⟨h1, h2⟩ := hd.to_ j hj
      have h3 := (List.mem_filter.1 hj).2
      have h4 : j.id ≠ id := by simpa using h3
      exact ⟨(mem_putR _ _ _).2 (.inr h1), by rw [CM.add_jf, if_neg h4]; exact h2⟩
    · rw [List.mem_singleton.1 hj]
      exact ⟨(mem_putR _ _ _).2 (.inl rfl), by rw [CM.add_jf, if_pos rfl, hn]⟩
  · rw [CM.add_jrow] at hi
    rcases (mem_putR _ _ _).1 hi with rfl | hi
    · exact ⟨⟨i, _⟩, List.mem_append_right _ (List.mem_singleton.2 rfl), rfl⟩
    · obtain ⟨j, hj, e⟩ := hd.from_ i hi
      exact ⟨j, List.mem_append_left _ hj, e⟩
theorem RelJ.cls {m : CM} {jobs : List LMember} (h : RelJ m jobs) (id : Int) : rClassE jobs id = if id ∈ m.jrow then m.jf id else -1 := by
  unfold rClassE
  cases hf : jobs.find? (fun j => j.id == id) with
  | none =>
    rw [List.find?_eq_none] at hf
    have : id ∉ m.jrow := fun hm => by
      obtain ⟨j, hj, e⟩ := h.from_ id hm
      exact hf j hj (by simp [e])
    rw [if_neg this]; rfl
  | some j =>
    have h1 := List.mem_of_find?_eq_some hf
    have h2 := List.find?_some hf
    have h3 : j.id = id := by simpa using h2
    obtain ⟨h4, h5⟩ := h.to_ j h1
    rw [h3] at h4 h5
    rw [if_pos h4, h5]; rfl
theorem RelJ.jobs {m : CM} {jobs : List LMember} (h : RelJ m jobs) (hr : Rising m.jrow) (k : Int) : markAll [] ((jobs.filter (fun j => j.cls == k)).map (·.id)) = m.rows k := by
  refine rising_ext (rising_markAll List.Pairwise.nil _) (rising_filter hr _) fun x => ?_
  rw [mem_markAll]
  show _ ↔ x ∈ m.jrow.filter _
  rw [List.mem_filter, List.mem_map]
  constructor
  · rintro (⟨j, hj, rfl⟩ | h0)
    · obtain ⟨h1, h2⟩ := List.mem_filter.1 hj
      obtain ⟨h3, h4⟩ := h.to_ j h1
      exact ⟨h3, by rw [h4]; exact h2⟩
    · cases h0
  · rintro ⟨h1, h2⟩
    obtain ⟨j, hj, rfl⟩ := h.from_ x h1
    obtain ⟨h3, h4⟩ := h.to_ j hj
    exact .inl ⟨j, List.mem_filter.2 ⟨hj, by rw [← h4]; exact h2⟩, rfl⟩
theorem live_rising (m : CM) : Rising m.live := by
  unfold CM.live CM.liveTo
  refine List.Pairwise.map _ (fun a b h => ?_) (List.Pairwise.filter _ List.pairwise_lt_range)
  omega
theorem RelJ.live {m : CM} {jobs : List LMember} (h : RelJ m jobs) (hok : m.Ok) : markAll [] (jobs.map (·.cls)) = m.live := by
  refine rising_ext (rising_markAll List.Pairwise.nil _) (live_rising m) fun x => ?_
  rw [mem_markAll, live_mem, List.mem_map]
  constructor
  · rintro (⟨j, hj, rfl⟩ | h0)
    · obtain ⟨h1, h2⟩ := h.to_ j hj
      obtain ⟨k, hk, hlt⟩ := hok.at_ _ h1
      refine ⟨k, by rw [← h2, hk], hlt, fun e => ?_⟩
      have : j.id ∈ m.rows (k : Int) := List.mem_filter.2 ⟨h1, by simpa using hk⟩
      rw [e] at this
      cases this
    · cases h0
  · rintro ⟨k, rfl, hlt, hne⟩
    obtain ⟨i, hi⟩ := List.exists_mem_of_ne_nil _ hne
    obtain ⟨h1, h2⟩ := List.mem_filter.1 hi
    obtain ⟨j, hj, rfl⟩ := h.from_ i h1
    exact .inl ⟨j, hj, by rw [← (h.to_ j hj).2]; simpa using h2⟩

end Go.Proofs.Ythhnocnkicoimaa
