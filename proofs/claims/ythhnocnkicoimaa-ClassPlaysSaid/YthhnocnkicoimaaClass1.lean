/-
  LAYER 30 (class): what a Classes is in memory; what only reads.
-/
import Derived.Test.YthhnocnkicoimaaMapRes
import Derived.Test.YthhnocnkicoimaaDrain
import Derived.Test.YthhnocnkicoimaaRes2
set_option linter.unusedVariables false
set_option linter.unusedSimpArgs false
namespace Go.Proofs.Ythhnocnkicoimaa
open Go.RowKit Go.Maps

/-- The needs of the classes; the jobs, and the class of each. -/
structure CM where
  needs : List LRes
  jrow : List Int
  jf : Int → Int
def CM.rows (m : CM) (k : Int) : List Int := m.jrow.filter (fun i => m.jf i == k)
def idxR (needs : List LRes) (r : LRes) : Int := (needs.idxOf r : Int)
structure CM.Ok (m : CM) : Prop where
  nd : m.needs.Nodup
  at_ : ∀ i ∈ m.jrow, ∃ k : Nat, m.jf i = k ∧ k < m.needs.length
  small : m.needs.length ≤ 1000 ∧ m.jrow.length ≤ 1000
def encPtr (g : Nat) : List Value := [.pointer (some ⟨g, 0, none⟩)]
theorem encPtr_len (g : Nat) : (encPtr g).length = 1 := rfl
structure CAt (w : World) (c : Nat) (m : CM) (R : Nat → List Int) (gs : List (Nat × Option Nat)) (A : Option Addr) (n cap : Nat) (am jm : Option Nat) : Prop where
  blk : Blk w c 32 #[.slice A n cap, .map am, .map jm]
  own : OwnL encPtr 98 1 w 0 A n cap (gs.map (·.1))
  len : gs.length = m.needs.length
  at_ : MapRes w (.map am) m.needs (idxR m.needs)
  jb : MapKV w (.map jm) m.jrow m.jf
  cls : ∀ (k g : Nat) (mo : Option Nat), gs[k]? = some (g, mo) → ∃ r, m.needs[k]? = some r ∧ Blk w g 101 #[.map mo, .int .i64 r.a, .int .i64 r.b, .int .i64 r.c] ∧ MapSet w (.map mo) (R k)
  ndg : (gs.map (·.1)).Nodup
  ndm : ∀ (i j g h b : Nat), gs[i]? = some (g, some b) → gs[j]? = some (h, some b) → i = j
  apart : ∀ (i g b : Nat), gs[i]? = some (g, some b) → am ≠ some b ∧ jm ≠ some b
  two : ∀ b : Nat, am = some b → jm ≠ some b
  both : am = none ↔ jm = none
  ok : m.Ok
/-- The blocks of a Classes. -/
def cfoot (c : Nat) (gs : List (Nat × Option Nat)) (A : Option Addr) (am jm : Option Nat) (k : Nat) : Prop :=
  k = c ∨ (∃ ad, A = some ad ∧ ad.block = k) ∨ am = some k ∨ jm = some k ∨ ∃ (i g : Nat) (mo : Option Nat), gs[i]? = some (g, mo) ∧ (k = g ∨ mo = some k)
section
variable {w w' : World} {c n cap : Nat} {m : CM} {R : Nat → List Int} {gs : List (Nat × Option Nat)} {A : Option Addr} {am jm : Option Nat}
theorem CAt.step (h : CAt w c m R gs A n cap am jm) (hk : ∀ k, cfoot c gs A am jm k → k < w.heap.size → w'.heap[k]? = w.heap[k]?) : CAt w' c m R gs A n cap am jm where
  blk := (hk c (.inl rfl) h.blk.lt).trans h.blk
  own := h.own.step fun ad ha _ hl => hk _ (.inr (.inl ⟨ad, ha, rfl⟩)) hl
  len := h.len
  at_ := h.at_.step fun b hb hl => hk b (.inr (.inr (.inl (by injection hb)))) hl
  jb := h.jb.step fun b hb hl => hk b (.inr (.inr (.inr (.inl (by injection hb))))) hl
  cls := fun k g mo hg => by
    obtain ⟨r, h1, h2, h3⟩ := h.cls k g mo hg
    exact ⟨r, h1, (hk g (.inr (.inr (.inr (.inr ⟨k, g, mo, hg, .inl rfl⟩)))) h2.lt).trans h2, h3.step fun b hb hl => hk b (.inr (.inr (.inr (.inr ⟨k, g, mo, hg, .inr (by injection hb)⟩)))) hl⟩
  ndg := h.ndg
  ndm := h.ndm
  apart := h.apart
  two := h.two
  both := h.both
  ok := h.ok
theorem CAt.below (h : CAt w c m R gs A n cap am jm) (hb : Below w.heap.size w w') : CAt w' c m R gs A n cap am jm := h.step fun k _ hl => hb.block k hl
theorem CAt.foot_lt (h : CAt w c m R gs A n cap am jm) : ∀ k, cfoot c gs A am jm k → k < w.heap.size := by
  rintro k (rfl | ⟨ad, ha, rfl⟩ | e | e | ⟨i, g, mo, hg, rfl | e⟩)
  · exact h.blk.lt
  · exact (h.own.at_base ad ha).2
  · exact h.at_.lt k (by rw [e])
  · exact h.jb.lt k (by rw [e])
  · obtain ⟨r, _, h2, _⟩ := h.cls i k mo hg; exact h2.lt
  · obtain ⟨r, _, _, h3⟩ := h.cls i g mo hg; exact h3.lt k (by rw [e])
theorem CAt.nlen (h : CAt w c m R gs A n cap am jm) : n = m.needs.length := by
  have := h.own.len
  rw [List.length_map, h.len] at this
  exact this.symm
/-- Class k, its block and its pointer's cell. -/
theorem CAt.class_at (h : CAt w c m R gs A n cap am jm) {k : Nat} (hk : k < m.needs.length) : ∃ g mo r rb ro, gs[k]? = some (g, mo) ∧ m.needs[k]? = some r ∧ A = some ⟨rb, ro, none⟩ ∧ w.cell? ⟨rb, ro + k, none⟩ = some (.pointer (some ⟨g, 0, none⟩)) ∧ Blk w g 101 #[.map mo, .int .i64 r.a, .int .i64 r.b, .int .i64 r.c] ∧ MapSet w (.map mo) (R k) := by
  have hkg : k < gs.length := by rw [h.len]; exact hk
  obtain ⟨g, mo, hg⟩ : ∃ g mo, gs[k]? = some (g, mo) := ⟨gs[k].1, gs[k].2, by rw [List.getElem?_eq_getElem hkg]⟩
  obtain ⟨r, h1, h2, h3⟩ := h.cls k g mo hg
  obtain ⟨rb, ro, x, hA, hx, _, hc⟩ := Rd.at_ (h.own.rd encPtr_len) (k := k) (by have := h.nlen; omega)
  rw [List.getElem?_map, hg] at hx
  cases hx
  have hc0 := hc 0 _ rfl
  refine ⟨g, mo, r, rb, ro, hg, h1, hA, ?_, h2, h3⟩
  simpa using hc0
end

theorem cNew (w : World) : Calls Try.prog 8 #[] w fun e w' => e = .returned (.pointer (some ⟨w.heap.size, 0, none⟩)) ∧ w' = w.alloc (.cells #[.slice none 0 0, .map none, .map none] 32) := by
  go_enter Try.func8, Try.ntmps8
  go_wp2
  go_ret
  exact ⟨rfl, rfl⟩
def CM.zero : CM := ⟨[], [], fun _ => 0⟩
theorem CAt.made (w : World) : CAt (w.alloc (.cells #[.slice none 0 0, .map none, .map none] 32)) w.heap.size CM.zero (fun k => CM.zero.rows k) [] none 0 0 none none where
  blk := Blk.new w _ _
  own := OwnL.nil _ _
  len := rfl
  at_ := MapRes.nil _ _
  jb := MapKV.nil _ _
  cls := by simp
  ndg := by simp
  ndm := by simp
  apart := by simp
  two := by simp
  both := by simp
  ok := ⟨by simp [CM.zero], by simp [CM.zero], by simp [CM.zero]⟩

section
variable {w : World} {c n cap : Nat} {m : CM} {R : Nat → List Int} {gs : List (Nat × Option Nat)} {A : Option Addr} {am jm : Option Nat}
/-- (*Classes).Class -/
theorem cClass (h : CAt w c m R gs A n cap am jm) (id : Int) (hid : wf64 id) : Calls Try.prog 15 #[.pointer (some ⟨c, 0, none⟩), .int .i64 id] w fun e w' => e = .returned (.tuple #[.int .i64 (if id ∈ m.jrow then m.jf id else 0), .bool (decide (id ∈ m.jrow))]) ∧ w = w' := by
  have hc2 := h.blk.cell 2
  simp only [List.getElem?_toArray, List.getElem?_cons_zero, List.getElem?_cons_succ] at hc2
  have hl := h.jb.look hid
  clear h
  obtain ⟨z, hz⟩ : ∃ z, (if id ∈ m.jrow then m.jf id else 0) = z := ⟨_, rfl⟩
  rw [hz] at hl ⊢
  clear hz
  go_enter Try.func15, Try.ntmps15
  go_wp2
  go_ret2
  exact ⟨rfl, rfl⟩
theorem cClass_nil (id : Int) (w : World) : Calls Try.prog 15 #[.pointer none, .int .i64 id] w fun e w' => e = .returned (.tuple #[.int .i64 0, .bool false]) ∧ w = w' := by
  go_enter Try.func15, Try.ntmps15
  go_wp2
  go_ret2
  exact ⟨rfl, rfl⟩
set_option maxRecDepth 100000 in
/-- (*Classes).Of -/
theorem cOf (h : CAt w c m R gs A n cap am jm) (r : LRes) (hr : wfRes r) : Calls Try.prog 14 #[.pointer (some ⟨c, 0, none⟩), aggRes r] w fun e w' => e = .returned (.tuple #[.int .i64 (if r ∈ m.needs then idxR m.needs r else 0), .bool (decide (r ∈ m.needs))]) ∧ Below w.heap.size w w' := by
  have hb := Blk.new w 24 (boxRes r)
  have hc1 := (h.blk.alloc (.cells (boxRes r) 24)).cell 1
  have hl := fun k => (((h.at_.alloc (.cells (boxRes r) 24)).below (w' := (w.alloc (.cells (boxRes r) 24)).drewN k) (below_dN k))).look hr
  have hB : Below w.heap.size w (w.alloc (.cells (boxRes r) 24)) := (Below.refl _ _).alloc (Nat.le_refl _) _
  have c0 := hb.cell 0
  have c1 := hb.cell 1
  have c2 := hb.cell 2
  simp only [List.getElem?_toArray, List.getElem?_cons_zero, List.getElem?_cons_succ] at c0 c1 c2 hc1
  clear h hb
  obtain ⟨z, hz⟩ : ∃ z, (if r ∈ m.needs then idxR m.needs r else 0) = z := ⟨_, rfl⟩
  rw [hz] at hl ⊢
  clear hz
  go_enter Try.func14, Try.ntmps14
  go_wp2
  generalize w.alloc (.cells (boxRes r) 24) = w1 at hc1 hl hB c0 c1 c2 ⊢
  go_quiet (fail)
  go_wp2
  go_ret2
  exact ⟨rfl, hB.trans (below_dN _)⟩
theorem cOf_nil (r : LRes) (w : World) : Calls Try.prog 14 #[.pointer none, aggRes r] w fun e w' => e = .returned (.tuple #[.int .i64 0, .bool false]) ∧ Below w.heap.size w w' := by
  go_enter Try.func14, Try.ntmps14
  go_wp2
  go_ret2
  exact ⟨rfl, (Below.refl _ _).alloc (Nat.le_refl _) _⟩
end

end Go.Proofs.Ythhnocnkicoimaa
