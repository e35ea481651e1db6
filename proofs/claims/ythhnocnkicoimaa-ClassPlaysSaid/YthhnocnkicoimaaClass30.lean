/-
  LAYER 30 (class): two Classes and the document's, side by side in memory.
-/
import Derived.Test.YthhnocnkicoimaaRef30d
set_option linter.unusedVariables false
set_option linter.unusedSimpArgs false
namespace Go.Proofs.Ythhnocnkicoimaa
open Go.RowKit Go.Maps

/-- The blocks of a Classes are maps, or cells of three types. -/
theorem CO.kind {w : World} {c : Nat} {m : CM} {S : Nat → Prop} (h : CO w c m S) {k : Nat} (hk : S k) {t : TypeId} (ht : isCellsB w k t) : t = 32 ∨ t = 98 ∨ t = 101 := by
  obtain ⟨gs, A, n, cap, am, jm, hA, rfl⟩ := h
  have one : ∀ {t' : TypeId}, isCellsB w k t' → t = t' := by
    rintro t' ⟨_, _, e⟩
    obtain ⟨_, _, e'⟩ := ht
    rw [e] at e'
    cases e'
    rfl
  have no : isMapB w k → False := fun hm => map_ne_cells hm ht rfl
  rcases hk with rfl | ⟨ad, ha, rfl⟩ | e | e | ⟨i, g, mo, hg, rfl | e⟩
  · exact .inl (one hA.blk.isC)
  · exact .inr (.inl (one (hA.own.isC ha)))
  · subst e; exact (no hA.at_.isM).elim
  · subst e; exact (no hA.jb.isM).elim
  · obtain ⟨r, _, h2, _⟩ := hA.cls i k mo hg; exact .inr (.inr (one h2.isC))
  · subst e; obtain ⟨r, _, _, h3⟩ := hA.cls i g _ hg; exact (no h3.isM).elim
theorem CO.not_blk {w : World} {c : Nat} {m : CM} {S : Nat → Prop} (h : CO w c m S) {b : Nat} {t : TypeId} {cs : Array Value} (hb : Blk w b t cs) (h1 : t ≠ 32) (h2 : t ≠ 98) (h3 : t ≠ 101) : ¬ S b := fun hk => by
  rcases h.kind hk hb.isC with e | e | e
  · exact h1 e
  · exact h2 e
  · exact h3 e

structure Q30 (w0 wr : World) (c z bx : Nat) (mc mz : CM) (S Z : Nat → Prop) (needs : List LRes) (jobs : List LMember) (N : Option Addr) (nn nc : Nat) (J : Option Addr) (jn jc : Nat) : Prop where
  c_ : CO wr c mc S
  z_ : CO wr z mz Z
  dis : ∀ k, S k → ¬ Z k
  sb : ∀ k, S k → w0.heap.size ≤ k
  zb : ∀ k, Z k → w0.heap.size ≤ k
  xb : w0.heap.size ≤ bx
  blk : Blk wr bx 36 #[.slice N nn nc, .slice J jn jc]
  rn : Rd encRes 3 wr N nn needs
  rj : Rd encMember 2 wr J jn jobs
  nS : ∀ ad, N = some ad → ¬ S ad.block ∧ ¬ Z ad.block ∧ ad.block < wr.heap.size ∧ ad.block ≠ bx
  jS : ∀ ad, J = some ad → ¬ S ad.block ∧ ¬ Z ad.block ∧ ad.block < wr.heap.size ∧ ad.block ≠ bx
  bel : Below w0.heap.size w0 wr
section
variable {w0 wr w' : World} {c z bx : Nat} {mc mz m' : CM} {S Z S' Z' : Nat → Prop} {needs needs' : List LRes} {jobs jobs' : List LMember} {N N' : Option Addr} {nn nc nn' nc' : Nat} {J J' : Option Addr} {jn jc jn' jc' : Nat}
theorem Q30.xS (h : Q30 w0 wr c z bx mc mz S Z needs jobs N nn nc J jn jc) : ¬ S bx := h.c_.not_blk h.blk (by decide) (by decide) (by decide)
theorem Q30.xZ (h : Q30 w0 wr c z bx mc mz S Z needs jobs N nn nc J jn jc) : ¬ Z bx := h.z_.not_blk h.blk (by decide) (by decide) (by decide)
theorem Q30.below (h : Q30 w0 wr c z bx mc mz S Z needs jobs N nn nc J jn jc) (hb : Below wr.heap.size wr w') : Q30 w0 w' c z bx mc mz S Z needs jobs N nn nc J jn jc where
  c_ := h.c_.below hb
  z_ := h.z_.below hb
  dis := h.dis
  sb := h.sb
  zb := h.zb
  xb := h.xb
  blk := h.blk.below hb h.blk.lt
  rn := h.rn.below hb
  rj := h.rj.below hb
  nS := fun ad ha => ⟨(h.nS ad ha).1, (h.nS ad ha).2.1, Nat.lt_of_lt_of_le (h.nS ad ha).2.2.1 hb.size, (h.nS ad ha).2.2.2⟩
  jS := fun ad ha => ⟨(h.jS ad ha).1, (h.jS ad ha).2.1, Nat.lt_of_lt_of_le (h.jS ad ha).2.2.1 hb.size, (h.jS ad ha).2.2.2⟩
  bel := h.bel.trans (hb.mono h.bel.size)
theorem Q30.turnC (h : Q30 w0 wr c z bx mc mz S Z needs jobs N nn nc J jn jc) (hc : CO w' c m' S') (ht : Turned S S' wr w') : Q30 w0 w' c z bx m' mz S' Z needs jobs N nn nc J jn jc where
  c_ := hc
  z_ := h.z_.step fun k hk hl => ht.out hl (fun hs => h.dis k hs hk)
  dis := ht.apart h.z_.lt h.dis
  sb := ht.ge h.bel.size h.sb
  zb := h.zb
  xb := h.xb
  blk := (ht.out h.blk.lt h.xS).trans h.blk
  rn := h.rn.kept ht.kept (fun _ ad ha => (h.nS ad ha).1)
  rj := h.rj.kept ht.kept (fun _ ad ha => (h.jS ad ha).1)
  nS := fun ad ha => ⟨fun hs => (ht.new _ hs).elim (h.nS ad ha).1 (fun hg => by have := (h.nS ad ha).2.2.1; omega), (h.nS ad ha).2.1, Nat.lt_of_lt_of_le (h.nS ad ha).2.2.1 ht.size, (h.nS ad ha).2.2.2⟩
  jS := fun ad ha => ⟨fun hs => (ht.new _ hs).elim (h.jS ad ha).1 (fun hg => by have := (h.jS ad ha).2.2.1; omega), (h.jS ad ha).2.1, Nat.lt_of_lt_of_le (h.jS ad ha).2.2.1 ht.size, (h.jS ad ha).2.2.2⟩
  bel := h.bel.trans (ht.below h.bel.size h.sb)
theorem Q30.turnZ (h : Q30 w0 wr c z bx mc mz S Z needs jobs N nn nc J jn jc) (hc : CO w' z m' Z') (ht : Turned Z Z' wr w') : Q30 w0 w' c z bx mc m' S Z' needs jobs N nn nc J jn jc where
  c_ := h.c_.step fun k hk hl => ht.out hl (fun hs => h.dis k hk hs)
  z_ := hc
  dis := fun k hs hz => ht.apart h.c_.lt (fun k hk hs => h.dis k hs hk) k hz hs
  sb := h.sb
  zb := ht.ge h.bel.size h.zb
  xb := h.xb
  blk := (ht.out h.blk.lt h.xZ).trans h.blk
  rn := h.rn.kept ht.kept (fun _ ad ha => (h.nS ad ha).2.1)
  rj := h.rj.kept ht.kept (fun _ ad ha => (h.jS ad ha).2.1)
  nS := fun ad ha => ⟨(h.nS ad ha).1, fun hs => (ht.new _ hs).elim (h.nS ad ha).2.1 (fun hg => by have := (h.nS ad ha).2.2.1; omega), Nat.lt_of_lt_of_le (h.nS ad ha).2.2.1 ht.size, (h.nS ad ha).2.2.2⟩
  jS := fun ad ha => ⟨(h.jS ad ha).1, fun hs => (ht.new _ hs).elim (h.jS ad ha).2.1 (fun hg => by have := (h.jS ad ha).2.2.1; omega), Nat.lt_of_lt_of_le (h.jS ad ha).2.2.1 ht.size, (h.jS ad ha).2.2.2⟩
  bel := h.bel.trans (ht.below h.bel.size h.zb)
/-- The document's Classes is written anew. -/
theorem Q30.setX (h : Q30 w0 wr c z bx mc mz S Z needs jobs N nn nc J jn jc) (hn : Rd encRes 3 wr N' nn' needs') (hj : Rd encMember 2 wr J' jn' jobs')
    (hnS : ∀ ad, N' = some ad → ¬ S ad.block ∧ ¬ Z ad.block ∧ ad.block < wr.heap.size ∧ ad.block ≠ bx) (hjS : ∀ ad, J' = some ad → ¬ S ad.block ∧ ¬ Z ad.block ∧ ad.block < wr.heap.size ∧ ad.block ≠ bx) :
    Q30 w0 ((wr.setCell ⟨bx, 0, none⟩ (.slice N' nn' nc')).setCell ⟨bx, 1, none⟩ (.slice J' jn' jc')) c z bx mc mz S Z needs' jobs' N' nn' nc' J' jn' jc' := by
  have hk : Kept (fun b => b = bx) wr ((wr.setCell ⟨bx, 0, none⟩ (.slice N' nn' nc')).setCell ⟨bx, 1, none⟩ (.slice J' jn' jc')) := Kept.setCell (p := ⟨bx, 1, none⟩) (Kept.setCell (p := ⟨bx, 0, none⟩) (Kept.refl (fun b => b = bx) wr) (fun _ => rfl) _) (fun _ => rfl) _
  have hs : ((wr.setCell ⟨bx, 0, none⟩ (.slice N' nn' nc')).setCell ⟨bx, 1, none⟩ (.slice J' jn' jc')).heap.size = wr.heap.size := by simp [World.setCell]
  refine ⟨h.c_.step fun k hk2 hl => hk.block k hl (fun e => h.xS (e ▸ hk2)), h.z_.step fun k hk2 hl => hk.block k hl (fun e => h.xZ (e ▸ hk2)), h.dis, h.sb, h.zb, h.xb, (h.blk.set_ 0 _).set_ 1 _, hn.kept hk (fun _ ad ha => (hnS ad ha).2.2.2), hj.kept hk (fun _ ad ha => (hjS ad ha).2.2.2), fun ad ha => ?_, fun ad ha => ?_, ?_⟩
  · rw [hs]; exact hnS ad ha
  · rw [hs]; exact hjS ad ha
  · exact h.bel.trans (hk.below h.bel.size (fun b hb e => by have := h.xb; omega))
/-- What else stands in memory stays. -/
theorem Q30.keepC (h : Q30 w0 wr c z bx mc mz S Z needs jobs N nn nc J jn jc) (ht : Turned S S' wr w') {b : Nat} {t : TypeId} {cs : Array Value} (hb : Blk wr b t cs) (h1 : t ≠ 32) (h2 : t ≠ 98) (h3 : t ≠ 101) : Blk w' b t cs :=
  (ht.out hb.lt (h.c_.not_blk hb h1 h2 h3)).trans hb
theorem Q30.keepZ (h : Q30 w0 wr c z bx mc mz S Z needs jobs N nn nc J jn jc) (ht : Turned Z Z' wr w') {b : Nat} {t : TypeId} {cs : Array Value} (hb : Blk wr b t cs) (h1 : t ≠ 32) (h2 : t ≠ 98) (h3 : t ≠ 101) : Blk w' b t cs :=
  (ht.out hb.lt (h.z_.not_blk hb h1 h2 h3)).trans hb
end

end Go.Proofs.Ythhnocnkicoimaa
