/-
 ARGUMENTS OPENED: a slice that came in reads as a list; structs of whole numbers.
 ARGUMENTS OPENED, further: bools, strings, arrays, structs in structs.
-/
import Derived.Test.YtcafmodenbifhaaSetL
import Derived.ProofKit
import Derived.OpenShut
import Derived.ShutString
import Derived.ChangeOld
import Derived.Deep.Slices
set_option linter.unusedVariables false
set_option linter.unusedSimpArgs false
namespace Go.Proofs.Ytcafmodenbifhaa
open Go.RowKit Go.ChangeShapes Go.WideShapes Go.Deep

section
variable {H : Type} {enc : TypeId × Value → H} {P : Program} {w : World} {base : Nat} {spare : Nat → Bool} {held : Bool}
theorem open_rd {α : Type} (en : α → List Value) (wfp : α → Prop) {t e sz : Nat} (ht : P.underlying t = some (.slice e)) (hC : P.cellsOf e = sz) (hpos : 0 < sz)
  (hel : ∀ (n : Nat) (cs : List Value) (x : DataW H × List MemPlace), DataW.trod enc P w base spare held n e cs = some x → ∃ a, cs = en a ∧ wfp a)
  {a : Option Addr} {len cap fuel : Nat} {x : DataW H × List MemPlace} (h : DataW.trod enc P w base spare held fuel t [.slice a len cap] = some x) :
  ∃ l : List α, Rd en sz w a len l ∧ (∀ y ∈ l, wfp y) ∧ len ≤ cap := by
 rcases open_slice ht h with ⟨hcs, _⟩ | ⟨ad, l', c', m, n, D, Pl, hcs, hb, hl, hm, hmm, hx, hi⟩
 ·simp at hcs
  obtain ⟨rfl, rfl, rfl⟩ := hcs
  exact ⟨[], Rd.nil _ _, by simp, Nat.le_refl _⟩
 ·simp at hcs
  obtain ⟨rfl, rfl, rfl⟩ := hcs
  have hlm : len ≤ m := by rw [hmm]; split <;> omega
  have each : ∀ i, i < len → ∃ y, wfp y ∧ ∀ j v, (en y)[j]? = some v → w.cell? ((ad.add (i * sz)).add j) = some v := by
   intro i hil
   obtain ⟨cs', hc, ht'⟩ := hi i (by omega)
   rw [hC] at hc
   obtain ⟨_, hcl, hat⟩ := World.cells?_some hc
   obtain ⟨y, rfl, hy⟩ := hel _ _ _ ht'
   refine ⟨y, hy, fun j v hv => ?_⟩
   have hj : j < sz := by
    have := (List.getElem?_eq_some_iff.1 hv).1
    omega
   rw [hat j hj]
   exact hv
  have hlist : ∀ k, k ≤ len → ∃ l : List α, l.length = k ∧ (∀ y ∈ l, wfp y) ∧ ∀ i y, l[i]? = some y → ∀ j v, (en y)[j]? = some v → w.cell? ((ad.add (i * sz)).add j) = some v := by
   intro k
   induction k with
   | zero => intro _; exact ⟨[], rfl, by simp, by simp⟩
   | succ k ih =>
    intro hk
    obtain ⟨l, hl1, hl2, hl3⟩ := ih (by omega)
    obtain ⟨y, hy, hyc⟩ := each k (by omega)
    refine ⟨l ++ [y], by simp [hl1], fun z hz => ?_, fun i z hz j v hv => ?_⟩
    ·rcases List.mem_append.1 hz with hz | hz
     ·exact hl2 z hz
     ·rw [List.mem_singleton.1 hz]; exact hy
    ·rcases Nat.lt_or_ge i l.length with hlt | hge
     ·rw [List.getElem?_append_left hlt] at hz
      exact hl3 i z hz j v hv
     ·rw [List.getElem?_append_right hge] at hz
      have hi0 : i = k := by
       have := (List.getElem?_eq_some_iff.1 hz).1
       simp at this
       omega
      subst hi0
      rw [hl1] at hz
      simp at hz
      subst hz
      exact hyc j v hv
  obtain ⟨l, hl1, hl2, hl3⟩ := hlist len (Nat.le_refl _)
  refine ⟨l, ⟨hl1, fun hn => ?_⟩, hl2, hl⟩
  -- the address has no spot, and lies in a block that is there
  obtain ⟨cs', hc, ht'⟩ := hi 0 (by omega)
  rw [hC] at hc
  obtain ⟨_, hcl, hat⟩ := World.cells?_some hc
  have h0 := hat 0 hpos
  obtain ⟨b, o, sp⟩ := ad
  have hcell : w.cell? ((⟨b, o, sp⟩ : Addr).add 0) = some (cs'[0]'(by omega)) := by
   have : ((⟨b, o, sp⟩ : Addr).add (0 * sz)).add 0 = (⟨b, o, sp⟩ : Addr).add 0 := by simp [Addr.add]
   rw [← this, h0]
   exact List.getElem?_eq_getElem (by omega)
  have hsp : sp = none ∧ b < w.heap.size := by
   rw [show (⟨b, o, sp⟩ : Addr).add 0 = ⟨b, o, sp⟩ by simp [Addr.add]] at hcell
   refine ⟨?_, World.block_lt_of_cell? w _ hcell⟩
   cases sp with
   | none => rfl
   | some q =>
    unfold World.cell? at hcell
    split at hcell <;> simp at hcell
  obtain ⟨rfl, hlt⟩ := hsp
  refine ⟨b, o, rfl, hlt, fun i y hy j v hv => ?_⟩
  have := hl3 i y hy j v hv
  rw [add_at, add_at, Nat.add_assoc] at this
  exact this
/-- Whole numbers. -/
theorem open_elI {e : Nat} (he : P.underlying e = some (.int .i64)) (n : Nat) (cs : List Value) (x : DataW H × List MemPlace) (h : DataW.trod enc P w base spare held n e cs = some x) : ∃ a : Int, cs = encI a ∧ wf64 a := by
 obtain ⟨a, rfl, _, hw⟩ := DataW.trod_int he h
 exact ⟨a, rfl, hw⟩
theorem list3 {β : Type} {cs : List β} {a b c : β} (hl : cs.length = 3) (h0 : cs[0]? = some a) (h1 : cs[1]? = some b) (h2 : cs[2]? = some c) : cs = [a, b, c] := by
 apply List.ext_getElem?
 intro i
 match i with
 | 0 => rw [h0]; rfl
 | 1 => rw [h1]; rfl
 | 2 => rw [h2]; rfl
 | i + 3 => rw [List.getElem?_eq_none (by omega)]; rfl
/-- A field of a struct of whole numbers: the cell at its place. -/
theorem fieldI {fs : Array Field} {cs : List Value} {xs : List (DataW H × List MemPlace)} {n : Nat} (hf : ∀ (i : Nat) (f : Field), fs[i]? = some f → DataW.trod enc P w base spare held n f.type ((cs.drop f.offset).take (P.cellsOf f.type)) = xs[i]?)
  (hxl : xs.length = fs.size) (i : Nat) (f : Field) (hi : fs[i]? = some f) (hk : P.underlying f.type = some (.int .i64)) (hc : P.cellsOf f.type = 1) : ∃ a : Int, cs[f.offset]? = some (.int .i64 a) ∧ wf64 a := by
 have h := hf i f hi
 have hil : i < xs.length := by rw [hxl]; exact (Array.getElem?_eq_some_iff.1 hi).1
 rw [List.getElem?_eq_getElem hil, hc] at h
 obtain ⟨a, hcs, _, hw⟩ := DataW.trod_int hk h
 refine ⟨a, ?_, hw⟩
 have : ((cs.drop f.offset).take 1)[0]? = some (.int .i64 a) := by rw [hcs]; rfl
 simpa [List.getElem?_take, List.getElem?_drop] using this
end

end Go.Proofs.Ytcafmodenbifhaa
namespace Go.Proofs.Ytcafmodenbifhaa
open Go.RowKit Go.ChangeShapes Go.WideShapes Go.Deep

theorem part_at {β : Type} {cs sub : List β} {off n : Nat} (h : (cs.drop off).take n = sub) (j : Nat) (hj : j < n) : cs[off + j]? = sub[j]? := by
 rw [← h, List.getElem?_take, if_pos hj, List.getElem?_drop]
section
variable {H : Type} {enc : TypeId × Value → H} {P : Program} {w : World} {base : Nat} {spare : Nat → Bool} {held : Bool} {fs : Array Field} {cs : List Value} {xs : List (DataW H × List MemPlace)} {n : Nat}
theorem fieldB (hf : ∀ (i : Nat) (f : Field), fs[i]? = some f → DataW.trod enc P w base spare held n f.type ((cs.drop f.offset).take (P.cellsOf f.type)) = xs[i]?)
  (hxl : xs.length = fs.size) (i : Nat) (f : Field) (hi : fs[i]? = some f) (hk : P.underlying f.type = some .bool) (hc : P.cellsOf f.type = 1) : ∃ a : Bool, cs[f.offset]? = some (.bool a) := by
 have h := hf i f hi
 have hil : i < xs.length := by rw [hxl]; exact (Array.getElem?_eq_some_iff.1 hi).1
 rw [List.getElem?_eq_getElem hil, hc] at h
 obtain ⟨a, hcs, _⟩ := DataW.trod_bool hk h
 refine ⟨a, ?_⟩
 have : ((cs.drop f.offset).take 1)[0]? = some (.bool a) := by rw [hcs]; rfl
 simpa [List.getElem?_take, List.getElem?_drop] using this
theorem fieldS (hf : ∀ (i : Nat) (f : Field), fs[i]? = some f → DataW.trod enc P w base spare held n f.type ((cs.drop f.offset).take (P.cellsOf f.type)) = xs[i]?)
  (hxl : xs.length = fs.size) (i : Nat) (f : Field) (hi : fs[i]? = some f) (hk : P.underlying f.type = some .string) (hc : P.cellsOf f.type = 1) : ∃ a : ByteArray, cs[f.offset]? = some (.string a) ∧ a.size ≤ maxLen := by
 have h := hf i f hi
 have hil : i < xs.length := by rw [hxl]; exact (Array.getElem?_eq_some_iff.1 hi).1
 rw [List.getElem?_eq_getElem hil, hc] at h
 obtain ⟨a, hcs, _, hw⟩ := DataW.trod_string hk h
 refine ⟨a, ?_, hw⟩
 have : ((cs.drop f.offset).take 1)[0]? = some (.string a) := by rw [hcs]; rfl
 simpa [List.getElem?_take, List.getElem?_drop] using this
theorem field_part (hf : ∀ (i : Nat) (f : Field), fs[i]? = some f → DataW.trod enc P w base spare held n f.type ((cs.drop f.offset).take (P.cellsOf f.type)) = xs[i]?)
  (hxl : xs.length = fs.size) (i : Nat) (f : Field) (hi : fs[i]? = some f) (k : Nat) (hc : P.cellsOf f.type = k) : ∃ y, DataW.trod enc P w base spare held n f.type ((cs.drop f.offset).take k) = some y := by
 have h := hf i f hi
 have hil : i < xs.length := by rw [hxl]; exact (Array.getElem?_eq_some_iff.1 hi).1
 rw [List.getElem?_eq_getElem hil, hc] at h
 exact ⟨_, h⟩
theorem elemI {e N : Nat} (hf : ∀ i, i < N → DataW.trod enc P w base spare held n e ((cs.drop (i * 1)).take 1) = xs[i]?) (hxl : xs.length = N) (i : Nat) (hi : i < N) (hk : P.underlying e = some (.int .i64)) : ∃ a : Int, cs[i]? = some (.int .i64 a) ∧ wf64 a := by
 have h := hf i hi
 rw [List.getElem?_eq_getElem (by omega)] at h
 obtain ⟨a, hcs, _, hw⟩ := DataW.trod_int hk h
 refine ⟨a, ?_, hw⟩
 have : ((cs.drop (i * 1)).take 1)[0]? = some (.int .i64 a) := by rw [hcs]; rfl
 simpa [List.getElem?_take, List.getElem?_drop] using this
end

end Go.Proofs.Ytcafmodenbifhaa
