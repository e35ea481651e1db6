/-
 LAYER 12 (dirty): each method of a set by its contract. The set lies in the field at place o of a struct in block s.
-/
import Derived.Test.YtcafmodenbifhaaSetL
set_option linter.unusedVariables false
set_option linter.unusedSimpArgs false
namespace Go.Proofs.Ytcafmodenbifhaa
open Go.RowKit Go.Maps

theorem MapSet.clear_ {w : World} {mv : Value} {row : List Int} (h : MapSet w mv row) (ty : TypeId) :
  ∃ w', (Builtin.clear_ #[39] ty #[mv]).run Try.prog w = .ok (.tuple #[]) w' ∧ MapSet w' mv [] ∧ w.grownBy w' (mapBlk mv) ∧ w'.heap.size = w.heap.size := by
 rcases h.is with ⟨rfl, rfl⟩ | ⟨b, D, rfl, ho, hd⟩
 ·exact ⟨w, by simp [Builtin.clear_, run_underlying Try.underlying39, Result.andThen], MapSet.nil w, World.grownBy.refl w _, rfl⟩
 ·obtain ⟨es, clock, hb, F, hs, _⟩ := ho
  refine ⟨ChangeMaps.setBlock w b (.map #[] clock), ?_, ⟨List.Pairwise.nil, by simp, .inr ⟨b, .map [], rfl, ⟨#[], clock, ChangeMaps.heap_setBlock_same hb _, ⟨by simp, MapKept.stamped_empty clock, by simp⟩, Nat.le_refl _, rfl⟩, setD_empty⟩⟩,
   ⟨rfl, rfl, rfl, by simp [ChangeMaps.setBlock], fun i _ hi => ChangeMaps.heap_setBlock_other hb _ (fun e => hi (by rw [e]; rfl))⟩, by simp [ChangeMaps.setBlock]⟩
  simp [Builtin.clear_, run_underlying Try.underlying39, MapKept.run_getObj_map hb, MapKept.run_setObj_map _ hb, Result.andThen, ChangeMaps.setBlock]

/-- What a call on the set in field o of block s has turned: that field, the map's block, and what is new. -/
structure SetTurn (s o : Nat) (mv : Value) (row' : List Int) (w w' : World) : Prop where
 ex : ∃ mv', MapSet w' mv' row' ∧ (∀ t cs, Blk w s t cs → Blk w' s t (cs.setIfInBounds o mv')) ∧ (mv' = mv ∨ ∃ b, mv' = .map (some b) ∧ w.heap.size ≤ b)
 kept : Kept (fun k => k = s ∨ mv = .map (some k)) w w'

/-! ### Mark -/
def markAll (row l : List Int) : List Int := l.foldl putR row
theorem rising_markAll {row : List Int} (h : Rising row) (l : List Int) : Rising (markAll row l) := by
 induction l generalizing row with
 | nil => exact h
 | cons x r ih => exact ih (rising_putR h x)
theorem mem_markAll (row l : List Int) (y : Int) : y ∈ markAll row l ↔ y ∈ l ∨ y ∈ row := by
 induction l generalizing row with
 | nil => simp [markAll]
 | cons x r ih =>
  show y ∈ markAll (putR row x) r ↔ _
  rw [ih, mem_putR, List.mem_cons]
  constructor
  ·rintro (h | h | h)
   ·exact .inl (.inr h)
   ·exact .inl (.inl h)
   ·exact .inr h
  ·rintro ((h | h) | h)
   ·exact .inr (.inl h)
   ·exact .inl h
   ·exact .inr (.inr h)
theorem markAll_take_succ (row l : List Int) (k : Nat) (y : Int) (h : l[k]? = some y) : markAll row (l.take (k + 1)) = putR (markAll row (l.take k)) y := by
 rw [take_succ_of l k y h]; simp [markAll, List.foldl_append]
theorem length_markAll_le (row l : List Int) : row.length ≤ (markAll row l).length ∧ (markAll row l).length ≤ row.length + l.length := by
 induction l generalizing row with
 | nil => simp [markAll]
 | cons x r ih =>
  have := ih (putR row x)
  have h := length_putR row x
  show row.length ≤ (markAll (putR row x) r).length ∧ (markAll (putR row x) r).length ≤ _
  rw [List.length_cons]
  split at h <;> omega
theorem Rd.kept {α : Type} {enc : α → List Value} {sz : Nat} {w w' : World} {A : Option Addr} {n : Nat} {l : List α} {F : Nat → Prop} (h : Rd enc sz w A n l) (hk : Kept F w w') (hF : 0 < n → ∀ ad, A = some ad → ¬ F ad.block) : Rd enc sz w' A n l := by
 refine ⟨h.len, fun hn => ?_⟩
 obtain ⟨b, o, e, hlt, hc⟩ := h.cells hn
 exact ⟨b, o, e, by have := hk.size; omega, fun i x hx j v hv => (hk.cell (p := ⟨b, o + (i * sz + j), none⟩) hlt (show ¬ F b from hF hn _ e)).trans (hc i x hx j v hv)⟩
theorem RdI.ne_map {w : World} {A : Option Addr} {n : Nat} {l : List Int} {b : Nat} {row : List Int} (h : RdI w A n l) (hs : MapSet w (.map (some b)) row) : 0 < n → ∀ ad, A = some ad → ¬ ad.block = b := by
 intro hn ad hA e
 obtain ⟨b', o', x, hA', _, hc⟩ := RdI.at_ h hn
 rw [hA] at hA'
 cases hA'
 have := hs.ne_cell hc
 exact this (by rw [← e])

set_option maxRecDepth 100000 in
set_option maxHeartbeats 400000 in
/-- The marking itself, the map there already. -/
theorem dMark_some (s o : Nat) (t : TypeId) (cs : Array Value) (b : Nat) (row : List Int) (A : Option Addr) (n c : Nat) (l : List Int) (w : World) (hb : Blk w s t cs) (ho : cs[o]? = some (.map (some b))) (hs : MapSet w (.map (some b)) row)
  (hl : RdI w A n l) (hw : ∀ x ∈ l, wf64 x) (hn : row.length + n ≤ 1000000) :
  Calls Try.prog 35 #[.pointer (some ⟨s, o, none⟩), .slice A n c] w fun e w' => e = .returned (.int .i64 ((markAll row l).length - row.length)) ∧ MapSet w' (.map (some b)) (markAll row l) ∧ Kept (fun k => k = b) w w' := by
 have hc : w.cell? ⟨s, o, none⟩ = some (.map (some b)) := (hb.cell o).trans ho
 have hsb : ¬ s = b := fun e => hs.ne_blk hb (by rw [e])
 have hnb := hl.ne_map hs
 have hlen := fun ty => hs.len ty
 have hln := hl.len
 have HO := Lib.hid (And.intro ho hln)
 have HNB := Lib.hid hnb
 have HW := Lib.hid hw
 have hnilm := fun (W : World) (r : Option Nat) => run_eql_map_nil (P := Try.prog) W 39 3 3 r Try.underlying39
 clear ho hln hnb hw
 go_enter Try.func35, Try.ntmps35
 go_wp2
 clear hlen hc
 go_loopw [26] (fun i wr => ∃ k : Nat, k ≤ n ∧ i = .int .i64 k ∧ MapSet wr (.map (some b)) (markAll row (l.take k)) ∧ Kept (fun k => k = b) w wr) (fun i _ => n - (intOf i).toNat)
 case atStart => exact ⟨0, Nat.zero_le _, rfl, by simpa [markAll] using hs, Kept.refl _ _⟩
 case round =>
  obtain ⟨k, hk, rfl, hsr, hkr⟩ := hrel
  have hcr : wr.cell? ⟨s, o, none⟩ = some (.map (some b)) := (hkr.cell hb.lt hsb).trans ((hb.cell o).trans HO.out.1)
  have hlk := length_markAll_le row (l.take k)
  have hlk2 := List.length_take_le k l
  by_cases hlt : k < n
  ·obtain ⟨ab, ao, y, rfl, hy, hcell⟩ := RdI.at_ (hl.kept hkr HNB.out) hlt
   obtain ⟨w1, hrun, hs1, hg1, _⟩ := hsr.store (HW.out y (List.mem_of_getElem? hy)) (HW.out y (List.mem_of_getElem? hy)) (by omega)
   have HY := Lib.hid (And.intro (markAll_take_succ row l k y hy) (And.intro hs1 hg1))
   clear hy hs1 hg1
   go_wp2
   go_roundw
   case rel => exact ⟨k + 1, by omega, by go_num, by rw [HY.out.1]; exact HY.out.2.1, hkr.trans (Kept.of_grown HY.out.2.2 (fun k hk _ => by injection hk with hk; exact hk.symm)) (fun _ _ h => h)⟩
   case measure => simp [intOf]; omega
  ·have hlen := fun ty => hsr.len ty
   rw [take_all l k n hl.len hlt] at hlen hsr
   go_wp2
   go_ret
   have hll := length_markAll_le row l
   have hln := HO.out.2
   exact ⟨ret_int (IntWalk.wrap64_in _ ⟨by omega, by omega⟩), hsr, hkr⟩

set_option maxRecDepth 100000 in
set_option maxHeartbeats 400000 in
/-- .. no map there yet. -/
theorem dMark_none (s o : Nat) (t : TypeId) (cs : Array Value) (A : Option Addr) (n c : Nat) (l : List Int) (w : World) (hb : Blk w s t cs) (ho : cs[o]? = some (.map none))
  (hl : RdI w A n l) (hw : ∀ x ∈ l, wf64 x) (hn : n ≤ 1000000) :
  Calls Try.prog 35 #[.pointer (some ⟨s, o, none⟩), .slice A n c] w fun e w' => e = .returned (.int .i64 (markAll [] l).length) ∧ MapSet w' (.map (some w.heap.size)) (markAll [] l) ∧ Blk w' s t (cs.setIfInBounds o (.map (some w.heap.size))) ∧ Kept (fun k => k = s) w w' := by
 have hc : w.cell? ⟨s, o, none⟩ = some (.map none) := (hb.cell o).trans ho
 have hf : w.frozen? ⟨s, o, none⟩ = false := hb.frozen o
 have hmm := @run_makeMap Try.prog
 have hsb : s < w.heap.size := hb.lt
 have hol : o < cs.size := (Array.getElem?_eq_some_iff.1 ho).1
 obtain ⟨w0, hw0⟩ : ∃ w0, w0 = (w.alloc (.map #[] 0)).setCell ⟨s, o, none⟩ (.map (some w.heap.size)) := ⟨_, rfl⟩
 have hs0 : MapSet w0 (.map (some w.heap.size)) [] := by
  subst hw0
  exact (MapSet.made w).step fun b hb' hl' => by cases hb'; exact Below.heap_setCell _ _ _ _ (by simp; omega)
 have hb0 : Blk w0 s t (cs.setIfInBounds o (.map (some w.heap.size))) := by subst hw0; exact (hb.alloc _).set_ o _
 have hk0 : Kept (fun k => k = s) w w0 := by subst hw0; exact Kept.setCell (F := fun k => k = s) (p := ⟨s, o, none⟩) ((Kept.refl _ _).alloc _) (fun _ => rfl) _
 have hc0 : w0.cell? ⟨s, o, none⟩ = some (.map (some w.heap.size)) := by rw [hb0.cell o]; simp [hol]
 have hl0 : RdI w0 A n l := by
  refine ⟨hl.len, fun hn0 => ?_⟩
  obtain ⟨ab, ao, e, hlt, hcc⟩ := hl.cells hn0
  refine ⟨ab, ao, e, by have := hk0.size; omega, fun i x hx j v hv => ?_⟩
  subst hw0
  rw [World.cell?_setCell_other _ _ _ _ (by
   intro e2
   have h1 := hcc i x hx j v hv
   rw [← e2, hc] at h1
   have : v = .int .i64 x := by
    cases j with
    | zero => simpa [encI] using hv.symm
    | succ j => simp [encI] at hv
   subst this
   cases h1), World.cell?_alloc_lt _ _ _ hlt]
  exact hcc i x hx j v hv
 have hnb := hl0.ne_map hs0
 have hlen := fun ty => hs0.len ty
 have hln := hl.len
 have HO := Lib.hid (And.intro ho hln)
 have hne : ¬ s = w.heap.size := by omega
 have hltS : w.heap.size ≤ w0.heap.size := hk0.size
 have HNB := Lib.hid hnb
 have HW := Lib.hid hw
 have hnilm := fun (W : World) (r : Option Nat) => run_eql_map_nil (P := Try.prog) W 39 3 3 r Try.underlying39
 clear ho hln hnb hw
 go_enter Try.func35, Try.ntmps35
 have hw0' := hw0.symm
 clear hw0
 go_wp2
 clear hlen hc0 hw0' hc hf hmm
 go_loopw [26] (fun i wr => ∃ k : Nat, k ≤ n ∧ i = .int .i64 k ∧ MapSet wr (.map (some w.heap.size)) (markAll [] (l.take k)) ∧ Kept (fun k => k = w.heap.size) w0 wr) (fun i _ => n - (intOf i).toNat)
 case atStart => exact ⟨0, Nat.zero_le _, rfl, by simpa [markAll] using hs0, Kept.refl _ _⟩
 case round =>
  obtain ⟨k, hk, rfl, hsr, hkr⟩ := hrel
  have hcr : wr.cell? ⟨s, o, none⟩ = some (.map (some w.heap.size)) := (hkr.cell hb0.lt hne).trans ((hb0.cell o).trans (by simp [hol]))
  have hlk := length_markAll_le [] (l.take k)
  have hlk2 := List.length_take_le k l
  by_cases hlt : k < n
  ·obtain ⟨ab, ao, y, rfl, hy, hcell⟩ := RdI.at_ (hl0.kept hkr HNB.out) hlt
   obtain ⟨w1, hrun, hs1, hg1, _⟩ := hsr.store (HW.out y (List.mem_of_getElem? hy)) (HW.out y (List.mem_of_getElem? hy)) (by simp at hlk; omega)
   have HY := Lib.hid (And.intro (markAll_take_succ [] l k y hy) (And.intro hs1 hg1))
   clear hy hs1 hg1
   go_wp2
   go_roundw
   case rel => exact ⟨k + 1, by omega, by go_num, by rw [HY.out.1]; exact HY.out.2.1, hkr.trans (Kept.of_grown HY.out.2.2 (fun k hk _ => by injection hk with hk; exact hk.symm)) (fun _ _ h => h)⟩
   case measure => simp [intOf]; omega
  ·have hlen := fun ty => hsr.len ty
   rw [take_all l k n hl.len hlt] at hlen hsr
   go_wp2
   go_ret
   have hll := length_markAll_le [] l
   have hln := HO.out.2
   exact ⟨ret_int (by first | rfl | exact IntWalk.wrap64_in _ ⟨by omega, by simp at hll; omega⟩), hsr, hb0.kept hkr hne, hk0.trans hkr (fun i hi e => by omega)⟩

/-- (*dirty.Set).Mark -/
theorem dMark (s o : Nat) (t : TypeId) (cs : Array Value) (mv : Value) (row : List Int) (A : Option Addr) (n c : Nat) (l : List Int) (w : World) (hb : Blk w s t cs) (ho : cs[o]? = some mv) (hs : MapSet w mv row)
  (hl : RdI w A n l) (hw : ∀ x ∈ l, wf64 x) (hn : row.length + n ≤ 1000000) :
  Calls Try.prog 35 #[.pointer (some ⟨s, o, none⟩), .slice A n c] w fun e w' => e = .returned (.int .i64 ((markAll row l).length - row.length)) ∧ SetTurn s o mv (markAll row l) w w' := by
 rcases hs.is with ⟨rfl, rfl⟩ | ⟨b, D, rfl, _, _⟩
 ·refine (dMark_none s o t cs A n c l w hb ho hl hw (by omega)).mono ?_
  rintro e w' ⟨rfl, h1, h2, h3⟩
  refine ⟨ret_int (by simp), ⟨⟨_, h1, fun t' cs' hb' => ?_, .inr ⟨_, rfl, Nat.le_refl _⟩⟩, h3.mono (fun _ _ e => .inl e)⟩⟩
  unfold Blk at hb hb'
  rw [hb] at hb'
  cases hb'
  exact h2
 ·refine (dMark_some s o t cs b row A n c l w hb ho hs hl hw hn).mono ?_
  rintro e w' ⟨rfl, h1, h2⟩
  have hsb : ¬ s = b := fun e => hs.ne_blk hb (by rw [e])
  refine ⟨rfl, ⟨⟨_, h1, fun t' cs' hb' => ?_, .inl rfl⟩, h2.mono (fun _ _ e => .inr (by rw [e]))⟩⟩
  have : cs'.setIfInBounds o (.map (some b)) = cs' := by
   have e : cs' = cs := by
    unfold Blk at hb hb'
    rw [hb] at hb'
    cases hb'; rfl
   subst e
   apply Array.ext_getElem?
   intro i
   rw [Array.getElem?_setIfInBounds]
   split
   ·rename_i e'; subst e'; split <;> simp_all
   ·rfl
  rw [this]
  exact hb'.kept h2 hsb

end Go.Proofs.Ytcafmodenbifhaa
