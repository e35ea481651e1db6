/-
 LAYER 12 (dirty): what is drained; slices.Sort of a row of numbers of the call's own.
-/
import Derived.Test.YtcafmodenbifhaaDirty
import Derived.Test.YtcafmodenbifhaaShelf
import Derived.Sort.OwnSortedInts
set_option linter.unusedVariables false
set_option linter.unusedSimpArgs false
namespace Go.Proofs.Ytcafmodenbifhaa
open Go.RowKit Go.Maps Go.Sort

def sortI (l : List Int) : List Int := l.mergeSort fun x y => decide (x ≤ y)
theorem sortI_perm (l : List Int) : (sortI l).Perm l := List.mergeSort_perm l _
theorem sortI_len (l : List Int) : (sortI l).length = l.length := (sortI_perm l).length_eq
theorem sortI_le (l : List Int) : (sortI l).Pairwise (· ≤ ·) := by
 have h := List.pairwise_mergeSort (le := fun x y : Int => decide (x ≤ y)) (fun a b c h1 h2 => by simp at *; omega) (fun a b => by simp; omega) l
 exact h.imp (fun h => by simpa using h)
theorem sortI_of_rising {l row : List Int} (hr : Rising row) (hn : l.Nodup) (h : ∀ x, x ∈ l ↔ x ∈ row) : sortI l = row := by
 have hp : (sortI l).Perm row := (sortI_perm l).trans ((List.perm_ext_iff_of_nodup hn (rising_nodup hr)).2 h)
 exact hp.eq_of_pairwise (fun a b _ _ h1 h2 => by omega) (sortI_le l) (hr.imp (fun h => by omega))

/-- slices.Sort at []int, on a slice of the call's own. -/
theorem sort_own (base : Nat) (A : Option Addr) (n c : Nat) (l : List Int) (w : World) (h : OwnL encI 3 1 w base A n c l) (hn : n ≤ 1000000000) :
  Calls Try.prog 84 #[.slice A n c] w fun e w' => e = .returned (.tuple #[]) ∧ OwnL encI 3 1 w' base A n c (sortI l) ∧ w.grownBy w' (Value.slice A n c).ownBlock := by
 have hl := h.len
 rcases h.own.2 with ⟨hv, h0⟩ | ⟨g, cap, cur, hv, hg, hh, h1, h2, h3, h4⟩
 ·have hl0 : l = [] := List.eq_nil_of_length_eq_zero (by omega)
  subst hl0
  subst h0
  refine (Try.slices_Sort_int_none A c w).mono ?_
  rintro e w' ⟨rfl, rfl⟩
  exact ⟨rfl, by simpa [sortI] using h, World.grownBy.refl _ _⟩
 ·cases hv
  subst hl
  rw [flatMap_encI, Nat.mul_one] at h4
  refine (Try.slices_Sort_int g 0 c l w (holds_of_blockI hh h4) (Array.getElem?_eq_some_iff.1 hh).1 (by omega)).mono ?_
  rintro e w' ⟨rfl, nn, os, rfl⟩
  exact ⟨rfl, ⟨by rw [flatMap_encI]; exact ownsRow_sortedI (sortI_len l) hg hh h1 h2 h3, sortI_len l⟩, grownBy_sortedI _⟩

/-- What a range over the keys has gathered. -/
structure Gath (row : List Int) (left : Lit → Bool) (ss : List Int) : Prop where
 nodup : ss.Nodup
 mem : ∀ x, x ∈ ss ↔ (x ∈ row ∧ left (.int .i64 x) = false)
theorem Gath.start {D : DataW Unit} {row : List Int} (h : SetD D row) : Gath row (Maps.has D) [] := by
 refine ⟨List.nodup_nil, fun x => ?_⟩
 rw [h.has]
 by_cases hx : x ∈ row <;> simp [hx]
theorem sameKey_int (x y : Int) : (Lit.int .i64 x).sameKey (.int .i64 y) = decide (x = y) := by simp [Lit.sameKey]
theorem Gath.step {D : DataW Unit} {row ss : List Int} {left : Lit → Bool} (hd : SetD D row) (h : Gath row left ss) {x : Int} {y : DataW Unit} (hlk : left (.int .i64 x) = true) (hat : ∀ zd, D.atKey (.int .i64 x) zd = y) :
  Gath row (fun z => left z && !z.sameKey (.int .i64 x)) (ss ++ [x]) := by
 have hx : x ∈ row := by
  have := has_true_of_atKey hat
  rw [hd.has] at this
  exact of_decide_eq_true this
 have hns : x ∉ ss := fun hm => by rw [(h.mem x).1 hm |>.2] at hlk; cases hlk
 refine ⟨List.nodup_append.2 ⟨h.nodup, by simp, fun a ha b hb => by rw [List.mem_singleton.1 hb]; exact fun e => hns (e ▸ ha)⟩, fun z => ?_⟩
 rw [List.mem_append, List.mem_singleton, h.mem]
 by_cases e : z = x
 ·subst e
  simp [sameKey_int, hx]
 ·simp [sameKey_int, e]
theorem Gath.all {row ss : List Int} {left : Lit → Bool} (h : Gath row left ss) (hl : ∀ k, left k = false) : ∀ x, x ∈ ss ↔ x ∈ row := fun x => by rw [h.mem]; simp [hl]

set_option maxRecDepth 100000 in
set_option maxHeartbeats 1000000 in
/-- dirty.rising, of a map that is there. -/
theorem dRising_some (b : Nat) (row : List Int) (w : World) (hs : MapSet w (.map (some b)) row) (hn : row.length ≤ 1000000) :
  Calls Try.prog 72 #[.map (some b)] w fun e w' => ∃ A n c, e = .returned (.slice A n c) ∧ OwnL encI 3 1 w' w.heap.size A n c row ∧ Below w.heap.size w w' := by
 rcases hs.is with ⟨h0, _⟩ | ⟨b', D, hv, ho, hd⟩
 ·cases h0
 cases hv
 have hbl := ho.lt
 have hsz := hd.size
 have hrise := hs.rising
 have HS := Lib.hid (And.intro hsz (And.intro hrise hd))
 clear hsz hrise hd hs
 go_enter Try.func72, Try.ntmps72
 go_wp2_with (first
  | (at_range; refine wpList_range_own _ rfl _ 39 rfl 3 3 lawI Try.underlying39 _ b _ _ rfl ho ?_; intro w0 hrg0 hg0 hs0))
 go_frame
 go_loopw [3] (fun v wr => ∃ (left : Lit → Bool) (cnt m c : Nat) (A : Option Addr) (ss : List Int), v = .slice A m c ∧ wr.ranges Try.prog 3 (plainElem Try.prog 3) b w.heap.size row.length D left cnt ∧ m + cnt ≤ row.length ∧
   OwnL encI 3 1 wr w.heap.size A m c ss ∧ Gath row left ss ∧ Below w.heap.size w wr)
  (fun _ wr => wr.rangeLeft b w.heap.size)
 case atStart =>
  exact ⟨_, _, 0, 0, none, [], rfl, hrg0, by have := HS.out.1; omega, OwnL.nil _ _, Gath.start HS.out.2.2, (Below.refl _ _).grown hg0 (Nat.le_refl _) (fun j hj => by cases hj)⟩
 case round =>
  obtain ⟨left, cnt, m, c, A, ss, rfl, hrg, hcs, hown, hG, hnx⟩ := hrel
  go_wp2_with (first
   | (at_next; refine wpList_next_ranges_ii _ rfl _ rfl 3 3 .i64 .i64 lawI Try.underlying3 Try.underlying3 b w.heap.size _ _ _ _ rfl hrg ?_ ?_))
  ·intro hc0 hl0
   have hsrt := sortI_of_rising HS.out.2.1 hG.nodup (hG.all hl0)
   have HH := Lib.hid hsrt
   clear hsrt hc0 hl0
   go_wp2_with (go_at_call 84; refine (sort_own _ _ _ _ _ _ hown (by omega)).mono ?_; rintro e w' ⟨rfl, ho2, hg2⟩)
   go_ret
   exact ⟨A, m, c, rfl, by rw [← HH.out]; exact ho2, hnx.grown hg2 hnx.size (own_block_ge hown)⟩
  ·intro x cc w2 cnt2 hwx hwc hlk hat hrg2 hlt hg2 hs2 hen
   clear hs2
   have hne := row_ne_iter hown.own hrg
   have hown2 := hown.step (w' := w2) (fun ad ha hge hl => hg2.block _ hl (fun e => hne (by rw [ha]; exact e.symm)))
   have hb2 := hnx.grown hg2 hnx.size (fun j hj => by cases hj; exact Nat.le_refl _)
   have HH := Lib.hid (And.intro hlk (And.intro hat hG))
   have hlow := row_ne_low hown2.own hbl
   have hit := row_ne_iter hown2.own hrg2
   clear hlk hat hG hne
   go_wp2_with (first
    | (at_builtin; refine wp_app (enc := encI) (fun _ => rfl) (by simp [encI, Value.oneCell']) rfl (.tmp 11) (.tmp 13) 27 rfl 3 (.int .i64 0) 8 Try.underlying27 Try.infoInt rfl (by decide) w.heap.size _ m _ _ rfl (hown2.alloc _) _ 1 _ [x] rfl (Rd.new1 _ x _ _ _ rfl) (m + 1) rfl _ rfl (by omega) (by omega) (by have := hb2.size; simp; omega) ?_; intro A4 c4 w4 ho4 hg4 _; have hb4 := (hb2.alloc hb2.size _).grown hg4 (by have := hb2.size; simp; omega) (own_block_ge hown2)))
   have hrg3 := (hrg2.alloc _).kept hg4 hlow hit
   go_roundw
   case rel => exact ⟨_, cnt2, m + 1, c4, A4, ss ++ [x], rfl, hrg3, by omega, ho4, HH.out.2.2.step HS.out.2.2 HH.out.1 HH.out.2.1, hb4⟩
   case measure => rw [hrg3.left_eq, hrg.left_eq]; exact hlt

set_option maxRecDepth 100000 in
set_option maxHeartbeats 1000000 in
/-- dirty.rising, of no map. -/
theorem dRising_none (w : World) :
  Calls Try.prog 72 #[.map none] w fun e w' => e = .returned (.slice none 0 0) ∧ Below w.heap.size w w' := by
 have hrg := run_range_nilMap (P := Try.prog) w 39 3 3 Try.underlying39
 have hnx : ∀ ty, (Instr.next (.pointer (some ⟨w.heap.size, 0, none⟩)) false ty).run Try.prog (w.alloc (.mapIter none 0 #[] 0)) = _ := fun ty => run_next_nilMap _ ty 0 0 #[]
 go_enter Try.func72, Try.ntmps72
 go_wp2
 refine wp_loop_rounds 1 ?_
 rw [rounds_succ]
 go_wp2_with (go_at_call 84; refine (Try.slices_Sort_int_none none 0 _).mono ?_; rintro e w' ⟨rfl, rfl⟩)
 go_ret
 exact ⟨rfl, (Below.refl _ _).alloc (Nat.le_refl _) _⟩

/-- dirty.rising -/
theorem dRising (mv : Value) (row : List Int) (w : World) (hs : MapSet w mv row) (hn : row.length ≤ 1000000) :
  Calls Try.prog 72 #[mv] w fun e w' => ∃ A n c, e = .returned (.slice A n c) ∧ OwnL encI 3 1 w' w.heap.size A n c row ∧ Below w.heap.size w w' := by
 rcases hs.is with ⟨rfl, rfl⟩ | ⟨b, D, rfl, _, _⟩
 ·refine (dRising_none w).mono ?_
  rintro e w' ⟨rfl, h⟩
  exact ⟨none, 0, 0, rfl, OwnL.nil _ _, h⟩
 ·exact dRising_some b row w hs hn

set_option maxHeartbeats 400000 in
/-- (*dirty.Set).Drain -/
theorem dDrain (s o : Nat) (t : TypeId) (cs : Array Value) (mv : Value) (row : List Int) (w : World) (hb : Blk w s t cs) (ho : cs[o]? = some mv) (hs : MapSet w mv row) (hn : row.length ≤ 1000000) :
  Calls Try.prog 52 #[.pointer (some ⟨s, o, none⟩)] w fun e w' => ∃ A n c, e = .returned (.slice A n c) ∧ OwnL encI 3 1 w' w.heap.size A n c row ∧ SetTurn s o mv [] w w' := by
 have hc : w.cell? ⟨s, o, none⟩ = some mv := (hb.cell o).trans ho
 have hsl : s < w.heap.size := hb.lt
 have HH := Lib.hid (And.intro hb (And.intro ho hs))
 obtain ⟨r, rfl⟩ := hs.shape
 clear hb ho hs
 go_enter Try.func52, Try.ntmps52
 go_wp2_with (go_at_call 72; refine (dRising _ _ _ HH.out.2.2 hn).mono ?_; rintro e w1 ⟨A, n, c, rfl, hown, hbl⟩; have hc1 : w1.cell? ⟨s, o, none⟩ = some (.map r) := (hbl.cell hsl).trans hc; obtain ⟨w2, hrun, hs2, hg2, hz2⟩ := (HH.out.2.2.below hbl).clear_ 0; have hrun' : ∀ ty, (Builtin.clear_ #[39] ty #[.map r]).run Try.prog w1 = .ok (.tuple #[]) w2 := (fun ty => hrun); have HQ := Lib.hid (And.intro hown (And.intro hbl (And.intro hs2 (And.intro hg2 hz2)))); clear hown hbl hrun hs2 hg2 hz2)
 go_ret
 obtain ⟨hown, hbl, hs2, hg2, hz2⟩ := HQ.out
 obtain ⟨hb, ho, hs⟩ := HH.out
 have hlt : ∀ b, r = some b → b < w.heap.size := fun b e => hs.lt b (by rw [e])
 refine ⟨A, n, c, rfl, ?_, ⟨⟨.map r, hs2, fun t' cs' hb' => ?_, .inl rfl⟩, ?_⟩⟩
 ·refine hown.step (fun ad ha hge hl => hg2.block _ hl (fun e => ?_))
  have := hlt ad.block e.symm
  omega
 ·have hne : some s ≠ r := fun e => hs.ne_blk hb (by rw [← e])
  have : cs'.setIfInBounds o (.map r) = cs' := by
   have e : cs' = cs := by
    unfold Blk at hb hb'
    rw [hb] at hb'
    cases hb'; rfl
   subst e
   apply Array.ext_getElem?
   intro i
   rw [Array.getElem?_setIfInBounds]
   split
   ·rename_i e'; subst e'; split <;> simp_all
   ·rfl
  rw [this]
  exact (hb'.below hbl hsl).grown hg2 hne
 ·exact (Kept.of_below hbl).trans (Kept.of_grown (F := fun k => k = s ∨ Value.map r = .map (some k)) hg2 (fun k hk _ => .inr (by rw [show r = some k from hk]))) (fun _ _ h => h)
theorem dDrain_nil (w : World) : Calls Try.prog 52 #[.pointer none] w fun e w' => e = .returned (.slice none 0 0) ∧ w = w' := by
 go_enter Try.func52, Try.ntmps52
 go_wp2
 go_ret
 exact ⟨rfl, rfl⟩
theorem dMark_nil (A : Option Addr) (n c : Nat) (w : World) : Calls Try.prog 35 #[.pointer none, .slice A n c] w fun e w' => e = .returned (.int .i64 0) ∧ w = w' := by
 go_enter Try.func35, Try.ntmps35
 go_wp2
 go_ret
 exact ⟨rfl, rfl⟩

end Go.Proofs.Ytcafmodenbifhaa
