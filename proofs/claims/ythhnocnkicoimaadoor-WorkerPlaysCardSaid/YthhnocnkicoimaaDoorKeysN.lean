/-
 slices.Sorted(maps.Keys(m)), m a map[int]int: the keys, rising.
 slices.Sorted(maps.Keys(m)), m no map: no keys.
-/
import Derived.RangeFuncNested
import Derived.RangeFuncBound
import Derived.RangeFuncCalls
import Derived.RangeFuncLeaves
import Derived.Shelf.Abstract
import Derived.Shelf.RegionOpen
import Derived.WalkKit
import Derived.OwnWalkIn
import Derived.TacticsInMore
import Derived.LoopNIn
import Derived.LoopIn
import Derived.Maps.AppendAt
import Derived.Maps.OwnIn
import Derived.RangeFuncBox
import Derived.Test.YthhnocnkicoimaaDoorDrain
set_option linter.unusedVariables false
set_option linter.unusedSimpArgs false
namespace Go.Proofs.YthhnocnkicoimaaDoor
open Go.RowKit Go.Maps Go.Shelf

attribute [local go_sem] Oper.semAt_some

set_option maxRecDepth 100000 in
set_option maxHeartbeats 1000000 in
theorem keys1_in (F : Fence) (n : Nat) (h1 : F.fn 105) (hro : F.round = none) (hn : 1 ≤ n) (l Bm b : Nat) (row : List Int) (J Jx : List Int → World → Prop)
  (hY : ∀ pre x W, J pre W → pre.length < row.length → YieldAt F (n - 1) Tryd.prog l #[.int .i64 x] W fun e W' => (e = .returned (.bool true) ∧ J (pre ++ [x]) W' ∧ KeepsWalks W W') ∨ (e = .returned (.bool false) ∧ Jx (pre ++ [x]) W'))
  (W : World) (hJ : AbidesFrom W.heap.size J) (hm : W.cell? ⟨Bm, 0, none⟩ = some (.map (some b))) (hs : MapSet W (.map (some b)) row) (h0 : J [] W) :
  CallsIn F n Tryd.prog 105 #[.func (.yield l) #[] #[], .pointer (some ⟨Bm, 0, none⟩)] W fun e W' => (∃ v, e = .returned v) ∧ ((∃ ss : List Int, (ss.Nodup ∧ ∀ x, x ∈ ss ↔ x ∈ row) ∧ J ss W') ∨ (∃ ss, True ∧ Jx ss W')) := by
 rcases hs.is with ⟨h0, _⟩ | ⟨b', D, hv, ho, hd⟩
 ·cases h0
 cases hv
 have hsz := hd.size
 have HS := Lib.hid (And.intro hsz hd)
 have HY := Lib.hid hY
 have HJ := Lib.hid hJ
 clear hsz hd hs hY hJ
 refine callsIn_of_wp Tryd.func105 rfl h1 ?_ hro
 simp only [Tryd.ntmps105, List.size_toArray, List.length_cons, List.length_nil, Nat.reduceAdd, Nat.reduceSub, Array.replicate_succ, Array.replicate_zero, List.push_toArray, List.append_toArray, List.nil_append, List.cons_append]
 gi_wp2_with (first
  | (gi_at_range; refine wpListIn_range_own _ rfl _ 26 rfl 3 3 lawI Tryd.underlying26 _ b _ _ rfl ho ?_; intro w0 hrg0 hg0 hs0))
 go_frame
 gi_loopw [3] (fun _ wr => ∃ (left : Lit → Bool) (cnt : Nat) (ss : List Int), wr.ranges Tryd.prog 3 (plainElem Tryd.prog 3) b W.heap.size row.length D left cnt ∧ ss.length + cnt ≤ row.length ∧ Gath row left ss ∧ J ss wr)
  (fun _ wr => wr.rangeLeft b W.heap.size)
 case atStart =>
  exact ⟨_, _, [], hrg0, by have := HS.out.1; simp; omega, Gath.start HS.out.2, HJ.out [] W w0 none h0 hg0 (fun r e => by cases e)⟩
 case round =>
  obtain ⟨left, cnt, ss, hrg, hcs, hG, hJs⟩ := hrel
  gi_wp2_with (first
   | (gi_at_next; refine wpListIn_next_ranges_ii _ rfl _ rfl 3 3 .i64 .i64 lawI Tryd.underlying3 Tryd.underlying3 b W.heap.size _ _ _ _ rfl hrg ?_ ?_))
  ·intro hc0 hl0
   gi_wp2
   go_end0
   exact ⟨⟨_, rfl⟩, .inl ⟨ss, ⟨hG.nodup, hG.all hl0⟩, hJs⟩⟩
  ·intro x cc w2 cnt2 hwx hwc hlk hat hrg2 hlt hg2 hs2 hen
   have hJ2 : J ss w2 := HJ.out ss wr w2 (some W.heap.size) hJs hg2 (fun r e => by cases e; exact ⟨Nat.le_refl _, hrg.iter_walk⟩)
   obtain ⟨fn, tmps, assign, body, hy, hR⟩ := HY.out ss x w2 hJ2 (by omega)
   have HH := Lib.hid (And.intro hlk (And.intro hat hG))
   clear hs2 hlk hat hG
   gi_wp2
   refine hR.mono ?_
   rintro e W3 (⟨rfl, hJ3, hk3⟩ | ⟨rfl, hJx3⟩)
   ·gi_wp2
    have hrg3 := hrg2.of_walks hk3
    go_roundw
    case rel => exact ⟨_, cnt2, ss ++ [x], hrg3, by simp; omega, HH.out.2.2.step HS.out.2 HH.out.1 HH.out.2.1, hJ3⟩
    case measure => rw [hrg3.left_eq, hrg.left_eq]; exact hlt
   ·gi_wp2
    refine bodyPost_ret (results_none rfl _ _ _) rfl ?_
    exact ⟨⟨_, rfl⟩, .inr ⟨_, trivial, hJx3⟩⟩

theorem keys_stops (F : Fence) (n : Nat) (h1 : F.fn 105) (hro : F.round = none) (hn : 1 ≤ n) (Bm b : Nat) (row : List Int) (w : World) (hBm : Bm < w.heap.size) (hm : w.cell? ⟨Bm, 0, none⟩ = some (.map (some b))) (hs : MapSet w (.map (some b)) row) :
  SeqStopsK F n Tryd.prog 105 #[.pointer (some ⟨Bm, 0, none⟩)] (fun x : Int => #[.int .i64 x]) KeepsWalks (fun ss => ss.Nodup ∧ ∀ x, x ∈ ss ↔ x ∈ row) (fun _ => True) row.length w :=
 fun l J Jx W hW hJ _ hY h0 => keys1_in F n h1 hro hn l Bm b row J Jx hY W hJ ((hW.cell (p := ⟨Bm, 0, none⟩) hBm).trans hm) (hs.below hW) h0

set_option maxRecDepth 100000 in
set_option maxHeartbeats 2000000 in
theorem appendInts_in (F : Fence) (n : Nat) (h1 : F.fn 121) (hro : F.round = none) (hn : 2 ≤ n) (g : Nat) (lb : Array Value) (hFg : F.fn g) (eg : ∀ args w, (callFunc g args).run Tryd.prog w = .ok (.enter g args) w)
  (S Sp : List Int → Prop) (N : Nat) (hN : N ≤ 1000000000) (w0 w : World) (hb : Below w0.heap.size w0 w)
  (hseq : SeqStopsK F (n - 1) Tryd.prog g lb (fun x : Int => #[.int .i64 x]) KeepsWalks S Sp N w0) :
  CallsIn F n Tryd.prog 121 #[.slice none 0 0, .func (.func g) #[] lb] w fun e w' => ∃ A nn c xs, e = .returned (.slice A nn c) ∧ S xs ∧ OwnL encI 3 1 w' w.heap.size A nn c xs ∧ Below w.heap.size w w' := by
 have h2 : 1 ≤ n := by omega
 obtain ⟨i0, hi, hz0, hz1, hz2⟩ := info_parts Tryd.infoInt
 have hsz := hb.size
 refine callsIn_of_wp_marks Tryd.func121 rfl h1 ?_ hro
 simp only [Tryd.ntmps121, List.size_toArray, List.length_cons, List.length_nil, Nat.reduceAdd, Nat.reduceSub, Array.replicate_succ, Array.replicate_zero, List.push_toArray, List.append_toArray, List.nil_append, List.cons_append]
 gi_wp2
 have bO := Boxed.new w 29 (.slice none 0 0)
 have hB0 : Below w.heap.size w (w.alloc (.cells #[.slice none 0 0] 29)) := (Below.refl _ w).alloc (Nat.le_refl _) _
 refine wpIn_rangeFunc_ownG hro h2 (gf := g) (lb := lb) rfl hFg eg hseq walksK_t walksK_b (hb.trans (hB0.mono hsz)) (fun _ => rfl)
  (fun pre W => (∃ v, Boxed W w.heap.size 29 v ∧ W.ownsRow w.heap.size 3 1 v pre.length (pre.flatMap encI) ∧ True) ∧ Below w.heap.size w W)
  (fun _ _ _ => False)
  (OwnFrom.and (Own.from (holdsRow_own w.heap.size w.heap.size 29 3 1 (fun pre : List Int => pre.length) (fun pre => pre.flatMap encI) (fun pre v => True)) _) (ownFrom_below (Nat.le_refl _) (by simp)))
  (fun _ _ _ _ _ hs _ _ => hs)
  ⟨⟨_, bO, World.ownsRow_nil _ _ _ _, trivial⟩, hB0⟩
  (fun x => { tmps := #[.slice none 0 0, .func (.func g) #[] lb, .pointer (some ⟨w.heap.size, 0, none⟩), undef, .slice none 0 0, .int .i64 x, .func (.func g) #[] lb, .int .i64 x, undef, undef, undef, undef, undef], defers := [] })
  ?assign ?body ?done ?stop
 case assign =>
  intro l x W K hK
  gi_wp2
  exact hK
 case body =>
  rintro l pre x W ⟨⟨v, hv, hrow, _⟩, hB⟩ hlt
  have hc := hv.cell
  gi_wp2_with (gi_at_builtin; refine wpListIn_append_own _ rfl _ _ 29 rfl w.heap.size 3 i0 (.int .i64 0) 1 8 Tryd.underlying29 hi hz0 hz1 hz2 rfl (by decide) _ _ _ rfl (hrow.alloc _) ⟨W.heap.size, 0, none⟩ 1 1 [.int .i64 x] rfl rfl (cell_one_new _ _ _) (by simp [Value.oneCell']) (by simp only [maxLen]; omega) (by omega) (by have := hB.size; simp; omega) ?_; intro v' w1 hown' hgrow _; obtain ⟨g', cap', rfl⟩ := ownsRow_succ hown'; obtain ⟨hv1, hv2, hr2, hk2, hb2⟩ := hv.appended (by decide) hrow hB.size (Nat.le_refl _) hown' hgrow; have hc1 := hv1.cell; have hf1 := hv1.frozen)
  exact ⟨hk2.from _, hk2.walks, ⟨⟨_, hv2, by simpa [encI] using hr2, trivial⟩, hB.trans hb2⟩⟩
 case done =>
  rintro D ys W hD hS ⟨⟨v, hv, hrow, _⟩, hB⟩ hK
  have hc := hv.cell
  gi_wp2
  refine ⟨by simp, .inl ⟨_, _, rfl, run_takeDeferred hK, ?_⟩⟩
  have hform : ∃ A c, v = .slice A ys.length c := by
   rcases hrow.2 with ⟨rfl, h0⟩ | ⟨g, cap, cur, hv, _⟩
   ·exact ⟨none, 0, by rw [h0]⟩
   ·exact ⟨_, _, hv⟩
  obtain ⟨A, c, rfl⟩ := hform
  exact ⟨_, results_tmp rfl _ _ _, A, _, c, ys, rfl, hS, ⟨ownsRow_putObj hrow _ hK rfl, rfl⟩, hB.trans (belowK_b (w := w) (Nat.le_refl _) W D _ _ (by simp at hD; omega) hK rfl rfl)⟩
 case stop =>
  rintro D c pre W _ _ h _
  exact h.elim

set_option maxHeartbeats 1000000 in
theorem collectInts_in (F : Fence) (n : Nat) (h0 : F.fn 104) (h1 : F.fn 121) (hro : F.round = none) (hn : 3 ≤ n) (g : Nat) (lb : Array Value) (hFg : F.fn g) (eg : ∀ args w, (callFunc g args).run Tryd.prog w = .ok (.enter g args) w)
  (S Sp : List Int → Prop) (N : Nat) (hN : N ≤ 1000000000) (w0 w : World) (hb : Below w0.heap.size w0 w)
  (hseq : SeqStopsK F (n - 1 - 1) Tryd.prog g lb (fun x : Int => #[.int .i64 x]) KeepsWalks S Sp N w0) :
  CallsIn F n Tryd.prog 104 #[.func (.func g) #[] lb] w fun e w' => ∃ A nn c xs, e = .returned (.slice A nn c) ∧ S xs ∧ OwnL encI 3 1 w' w.heap.size A nn c xs ∧ Below w.heap.size w w' := by
 have h2 : 1 ≤ n := by omega
 have hap := appendInts_in F (n - 1) h1 hro (by omega) g lb hFg eg S Sp N hN w0 w hb hseq
 refine callsIn_of_wp Tryd.func104 rfl h0 ?_ hro
 simp only [Tryd.ntmps104, List.size_toArray, List.length_cons, List.length_nil, Nat.reduceAdd, Nat.reduceSub, Array.replicate_succ, Array.replicate_zero, List.push_toArray, List.append_toArray, List.nil_append, List.cons_append]
 gi_wp2_with (gi_at_call 121; refine hap.mono ?_; rintro e w' ⟨A, nn, c, xs, rfl, hS, ho, hb'⟩)
 go_ret
 exact ⟨A, nn, c, xs, rfl, hS, ho, hb'⟩

theorem mapKeys_t (mv : Value) (hm : ∃ r, mv = .map r) (w : World) : Calls Tryd.prog 92 #[mv] w fun e w' => e = .returned (.func (.func 105) #[] #[.pointer (some ⟨w.heap.size, 0, none⟩)]) ∧ w' = w.alloc (.cells #[mv] 26) := by
 obtain ⟨r, rfl⟩ := hm
 have hmf : ∀ (fn : Fn) (first cap : Array Value) (w : World), (Instr.makeFunc fn first cap).run Tryd.prog w = .ok (.func fn first cap) w := fun _ _ _ _ => rfl
 go_enter Tryd.func92, Tryd.ntmps92
 go_wp2
 go_ret
 exact ⟨rfl, rfl⟩

set_option maxHeartbeats 1000000 in
/-- slices.Sorted of what maps.Keys handed back. -/
theorem sortedKeys_t (Bm b : Nat) (row : List Int) (w : World) (hBm : Blk w Bm 26 #[.map (some b)]) (hs : MapSet w (.map (some b)) row) (hn : row.length ≤ 1000000) :
  Calls Tryd.prog 91 #[.func (.func 105) #[] #[.pointer (some ⟨Bm, 0, none⟩)]] w fun e w' => ∃ A nn c, e = .returned (.slice A nn c) ∧ OwnL encI 3 1 w' w.heap.size A nn c row ∧ Below w.heap.size w w' := by
 have hst := keys_stops Fence.wide 6 trivial rfl (by omega) Bm b row w hBm.lt (hBm.cell 0) hs
 have hcol := callsIn_wide.1 (collectInts_in Fence.wide 8 trivial trivial rfl (by omega) 105 #[.pointer (some ⟨Bm, 0, none⟩)] trivial (enters_of Tryd.func105 (by kernel_rfl) rfl) _ _ row.length (by omega) w w (Below.refl _ _) hst)
 have HS := Lib.hid hs.rising
 clear hst hBm hs
 go_enter Tryd.func91, Tryd.ntmps91
 go_wp2_with fail
 with_reducible refine hcol.mono ?_
 clear hcol
 rintro e w1 ⟨A, nn, c, xs, rfl, hS, ho, hb⟩
 have hsrt := sortI_of_rising HS.out hS.1 hS.2
 have hlen : nn ≤ 1000000 := by
  have h1 := ho.len
  have h2 : (sortI xs).length = row.length := by rw [hsrt]
  rw [sortI_len] at h2
  omega
 have HX := Lib.hid (And.intro hsrt ho)
 clear hsrt hS
 go_wp2_with fail
 with_reducible refine (sort_own _ _ _ _ _ _ ho (by omega)).mono ?_
 rintro e w2 ⟨rfl, ho2, hg2⟩
 go_wp2
 go_ret
 exact ⟨A, nn, c, rfl, by rw [← HX.out.1]; exact ho2, hb.grown hg2 hb.size (own_block_ge HX.out.2)⟩

end Go.Proofs.YthhnocnkicoimaaDoor
namespace Go.Proofs.YthhnocnkicoimaaDoor
open Go.RowKit Go.Maps Go.Shelf

attribute [local go_sem] Oper.semAt_some

set_option maxRecDepth 100000 in
set_option maxHeartbeats 1000000 in
theorem keysN_in (F : Fence) (n : Nat) (h1 : F.fn 105) (hro : F.round = none) (hn : 1 ≤ n) (l Bm : Nat) (J Jx : List Int → World → Prop)
  (W : World) (hJ : AbidesFrom W.heap.size J) (hm : W.cell? ⟨Bm, 0, none⟩ = some (.map none)) (h0 : J [] W) :
  CallsIn F n Tryd.prog 105 #[.func (.yield l) #[] #[], .pointer (some ⟨Bm, 0, none⟩)] W fun e W' => (∃ v, e = .returned v) ∧ ((∃ ss : List Int, (ss.Nodup ∧ ∀ x, x ∈ ss ↔ x ∈ ([] : List Int)) ∧ J ss W') ∨ (∃ ss, True ∧ Jx ss W')) := by
 have hrg := run_range_nilMap (P := Tryd.prog) W 26 3 3 Tryd.underlying26
 have hnx : ∀ ty, (Instr.next (.pointer (some ⟨W.heap.size, 0, none⟩)) false ty).run Tryd.prog (W.alloc (.mapIter none 0 #[] 0)) = _ := fun ty => run_next_nilMap _ ty 0 0 #[]
 have HJ2 : Hid (J [] (W.alloc (.mapIter none 0 #[] 0))) := Lib.hid (hJ [] W _ none h0 (World.grownBy_alloc W _ none) (fun r e => by cases e))
 clear hJ h0
 refine callsIn_of_wp Tryd.func105 rfl h1 ?_ hro
 simp only [Tryd.ntmps105, List.size_toArray, List.length_cons, List.length_nil, Nat.reduceAdd, Nat.reduceSub, Array.replicate_succ, Array.replicate_zero, List.push_toArray, List.append_toArray, List.nil_append, List.cons_append]
 gi_wp2
 try go_frame
 gi_loopw [3] (fun _ wr => wr = W.alloc (.mapIter none 0 #[] 0)) (fun _ _ => 0)
 case atStart => rfl
 case round =>
  subst hrel
  gi_wp2
  go_end0
  exact ⟨⟨_, rfl⟩, .inl ⟨[], ⟨List.nodup_nil, fun x => Iff.rfl⟩, HJ2.out⟩⟩

theorem keysN_stops (F : Fence) (n : Nat) (h1 : F.fn 105) (hro : F.round = none) (hn : 1 ≤ n) (Bm : Nat) (w : World) (hBm : Bm < w.heap.size) (hm : w.cell? ⟨Bm, 0, none⟩ = some (.map none)) :
  SeqStopsK F n Tryd.prog 105 #[.pointer (some ⟨Bm, 0, none⟩)] (fun x : Int => #[.int .i64 x]) KeepsWalks (fun ss => ss.Nodup ∧ ∀ x, x ∈ ss ↔ x ∈ ([] : List Int)) (fun _ => True) 0 w :=
 fun l J Jx W hW hJ _ hY h0 => keysN_in F n h1 hro hn l Bm J Jx W hJ ((hW.cell (p := ⟨Bm, 0, none⟩) hBm).trans hm) h0

set_option maxHeartbeats 1000000 in
/-- slices.Sorted of the keys of no map. -/
theorem sortedNone_t (Bm : Nat) (w : World) (hBm : Blk w Bm 26 #[.map none]) :
  Calls Tryd.prog 91 #[.func (.func 105) #[] #[.pointer (some ⟨Bm, 0, none⟩)]] w fun e w' => ∃ A nn c, e = .returned (.slice A nn c) ∧ OwnL encI 3 1 w' w.heap.size A nn c [] ∧ Below w.heap.size w w' := by
 have hst := keysN_stops Fence.wide 6 trivial rfl (by omega) Bm w hBm.lt (hBm.cell 0)
 have hcol := callsIn_wide.1 (collectInts_in Fence.wide 8 trivial trivial rfl (by omega) 105 #[.pointer (some ⟨Bm, 0, none⟩)] trivial (enters_of Tryd.func105 (by kernel_rfl) rfl) _ _ 0 (by omega) w w (Below.refl _ _) hst)
 clear hst hBm
 go_enter Tryd.func91, Tryd.ntmps91
 go_wp2_with fail
 with_reducible refine hcol.mono ?_
 clear hcol
 rintro e w1 ⟨A, nn, c, xs, rfl, hS, ho, hb⟩
 obtain rfl : xs = [] := List.eq_nil_iff_forall_not_mem.2 (fun x hx => by have := (hS.2 x).1 hx; simp at this)
 have hlen : nn ≤ 1000000 := by have h1 := ho.len; simp at h1; omega
 have HX := Lib.hid ho
 clear hS
 go_wp2_with fail
 with_reducible refine (sort_own _ _ _ _ _ _ ho (by omega)).mono ?_
 rintro e w2 ⟨rfl, ho2, hg2⟩
 go_wp2
 go_ret
 exact ⟨A, nn, c, rfl, by simpa [sortI] using ho2, hb.grown hg2 hb.size (own_block_ge HX.out)⟩
set_option maxRecDepth 100000 in
theorem risingNone_t (w : World) : Calls Tryd.prog 60 #[.map none] w fun e w' => ∃ A nn cc, e = .returned (.slice A nn cc) ∧ OwnL encI 3 1 w' w.heap.size A nn cc [] ∧ Below w.heap.size w w' := by
 have h1 := mapKeys_t (.map none) ⟨_, rfl⟩ w
 have hB : Below w.heap.size w (w.alloc (.cells #[.map none] 26)) := (Below.refl _ _).alloc (Nat.le_refl _) _
 have h2 := sortedNone_t w.heap.size _ (Blk.new w 26 #[.map none])
 have HB := Lib.hid hB
 clear hB
 go_enter Tryd.func60, Tryd.ntmps60
 go_wp2_with (first
   | (go_at_call 92; (with_reducible refine h1.mono ?_); rintro r w2 ⟨rfl, hw⟩; replace hw := hw.symm; subst hw)
   | (go_at_call 91; (with_reducible refine h2.mono ?_); rintro r w2 ⟨A, nn, cc, rfl, ho, hb⟩))
 go_ret
 exact ⟨A, nn, cc, rfl, ho.lower HB.out.size, HB.out.trans (hb.mono HB.out.size)⟩
end Go.Proofs.YthhnocnkicoimaaDoor
