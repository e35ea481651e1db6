/-
  LAYER 43 (trace): slices.AppendSeq, slices.Collect over rows; Of.
-/
import Derived.Test.YtaajlegdcgfcgaaTrace1
set_option linter.unusedVariables false
set_option linter.unusedSimpArgs false
namespace Go.Proofs.Ytaajlegdcgfcgaa
open Go.RowKit Go.Maps Go.Shelf

attribute [local go_sem] Oper.semAt_some

abbrev zeroR : Value := .agg #[.int .i64 0, .int .i64 0, .int .i64 0, .int .i64 0, .int .i64 0, .int .i64 0, .int .i64 0]
theorem Try.infoRow : (Try.prog.info? 146).map (fun i => (i.zero, i.size, i.bytes)) = some (some zeroR, 7, 56) := by kernel_rfl

theorem cells_row_new (w : World) (r : LRow) : ∀ j u, (encR r)[j]? = some u → (w.alloc (rowObj r)).cell? ((⟨w.heap.size, 0, none⟩ : Addr).add j) = some u := by
  intro j u hj
  rw [add_at]
  rw [cell_of_row _ _ _ _ _ (0, 0) (heap_alloc_new w _)]
  rw [← hj]
  simp [encR]
theorem row_one (r : LRow) : ∀ u ∈ encR r, u.oneCell' = true := by
  intro u hu
  simp [encR] at hu
  rcases hu with rfl | rfl | rfl | rfl | rfl | rfl | rfl <;> rfl

/-- A row of cells lies on where no cells are turned. -/
theorem blk_own {β : Type} (g : Nat) (t : TypeId) (cs : Array Value) : Own (fun (_ : β) W => Blk W g t cs) := by
  rintro s X Y row h hg hrow
  refine (hg.block g h.lt (fun e' => ?_)).trans h
  obtain ⟨o, ho, hc⟩ := hrow g e'.symm
  rw [show X.heap[g]? = _ from h] at ho
  cases ho
  cases hc

set_option maxRecDepth 100000 in
set_option maxHeartbeats 2000000 in
theorem appendRows_in (F : Fence) (n : Nat) (h1 : F.fn 150) (hro : F.round = none) (hn : 2 ≤ n) (g : Nat) (lb : Array Value) (hFg : F.fn g) (eg : ∀ args w, (callFunc g args).run Try.prog w = .ok (.enter g args) w)
    (xs : List LRow) (N : Nat) (hN : N ≤ 1000000000) (w0 w : World) (hb : Below w0.heap.size w0 w)
    (hseq : SeqStopsK F (n - 1) Try.prog g lb (fun r : LRow => #[aggR r]) (Below w0.heap.size) (fun ys => ys = xs) (fun pre => pre <+: xs) N w0) :
    CallsIn F n Try.prog 150 #[.slice none 0 0, .func (.func g) #[] lb] w fun e w' => ∃ A nn c, e = .returned (.slice A nn c) ∧ OwnL encR 146 7 w' w.heap.size A nn c xs ∧ Below w.heap.size w w' := by
  have h2 : 1 ≤ n := by omega
  obtain ⟨i0, hi, hz0, hz1, hz2⟩ := info_parts Try.infoRow
  have hsz := hb.size
  refine callsIn_of_wp_marks Try.func150 rfl h1 ?_ hro
  simp only [Try.ntmps150, List.size_toArray, List.length_cons, List.length_nil, Nat.reduceAdd, Nat.reduceSub, Array.replicate_succ, Array.replicate_zero, List.push_toArray, List.append_toArray, List.nil_append, List.cons_append]
  gi_wp2
  have bO := Boxed.new w 88 (.slice none 0 0)
  have hB0 : Below w.heap.size w (w.alloc (.cells #[.slice none 0 0] 88)) := (Below.refl _ w).alloc (Nat.le_refl _) _
  refine wpIn_rangeFunc_ownH hro h2 (gf := g) (lb := lb) rfl hFg eg hseq belowK_t (belowK_b (by simp; omega)) (hb.trans (hB0.mono hsz)) (fun _ => rfl)
    (fun pre W => (∃ v, Boxed W w.heap.size 88 v ∧ W.ownsRow w.heap.size 146 7 v pre.length (pre.flatMap encR) ∧ True) ∧ Below w.heap.size w W)
    (fun _ _ _ => False)
    (OwnFrom.and (Own.from (holdsRow_own w.heap.size w.heap.size 88 146 7 (fun pre : List LRow => pre.length) (fun pre => pre.flatMap encR) (fun pre v => True)) _) (ownFrom_below (Nat.le_refl _) (by simp)))
    (fun _ _ _ _ _ hs _ _ => hs)
    ⟨⟨_, bO, World.ownsRow_nil _ _ _ _, trivial⟩, hB0⟩
    (fun x a' W => ∃ Bx, w.heap.size < Bx ∧ Blk W Bx 146 #[.int .i64 x.tick, .int .i64 x.kind, .int .i64 x.place, .int .i64 x.epoch, .int .i64 x.inc, .int .i64 x.job, .int .i64 x.code] ∧
      a' = { tmps := #[.slice none 0 0, .func (.func g) #[] lb, .pointer (some ⟨w.heap.size, 0, none⟩), undef, .slice none 0 0, .pointer (some ⟨Bx, 0, none⟩), .func (.func g) #[] lb, aggR x, undef, undef, undef, undef, undef], defers := [] })
    (fun x a' _ X Y row hs hg hr => by obtain ⟨Bx, h1, h2, h3⟩ := hs; exact ⟨Bx, h1, blk_own Bx _ _ () X Y row h2 hg (fun r e => (hr r e).2), h3⟩)
    ?assign ?body ?done ?stop
  case assign =>
    rintro l pre x W K ⟨⟨v, bS1, hrow, _⟩, hB1⟩ hK
    gi_wp2
    exact hK _ _ ((KeepsOthers.alloc _ _).from _) ((Below.refl _ W).alloc (by have := hB1.size; omega) _) ⟨⟨v, bS1.alloc _, hrow.alloc _, trivial⟩, hB1.alloc hB1.size _⟩ ⟨W.heap.size, bS1.lt, Blk.new W _ _, rfl⟩
  case body =>
    rintro l pre x a' W hl ⟨r, hr⟩ ⟨⟨v, hv, hrow, _⟩, hB⟩ ⟨Bx, hBx, bX, rfl⟩ hlt
    have hc := hv.cell
    have c0 := bX.cell 0
    have c1 := bX.cell 1
    have c2 := bX.cell 2
    have c3 := bX.cell 3
    have c4 := bX.cell 4
    have c5 := bX.cell 5
    have c6 := bX.cell 6
    gi_wp2_with (gi_at_builtin; refine wpListIn_append_own _ rfl _ _ 88 rfl w.heap.size 146 i0 zeroR 7 56 Try.underlying88 hi hz0 hz1 hz2 rfl (by decide) _ _ _ rfl (hrow.alloc _) ⟨W.heap.size, 0, none⟩ 1 1 (encR x) rfl rfl (cells_row_new _ _) (row_one _) (by simp only [maxLen]; omega) (by omega) (by have := hB.size; simp; omega) ?_; intro v' w1 hown' hgrow _; obtain ⟨g', cap', rfl⟩ := ownsRow_succ hown'; obtain ⟨hv1, hv2, hr2, hk2, hb2⟩ := hv.appended (by decide) hrow hB.size (Nat.le_refl _) hown' hgrow; have hc1 := hv1.cell; have hf1 := hv1.frozen)
    exact ⟨hk2.from _, hb2.mono hsz, ⟨⟨_, hv2, by simpa using hr2, trivial⟩, hB.trans hb2⟩⟩
  case done =>
    rintro D ys W hD rfl ⟨⟨v, hv, hrow, _⟩, hB⟩ hK
    have hc := hv.cell
    gi_wp2
    refine ⟨by simp, .inl ⟨_, _, rfl, run_takeDeferred hK, ?_⟩⟩
    have hform : ∃ A c, v = .slice A ys.length c := by
      rcases hrow.2 with ⟨rfl, h0⟩ | ⟨g, cap, cur, hv, _⟩
      · exact ⟨none, 0, by rw [h0]⟩
      · exact ⟨_, _, hv⟩
    obtain ⟨A, c, rfl⟩ := hform
    exact ⟨_, results_tmp rfl _ _ _, A, _, c, rfl, ⟨ownsRow_putObj hrow _ hK rfl, rfl⟩, hB.trans (belowK_b (w := w) (Nat.le_refl _) W D _ _ (by simp at hD; omega) hK rfl rfl)⟩
  case stop =>
    rintro D c pre W _ _ h _
    exact h.elim

set_option maxHeartbeats 1000000 in
theorem collectRows_in (F : Fence) (n : Nat) (h0 : F.fn 116) (h1 : F.fn 150) (hro : F.round = none) (hn : 3 ≤ n) (g : Nat) (lb : Array Value) (hFg : F.fn g) (eg : ∀ args w, (callFunc g args).run Try.prog w = .ok (.enter g args) w)
    (xs : List LRow) (N : Nat) (hN : N ≤ 1000000000) (w0 w : World) (hb : Below w0.heap.size w0 w)
    (hseq : SeqStopsK F (n - 1 - 1) Try.prog g lb (fun r : LRow => #[aggR r]) (Below w0.heap.size) (fun ys => ys = xs) (fun pre => pre <+: xs) N w0) :
    CallsIn F n Try.prog 116 #[.func (.func g) #[] lb] w fun e w' => ∃ A nn c, e = .returned (.slice A nn c) ∧ OwnL encR 146 7 w' w.heap.size A nn c xs ∧ Below w.heap.size w w' := by
  have h2 : 1 ≤ n := by omega
  have hap := appendRows_in F (n - 1) h1 hro (by omega) g lb hFg eg xs N hN w0 w hb hseq
  refine callsIn_of_wp Try.func116 rfl h0 ?_ hro
  simp only [Try.ntmps116, List.size_toArray, List.length_cons, List.length_nil, Nat.reduceAdd, Nat.reduceSub, Array.replicate_succ, Array.replicate_zero, List.push_toArray, List.append_toArray, List.nil_append, List.cons_append]
  gi_wp2_with (gi_at_call 150; refine hap.mono ?_; rintro e w' ⟨A, nn, c, rfl, ho, hb'⟩)
  go_ret
  exact ⟨A, nn, c, rfl, ho, hb'⟩

/-- A trace: its block holds the slice of its rows. -/
theorem all_t (tb : Nat) (A : Option Addr) (nn c : Nat) (w : World) (ht : Blk w tb 234 #[.slice A nn c]) :
    Calls Try.prog 118 #[.pointer (some ⟨tb, 0, none⟩)] w fun e w' => e = .returned (.slice A nn c) ∧ w' = w := by
  have c0 := ht.cell 0
  have hlt := ht.lt
  go_enter Try.func118, Try.ntmps118
  go_wp2
  go_ret
  exact ⟨rfl, rfl⟩

set_option maxRecDepth 100000 in
set_option maxHeartbeats 1000000 in
theorem of_t (tb : Nat) (A : Option Addr) (nn c : Nat) (xs : List LRow) (k : Int) (w : World) (ht : Blk w tb 234 #[.slice A nn c]) (hR : Rd encR 7 w A nn xs) (hn : nn ≤ 1000000000) :
    Calls Try.prog 87 #[.pointer (some ⟨tb, 0, none⟩), .int .i64 k] w fun e w' => ∃ A' n' c', e = .returned (.slice A' n' c') ∧ OwnL encR 146 7 w' w.heap.size A' n' c' (xs.filter (fun r : LRow => r.kind == k)) ∧ Below w.heap.size w w' := by
  have hmf : ∀ (fn : Fn) (first cap : Array Value) (w : World), (Instr.makeFunc fn first cap).run Try.prog w = .ok (.func fn first cap) w := fun _ _ _ _ => rfl
  have hall := all_t tb A nn c _ (ht.alloc (.cells #[.int .i64 k] 3))
  have hsome := callsIn_wide.1 (some_in Fence.wide 8 trivial rfl A nn c (.func (.func 119) #[] #[.pointer (some ⟨w.heap.size, 0, none⟩)]) ⟨_, _, rfl⟩ (w.alloc (.cells #[.int .i64 k] 3)))
  obtain ⟨w3, hw3⟩ : ∃ w3, ((w.alloc (.cells #[.int .i64 k] 3)).alloc (.cells #[.slice A nn c] 88)).alloc (.cells #[.func (.func 119) #[] #[.pointer (some ⟨w.heap.size, 0, none⟩)]] 197) = w3 := ⟨_, rfl⟩
  have hB3 : Below w.heap.size w w3 := by rw [← hw3]; exact (((Below.refl _ w).alloc (Nat.le_refl _) _).alloc (by simp) _).alloc (by simp; omega) _
  have hs3 : w3.heap.size = w.heap.size + 3 := by rw [← hw3]; simp
  have e1 : Blk w3 w.heap.size 3 #[.int .i64 k] := by rw [← hw3]; exact ((Blk.new w _ _).alloc _).alloc _
  have e2 : Blk w3 (w.heap.size + 1) 88 #[.slice A nn c] := by
    rw [← hw3]
    have := (Blk.new (w.alloc (.cells #[.int .i64 k] 3)) 88 #[.slice A nn c]).alloc (.cells #[.func (.func 119) #[] #[.pointer (some ⟨w.heap.size, 0, none⟩)]] 197)
    simpa using this
  have e3 : Blk w3 (w.heap.size + 2) 197 #[.func (.func 119) #[] #[.pointer (some ⟨w.heap.size, 0, none⟩)]] := by
    rw [← hw3]
    have := Blk.new ((w.alloc (.cells #[.int .i64 k] 3)).alloc (.cells #[.slice A nn c] 88)) 197 #[.func (.func 119) #[] #[.pointer (some ⟨w.heap.size, 0, none⟩)]]
    simpa using this
  have hst := some_stops Fence.wide 6 trivial trivial rfl (by omega) (w.heap.size + 1) (w.heap.size + 2) w.heap.size A nn c xs k w3 (e2.cell 0) (e3.cell 0) (e1.cell 0) (by omega) (by omega) (by omega) (hR.below hB3) (by omega)
  have hcol := callsIn_wide.1 (collectRows_in Fence.wide 8 trivial trivial rfl (by omega) 151 #[.pointer (some ⟨w.heap.size + 1, 0, none⟩), .pointer (some ⟨w.heap.size + 2, 0, none⟩)] trivial (enters_of Try.func151 (by kernel_rfl) rfl)
    (xs.filter (fun r : LRow => r.kind == k)) nn hn w3 w3 (Below.refl _ _) hst)
  have HX := Lib.hid (And.intro hB3 hs3)
  clear hst e1 e2 e3 hB3 hs3 hR
  go_enter Try.func87, Try.ntmps87
  go_wp2_with fail
  with_reducible refine hall.mono ?_
  clear hall
  rintro e w' ⟨rfl, rfl⟩
  go_wp2_with fail
  with_reducible refine hsome.mono ?_
  clear hsome
  rintro e w' ⟨rfl, rfl⟩
  rw [hw3]
  simp only [World.size_alloc]
  go_wp2_with fail
  with_reducible refine hcol.mono ?_
  clear hcol
  rintro e w' ⟨A', n', c', rfl, ho, hb⟩
  go_wp2
  go_ret
  exact ⟨A', n', c', rfl, ho.lower (by have := HX.out.2; omega), HX.out.1.trans (hb.mono (by have := HX.out.2; omega))⟩

end Go.Proofs.Ytaajlegdcgfcgaa
