/-
  LAYER 43 (trace): New, Note; LAYER 45 (ledger): noted.
-/
import Derived.Deep.RegionHeld3
import Derived.Deep.AppendLies
import Derived.Deep.RegionLaw
import Derived.Test.YtaajlegdcgfcgaaTrace2
set_option linter.unusedVariables false
set_option linter.unusedSimpArgs false
namespace Go.Proofs.Ytaajlegdcgfcgaa
open Go.RowKit Go.Maps Go.Shelf

theorem tnew (w : World) : Calls Try.prog 114 #[] w fun e w' => e = .returned (.pointer (some ⟨w.heap.size, 0, none⟩)) ∧ w' = w.alloc (.cells #[.slice none 0 0] 234) := by
  go_enter Try.func114, Try.ntmps114
  go_wp2
  go_ret
  exact ⟨rfl, rfl⟩

theorem blk_not_row {α : Type} {enc : α → List Value} {W : World} {B : Nat} {t e : TypeId} {cs : Array Value} (h : Blk W B t cs) (hte : t ≠ e) {base size n c : Nat} {A : Option Addr} {l : List α} (hr : OwnL enc e size W base A n c l) : (Value.slice A n c).ownBlock ≠ some B := by
  intro e'
  rcases hr.own.2 with ⟨hv, _⟩ | ⟨g, cap, cur, hv, _, hgb, _⟩
  · rw [hv] at e'; simp [Value.ownBlock] at e'
  · rw [hv] at e'
    obtain rfl : g = B := by simpa [Value.ownBlock] using e'
    have := (show W.heap[g]? = _ from h).symm.trans hgb
    simp at this
    exact hte this.2

set_option maxRecDepth 100000 in
set_option maxHeartbeats 1600000 in
theorem note_t (tb : Nat) (A : Option Addr) (nn c base : Nat) (xs : List LRow) (r : LRow) (w : World) (ht : Blk w tb 234 #[.slice A nn c]) (ho : OwnL encR 146 7 w base A nn c xs) (hbase : base ≤ w.heap.size) (hn : nn ≤ 1000000000) :
    Calls Try.prog 115 #[.pointer (some ⟨tb, 0, none⟩), aggR r] w fun e w' => e = .returned (.int .i64 ((nn : Int) + 1)) ∧ ∃ A' c', Blk w' tb 234 #[.slice A' (nn + 1) c'] ∧
      OwnL encR 146 7 w' base A' (nn + 1) c' (xs ++ [r]) ∧ Kept (fun k => k = tb ∨ some k = (Value.slice A nn c).ownBlock) w w' := by
  obtain ⟨i0, hi0, hz0, hz1, hz2⟩ := info_parts Try.infoRow
  have hne := blk_not_row ht (by decide) ho
  have hne2 : (Value.slice A nn c).ownBlock ≠ some w.heap.size := by
    intro e'
    cases A with
    | none => simp [Value.ownBlock] at e'
    | some ad =>
      have h1 := (ho.at_base ad rfl).2
      simp [Value.ownBlock] at e'
      omega
  have c0 := ht.cell 0
  have f0 := ht.frozen 0
  have hlt := ht.lt
  go_enter Try.func115, Try.ntmps115
  go_wp2_with fail
  have ht1 := ht.alloc (rowObj r)
  have hr1 := Blk.new w 146 #[.int .i64 r.tick, .int .i64 r.kind, .int .i64 r.place, .int .i64 r.epoch, .int .i64 r.inc, .int .i64 r.job, .int .i64 r.code]
  have ho1 := ho.alloc (rowObj r)
  have hk1 : Kept (fun k => k = tb ∨ some k = (Value.slice A nn c).ownBlock) w (w.alloc (rowObj r)) := (Kept.refl _ _).alloc _
  have hb1 : base ≤ (w.alloc (rowObj r)).heap.size := by simp; omega
  have hsz1 : w.heap.size + 1 = (w.alloc (rowObj r)).heap.size := by simp
  clear c0 f0 ht ho
  generalize w.alloc _ = w1 at ht1 hr1 ho1 hk1 hb1 hsz1 ⊢
  generalize w.heap.size = rb at hr1 hlt hsz1 hne2 ⊢
  have c0 := ht1.cell 0
  have f0 := ht1.frozen 0
  have hrl := hr1.lt
  have htl := ht1.lt
  have HO := Lib.hid (And.intro ht1 (And.intro ho1 (And.intro hk1 (And.intro hne hb1))))
  have e0 := hr1.cell 0
  have e1 := hr1.cell 1
  have e2 := hr1.cell 2
  have e3 := hr1.cell 3
  have e4 := hr1.cell 4
  have e5 := hr1.cell 5
  have e6 := hr1.cell 6
  clear ht1 ho1 hk1 hne hr1 hb1
  go_region_law
    ((refine step_append_lies _ (by rfl) _ _ _ (by rfl) base 146 i0 _ 7 56 Try.underlying88 hi0 hz0 hz1 hz2 rfl (by omega) (.slice A nn c) nn (xs.flatMap encR) (by rfl) ((HO.out.2.1.own.alloc _).drew)
        ⟨w1.heap.size, 0, none⟩ 1 1 (encR r) (by rfl) (by rfl) (World.news_of_block (cs := #[.int .i64 r.tick, .int .i64 r.kind, .int .i64 r.place, .int .i64 r.epoch, .int .i64 r.inc, .int .i64 r.job, .int .i64 r.code]) (t := 146) (fr := (0, 0)) (heap_alloc_new w1 _)) (row_one r)
        (by omega) (by simp only [maxLen]; omega) (by omega) (by have := HO.out.2.2.2.2; simp; omega) (w1.heap.size + 1) (by simp) ?_; intro gg cap w2 hown2 hgrow hat hlt2; have c2 : w2.cell? ⟨tb, 0, none⟩ = some (.slice A nn c) := (hgrow.cell_far ⟨tb, 0, none⟩ (by show tb < _; simp; omega) (Ne.symm HO.out.2.2.2.1)).trans (((HO.out.1.alloc _).cell 0)); have f2 : w2.frozen? ⟨tb, 0, none⟩ = false := (hgrow.frozen_far ⟨tb, 0, none⟩ (by show tb < _; simp; omega) (Ne.symm HO.out.2.2.2.1)).trans (((HO.out.1.alloc _).frozen 0))))
  all_goals (
    have ht2 : Blk w2 tb 234 #[.slice A nn c] := (show Blk ((w1.alloc (rowObj r)).drew) tb 234 #[.slice A nn c] from HO.out.1.alloc _).grown hgrow (Ne.symm HO.out.2.2.2.1)
    have ht3 : Blk (w2.setCell ⟨tb, 0, none⟩ (.slice (some ⟨gg, 0, none⟩) (nn + 1) cap)) tb 234 #[.slice (some ⟨gg, 0, none⟩) (nn + 1) cap] := ht2.set_ 0 _
    have hgt : gg ≠ tb := by
      rintro rfl
      rcases hat with h | h
      · exact HO.out.2.2.2.1 h
      · omega
    have ho3 : OwnL encR 146 7 (w2.setCell ⟨tb, 0, none⟩ (.slice (some ⟨gg, 0, none⟩) (nn + 1) cap)) base (some ⟨gg, 0, none⟩) (nn + 1) cap (xs ++ [r]) := by
      have h2 : OwnL encR 146 7 w2 base (some ⟨gg, 0, none⟩) (nn + 1) cap (xs ++ [r]) := ⟨by rw [List.flatMap_append]; simpa using hown2, by rw [List.length_append, HO.out.2.1.len]; rfl⟩
      refine h2.step fun ad ha _ _ => ?_
      cases ha
      exact Below.heap_setCell w2 _ _ gg hgt
    have hk3 : Kept (fun k => k = tb ∨ some k = (Value.slice A nn c).ownBlock) w (w2.setCell ⟨tb, 0, none⟩ (.slice (some ⟨gg, 0, none⟩) (nn + 1) cap)) :=
      ((((HO.out.2.2.1.alloc _).drew).trans (Kept.of_grown (F := fun k => k = tb ∨ some k = (Value.slice A nn c).ownBlock) hgrow (fun k e _ => .inr e.symm)) (fun _ _ h => h)).setCell (fun _ => .inl rfl) _)
    have c3 := ht3.cell 0
    have HZ := Lib.hid (And.intro ht3 (And.intro ho3 hk3))
    clear ht3 ho3 hk3 ht2 hgt hat hgrow hown2 c2 f2 c0 f0 e0 e1 e2 e3 e4 e5 e6
    generalize w2.setCell _ _ = w3 at c3 HZ ⊢
    go_wp2
    go_ret
    exact ⟨rfl, _, _, HZ.out.1, HZ.out.2.1, HZ.out.2.2⟩)

set_option maxHeartbeats 400000 in
theorem noted_t (A : Option Addr) (n c : Nat) (l : List LRow) (w : World) (h : Rd encR 7 w A n l) (hn : n ≤ 1000000) :
    Calls Try.prog 86 #[.slice A n c] w fun e w' => ∃ tb A' c', e = .returned (.pointer (some ⟨tb, 0, none⟩)) ∧ Blk w' tb 234 #[.slice A' n c'] ∧ OwnL encR 146 7 w' w.heap.size A' n c' l ∧ Below w.heap.size w w' := by
  go_enter Try.func86, Try.ntmps86
  go_wp2_with fail
  with_reducible refine (tnew _).mono ?_
  rintro e w' ⟨rfl, rfl⟩
  go_wp2
  have Hh := Lib.hid h
  clear h
  go_loopw [9] (fun i wr => ∃ (k : Nat) (A' : Option Addr) (c' : Nat), k ≤ n ∧ i = .int .i64 k ∧ Blk wr w.heap.size 234 #[.slice A' k c'] ∧ OwnL encR 146 7 wr w.heap.size A' k c' (l.take k) ∧ Below w.heap.size w wr) (fun i _ => n - (intOf i).toNat)
  case atStart => exact ⟨0, none, 0, Nat.zero_le _, rfl, Blk.new w _ _, OwnL.nil _ _, (Below.refl _ _).alloc (Nat.le_refl _) _⟩
  case round =>
    obtain ⟨k, A', c', hk, rfl, hT, hO, hB⟩ := hrel
    by_cases hlt : k < n
    · obtain ⟨ab, ao, r, rfl, hrr, hal, hcells⟩ := (Hh.out.below hB).at_ hlt
      have hc0 : wr.cell? ⟨ab, ao + k * 7, none⟩ = some (.int .i64 r.tick) := hcells 0 _ rfl
      have hc1 : wr.cell? ⟨ab, ao + k * 7 + 1, none⟩ = some (.int .i64 r.kind) := hcells 1 _ rfl
      have hc2 : wr.cell? ⟨ab, ao + k * 7 + 2, none⟩ = some (.int .i64 r.place) := hcells 2 _ rfl
      have hc3 : wr.cell? ⟨ab, ao + k * 7 + 3, none⟩ = some (.int .i64 r.epoch) := hcells 3 _ rfl
      have hc4 : wr.cell? ⟨ab, ao + k * 7 + 4, none⟩ = some (.int .i64 r.inc) := hcells 4 _ rfl
      have hc5 : wr.cell? ⟨ab, ao + k * 7 + 5, none⟩ = some (.int .i64 r.job) := hcells 5 _ rfl
      have hc6 : wr.cell? ⟨ab, ao + k * 7 + 6, none⟩ = some (.int .i64 r.code) := hcells 6 _ rfl
      clear hcells
      have HR := Lib.hid hrr
      clear hrr
      go_wp2_with fail
      have hcx := note_t w.heap.size A' k c' w.heap.size (l.take k) r (wr.alloc (rowObj r)) (hT.alloc _) (hO.alloc _) (by have := hB.size; simp; omega) (by omega)
      with_reducible refine hcx.mono ?_
      clear hcx
      rintro e w2 ⟨rfl, A2, c2, hT2, hO2, hK2⟩
      have hB2 : Below w.heap.size w w2 := (hB.alloc hB.size (rowObj r)).trans (hK2.below (by have := hB.size; simp; omega) (fun i hi h => by
        rcases h with h | h
        · omega
        · have := own_block_ge hO i h.symm
          omega))
      clear hK2 hT hO hB hc0 hc1 hc2 hc3 hc4 hc5 hc6 hal
      go_wp2
      go_roundw
      case rel => exact ⟨k + 1, A2, c2, by omega, by go_num, hT2, by rw [take_succ_of _ _ _ HR.out]; exact hO2, hB2⟩
      case measure => simp [intOf]; omega
    · have hkn : k = n := by omega
      subst hkn
      have hl : l.take k = l := List.take_of_length_le (by have := Hh.out.len; omega)
      rw [hl] at hO
      go_wp2
      go_ret
      exact ⟨w.heap.size, A', c', rfl, hT, hO, hB⟩

end Go.Proofs.Ytaajlegdcgfcgaa
