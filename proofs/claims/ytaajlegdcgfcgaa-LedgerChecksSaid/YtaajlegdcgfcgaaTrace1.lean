/-
  LAYER 43 (trace): 'some': the iterator over the rows that are of a kind.
-/
import Derived.RangeFuncNested
import Derived.RangeFuncBound
import Derived.RangeFuncCalls
import Derived.RangeFuncLeaves
import Derived.Shelf.Abstract
import Derived.Shelf.RegionOpen
import Derived.WalkKit
import Derived.OwnWalkIn
import Derived.TacticsInMore
import Derived.LoopNIn
import Derived.LoopIn
import Derived.Maps.AppendAt
import Derived.Maps.OwnIn
import Derived.RangeFuncBox
import Derived.Test.YtaajlegdcgfcgaaLedger1
set_option linter.unusedVariables false
set_option linter.unusedSimpArgs false
namespace Go.Proofs.Ytaajlegdcgfcgaa
open Go.RowKit Go.Maps Go.Shelf

attribute [local go_sem] Oper.semAt_some

abbrev rowObj (r : LRow) : Obj := .cells #[.int .i64 r.tick, .int .i64 r.kind, .int .i64 r.place, .int .i64 r.epoch, .int .i64 r.inc, .int .i64 r.job, .int .i64 r.code] 146

theorem filter_snoc_pos {α : Type} (p : α → Bool) (l : List α) (x : α) (h : p x = true) : (l ++ [x]).filter p = l.filter p ++ [x] := by simp [h]
theorem filter_snoc_neg {α : Type} (p : α → Bool) (l : List α) (x : α) (h : p x = false) : (l ++ [x]).filter p = l.filter p := by simp [h]

set_option maxHeartbeats 1000000 in
theorem soKind_in (F : Fence) (n : Nat) (h1 : F.fn 119) (hro : F.round = none) (Bk : Nat) (k : Int) (r : LRow) (W : World) (hk : W.cell? ⟨Bk, 0, none⟩ = some (.int .i64 k)) (hlt : Bk < W.heap.size) :
    CallsIn F n Try.prog 119 #[aggR r, .pointer (some ⟨Bk, 0, none⟩)] W fun e W' => e = .returned (.bool (r.kind == k)) ∧ W' = W.alloc (rowObj r) := by
  refine callsIn_of_wp Try.func119 rfl h1 ?_ hro
  simp only [Try.ntmps119, List.size_toArray, List.length_cons, List.length_nil, Nat.reduceAdd, Nat.reduceSub, Array.replicate_succ, Array.replicate_zero, List.push_toArray, List.append_toArray, List.nil_append, List.cons_append]
  gi_wp2
  go_ret
  exact ⟨rfl, rfl⟩

set_option maxRecDepth 100000 in
set_option maxHeartbeats 1000000 in
theorem some1_in (F : Fence) (n : Nat) (h1 : F.fn 119) (h2 : F.fn 151) (hro : F.round = none) (hn : 1 ≤ n) (l Bl Bs Bk : Nat) (A : Option Addr) (nn c : Nat) (xs : List LRow) (k : Int) (w0 : World)
    (hBl : w0.cell? ⟨Bl, 0, none⟩ = some (.slice A nn c)) (hBs : w0.cell? ⟨Bs, 0, none⟩ = some (.func (.func 119) #[] #[.pointer (some ⟨Bk, 0, none⟩)])) (hBk : w0.cell? ⟨Bk, 0, none⟩ = some (.int .i64 k))
    (hl1 : Bl < w0.heap.size) (hl2 : Bs < w0.heap.size) (hl3 : Bk < w0.heap.size) (hR : Rd encR 7 w0 A nn xs) (hn63 : nn ≤ 140737488351232)
    (J Jx : List LRow → World → Prop)
    (hY : ∀ pre x W, J pre W → pre.length < nn → YieldAt F (n - 1) Try.prog l #[aggR x] W fun e W' =>
      (e = .returned (.bool true) ∧ J (pre ++ [x]) W' ∧ Below w0.heap.size W W') ∨ (e = .returned (.bool false) ∧ Jx (pre ++ [x]) W'))
    (W : World) (hb : Below w0.heap.size w0 W) (hJ : AbidesFrom W.heap.size J) (h0 : J [] W) :
    CallsIn F n Try.prog 151 #[.func (.yield l) #[] #[], .pointer (some ⟨Bl, 0, none⟩), .pointer (some ⟨Bs, 0, none⟩)] W fun e W' => (∃ v, e = .returned v) ∧
      ((∃ ys, ys = xs.filter (fun r : LRow => r.kind == k) ∧ J ys W') ∨ (∃ pre, pre <+: xs.filter (fun r : LRow => r.kind == k) ∧ Jx pre W')) := by
  have hc1 : W.cell? ⟨Bl, 0, none⟩ = some (.slice A nn c) := (hb.cell (p := ⟨Bl, 0, none⟩) hl1).trans hBl
  refine callsIn_of_wp Try.func151 rfl h2 ?_ hro
  simp only [Try.ntmps151, List.size_toArray, List.length_cons, List.length_nil, Nat.reduceAdd, Nat.reduceSub, Array.replicate_succ, Array.replicate_zero, List.push_toArray, List.append_toArray, List.nil_append, List.cons_append]
  gi_wp2
  have HJ := Lib.hid hJ
  have HY := Lib.hid hY
  clear hJ hY
  gi_loopw [8] (fun i wr => ∃ j : Nat, j ≤ nn ∧ i = .int .i64 j ∧ J ((xs.take j).filter (fun r : LRow => r.kind == k)) wr ∧ Below w0.heap.size w0 wr ∧ W.heap.size ≤ wr.heap.size) (fun i _ => nn - (intOf i).toNat)
  case atStart => exact ⟨0, Nat.zero_le _, rfl, h0, hb, Nat.le_refl _⟩
  case round =>
    clear h0 hb hc1
    obtain ⟨j, hj, rfl, hJ1, hB, hWs⟩ := hrel
    by_cases hlt : j < nn
    · obtain ⟨ab, ao, r, rfl, hrr, hal, hcells⟩ := hR.at_ hlt
      have hc0 : wr.cell? ⟨ab, ao + j * 7, none⟩ = some (.int .i64 r.tick) := (hB.cell (p := ⟨ab, ao + j * 7, none⟩) hal).trans (hcells 0 _ rfl)
      have hc1 : wr.cell? ⟨ab, ao + j * 7 + 1, none⟩ = some (.int .i64 r.kind) := (hB.cell (p := ⟨ab, ao + j * 7 + 1, none⟩) hal).trans (hcells 1 _ rfl)
      have hc2 : wr.cell? ⟨ab, ao + j * 7 + 2, none⟩ = some (.int .i64 r.place) := (hB.cell (p := ⟨ab, ao + j * 7 + 2, none⟩) hal).trans (hcells 2 _ rfl)
      have hc3 : wr.cell? ⟨ab, ao + j * 7 + 3, none⟩ = some (.int .i64 r.epoch) := (hB.cell (p := ⟨ab, ao + j * 7 + 3, none⟩) hal).trans (hcells 3 _ rfl)
      have hc4 : wr.cell? ⟨ab, ao + j * 7 + 4, none⟩ = some (.int .i64 r.inc) := (hB.cell (p := ⟨ab, ao + j * 7 + 4, none⟩) hal).trans (hcells 4 _ rfl)
      have hc5 : wr.cell? ⟨ab, ao + j * 7 + 5, none⟩ = some (.int .i64 r.job) := (hB.cell (p := ⟨ab, ao + j * 7 + 5, none⟩) hal).trans (hcells 5 _ rfl)
      have hc6 : wr.cell? ⟨ab, ao + j * 7 + 6, none⟩ = some (.int .i64 r.code) := (hB.cell (p := ⟨ab, ao + j * 7 + 6, none⟩) hal).trans (hcells 6 _ rfl)
      have hcs : wr.cell? ⟨Bs, 0, none⟩ = some (.func (.func 119) #[] #[.pointer (some ⟨Bk, 0, none⟩)]) := (hB.cell (p := ⟨Bs, 0, none⟩) hl2).trans hBs
      have hck : (wr.alloc (rowObj r)).cell? ⟨Bk, 0, none⟩ = some (.int .i64 k) := ((hB.alloc hB.size (rowObj r)).cell (p := ⟨Bk, 0, none⟩) hl3).trans hBk
      have hbs : Bs < wr.heap.size := by have := hB.size; omega
      have hbk : Bk < (wr.alloc (rowObj r)).heap.size := by have := hB.size; simp; omega
      have hso := soKind_in F (n - 1) h1 hro Bk k r _ hck hbk
      have hB2 := (hB.alloc hB.size (rowObj r)).alloc (by have := hB.size; simp; omega) (rowObj r)
      have hJ2 : J ((xs.take j).filter (fun r : LRow => r.kind == k)) ((wr.alloc (rowObj r)).alloc (rowObj r)) :=
        HJ.out _ _ _ none (HJ.out _ _ _ none hJ1 (World.grownBy_alloc wr _ none) (fun r e => by cases e)) (World.grownBy_alloc _ _ none) (fun r e => by cases e)
      have hlen : ((xs.take j).filter (fun r : LRow => r.kind == k)).length < nn := by
        have h1 := List.length_filter_le (fun r : LRow => r.kind == k) (xs.take j)
        have h2 : (xs.take j).length = j := by rw [List.length_take, hR.len]; omega
        omega
      have htk : xs.take (j + 1) = xs.take j ++ [r] := by rw [List.take_add_one, hrr]; rfl
      clear hcells hck hBl hBs hBk hal hJ1
      by_cases hp : (r.kind == k) = true
      · have hft : (xs.take (j + 1)).filter (fun r : LRow => r.kind == k) = (xs.take j).filter (fun r : LRow => r.kind == k) ++ [r] := by rw [htk]; exact filter_snoc_pos (fun r : LRow => r.kind == k) _ _ hp
        have hpre : (xs.take (j + 1)).filter (fun r : LRow => r.kind == k) <+: xs.filter (fun r : LRow => r.kind == k) := (List.take_prefix _ _).filter _
        rw [hft] at hpre
        have HT := Lib.hid (And.intro hft hpre)
        clear hft hpre htk hrr
        obtain ⟨fn, tmps, assign, body, hy, hRd⟩ := HY.out _ r _ hJ2 hlen
        clear hJ2 hlen
        gi_wp2_with (gi_at_call 119; refine hso.mono ?_; rintro e w' ⟨rfl, rfl⟩)
        refine hRd.mono ?_
        rintro e W3 (⟨rfl, hJ3, hk3⟩ | ⟨rfl, hJx3⟩)
        · have hB3 := hB2.trans hk3
          have hs3 : W.heap.size ≤ W3.heap.size := by have := hk3.size; simp at this; omega
          clear hc0 hc1 hc2 hc3 hc4 hc5 hc6 hcs hB hB2 hso hk3
          gi_wp2
          go_roundw
          case rel => exact ⟨j + 1, by omega, by go_num, by rw [HT.out.1]; exact hJ3, hB3, hs3⟩
          case measure => simp [intOf]; omega
        · clear hc0 hc1 hc2 hc3 hc4 hc5 hc6 hcs hB hB2 hso
          gi_wp2
          refine bodyPost_ret (results_none rfl _ _ _) rfl ?_
          exact ⟨⟨_, rfl⟩, .inr ⟨_, HT.out.2, hJx3⟩⟩
      · have hpf : (r.kind == k) = false := by simpa using hp
        have hft : (xs.take (j + 1)).filter (fun r : LRow => r.kind == k) = (xs.take j).filter (fun r : LRow => r.kind == k) := by rw [htk]; exact filter_snoc_neg (fun r : LRow => r.kind == k) _ _ hpf
        have HT := Lib.hid hft
        clear hft htk hrr hp
        gi_wp2_with (gi_at_call 119; refine hso.mono ?_; rintro e w' ⟨rfl, rfl⟩)
        have hs3 : W.heap.size ≤ ((wr.alloc (rowObj r)).alloc (rowObj r)).heap.size := by simp; omega
        refine ⟨fun _ h => (by cases h), ?_⟩
        clear hc0 hc1 hc2 hc3 hc4 hc5 hc6 hcs hB hso
        gi_wp2
        go_roundw
        case rel => exact ⟨j + 1, by omega, by go_num, by rw [HT.out]; exact hJ2, hB2, hs3⟩
        case measure => simp [intOf]; omega
    · have hxs : (xs.take j) = xs := List.take_of_length_le (by have := hR.len; omega)
      rw [hxs] at hJ1
      gi_wp2
      go_end0
      exact ⟨⟨_, rfl⟩, .inl ⟨_, rfl, hJ1⟩⟩

/-- 'some' hands back an iterator over the rows of kind k. -/
theorem some_stops (F : Fence) (n : Nat) (h1 : F.fn 119) (h2 : F.fn 151) (hro : F.round = none) (hn : 1 ≤ n) (Bl Bs Bk : Nat) (A : Option Addr) (nn c : Nat) (xs : List LRow) (k : Int) (w0 : World)
    (hBl : w0.cell? ⟨Bl, 0, none⟩ = some (.slice A nn c)) (hBs : w0.cell? ⟨Bs, 0, none⟩ = some (.func (.func 119) #[] #[.pointer (some ⟨Bk, 0, none⟩)])) (hBk : w0.cell? ⟨Bk, 0, none⟩ = some (.int .i64 k))
    (hl1 : Bl < w0.heap.size) (hl2 : Bs < w0.heap.size) (hl3 : Bk < w0.heap.size) (hR : Rd encR 7 w0 A nn xs) (hn63 : nn ≤ 140737488351232) :
    SeqStopsK F n Try.prog 151 #[.pointer (some ⟨Bl, 0, none⟩), .pointer (some ⟨Bs, 0, none⟩)] (fun r : LRow => #[aggR r]) (Below w0.heap.size) (fun ys => ys = xs.filter (fun r : LRow => r.kind == k)) (fun pre => pre <+: xs.filter (fun r : LRow => r.kind == k)) nn w0 :=
  fun l J Jx W hW hJ _ hY h0 => some1_in F n h1 h2 hro hn l Bl Bs Bk A nn c xs k w0 hBl hBs hBk hl1 hl2 hl3 hR hn63 J Jx hY W hW hJ h0

set_option maxHeartbeats 1000000 in
theorem some_in (F : Fence) (n : Nat) (h1 : F.fn 117) (hro : F.round = none) (A : Option Addr) (nn c : Nat) (fv : Value) (hfv : ∃ f lb, fv = .func (.func f) #[] lb) (w : World) :
    CallsIn F n Try.prog 117 #[.slice A nn c, fv] w fun e w' => e = .returned (.func (.func 151) #[] #[.pointer (some ⟨w.heap.size, 0, none⟩), .pointer (some ⟨w.heap.size + 1, 0, none⟩)]) ∧
      w' = (w.alloc (.cells #[.slice A nn c] 88)).alloc (.cells #[fv] 197) := by
  obtain ⟨f, lb, rfl⟩ := hfv
  have hmf : ∀ (fn : Fn) (first cap : Array Value) (w : World), (Instr.makeFunc fn first cap).run Try.prog w = .ok (.func fn first cap) w := fun _ _ _ _ => rfl
  refine callsIn_of_wp Try.func117 rfl h1 ?_ hro
  simp only [Try.ntmps117, List.size_toArray, List.length_cons, List.length_nil, Nat.reduceAdd, Nat.reduceSub, Array.replicate_succ, Array.replicate_zero, List.push_toArray, List.append_toArray, List.nil_append, List.cons_append]
  gi_wp2
  go_ret
  exact ⟨rfl, rfl⟩

end Go.Proofs.Ytaajlegdcgfcgaa
