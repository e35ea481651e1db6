/-
  slices.Sorted(maps.Keys(m)), m a map[int]api.Row: the keys, rising.
-/
import Derived.RangeFuncNested
import Derived.RangeFuncBound
import Derived.RangeFuncCalls
import Derived.RangeFuncLeaves
import Derived.Shelf.Abstract
import Derived.Shelf.RegionOpen
import Derived.WalkKit
import Derived.OwnWalkIn
import Derived.TacticsInMore
import Derived.LoopNIn
import Derived.LoopIn
import Derived.Maps.AppendAt
import Derived.Maps.OwnIn
import Derived.RangeFuncBox
import Derived.Test.YtaajlegdcgfcgaaKeys
import Derived.Test.YtaajlegdcgfcgaaMapV
import Derived.Test.YtaajlegdcgfcgaaTrace2
set_option linter.unusedVariables false
set_option linter.unusedSimpArgs false
namespace Go.Proofs.Ytaajlegdcgfcgaa
open Go.RowKit Go.Maps Go.Shelf

attribute [local go_sem] Oper.semAt_some

theorem GathV.start {D : DataW Value} {row : List Int} (h : SetV D row) : Gath row (Maps.has D) [] := by
  refine ⟨List.nodup_nil, fun x => ?_⟩
  rw [h.has]
  by_cases hx : x ∈ row <;> simp [hx]
theorem GathV.step {D : DataW Value} {row ss : List Int} {left : Lit → Bool} (hd : SetV D row) (h : Gath row left ss) {x : Int} {y : DataW Value} (hlk : left (.int .i64 x) = true) (hat : ∀ zd, D.atKey (.int .i64 x) zd = y) :
    Gath row (fun z => left z && !z.sameKey (.int .i64 x)) (ss ++ [x]) := by
  have hx : x ∈ row := by
    have := has_true_of_atKey hat
    rw [hd.has] at this
    exact of_decide_eq_true this
  have hns : x ∉ ss := fun hm => by rw [(h.mem x).1 hm |>.2] at hlk; cases hlk
  refine ⟨List.nodup_append.2 ⟨h.nodup, by simp, fun a ha b hb => by rw [List.mem_singleton.1 hb]; exact fun e => hns (e ▸ ha)⟩, fun z => ?_⟩
  rw [List.mem_append, List.mem_singleton, h.mem]
  by_cases e : z = x
  · subst e
    simp [sameKey_int, hx]
  · simp [sameKey_int, e]
theorem wpListIn_next_V {F : Fence} {n : Nat} {ops : Array Oper} {rest : List Oper} {o : Oper} {a : Act} {Q : Exit → Act → World → Prop} (w : World) (hg : o.guard = none) (it : Operand) (hop : o.op = Op.next it false) (b r nn : Nat) (D : DataW Value) (left : Lit → Bool) (cnt : Nat)
    (hit : a.eval it = .pointer (some ⟨r, 0, none⟩)) (h : w.ranges Try.prog 3 heldR b r nn D left cnt)
    (hDone : cnt = 0 → (∀ kl, left kl = false) → wpListIn F n Try.prog ops Q rest (a.put o.dst (.tuple #[.bool false])) w)
    (hMore : ∀ (x : Int) (v : Value) (w' : World) (cnt' : Nat), (Lit.int .i64 x).wf = true → left (.int .i64 x) = true → (∀ zd, D.atKey (.int .i64 x) zd = .held v) → w'.ranges Try.prog 3 heldR b r nn D (fun z => left z && !z.sameKey (.int .i64 x)) cnt' → cnt' < cnt →
      w.grownBy w' (some r) → w'.heap.size = w.heap.size → (Instr.entry (.pointer (some ⟨r, 0, none⟩))).run Try.prog w' = .ok (.tuple #[.int .i64 x, v]) w' → wpListIn F n Try.prog ops Q rest (a.put o.dst (.tuple #[.bool true, .int .i64 x, v])) w') :
    wpListIn F n Try.prog ops Q (o :: rest) a w :=
  wpListIn_next_ranges w hg it hop 3 lawI heldR (Value.int .i64) (id : Value → Value) (fun key kl hkey => by obtain ⟨x, rfl, _⟩ := Maps.keyOf_int_inv Try.underlying3 hkey; exact ⟨x, rfl⟩) (fun v y hv => ⟨v, rfl⟩)
    b r nn D left cnt hit h hDone (fun x c kl y w' cnt' hkey hlk hv hat hrg hlt hgr hsz hen => by
      obtain ⟨x', ex, rfl, hwx⟩ := Maps.keyOf_int_inv Try.underlying3 hkey
      cases ex
      exact hMore x c w' cnt' hwx hlk (fun zd => (hat zd).trans (heldR_inv hv)) hrg hlt hgr hsz hen)

set_option maxRecDepth 100000 in
set_option maxHeartbeats 1000000 in
theorem keysR1_in (F : Fence) (n : Nat) (h1 : F.fn 122) (hro : F.round = none) (hn : 1 ≤ n) (l Bm b : Nat) (row : List Int) (J Jx : List Int → World → Prop)
    (hY : ∀ pre x W, J pre W → pre.length < row.length → YieldAt F (n - 1) Try.prog l #[.int .i64 x] W fun e W' => (e = .returned (.bool true) ∧ J (pre ++ [x]) W' ∧ KeepsWalks W W') ∨ (e = .returned (.bool false) ∧ Jx (pre ++ [x]) W'))
    (W : World) (hJ : AbidesFrom W.heap.size J) (hm : W.cell? ⟨Bm, 0, none⟩ = some (.map (some b))) (f : Int → Value) (hs : MapV W (.map (some b)) row f) (h0 : J [] W) :
    CallsIn F n Try.prog 122 #[.func (.yield l) #[] #[], .pointer (some ⟨Bm, 0, none⟩)] W fun e W' => (∃ v, e = .returned v) ∧ ((∃ ss : List Int, (ss.Nodup ∧ ∀ x, x ∈ ss ↔ x ∈ row) ∧ J ss W') ∨ (∃ ss, True ∧ Jx ss W')) := by
  rcases hs.is with ⟨h0, _⟩ | ⟨b', D, hv, ho, hd, hval⟩
  · cases h0
  cases hv
  have hsz := hd.size
  have HS := Lib.hid (And.intro hsz hd)
  have HY := Lib.hid hY
  have HJ := Lib.hid hJ
  clear hsz hd hs hY hJ
  refine callsIn_of_wp Try.func122 rfl h1 ?_ hro
  simp only [Try.ntmps122, List.size_toArray, List.length_cons, List.length_nil, Nat.reduceAdd, Nat.reduceSub, Array.replicate_succ, Array.replicate_zero, List.push_toArray, List.append_toArray, List.nil_append, List.cons_append]
  gi_wp2_with (first
    | (gi_at_range; refine wpListIn_range_own _ rfl _ 161 rfl 3 146 lawI Try.underlying161 _ b _ _ rfl ho ?_; intro w0 hrg0 hg0 hs0))
  go_frame
  gi_loopw [3] (fun _ wr => ∃ (left : Lit → Bool) (cnt : Nat) (ss : List Int), wr.ranges Try.prog 3 heldR b W.heap.size row.length D left cnt ∧ ss.length + cnt ≤ row.length ∧ Gath row left ss ∧ J ss wr)
    (fun _ wr => wr.rangeLeft b W.heap.size)
  case atStart =>
    exact ⟨_, _, [], hrg0, by have := HS.out.1; simp; omega, GathV.start HS.out.2, HJ.out [] W w0 none h0 hg0 (fun r e => by cases e)⟩
  case round =>
    obtain ⟨left, cnt, ss, hrg, hcs, hG, hJs⟩ := hrel
    gi_wp2_with (first
      | (gi_at_next; refine wpListIn_next_V _ rfl _ rfl b W.heap.size _ _ _ _ rfl hrg ?_ ?_))
    · intro hc0 hl0
      gi_wp2
      go_end0
      exact ⟨⟨_, rfl⟩, .inl ⟨ss, ⟨hG.nodup, hG.all hl0⟩, hJs⟩⟩
    · intro x cc w2 cnt2 hwx hlk hat hrg2 hlt hg2 hs2 hen
      have hJ2 : J ss w2 := HJ.out ss wr w2 (some W.heap.size) hJs hg2 (fun r e => by cases e; exact ⟨Nat.le_refl _, hrg.iter_walk⟩)
      obtain ⟨fn, tmps, assign, body, hy, hR⟩ := HY.out ss x w2 hJ2 (by omega)
      have HH := Lib.hid (And.intro hlk (And.intro hat hG))
      clear hs2 hlk hat hG
      gi_wp2
      refine hR.mono ?_
      rintro e W3 (⟨rfl, hJ3, hk3⟩ | ⟨rfl, hJx3⟩)
      · gi_wp2
        have hrg3 := hrg2.of_walks hk3
        go_roundw
        case rel => exact ⟨_, cnt2, ss ++ [x], hrg3, by simp; omega, GathV.step HS.out.2 HH.out.2.2 HH.out.1 HH.out.2.1, hJ3⟩
        case measure => rw [hrg3.left_eq, hrg.left_eq]; exact hlt
      · gi_wp2
        refine bodyPost_ret (results_none rfl _ _ _) rfl ?_
        exact ⟨⟨_, rfl⟩, .inr ⟨_, trivial, hJx3⟩⟩

theorem keysR_stops (F : Fence) (n : Nat) (h1 : F.fn 122) (hro : F.round = none) (hn : 1 ≤ n) (Bm b : Nat) (row : List Int) (w : World) (hBm : Bm < w.heap.size) (hm : w.cell? ⟨Bm, 0, none⟩ = some (.map (some b))) (f : Int → Value) (hs : MapV w (.map (some b)) row f) :
    SeqStopsK F n Try.prog 122 #[.pointer (some ⟨Bm, 0, none⟩)] (fun x : Int => #[.int .i64 x]) KeepsWalks (fun ss => ss.Nodup ∧ ∀ x, x ∈ ss ↔ x ∈ row) (fun _ => True) row.length w :=
  fun l J Jx W hW hJ _ hY h0 => keysR1_in F n h1 hro hn l Bm b row J Jx hY W hJ ((hW.cell (p := ⟨Bm, 0, none⟩) hBm).trans hm) f (hs.below hW) h0

theorem mapKeysR_t (mv : Value) (hm : ∃ r, mv = .map r) (w : World) : Calls Try.prog 90 #[mv] w fun e w' => e = .returned (.func (.func 122) #[] #[.pointer (some ⟨w.heap.size, 0, none⟩)]) ∧ w' = w.alloc (.cells #[mv] 161) := by
  obtain ⟨r, rfl⟩ := hm
  have hmf : ∀ (fn : Fn) (first cap : Array Value) (w : World), (Instr.makeFunc fn first cap).run Try.prog w = .ok (.func fn first cap) w := fun _ _ _ _ => rfl
  go_enter Try.func90, Try.ntmps90
  go_wp2
  go_ret
  exact ⟨rfl, rfl⟩

set_option maxHeartbeats 1000000 in
/-- slices.Sorted of what maps.Keys handed back. -/
theorem sortedKeysR_t (Bm b : Nat) (row : List Int) (w : World) (hBm : Blk w Bm 161 #[.map (some b)]) (f : Int → Value) (hs : MapV w (.map (some b)) row f) (hn : row.length ≤ 1000000) :
    Calls Try.prog 88 #[.func (.func 122) #[] #[.pointer (some ⟨Bm, 0, none⟩)]] w fun e w' => ∃ A nn c, e = .returned (.slice A nn c) ∧ OwnL encI 3 1 w' w.heap.size A nn c row ∧ Below w.heap.size w w' := by
  have hst := keysR_stops Fence.wide 6 trivial rfl (by omega) Bm b row w hBm.lt (hBm.cell 0) f hs
  have hcol := callsIn_wide.1 (collectInts_in Fence.wide 8 trivial trivial rfl (by omega) 122 #[.pointer (some ⟨Bm, 0, none⟩)] trivial (enters_of Try.func122 (by kernel_rfl) rfl) _ _ row.length (by omega) w w (Below.refl _ _) hst)
  have HS := Lib.hid hs.rising
  clear hst hBm hs
  go_enter Try.func88, Try.ntmps88
  go_wp2_with fail
  with_reducible refine hcol.mono ?_
  clear hcol
  rintro e w1 ⟨A, nn, c, xs, rfl, hS, ho, hb⟩
  have hsrt := sortI_of_rising HS.out hS.1 hS.2
  have hlen : nn ≤ 1000000 := by
    have h1 := ho.len
    have h2 : (sortI xs).length = row.length := by rw [hsrt]
    rw [sortI_len] at h2
    omega
  have HX := Lib.hid (And.intro hsrt ho)
  clear hsrt hS
  go_wp2_with fail
  with_reducible refine (sort_own _ _ _ _ _ _ ho (by omega)).mono ?_
  rintro e w2 ⟨rfl, ho2, hg2⟩
  go_wp2
  go_ret
  exact ⟨A, nn, c, rfl, by rw [← HX.out.1]; exact ho2, hb.grown hg2 hb.size (own_block_ge HX.out.2)⟩

end Go.Proofs.Ytaajlegdcgfcgaa
