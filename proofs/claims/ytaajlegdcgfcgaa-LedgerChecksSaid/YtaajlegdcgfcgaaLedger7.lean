/-
  LAYER 45 (ledger): reeveref41.Same, reevelaw45.awake.
-/
import Derived.Test.YtaajlegdcgfcgaaLedger6
import Derived.Test.YtaajlegdcgfcgaaLedger4
set_option linter.unusedVariables false
set_option linter.unusedSimpArgs false
namespace Go.Proofs.Ytaajlegdcgfcgaa
open Go.RowKit Go.Maps

set_option maxHeartbeats 800000 in
/-- reeveref41.Same, of lists that are the same. -/
theorem same41_t (A B : Option Addr) (n c m d : Nat) (l : List LRep) (w : World) (h : Rd encP 2 w A n l) (h' : Rd encP 2 w B m l) (hn : n ≤ 140737488351232) :
    Calls Try.prog 50 #[.slice A n c, .slice B m d] w fun e w' => e = .returned (.bool true) ∧ ∃ q, w' = w.drewN q := by
  obtain rfl : n = m := by rw [← h.len, h'.len]
  go_enter Try.func50, Try.ntmps50
  go_wp2
  go_loopw [5] (fun i wr => ∃ k q : Nat, k ≤ n ∧ i = .int .i64 k ∧ wr = w.drewN q) (fun i _ => n - (intOf i).toNat)
  case atStart => exact ⟨0, 0, Nat.zero_le _, rfl, rfl⟩
  case round =>
    obtain ⟨k, q, hk, rfl, rfl⟩ := hrel
    by_cases hlt : k < n
    · obtain ⟨ab, ao, y, rfl, hy, _, hcells⟩ := h.at_ hlt
      obtain ⟨bb, bo, z, rfl, hz, _, hcells'⟩ := h'.at_ hlt
      obtain rfl : y = z := by rw [hy] at hz; exact Option.some.inj hz
      have e0 : w.cell? ⟨ab, ao + k * 2, none⟩ = some (.int .i64 y.job) := hcells 0 _ rfl
      have e1 : w.cell? ⟨ab, ao + k * 2 + 1, none⟩ = some (.int .i64 y.code) := hcells 1 _ rfl
      have f0 : w.cell? ⟨bb, bo + k * 2, none⟩ = some (.int .i64 y.job) := hcells' 0 _ rfl
      have f1 : w.cell? ⟨bb, bo + k * 2 + 1, none⟩ = some (.int .i64 y.code) := hcells' 1 _ rfl
      clear hcells hcells' hy hz
      go_wp2
      go_quiet (fail)
      go_wp2
      go_roundw
      case rel => exact ⟨k + 1, q + nq, by omega, by go_num, by first | rfl | exact World.drewN_drewN ..⟩
      case measure => simp [intOf]; omega
    · go_wp2
      go_ret
      exact ⟨rfl, _, rfl⟩

theorem flatMap_at {α : Type} {enc : α → List Value} {sz : Nat} (henc : ∀ x, (enc x).length = sz) (l : List α) (i j : Nat) (x : α) (v : Value) (hx : l[i]? = some x) (hv : (enc x)[j]? = some v) : (l.flatMap enc)[i * sz + j]? = some v := by
  induction l generalizing i with
  | nil => simp at hx
  | cons y r ih =>
    rw [List.flatMap_cons]
    cases i with
    | zero =>
      simp at hx
      subst hx
      have hj : j < (enc y).length := (List.getElem?_eq_some_iff.1 hv).1
      rw [Nat.zero_mul, Nat.zero_add, List.getElem?_append_left hj]
      exact hv
    | succ i =>
      rw [List.getElem?_append_right (by rw [henc, Nat.add_mul]; omega), henc]
      rw [show (i + 1) * sz + j - sz = i * sz + j by rw [Nat.add_mul]; omega]
      exact ih i (by simpa using hx)
theorem Rd.lit {α : Type} {enc : α → List Value} {sz : Nat} (henc : ∀ x, (enc x).length = sz) (w : World) (G : Nat) (hG : w.heap.size = G) (cs : Array Value) (t : TypeId) (fz : Nat × Nat) (l : List α) (n : Nat) (hn : l.length = n) (h : cs.toList = l.flatMap enc) :
    Rd enc sz (w.alloc (.cells cs t fz)) (some ⟨G, 0, none⟩) n l := by
  subst hG
  refine ⟨hn, fun _ => ⟨_, _, rfl, by simp, fun i y hy j v hv => ?_⟩⟩
  rw [Nat.zero_add, cell_of_row _ _ _ cs t fz (heap_alloc_new w _)]
  have := flatMap_at henc l i j y v hy hv
  rw [← h] at this
  simpa using this

def rowA : LRow := ⟨1, 1, 0, 1, 0, 0, 0⟩
def rowB : LRow := ⟨2, 4, 101, 0, 0, 7, 0⟩
theorem rows_wf (l : List LRow) (h : ∀ r ∈ l, r = rowA ∨ r = rowB) : ∀ r ∈ l, wfR r := by
  intro r hr
  rcases h r hr with rfl | rfl
  · exact ⟨rfl, rfl, rfl, rfl, rfl, rfl, rfl⟩
  · exact ⟨rfl, rfl, rfl, rfl, rfl, rfl, rfl⟩
theorem two_cells {W : World} {b1 b2 : Nat} (h1 : Blk W b1 146 #[.int .i64 1, .int .i64 1, .int .i64 0, .int .i64 1, .int .i64 0, .int .i64 0, .int .i64 0]) (h2 : Blk W b2 146 #[.int .i64 2, .int .i64 4, .int .i64 101, .int .i64 0, .int .i64 0, .int .i64 7, .int .i64 0]) :
    W.cell? ⟨b1, 0, none⟩ = some (.int .i64 1) ∧ W.cell? ⟨b1, 1, none⟩ = some (.int .i64 1) ∧ W.cell? ⟨b1, 2, none⟩ = some (.int .i64 0) ∧ W.cell? ⟨b1, 3, none⟩ = some (.int .i64 1) ∧ W.cell? ⟨b1, 4, none⟩ = some (.int .i64 0) ∧ W.cell? ⟨b1, 5, none⟩ = some (.int .i64 0) ∧ W.cell? ⟨b1, 6, none⟩ = some (.int .i64 0) ∧ W.cell? ⟨b2, 0, none⟩ = some (.int .i64 2) ∧ W.cell? ⟨b2, 1, none⟩ = some (.int .i64 4) ∧ W.cell? ⟨b2, 2, none⟩ = some (.int .i64 101) ∧ W.cell? ⟨b2, 3, none⟩ = some (.int .i64 0) ∧ W.cell? ⟨b2, 4, none⟩ = some (.int .i64 0) ∧ W.cell? ⟨b2, 5, none⟩ = some (.int .i64 7) ∧ W.cell? ⟨b2, 6, none⟩ = some (.int .i64 0) :=
  ⟨h1.cell 0, h1.cell 1, h1.cell 2, h1.cell 3, h1.cell 4, h1.cell 5, h1.cell 6, h2.cell 0, h2.cell 1, h2.cell 2, h2.cell 3, h2.cell 4, h2.cell 5, h2.cell 6⟩
theorem check_lit (A : Option Addr) (n c : Nat) (l : List LRow) (w : World) (h : Rd encR 7 w A n l) (hw : ∀ r ∈ l, wfR r) (hn : n ≤ 100000) (i e : Int) (h1 : ((checkL 0 LSt.zero l).1 : Int) = i) (h2 : (checkL 0 LSt.zero l).2 = e) :
    Calls Try.prog 46 #[.slice A n c] w fun e' w' => e' = .returned (.tuple #[.int .i64 i, .int .i64 e]) ∧ Below w.heap.size w w' := by
  subst h1
  subst h2
  exact check1 A n c l w h hw hn

set_option maxRecDepth 100000 in
set_option maxHeartbeats 3200000 in
theorem awake45 (w : World) : Calls Try.prog 45 #[] w fun e w' => e = .returned (.bool true) ∧ Below w.heap.size w w' := by
  go_enter Try.func45, Try.ntmps45
  go_wp2_with fail
  have hA : Blk ((w.alloc (.cells #[.int .i64 1, .int .i64 1, .int .i64 0, .int .i64 1, .int .i64 0, .int .i64 0, .int .i64 0] 146)).alloc (.cells #[.int .i64 2, .int .i64 4, .int .i64 101, .int .i64 0, .int .i64 0, .int .i64 7, .int .i64 0] 146)) w.heap.size 146 #[.int .i64 1, .int .i64 1, .int .i64 0, .int .i64 1, .int .i64 0, .int .i64 0, .int .i64 0] := (Blk.new w _ _).alloc _
  have hD : Blk ((w.alloc (.cells #[.int .i64 1, .int .i64 1, .int .i64 0, .int .i64 1, .int .i64 0, .int .i64 0, .int .i64 0] 146)).alloc (.cells #[.int .i64 2, .int .i64 4, .int .i64 101, .int .i64 0, .int .i64 0, .int .i64 7, .int .i64 0] 146)) (w.heap.size + 1) 146 #[.int .i64 2, .int .i64 4, .int .i64 101, .int .i64 0, .int .i64 0, .int .i64 7, .int .i64 0] := by
    have := Blk.new (w.alloc (.cells #[.int .i64 1, .int .i64 1, .int .i64 0, .int .i64 1, .int .i64 0, .int .i64 0, .int .i64 0] 146)) 146 #[.int .i64 2, .int .i64 4, .int .i64 101, .int .i64 0, .int .i64 0, .int .i64 7, .int .i64 0]
    simpa using this
  have hB0 : Below w.heap.size w ((w.alloc (.cells #[.int .i64 1, .int .i64 1, .int .i64 0, .int .i64 1, .int .i64 0, .int .i64 0, .int .i64 0] 146)).alloc (.cells #[.int .i64 2, .int .i64 4, .int .i64 101, .int .i64 0, .int .i64 0, .int .i64 7, .int .i64 0] 146)) := ((Below.refl _ w).alloc (Nat.le_refl _) _).alloc (by simp) _
  have hz : w.heap.size + 1 + 1 = ((w.alloc (.cells #[.int .i64 1, .int .i64 1, .int .i64 0, .int .i64 1, .int .i64 0, .int .i64 0, .int .i64 0] 146)).alloc (.cells #[.int .i64 2, .int .i64 4, .int .i64 101, .int .i64 0, .int .i64 0, .int .i64 7, .int .i64 0] 146)).heap.size := by simp
  generalize (w.alloc (.cells #[.int .i64 1, .int .i64 1, .int .i64 0, .int .i64 1, .int .i64 0, .int .i64 0, .int .i64 0] 146)).alloc (.cells #[.int .i64 2, .int .i64 4, .int .i64 101, .int .i64 0, .int .i64 0, .int .i64 7, .int .i64 0] 146) = w1 at hA hD hB0 hz ⊢
  have hA1 := hA
  have hD1 := hD
  have hB1 := hB0
  clear hA hD hB0
  have hcx := check_lit (some ⟨w.heap.size + 1 + 1, 0, none⟩) 2 2 [rowA, rowB] _ (Rd.lit encR_len w1 _ hz.symm #[.int .i64 1, .int .i64 1, .int .i64 0, .int .i64 1, .int .i64 0, .int .i64 0, .int .i64 0, .int .i64 2, .int .i64 4, .int .i64 101, .int .i64 0, .int .i64 0, .int .i64 7, .int .i64 0] 146 (0, 0) [rowA, rowB] 2 rfl rfl) (rows_wf _ (by decide)) (by omega) 0 0 (by decide +kernel) (by decide +kernel)
  with_reducible refine hcx.mono ?_
  clear hcx
  rintro e w2 ⟨rfl, hb2⟩
  have hA2 := (hA1.alloc (.cells #[.int .i64 1, .int .i64 1, .int .i64 0, .int .i64 1, .int .i64 0, .int .i64 0, .int .i64 0, .int .i64 2, .int .i64 4, .int .i64 101, .int .i64 0, .int .i64 0, .int .i64 7, .int .i64 0] 146)).below hb2 (by have := hA1.lt; simp; omega)
  have hD2 := (hD1.alloc (.cells #[.int .i64 1, .int .i64 1, .int .i64 0, .int .i64 1, .int .i64 0, .int .i64 0, .int .i64 0, .int .i64 2, .int .i64 4, .int .i64 101, .int .i64 0, .int .i64 0, .int .i64 7, .int .i64 0] 146)).below hb2 (by have := hD1.lt; simp; omega)
  have hB2 : Below w.heap.size w w2 := (hB1.alloc hB1.size (.cells #[.int .i64 1, .int .i64 1, .int .i64 0, .int .i64 1, .int .i64 0, .int .i64 0, .int .i64 0, .int .i64 2, .int .i64 4, .int .i64 101, .int .i64 0, .int .i64 0, .int .i64 7, .int .i64 0] 146)).trans (hb2.mono (by have := hB1.size; simp; omega))
  clear hA1 hD1 hB1 hb2
  obtain ⟨a0, a1, a2, a3, a4, a5, a6, d0, d1, d2, d3, d4, d5, d6⟩ := two_cells hA2 hD2
  go_wp2_with fail
  clear a0 a1 a2 a3 a4 a5 a6 d0 d1 d2 d3 d4 d5 d6
  have hcx := check_lit (some ⟨w2.heap.size, 0, none⟩) 3 3 [rowA, rowB, rowA] _ (Rd.lit encR_len w2 _ rfl #[.int .i64 1, .int .i64 1, .int .i64 0, .int .i64 1, .int .i64 0, .int .i64 0, .int .i64 0, .int .i64 2, .int .i64 4, .int .i64 101, .int .i64 0, .int .i64 0, .int .i64 7, .int .i64 0, .int .i64 1, .int .i64 1, .int .i64 0, .int .i64 1, .int .i64 0, .int .i64 0, .int .i64 0] 146 (0, 0) [rowA, rowB, rowA] 3 rfl rfl) (rows_wf _ (by decide)) (by omega) 2 10 (by decide +kernel) (by decide +kernel)
  with_reducible refine hcx.mono ?_
  clear hcx
  rintro e w3 ⟨rfl, hb3⟩
  have hA3 := (hA2.alloc (.cells #[.int .i64 1, .int .i64 1, .int .i64 0, .int .i64 1, .int .i64 0, .int .i64 0, .int .i64 0, .int .i64 2, .int .i64 4, .int .i64 101, .int .i64 0, .int .i64 0, .int .i64 7, .int .i64 0, .int .i64 1, .int .i64 1, .int .i64 0, .int .i64 1, .int .i64 0, .int .i64 0, .int .i64 0] 146)).below hb3 (by have := hA2.lt; simp; omega)
  have hD3 := (hD2.alloc (.cells #[.int .i64 1, .int .i64 1, .int .i64 0, .int .i64 1, .int .i64 0, .int .i64 0, .int .i64 0, .int .i64 2, .int .i64 4, .int .i64 101, .int .i64 0, .int .i64 0, .int .i64 7, .int .i64 0, .int .i64 1, .int .i64 1, .int .i64 0, .int .i64 1, .int .i64 0, .int .i64 0, .int .i64 0] 146)).below hb3 (by have := hD2.lt; simp; omega)
  have hB3 : Below w.heap.size w w3 := (hB2.alloc hB2.size (.cells #[.int .i64 1, .int .i64 1, .int .i64 0, .int .i64 1, .int .i64 0, .int .i64 0, .int .i64 0, .int .i64 2, .int .i64 4, .int .i64 101, .int .i64 0, .int .i64 0, .int .i64 7, .int .i64 0, .int .i64 1, .int .i64 1, .int .i64 0, .int .i64 1, .int .i64 0, .int .i64 0, .int .i64 0] 146)).trans (hb3.mono (by have := hB2.size; simp; omega))
  clear hA2 hD2 hB2 hb3
  obtain ⟨a0, a1, a2, a3, a4, a5, a6, d0, d1, d2, d3, d4, d5, d6⟩ := two_cells hA3 hD3
  go_wp2_with fail
  clear a0 a1 a2 a3 a4 a5 a6 d0 d1 d2 d3 d4 d5 d6
  have hcx := check_lit (some ⟨w3.heap.size, 0, none⟩) 3 3 [rowA, rowB, rowB] _ (Rd.lit encR_len w3 _ rfl #[.int .i64 1, .int .i64 1, .int .i64 0, .int .i64 1, .int .i64 0, .int .i64 0, .int .i64 0, .int .i64 2, .int .i64 4, .int .i64 101, .int .i64 0, .int .i64 0, .int .i64 7, .int .i64 0, .int .i64 2, .int .i64 4, .int .i64 101, .int .i64 0, .int .i64 0, .int .i64 7, .int .i64 0] 146 (0, 0) [rowA, rowB, rowB] 3 rfl rfl) (rows_wf _ (by decide)) (by omega) 2 12 (by decide +kernel) (by decide +kernel)
  with_reducible refine hcx.mono ?_
  clear hcx
  rintro e w4 ⟨rfl, hb4⟩
  have hA4 := (hA3.alloc (.cells #[.int .i64 1, .int .i64 1, .int .i64 0, .int .i64 1, .int .i64 0, .int .i64 0, .int .i64 0, .int .i64 2, .int .i64 4, .int .i64 101, .int .i64 0, .int .i64 0, .int .i64 7, .int .i64 0, .int .i64 2, .int .i64 4, .int .i64 101, .int .i64 0, .int .i64 0, .int .i64 7, .int .i64 0] 146)).below hb4 (by have := hA3.lt; simp; omega)
  have hD4 := (hD3.alloc (.cells #[.int .i64 1, .int .i64 1, .int .i64 0, .int .i64 1, .int .i64 0, .int .i64 0, .int .i64 0, .int .i64 2, .int .i64 4, .int .i64 101, .int .i64 0, .int .i64 0, .int .i64 7, .int .i64 0, .int .i64 2, .int .i64 4, .int .i64 101, .int .i64 0, .int .i64 0, .int .i64 7, .int .i64 0] 146)).below hb4 (by have := hD3.lt; simp; omega)
  have hB4 : Below w.heap.size w w4 := (hB3.alloc hB3.size (.cells #[.int .i64 1, .int .i64 1, .int .i64 0, .int .i64 1, .int .i64 0, .int .i64 0, .int .i64 0, .int .i64 2, .int .i64 4, .int .i64 101, .int .i64 0, .int .i64 0, .int .i64 7, .int .i64 0, .int .i64 2, .int .i64 4, .int .i64 101, .int .i64 0, .int .i64 0, .int .i64 7, .int .i64 0] 146)).trans (hb4.mono (by have := hB3.size; simp; omega))
  clear hA3 hD3 hB3 hb4
  obtain ⟨a0, a1, a2, a3, a4, a5, a6, d0, d1, d2, d3, d4, d5, d6⟩ := two_cells hA4 hD4
  go_wp2_with fail
  clear a0 a1 a2 a3 a4 a5 a6 d0 d1 d2 d3 d4 d5 d6
  have hcx := epochs_t (some ⟨w4.heap.size, 0, none⟩) 2 2 [rowA, rowB] _ (Rd.lit encR_len w4 _ rfl #[.int .i64 1, .int .i64 1, .int .i64 0, .int .i64 1, .int .i64 0, .int .i64 0, .int .i64 0, .int .i64 2, .int .i64 4, .int .i64 101, .int .i64 0, .int .i64 0, .int .i64 7, .int .i64 0] 146 (0, 0) [rowA, rowB] 2 rfl rfl) (by omega)
  with_reducible refine hcx.mono ?_
  clear hcx
  rintro e w5 ⟨A5, n5, k5, rfl, hO5, hb5⟩
  have hA5 := (hA4.alloc (.cells #[.int .i64 1, .int .i64 1, .int .i64 0, .int .i64 1, .int .i64 0, .int .i64 0, .int .i64 0, .int .i64 2, .int .i64 4, .int .i64 101, .int .i64 0, .int .i64 0, .int .i64 7, .int .i64 0] 146)).below hb5 (by have := hA4.lt; simp; omega)
  have hD5 := (hD4.alloc (.cells #[.int .i64 1, .int .i64 1, .int .i64 0, .int .i64 1, .int .i64 0, .int .i64 0, .int .i64 0, .int .i64 2, .int .i64 4, .int .i64 101, .int .i64 0, .int .i64 0, .int .i64 7, .int .i64 0] 146)).below hb5 (by have := hD4.lt; simp; omega)
  have hB5 : Below w.heap.size w w5 := (hB4.alloc hB4.size (.cells #[.int .i64 1, .int .i64 1, .int .i64 0, .int .i64 1, .int .i64 0, .int .i64 0, .int .i64 0, .int .i64 2, .int .i64 4, .int .i64 101, .int .i64 0, .int .i64 0, .int .i64 7, .int .i64 0] 146)).trans (hb5.mono (by have := hB4.size; simp; omega))
  clear hA4 hD4 hB4 hb5
  have hO5' : OwnL encI 3 1 w5 _ A5 n5 k5 [0] := hO5
  clear hO5
  go_wp2_with fail
  have hn5 : n5 = 1 := hO5'.len.symm
  have hcx := same01_t A5 (some ⟨w5.heap.size, 0, none⟩) n5 k5 1 1 [0] _ ((hO5'.alloc (.cells #[.int .i64 0] 3)).rd (enc := encI) (sz := 1) (fun _ => rfl)) (Rd.lit (enc := encI) (sz := 1) (fun _ => rfl) w5 _ rfl #[.int .i64 0] 3 (0, 0) [0] 1 rfl rfl) (by omega) (by omega)
  with_reducible refine hcx.mono ?_
  clear hcx
  rintro e w' ⟨rfl, q6, rfl⟩
  have hA6 : Blk ((w5.alloc (.cells #[.int .i64 0] 3)).drewN q6) _ _ _ := hA5.alloc (.cells #[.int .i64 0] 3)
  have hD6 : Blk ((w5.alloc (.cells #[.int .i64 0] 3)).drewN q6) _ _ _ := hD5.alloc (.cells #[.int .i64 0] 3)
  have hB6 : Below w.heap.size w ((w5.alloc (.cells #[.int .i64 0] 3)).drewN q6) := (hB5.alloc hB5.size _).trans ⟨rfl, rfl, rfl, Nat.le_refl _, fun _ _ => rfl⟩
  clear hA5 hD5 hB5 hO5'
  have hz6 : w5.heap.size + 1 = ((w5.alloc (.cells #[.int .i64 0] 3)).drewN q6).heap.size := by simp
  generalize (w5.alloc (.cells #[.int .i64 0] 3)).drewN q6 = w6 at hA6 hD6 hB6 hz6 ⊢
  obtain ⟨a0, a1, a2, a3, a4, a5, a6, d0, d1, d2, d3, d4, d5, d6⟩ := two_cells hA6 hD6
  go_wp2_with fail
  clear a0 a1 a2 a3 a4 a5 a6 d0 d1 d2 d3 d4 d5 d6
  have hcx := begun_t (some ⟨w6.heap.size, 0, none⟩) 2 2 [rowA, rowB] _ (Rd.lit encR_len w6 _ rfl #[.int .i64 1, .int .i64 1, .int .i64 0, .int .i64 1, .int .i64 0, .int .i64 0, .int .i64 0, .int .i64 2, .int .i64 4, .int .i64 101, .int .i64 0, .int .i64 0, .int .i64 7, .int .i64 0] 146 (0, 0) [rowA, rowB] 2 rfl rfl) (rows_wf _ (by decide)) (by omega)
  with_reducible refine hcx.mono ?_
  clear hcx
  rintro e w7 ⟨A7, n7, k7, rfl, hO7, hb7⟩
  have hB7 : Below w.heap.size w w7 := (hB6.alloc hB6.size _).trans (hb7.mono (by have := hB6.size; simp; omega))
  rw [show begunP (([rowA, rowB].filter (fun r : LRow => r.kind == 4)).map (·.job)) = [(⟨7, 1⟩ : LRep)] by decide +kernel] at hO7
  obtain rfl : n7 = 1 := hO7.len.symm
  clear hA6 hD6 hB6 hb7
  go_wp2_with fail
  have hcx := same41_t A7 (some ⟨w7.heap.size, 0, none⟩) 1 k7 1 1 [(⟨7, 1⟩ : LRep)] _ ((hO7.alloc (.cells #[.int .i64 7, .int .i64 1] 148)).rd encP_len) (Rd.lit encP_len w7 _ rfl #[.int .i64 7, .int .i64 1] 148 (0, 0) [(⟨7, 1⟩ : LRep)] 1 rfl rfl) (by omega)
  with_reducible refine hcx.mono ?_
  clear hcx
  rintro e w' ⟨rfl, q8, rfl⟩
  go_wp2
  go_ret
  exact ⟨rfl, (hB7.alloc hB7.size _).trans ⟨rfl, rfl, rfl, Nat.le_refl _, fun _ _ => rfl⟩⟩

end Go.Proofs.Ytaajlegdcgfcgaa
