/-
  LAYERS 1, 23: num.Right, node.inc, node.Right.
-/
import Derived.Test.YtcfninipcghbmaaPlace4
import Derived.Test.YtcfninipcghbmaaEqNode
set_option linter.unusedVariables false
set_option linter.unusedSimpArgs false
namespace Go.Proofs.Ytcfninipcghbmaa
open Go.RowKit Go.Sort

theorem Blk.cells_in {w : World} {g : Nat} {t : TypeId} {cs : Array Value} (h : Blk w g t cs) (i : Nat) {v : Value} (hv : cs[i]? = some v) (W : World) (hb : Below w.heap.size w W) : W.cell? ⟨g, i, none⟩ = some v := by
  rw [(h.below hb h.lt).cell i]; exact hv
def numR (n a b : Int) : Bool := decide (a ≤ n) && decide (n ≤ b)
theorem numRight_t (n a b : Int) (w : World) : Calls Try.prog 165 #[.int .i64 n, .int .i64 a, .int .i64 b] w fun e w' => e = .returned (.bool (numR n a b)) ∧ w' = w := by
  go_enter Try.func165, Try.ntmps165
  go_wp2
  all_goals
    go_ret
    exact ⟨ret_bool (by unfold numR; simp [*]; try omega), rfl⟩
theorem inc_t (n : Int) (w : World) : Calls Try.prog 155 #[.int .i64 n] w fun e w' => e = .returned (.bool (numR n 1 2147483647)) ∧ w' = w := by
  go_enter Try.func155, Try.ntmps155
  go_wp2_with (go_at_call 165; with_reducible refine (numRight_t _ _ _ _).mono ?_; rintro e w' ⟨rfl, rfl⟩)
  go_ret
  exact ⟨rfl, rfl⟩
def idleN (n : LNode) : LNode := { n with load := 0, used := ⟨0, 0, 0⟩ }
def rightN (n : LNode) : Bool := rightR n.cap && rightR n.used && fitsR n.used n.cap && numR n.id 0 15 && numR n.inc 1 2147483647 && numR n.load 0 64 && (decide (n = idleN n) || n.up && decide (0 < n.load))
set_option maxRecDepth 100000 in
set_option maxHeartbeats 3200000 in
theorem nodeRight_t (n : LNode) (w : World) : Calls Try.prog 154 #[aggNode n] w fun e w' => e = .returned (.bool (rightN n)) ∧ Below w.heap.size w w' := by
  have hs1 : (w.alloc (.cells (boxNode n) 38)).heap.size = w.heap.size + 1 := by simp
  have h0 := (Blk.new w 38 (boxNode n)).alloc (.cells (boxNode (idleN n)) 38)
  have h1 := Blk.new (w.alloc (.cells (boxNode n) 38)) 38 (boxNode (idleN n))
  rw [hs1] at h1
  have hB : Below w.heap.size w ((w.alloc (.cells (boxNode n) 38)).alloc (.cells (boxNode (idleN n)) 38)) := ((Below.refl _ _).alloc (Nat.le_refl _) _).alloc (by simp) _
  have n0 := h0.cells_in (v := .int .i64 n.id) 0 rfl
  have n1 := h0.cells_in (v := .int .i64 n.inc) 1 rfl
  have n2 := h0.cells_in (v := .int .i64 n.load) 2 rfl
  have n3 := h0.cells_in (v := .int .i64 n.cap.a) 3 rfl
  have n4 := h0.cells_in (v := .int .i64 n.cap.b) 4 rfl
  have n5 := h0.cells_in (v := .int .i64 n.cap.c) 5 rfl
  have n6 := h0.cells_in (v := .int .i64 n.used.a) 6 rfl
  have n7 := h0.cells_in (v := .int .i64 n.used.b) 7 rfl
  have n8 := h0.cells_in (v := .int .i64 n.used.c) 8 rfl
  have n9 := h0.cells_in (v := .bool n.up) 9 rfl
  have i0 := h1.cells_in (v := .int .i64 n.id) 0 rfl
  have i1 := h1.cells_in (v := .int .i64 n.inc) 1 rfl
  have i2 := h1.cells_in (v := .int .i64 0) 2 rfl
  have i3 := h1.cells_in (v := .int .i64 n.cap.a) 3 rfl
  have i4 := h1.cells_in (v := .int .i64 n.cap.b) 4 rfl
  have i5 := h1.cells_in (v := .int .i64 n.cap.c) 5 rfl
  have i6 := h1.cells_in (v := .int .i64 0) 6 rfl
  have i7 := h1.cells_in (v := .int .i64 0) 7 rfl
  have i8 := h1.cells_in (v := .int .i64 0) 8 rfl
  have i9 := h1.cells_in (v := .bool n.up) 9 rfl
  have HB := Lib.hid hB
  have hbr := Below.refl ((w.alloc (.cells (boxNode n) 38)).alloc (.cells (boxNode (idleN n)) 38)).heap.size ((w.alloc (.cells (boxNode n) 38)).alloc (.cells (boxNode (idleN n)) 38))
  have hd : decide (n = idleN n) = (decide (n.load = 0) && decide (n.used = ⟨0, 0, 0⟩)) := by
    rw [Bool.eq_iff_iff]; simp [LNode.ext_iff', idleN]
  have HD := Lib.hid hd
  clear h0 h1 hB hs1 hd
  simp only [boxNode, idleN] at n0 n1 n2 n3 n4 n5 n6 n7 n8 n9 i0 i1 i2 i3 i4 i5 i6 i7 i8 i9 HB hbr
  go_enter Try.func154, Try.ntmps154
  go_wp2_with fail
  generalize (w.alloc (.cells _ 38)).alloc (.cells _ 38) = w1 at n0 n1 n2 n3 n4 n5 n6 n7 n8 n9 i0 i1 i2 i3 i4 i5 i6 i7 i8 i9 HB hbr ⊢
  have hcx := resRight_t n.cap w1
  cases q1 : rightR n.cap
  · rw [q1] at hcx
    have HQ := Lib.hid q1
    clear q1
    (with_reducible refine hcx.mono ?_)
    clear hcx
    rintro e v2 ⟨rfl, hB2⟩
    have hb2 := hbr.trans (hB2.mono hbr.size)
    clear hB2
    go_wp2
    go_ret
    exact ⟨ret_bool (by simp [rightN, HQ.out]), HB.out.trans (hb2.mono HB.out.size)⟩
  · rw [q1] at hcx
    (with_reducible refine hcx.mono ?_)
    clear hcx
    rintro e v2 ⟨rfl, hB2⟩
    have hb2 := hbr.trans (hB2.mono hbr.size)
    clear hB2
    have hcx := resRight_t n.used v2
    cases q2 : rightR n.used
    · rw [q2] at hcx
      have HQ := Lib.hid q2
      clear q2
      go_wp2_with fail
      (with_reducible refine hcx.mono ?_)
      clear hcx
      rintro e v3 ⟨rfl, hB3⟩
      have hb3 := hb2.trans (hB3.mono hb2.size)
      clear hB3
      go_wp2
      go_ret
      exact ⟨ret_bool (by simp [rightN, HQ.out]), HB.out.trans (hb3.mono HB.out.size)⟩
    · rw [q2] at hcx
      go_wp2_with fail
      (with_reducible refine hcx.mono ?_)
      clear hcx
      rintro e v3 ⟨rfl, hB3⟩
      have hb3 := hb2.trans (hB3.mono hb2.size)
      clear hB3
      have hcx := resFits_t n.used n.cap v3
      cases q3 : fitsR n.used n.cap
      · rw [q3] at hcx
        have HQ := Lib.hid q3
        clear q3
        go_wp2_with fail
        (with_reducible refine hcx.mono ?_)
        clear hcx
        rintro e v4 ⟨rfl, hB4⟩
        have hb4 := hb3.trans (hB4.mono hb3.size)
        clear hB4
        go_wp2
        go_ret
        exact ⟨ret_bool (by simp [rightN, HQ.out]), HB.out.trans (hb4.mono HB.out.size)⟩
      · rw [q3] at hcx
        go_wp2_with fail
        (with_reducible refine hcx.mono ?_)
        clear hcx
        rintro e v4 ⟨rfl, hB4⟩
        have hb4 := hb3.trans (hB4.mono hb3.size)
        clear hB4
        have hcx := numRight_t n.id 0 15 v4
        cases q4 : numR n.id 0 15
        · rw [q4] at hcx
          have HQ := Lib.hid q4
          clear q4
          go_wp2_with fail
          (with_reducible refine hcx.mono ?_)
          clear hcx
          rintro e v5 ⟨rfl, hw⟩
          subst hw
          go_wp2
          go_ret
          exact ⟨ret_bool (by simp [rightN, HQ.out]), HB.out.trans (hb4.mono HB.out.size)⟩
        · rw [q4] at hcx
          go_wp2_with fail
          (with_reducible refine hcx.mono ?_)
          clear hcx
          rintro e v5 ⟨rfl, hw⟩
          subst hw
          have hcx := inc_t n.inc v5
          cases q5 : numR n.inc 1 2147483647
          · rw [q5] at hcx
            have HQ := Lib.hid q5
            clear q5
            go_wp2_with fail
            (with_reducible refine hcx.mono ?_)
            clear hcx
            rintro e v6 ⟨rfl, hw⟩
            subst hw
            go_wp2
            go_ret
            exact ⟨ret_bool (by simp [rightN, HQ.out]), HB.out.trans (hb4.mono HB.out.size)⟩
          · rw [q5] at hcx
            go_wp2_with fail
            (with_reducible refine hcx.mono ?_)
            clear hcx
            rintro e v6 ⟨rfl, hw⟩
            subst hw
            have hcx := numRight_t n.load 0 64 v6
            cases q6 : numR n.load 0 64
            · rw [q6] at hcx
              have HQ := Lib.hid q6
              clear q6
              go_wp2_with fail
              (with_reducible refine hcx.mono ?_)
              clear hcx
              rintro e v7 ⟨rfl, hw⟩
              subst hw
              go_wp2
              go_ret
              exact ⟨ret_bool (by simp [rightN, HQ.out]), HB.out.trans (hb4.mono HB.out.size)⟩
            · rw [q6] at hcx
              go_wp2_with fail
              (with_reducible refine hcx.mono ?_)
              clear hcx
              rintro e v7 ⟨rfl, hw⟩
              subst hw
              have heq := fun (W : World) => eqlNode n (idleN n) W
              simp only [aggNode, idleN] at heq
              have HQ := Lib.hid (And.intro q1 (And.intro q2 (And.intro q3 (And.intro q4 (And.intro q5 q6)))))
              clear q1 q2 q3 q4 q5 q6
              cases hq : decide (n = idleN n)
              · have hq2 := hq
                simp only [idleN] at hq2
                simp only [hq2] at heq
                have HQ2 := Lib.hid hq
                clear hq hq2
                cases hu : n.up
                · simp only [hu] at n9 i9 heq
                  have HU := Lib.hid hu
                  clear hu
                  go_wp2
                  go_ret
                  exact ⟨ret_bool (by rw [rightN, HQ.out.1, HQ.out.2.1, HQ.out.2.2.1, HQ.out.2.2.2.1, HQ.out.2.2.2.2.1, HQ.out.2.2.2.2.2, HQ2.out, HU.out]; rfl), HB.out.trans (hb4.mono HB.out.size)⟩
                · simp only [hu] at n9 i9 heq
                  have HU := Lib.hid hu
                  clear hu
                  go_wp2
                  go_ret
                  exact ⟨ret_bool (by rw [rightN, HQ.out.1, HQ.out.2.1, HQ.out.2.2.1, HQ.out.2.2.2.1, HQ.out.2.2.2.2.1, HQ.out.2.2.2.2.2, HQ2.out, HU.out]; simp), HB.out.trans (hb4.mono HB.out.size)⟩
              · have hq2 := hq
                simp only [idleN] at hq2
                simp only [hq2] at heq
                have HQ2 := Lib.hid hq
                clear hq hq2
                go_wp2
                go_ret
                exact ⟨ret_bool (by rw [rightN, HQ.out.1, HQ.out.2.1, HQ.out.2.2.1, HQ.out.2.2.2.1, HQ.out.2.2.2.2.1, HQ.out.2.2.2.2.2, HQ2.out]; simp), HB.out.trans (hb4.mono HB.out.size)⟩
end Go.Proofs.Ytcfninipcghbmaa
