/-
  LAYER 32 (cache): one cache, two caches, in a law; awake.
-/
import Derived.Test.YtcafmodenbifhaaCacheE
set_option linter.unusedVariables false
set_option linter.unusedSimpArgs false
namespace Go.Proofs.Ytcafmodenbifhaa
open Go.RowKit Go.Maps

theorem caNew_t (w : World) : Calls Try.prog 15 #[] w fun e w' => e = .returned (.pointer (some ⟨w.heap.size, 0, none⟩)) ∧ w' = w.alloc (.cells (caBox none none none 0) 48) := by
  go_enter Try.func15, Try.ntmps15
  go_wp2
  go_ret
  exact ⟨rfl, rfl⟩
section
variable {w : World} {c : Nat} {X : CX} {S : Nat → Prop}
theorem caGet_o (h : CaO w c X S) (id : Int) (hid : wf64 id) : Calls Try.prog 22 #[.pointer (some ⟨c, 0, none⟩), .int .i64 id] w fun e w' => e = .returned (.tuple #[aggNode (nodeOf X.nodes id), .bool (decide (id ∈ idsN X.nodes))]) ∧ Below w.heap.size w w' := by
  obtain ⟨nm, sm, dm, cb, SS, TT, h1, _, _, rfl⟩ := h
  exact caGet_t h1.blk h1.nodes id hid
theorem caNeeds_o (h : CaO w c X S) : Calls Try.prog 24 #[.pointer (some ⟨c, 0, none⟩)] w fun e w' => e = .returned (.int .i64 X.needs.length) ∧ w' = w := by
  obtain ⟨nm, sm, dm, cb, SS, TT, h1, _, _, rfl⟩ := h
  exact caNeeds_t h1.blk h1.shelves
theorem caStale_o (h : CaO w c X S) : Calls Try.prog 25 #[.pointer (some ⟨c, 0, none⟩)] w fun e w' => e = .returned (.int .i64 X.stale.length) ∧ w' = w := by
  obtain ⟨nm, sm, dm, cb, SS, TT, h1, _, _, rfl⟩ := h
  exact caStale_t h1.blk h1.marks
theorem caLooked_o (h : CaO w c X S) : Calls Try.prog 26 #[.pointer (some ⟨c, 0, none⟩)] w fun e w' => e = .returned (.int .i64 X.looked) ∧ w' = w := by
  obtain ⟨nm, sm, dm, cb, SS, TT, h1, _, _, rfl⟩ := h
  exact caLooked_t h1.blk
end
/-- Small enough, behind so many calls. -/
structure CX.Small (X : CX) (k : Nat) : Prop where
  nodes : X.nodes.length ≤ k
  stale : X.stale.length ≤ k
  needs : X.needs.length ≤ k
  look : 0 ≤ X.looked ∧ X.looked ≤ 20000 * (k : Int)
theorem CX.Small.zero : CX.Small ⟨[], [], [], 0⟩ 0 := ⟨Nat.le_refl _, Nat.le_refl _, Nat.le_refl _, by decide⟩
theorem CX.Small.succ {X : CX} {k : Nat} (h : X.Small k) : X.Small (k + 1) := ⟨by have := h.nodes; omega, by have := h.stale; omega, by have := h.needs; omega, by have := h.look; omega⟩
theorem CX.Small.put {X : CX} {k : Nat} (h : X.Small k) (n : LNode) : (X.put n).1.Small (k + 1) := by
  have h1 := h.nodes; have h2 := h.stale; have h3 := h.needs; have h4 := h.look
  unfold CX.put
  split
  · exact h.succ
  · have h5 := length_insN X.nodes n
    have h6 := length_putR X.stale n.id
    refine ⟨?_, ?_, ?_, ?_⟩
    · show (insN X.nodes n).length ≤ _; omega
    · show (putR X.stale n.id).length ≤ _; split at h6 <;> omega
    · show X.needs.length ≤ _; omega
    · show 0 ≤ X.looked ∧ X.looked ≤ _; omega
theorem CX.Small.best {X : CX} {k : Nat} (h : X.Small k) (hk : k ≤ 100) (r : LRes) : (X.best r).Small (k + 1) := by
  have h1 := h.nodes; have h2 := h.stale; have h3 := h.needs; have h4 := h.look
  have h5 : (X.stale.length : Int) * (X.needs.length : Int) = ((X.stale.length * X.needs.length : Nat) : Int) := by simp
  have h6 : X.stale.length * X.needs.length ≤ 100 * 100 := Nat.mul_le_mul (by omega) (by omega)
  unfold CX.best CX.of
  split
  · refine ⟨?_, ?_, ?_, ?_⟩
    · show X.nodes.length ≤ _; omega
    · show ([] : List Int).length ≤ _; simp
    · show X.needs.length ≤ _; omega
    · show 0 ≤ X.looked + (X.stale.length : Int) * (X.needs.length : Int) ∧ X.looked + (X.stale.length : Int) * (X.needs.length : Int) ≤ _; omega
  · refine ⟨?_, ?_, ?_, ?_⟩
    · show X.nodes.length ≤ _; omega
    · show ([] : List Int).length ≤ _; simp
    · show (X.needs ++ [r]).length ≤ _; simp; omega
    · show 0 ≤ X.looked + (X.stale.length : Int) * (X.needs.length : Int) + (X.nodes.length : Int) ∧ X.looked + (X.stale.length : Int) * (X.needs.length : Int) + (X.nodes.length : Int) ≤ _; omega
theorem CX.Small.forget {X : CX} {k : Nat} (h : X.Small k) (r : LRes) : (X.forget r).1.Small (k + 1) := by
  have h1 := h.nodes; have h2 := h.stale; have h3 := h.needs; have h4 := h.look
  unfold CX.forget
  split
  · refine ⟨?_, ?_, ?_, ?_⟩
    · show X.nodes.length ≤ _; omega
    · show X.stale.length ≤ _; omega
    · have := List.length_filter_le (fun y => decide (y ≠ r)) X.needs
      show (X.needs.filter (fun y => decide (y ≠ r))).length ≤ _; omega
    · show 0 ≤ X.looked ∧ X.looked ≤ _; omega
  · exact h.succ
theorem CX.Small.bd {X : CX} {k : Nat} (h : X.Small k) (hk : k ≤ 200) : X.nodes.length ≤ 1000 ∧ X.stale.length ≤ 1000 ∧ X.needs.length ≤ 1000 ∧ 0 ≤ X.looked ∧ X.looked ≤ 10000000 := by
  have h1 := h.nodes; have h2 := h.stale; have h3 := h.needs; have h4 := h.look
  omega
/-- One cache, made since w0, and what stands apart from it. -/
structure C1 (w0 w : World) (c : Nat) (X : CX) (S : Nat → Prop) : Prop where
  a : CaO w c X S
  turn : Turned (fun _ => False) S w0 w
section
variable {w0 w w' : World} {c : Nat} {X X' : CX} {S S' : Nat → Prop}
theorem C1.below (h : C1 w0 w c X S) : Below w0.heap.size w0 w := h.turn.kept.below (Nat.le_refl _) (fun _ _ hf => hf)
theorem C1.then (h : C1 w0 w c X S) (hb : Below w.heap.size w w') : C1 w0 w' c X S := ⟨h.a.below hb, h.turn.then_below hb⟩
theorem C1.step (h : C1 w0 w c X S) (h' : CaO w' c X' S') (ht : Turned S S' w w') : C1 w0 w' c X' S' := ⟨h', h.turn.trans ht⟩
theorem C1.made (w : World) : C1 w (w.alloc (.cells (caBox none none none 0) 48)) w.heap.size ⟨[], [], [], 0⟩ (fun k => k = w.heap.size) :=
  ⟨CaO.made w, ⟨Kept.of_below ((Below.refl _ _).alloc (Nat.le_refl _) _), fun k hk => .inr (by omega)⟩⟩
theorem C1.apart (h : C1 w0 w c X S) (ht : Turned S S' w w') {g : Nat} {t : TypeId} {cs : Array Value} (hb : Blk w g t cs) (hn : ¬ S g) : Blk w' g t cs ∧ ¬ S' g :=
  ⟨hb.kept ht.kept hn, fun hs => (ht.new g hs).elim hn (fun h9 => by have := hb.lt; omega)⟩
end
/-- Two caches, made since w0. -/
structure CC (w0 w : World) (c d : Nat) (X Y : CX) (S D : Nat → Prop) : Prop where
  a : CaO w c X S
  b : CaO w d Y D
  dis : ∀ k, S k → ¬ D k
  turn : Turned (fun _ => False) (fun k => S k ∨ D k) w0 w
section
variable {w0 w w' : World} {c d : Nat} {X Y X' : CX} {S D S' : Nat → Prop}
theorem CC.below (h : CC w0 w c d X Y S D) : Below w0.heap.size w0 w := h.turn.kept.below (Nat.le_refl _) (fun _ _ hf => hf)
theorem CC.then (h : CC w0 w c d X Y S D) (hb : Below w.heap.size w w') : CC w0 w' c d X Y S D := ⟨h.a.below hb, h.b.below hb, h.dis, h.turn.then_below hb⟩
theorem CC.swap (h : CC w0 w c d X Y S D) : CC w0 w d c Y X D S := ⟨h.b, h.a, fun k h1 h2 => h.dis k h2 h1, ⟨h.turn.kept, fun k hk => h.turn.new k hk.symm⟩⟩
theorem CC.step (h : CC w0 w c d X Y S D) (h' : CaO w' c X' S') (ht : Turned S S' w w') : CC w0 w' c d X' Y S' D := by
  have hn : ∀ k, S' k → ¬ D k := fun k hk hd => (ht.new k hk).elim (fun h1 => h.dis k h1 hd) (fun h1 => by have := h.b.lt k hd; omega)
  refine ⟨h', h.b.step (fun k hk hl => ht.out hl (fun hs => h.dis k hs hk)), hn, h.turn.trans ⟨ht.kept.mono fun k _ hk => .inl hk, fun k hk => ?_⟩⟩
  rcases hk with hk | hk
  · exact (ht.new k hk).imp .inl (fun h9 => h9)
  · exact .inl (.inr hk)
theorem CC.made (w : World) : CC w ((w.alloc (.cells (caBox none none none 0) 48)).alloc (.cells (caBox none none none 0) 48)) w.heap.size (w.heap.size + 1) ⟨[], [], [], 0⟩ ⟨[], [], [], 0⟩ (fun k => k = w.heap.size) (fun k => k = w.heap.size + 1) := by
  have h1 := (CaO.made w).below ((Below.refl _ _).alloc (Nat.le_refl _) (.cells (caBox none none none 0) 48))
  have h2 := CaO.made (w.alloc (.cells (caBox none none none 0) 48))
  rw [show (w.alloc (.cells (caBox none none none 0) 48)).heap.size = w.heap.size + 1 by simp] at h2
  exact ⟨h1, h2, fun k h3 h4 => by omega, ⟨Kept.of_below (((Below.refl _ _).alloc (Nat.le_refl _) _).alloc (by simp) _), fun k hk => .inr (by omega)⟩⟩
theorem ccPut (h : CC w0 w c d X Y S D) (n : LNode) (hw : wfNode n) (hb : X.nodes.length ≤ 1000 ∧ X.stale.length ≤ 1000) : Calls Try.prog 17 #[.pointer (some ⟨c, 0, none⟩), aggNode n] w fun e w' => e = .returned (.bool (X.put n).2) ∧ ∃ S', CC w0 w' c d (X.put n).1 Y S' D := by
  refine (caPut_o h.a n hw hb).mono ?_
  rintro e w' ⟨rfl, S', h1, h2⟩
  exact ⟨rfl, S', h.step h1 h2⟩
theorem ccBest (h : CC w0 w c d X Y S D) (r : LRes) (hw : wfRes r) (hb : X.nodes.length ≤ 1000 ∧ X.stale.length ≤ 1000 ∧ X.needs.length ≤ 1000 ∧ 0 ≤ X.looked ∧ X.looked ≤ 10000000) : Calls Try.prog 19 #[.pointer (some ⟨c, 0, none⟩), aggRes r] w fun e w' => e = .returned (.tuple #[aggNode ((bestN r X.nodes).getD zeroN), .bool (bestN r X.nodes).isSome]) ∧ ∃ S', CC w0 w' c d (X.best r) Y S' D := by
  refine (caBest_o h.a r hw hb).mono ?_
  rintro e w' ⟨rfl, S', h1, h2⟩
  exact ⟨rfl, S', h.step h1 h2⟩
theorem ccForget (h : CC w0 w c d X Y S D) (r : LRes) (hw : wfRes r) : Calls Try.prog 21 #[.pointer (some ⟨c, 0, none⟩), aggRes r] w fun e w' => e = .returned (.bool (X.forget r).2) ∧ ∃ S', CC w0 w' c d (X.forget r).1 Y S' D := by
  refine (caForget_o h.a r hw).mono ?_
  rintro e w' ⟨rfl, S', h1, h2⟩
  exact ⟨rfl, S', h.step h1 h2⟩
end
def nodeA : LNode := ⟨1, 0, 2, ⟨3, 0, 0⟩, ⟨0, 0, 0⟩, true⟩
def nodeB : LNode := ⟨2, 0, 1, ⟨2, 0, 0⟩, ⟨0, 0, 0⟩, true⟩
def nodeC : LNode := ⟨2, 0, 5, ⟨2, 0, 0⟩, ⟨0, 0, 0⟩, true⟩
def need2 : LRes := ⟨2, 0, 0⟩
theorem nodeA_wf : wfNode nodeA := by unfold wfNode wfRes nodeA; decide
theorem nodeB_wf : wfNode nodeB := by unfold wfNode wfRes nodeB; decide
theorem nodeC_wf : wfNode nodeC := by unfold wfNode wfRes nodeC; decide
theorem need2_wf : wfRes need2 := by unfold wfRes need2; decide
def X1 : CX := ⟨[nodeA], [1], [], 0⟩
def X2 : CX := ⟨[nodeA, nodeB], [1, 2], [], 0⟩
def X3 : CX := ⟨[nodeA, nodeB], [], [need2], 2⟩
def X4 : CX := ⟨[nodeA, nodeC], [2], [need2], 2⟩
def X5 : CX := ⟨[nodeA, nodeC], [], [need2], 3⟩
theorem x1_ : CX.put ⟨[], [], [], 0⟩ nodeA = (X1, true) := by rfl
theorem x2_ : CX.put X1 nodeB = (X2, true) := by rfl
theorem x2a : CX.put X2 nodeA = (X2, false) := by rfl
theorem x3_ : CX.best X2 need2 = X3 := by rfl
theorem x3b : CX.best X3 need2 = X3 := by rfl
theorem x4_ : CX.put X3 nodeC = (X4, true) := by rfl
theorem x5_ : CX.best X4 need2 = X5 := by rfl
theorem b2_ : bestN need2 X2.nodes = some nodeB := by decide +kernel
theorem b3_ : bestN need2 X3.nodes = some nodeB := by decide +kernel
theorem b4_ : bestN need2 X4.nodes = some nodeA := by decide +kernel
/-- A cache, and some boxes of nodes beside it. -/
structure K32 (w0 w : World) (c : Nat) (X : CX) (S : Nat → Prop) (bs : List (Nat × LNode)) : Prop where
  c1 : C1 w0 w c X S
  bx : ∀ p ∈ bs, Blk w p.1 55 (boxNode p.2) ∧ ¬ S p.1 ∧ w0.heap.size ≤ p.1
section
variable {w0 w w' : World} {c : Nat} {X X' : CX} {S S' : Nat → Prop} {bs : List (Nat × LNode)}
theorem K32.step (h : K32 w0 w c X S bs) (h' : CaO w' c X' S') (ht : Turned S S' w w') : K32 w0 w' c X' S' bs := ⟨h.c1.step h' ht, fun p hp => ⟨(h.c1.apart ht (h.bx p hp).1 (h.bx p hp).2.1).1, (h.c1.apart ht (h.bx p hp).1 (h.bx p hp).2.1).2, (h.bx p hp).2.2⟩⟩
theorem K32.push (h : K32 w0 w c X S bs) (n : LNode) : K32 w0 (w.alloc (.cells (boxNode n) 55)) c X S ((w.heap.size, n) :: bs) := by
  have hb : Below w.heap.size w (w.alloc (.cells (boxNode n) 55)) := (Below.refl _ _).alloc (Nat.le_refl _) _
  refine ⟨h.c1.then hb, fun p hp => ?_⟩
  rcases List.mem_cons.1 hp with rfl | hp
  · exact ⟨Blk.new w _ _, fun hs => by have := h.c1.a.lt _ hs; omega, h.c1.below.size⟩
  · exact ⟨(h.bx p hp).1.below hb (h.bx p hp).1.lt, (h.bx p hp).2⟩
theorem K32.box (h : K32 w0 w c X S bs) {b : Nat} {n : LNode} (hm : (b, n) ∈ bs) : Blk w b 55 (boxNode n) := (h.bx _ hm).1
theorem kPut (h : K32 w0 w c X S bs) (n : LNode) (hw : wfNode n) (hb : X.nodes.length ≤ 1000 ∧ X.stale.length ≤ 1000) (X' : CX) (ok : Bool) (hx : X.put n = (X', ok)) : Calls Try.prog 17 #[.pointer (some ⟨c, 0, none⟩), aggNode n] w fun e w' => e = .returned (.bool ok) ∧ ∃ S', K32 w0 w' c X' S' bs := by
  have := caPut_o h.c1.a n hw hb
  rw [hx] at this
  refine this.mono ?_
  rintro e w' ⟨rfl, S', h1, h2⟩
  exact ⟨rfl, S', h.step h1 h2⟩
theorem kBest (h : K32 w0 w c X S bs) (r : LRes) (hw : wfRes r) (hb : X.nodes.length ≤ 1000 ∧ X.stale.length ≤ 1000 ∧ X.needs.length ≤ 1000 ∧ 0 ≤ X.looked ∧ X.looked ≤ 10000000) (X' : CX) (n : LNode) (hx : X.best r = X') (hn : bestN r X.nodes = some n) : Calls Try.prog 19 #[.pointer (some ⟨c, 0, none⟩), aggRes r] w fun e w' => e = .returned (.tuple #[aggNode n, .bool true]) ∧ ∃ S', K32 w0 w' c X' S' bs := by
  have := caBest_o h.c1.a r hw hb
  rw [hx, hn] at this
  refine this.mono ?_
  rintro e w' ⟨rfl, S', h1, h2⟩
  exact ⟨rfl, S', h.step h1 h2⟩
end
theorem K32.setC {w0 w : World} {c : Nat} {X : CX} {S : Nat → Prop} {bs bs' : List (Nat × LNode)} (h : K32 w0 w c X S bs) {bb : Nat} (hb : Blk w bb 55 (boxNode nodeB)) (hS : ¬ S bb) (hw : w0.heap.size ≤ bb) (hs : ∀ p ∈ bs', p ∈ bs ∧ p.1 ≠ bb) : K32 w0 (w.setCell ⟨bb, 2, none⟩ (.int .i64 5)) c X S ((bb, nodeC) :: bs') := by
  have hk : Kept (fun k => k = bb) w (w.setCell ⟨bb, 2, none⟩ (.int .i64 5)) := (Kept.refl (fun k => k = bb) w).setCell (p := ⟨bb, 2, none⟩) (fun _ => rfl) _
  refine ⟨⟨h.c1.a.step fun k hk' hl => hk.block k hl (fun e => hS (e ▸ hk')), ⟨⟨hk.os.trans h.c1.turn.kept.os, hk.tape.trans h.c1.turn.kept.tape, hk.output.trans h.c1.turn.kept.output, Nat.le_trans h.c1.turn.kept.size hk.size, fun k hkl hn => (hk.block k (Nat.lt_of_lt_of_le hkl h.c1.turn.kept.size) (fun e => by omega)).trans (h.c1.turn.kept.block k hkl hn)⟩, h.c1.turn.new⟩⟩, fun p hp => ?_⟩
  rcases List.mem_cons.1 hp with rfl | hp
  · refine ⟨?_, hS, hw⟩
    have := hb.set_ 2 (.int .i64 5)
    simp only [boxNode, nodeB, List.setIfInBounds_toArray, List.set_cons_succ, List.set_cons_zero] at this
    exact this
  · obtain ⟨h1, h2⟩ := hs p hp
    exact ⟨(h.bx p h1).1.kept hk h2, (h.bx p h1).2⟩
set_option maxRecDepth 100000 in
set_option maxHeartbeats 3200000 in
theorem awake32 (w : World) : Calls Try.prog 14 #[] w fun e w' => e = .returned (.bool true) ∧ Below w.heap.size w w' := by
  have hcx := caNew_t w
  go_enter Try.func14, Try.ntmps14
  go_wp2_with fail
  (with_reducible refine hcx.mono ?_)
  clear hcx
  rintro e w1 ⟨rfl, hw1⟩
  have hc1 := C1.made w
  rw [← hw1] at hc1
  obtain ⟨c, hc⟩ : ∃ c, w.heap.size = c := ⟨_, rfl⟩
  obtain ⟨S1, hS1⟩ : ∃ S1 : Nat → Prop, (fun k => k = w.heap.size) = S1 := ⟨_, rfl⟩
  rw [hS1, hc] at hc1
  have hk : K32 w w1 c ⟨[], [], [], 0⟩ S1 [] := ⟨hc1, fun p hp => (by cases hp)⟩
  have hk2 := (hk.push nodeA).push nodeB
  rw [show (w1.alloc (.cells (boxNode nodeA) 55)).heap.size = w1.heap.size + 1 by simp] at hk2
  have H1 := Lib.hid hk2
  clear hw1 hc1 hS1 hk hk2
  try rw [hc]
  clear hc
  go_upto_region 3 with fail
  simp only [boxNode, nodeA, nodeB] at H1
  obtain ⟨ba, hba⟩ : ∃ q, w1.heap.size = q := ⟨_, rfl⟩
  obtain ⟨bb, hbb⟩ : ∃ q, ba + 1 = q := ⟨_, rfl⟩
  rw [hba, hbb] at H1
  generalize ((w1.alloc (.cells _ 55)).alloc (.cells _ 55)) = w2 at H1 ⊢
  try simp only [hba, hbb]
  clear hba hbb
  have H2 : Hid (K32 w w2 c ⟨[], [], [], 0⟩ S1 [(bb, nodeB), (ba, nodeA)]) := H1
  clear H1
  have a0 := (H2.out.box (b := ba) (n := nodeA) (by simp)).cell 0
  have a1 := (H2.out.box (b := ba) (n := nodeA) (by simp)).cell 1
  have a2 := (H2.out.box (b := ba) (n := nodeA) (by simp)).cell 2
  have a3 := (H2.out.box (b := ba) (n := nodeA) (by simp)).cell 3
  have a4 := (H2.out.box (b := ba) (n := nodeA) (by simp)).cell 4
  have a5 := (H2.out.box (b := ba) (n := nodeA) (by simp)).cell 5
  have a6 := (H2.out.box (b := ba) (n := nodeA) (by simp)).cell 6
  have a7 := (H2.out.box (b := ba) (n := nodeA) (by simp)).cell 7
  have a8 := (H2.out.box (b := ba) (n := nodeA) (by simp)).cell 8
  have a9 := (H2.out.box (b := ba) (n := nodeA) (by simp)).cell 9
  simp only [boxNode, nodeA, List.getElem?_toArray, List.getElem?_cons_zero, List.getElem?_cons_succ] at a0 a1 a2 a3 a4 a5 a6 a7 a8 a9
  have hcx : Calls Try.prog 17 #[.pointer (some ⟨c, 0, none⟩), .agg #[.int .i64 1, .int .i64 0, .int .i64 2, .int .i64 3, .int .i64 0, .int .i64 0, .int .i64 0, .int .i64 0, .int .i64 0, .bool true]] w2 _ := kPut H2.out nodeA nodeA_wf (by decide) X1 true x1_
  go_wp2_with fail
  (with_reducible refine hcx.mono ?_)
  clear hcx a0 a1 a2 a3 a4 a5 a6 a7 a8 a9
  rintro e w3 ⟨rfl, S3, hk⟩
  have H3 := Lib.hid hk
  clear hk
  have b0 := (H3.out.box (b := bb) (n := nodeB) (by simp)).cell 0
  have b1 := (H3.out.box (b := bb) (n := nodeB) (by simp)).cell 1
  have b2 := (H3.out.box (b := bb) (n := nodeB) (by simp)).cell 2
  have b3 := (H3.out.box (b := bb) (n := nodeB) (by simp)).cell 3
  have b4 := (H3.out.box (b := bb) (n := nodeB) (by simp)).cell 4
  have b5 := (H3.out.box (b := bb) (n := nodeB) (by simp)).cell 5
  have b6 := (H3.out.box (b := bb) (n := nodeB) (by simp)).cell 6
  have b7 := (H3.out.box (b := bb) (n := nodeB) (by simp)).cell 7
  have b8 := (H3.out.box (b := bb) (n := nodeB) (by simp)).cell 8
  have b9 := (H3.out.box (b := bb) (n := nodeB) (by simp)).cell 9
  simp only [boxNode, nodeB, List.getElem?_toArray, List.getElem?_cons_zero, List.getElem?_cons_succ] at b0 b1 b2 b3 b4 b5 b6 b7 b8 b9
  have hcx : Calls Try.prog 17 #[.pointer (some ⟨c, 0, none⟩), .agg #[.int .i64 2, .int .i64 0, .int .i64 1, .int .i64 2, .int .i64 0, .int .i64 0, .int .i64 0, .int .i64 0, .int .i64 0, .bool true]] w3 _ := kPut H3.out nodeB nodeB_wf (by decide) X2 true x2_
  go_wp2_with fail
  (with_reducible refine hcx.mono ?_)
  clear hcx b0 b1 b2 b3 b4 b5 b6 b7 b8 b9
  rintro e w4 ⟨rfl, S4, hk⟩
  have H4 := Lib.hid hk
  clear hk
  have a0 := (H4.out.box (b := ba) (n := nodeA) (by simp)).cell 0
  have a1 := (H4.out.box (b := ba) (n := nodeA) (by simp)).cell 1
  have a2 := (H4.out.box (b := ba) (n := nodeA) (by simp)).cell 2
  have a3 := (H4.out.box (b := ba) (n := nodeA) (by simp)).cell 3
  have a4 := (H4.out.box (b := ba) (n := nodeA) (by simp)).cell 4
  have a5 := (H4.out.box (b := ba) (n := nodeA) (by simp)).cell 5
  have a6 := (H4.out.box (b := ba) (n := nodeA) (by simp)).cell 6
  have a7 := (H4.out.box (b := ba) (n := nodeA) (by simp)).cell 7
  have a8 := (H4.out.box (b := ba) (n := nodeA) (by simp)).cell 8
  have a9 := (H4.out.box (b := ba) (n := nodeA) (by simp)).cell 9
  simp only [boxNode, nodeA, List.getElem?_toArray, List.getElem?_cons_zero, List.getElem?_cons_succ] at a0 a1 a2 a3 a4 a5 a6 a7 a8 a9
  have hcx : Calls Try.prog 17 #[.pointer (some ⟨c, 0, none⟩), .agg #[.int .i64 1, .int .i64 0, .int .i64 2, .int .i64 3, .int .i64 0, .int .i64 0, .int .i64 0, .int .i64 0, .int .i64 0, .bool true]] w4 _ := kPut H4.out nodeA nodeA_wf (by decide) X2 false x2a
  go_wp2_with fail
  (with_reducible refine hcx.mono ?_)
  clear hcx a0 a1 a2 a3 a4 a5 a6 a7 a8 a9
  rintro e w5 ⟨rfl, S5, hk⟩
  have H5 := Lib.hid hk
  clear hk
  have hcx : Calls Try.prog 25 #[.pointer (some ⟨c, 0, none⟩)] w5 (fun e w' => e = .returned (.int .i64 2) ∧ w' = w5) := caStale_o H5.out.c1.a
  go_wp2_with fail
  (with_reducible refine hcx.mono ?_)
  clear hcx
  rintro e wq ⟨rfl, hw⟩
  replace hw := hw.symm
  subst hw
  have hcx : Calls Try.prog 19 #[.pointer (some ⟨c, 0, none⟩), .agg #[.int .i64 2, .int .i64 0, .int .i64 0]] w5 _ := kBest H5.out need2 need2_wf ⟨by decide, by decide, by decide, by decide, by decide⟩ X3 nodeB x3_ b2_
  go_wp2_with fail
  (with_reducible refine hcx.mono ?_)
  clear hcx
  rintro e w6 ⟨rfl, S6, hk⟩
  have H6 := Lib.hid hk
  clear hk
  go_upto_region 6 with fail
  have hk2 := H6.out.push nodeB
  simp only [boxNode] at hk2
  obtain ⟨p4, hp4⟩ : ∃ q, w6.heap.size = q := ⟨_, rfl⟩
  have HLp4 : Hid (bb < p4) := Lib.hid (by have := (H6.out.box (b := bb) (n := nodeB) (by simp)).lt; omega)
  rw [hp4] at hk2
  have H7 := Lib.hid hk2
  clear hk2
  generalize hwn : w6.alloc (.cells _ 55) = w7 at H7 ⊢
  clear hwn
  have H7 : Hid (K32 w w7 c X3 S6 ((p4, nodeB) :: [(bb, nodeB), (ba, nodeA)])) := H7
  try simp only [hp4]
  clear hp4
  have hcx : Calls Try.prog 19 #[.pointer (some ⟨c, 0, none⟩), .agg #[.int .i64 2, .int .i64 0, .int .i64 0]] w7 _ := kBest H7.out need2 need2_wf ⟨by decide, by decide, by decide, by decide, by decide⟩ X3 nodeB x3b b3_
  go_wp2_with fail
  (with_reducible refine hcx.mono ?_)
  clear hcx
  rintro e w8 ⟨rfl, S8, hk⟩
  have H8 := Lib.hid hk
  clear hk
  go_upto_region 7 with fail
  have hk2 := H8.out.push nodeB
  simp only [boxNode] at hk2
  obtain ⟨p6, hp6⟩ : ∃ q, w8.heap.size = q := ⟨_, rfl⟩
  have HLp6 : Hid (bb < p6) := Lib.hid (by have := (H8.out.box (b := bb) (n := nodeB) (by simp)).lt; omega)
  rw [hp6] at hk2
  have H9 := Lib.hid hk2
  clear hk2
  generalize hwn : w8.alloc (.cells _ 55) = w9 at H9 ⊢
  clear hwn
  have H9 : Hid (K32 w w9 c X3 S8 ((p6, nodeB) :: [(p4, nodeB), (bb, nodeB), (ba, nodeA)])) := H9
  try simp only [hp6]
  clear hp6
  have hcx : Calls Try.prog 26 #[.pointer (some ⟨c, 0, none⟩)] w9 (fun e w' => e = .returned (.int .i64 2) ∧ w' = w9) := caLooked_o H9.out.c1.a
  go_wp2_with fail
  (with_reducible refine hcx.mono ?_)
  clear hcx
  rintro e wq ⟨rfl, hw⟩
  replace hw := hw.symm
  subst hw
  have hbb := H9.out.bx (bb, nodeB) (by simp)
  have b2 := hbb.1.cell 2
  have bf := hbb.1.frozen 2
  have bl := hbb.1.lt
  simp only [boxNode, nodeB, List.getElem?_toArray, List.getElem?_cons_zero, List.getElem?_cons_succ] at b2
  have hset := H9.out.setC (bs' := [(p6, nodeB), (p4, nodeB)]) hbb.1 hbb.2.1 hbb.2.2 (fun p hp => by
    simp only [List.mem_cons, List.not_mem_nil, or_false] at hp
    rcases hp with rfl | rfl
    · exact ⟨by simp, by have := HLp6.out; show p6 ≠ bb; omega⟩
    · exact ⟨by simp, by have := HLp4.out; show p4 ≠ bb; omega⟩)
  have H10 := Lib.hid hset
  clear hbb hset H9
  go_upto_region 9 with fail
  clear b2 bf bl
  generalize w9.setCell ⟨bb, 2, none⟩ (.int .i64 5) = w10 at H10 ⊢
  have b0 := (H10.out.box (b := bb) (n := nodeC) (by simp)).cell 0
  have b1 := (H10.out.box (b := bb) (n := nodeC) (by simp)).cell 1
  have b2 := (H10.out.box (b := bb) (n := nodeC) (by simp)).cell 2
  have b3 := (H10.out.box (b := bb) (n := nodeC) (by simp)).cell 3
  have b4 := (H10.out.box (b := bb) (n := nodeC) (by simp)).cell 4
  have b5 := (H10.out.box (b := bb) (n := nodeC) (by simp)).cell 5
  have b6 := (H10.out.box (b := bb) (n := nodeC) (by simp)).cell 6
  have b7 := (H10.out.box (b := bb) (n := nodeC) (by simp)).cell 7
  have b8 := (H10.out.box (b := bb) (n := nodeC) (by simp)).cell 8
  have b9 := (H10.out.box (b := bb) (n := nodeC) (by simp)).cell 9
  simp only [boxNode, nodeC, List.getElem?_toArray, List.getElem?_cons_zero, List.getElem?_cons_succ] at b0 b1 b2 b3 b4 b5 b6 b7 b8 b9
  have hcx : Calls Try.prog 17 #[.pointer (some ⟨c, 0, none⟩), .agg #[.int .i64 2, .int .i64 0, .int .i64 5, .int .i64 2, .int .i64 0, .int .i64 0, .int .i64 0, .int .i64 0, .int .i64 0, .bool true]] w10 _ := kPut H10.out nodeC nodeC_wf (by decide) X4 true x4_
  go_wp2_with fail
  (with_reducible refine hcx.mono ?_)
  clear hcx b0 b1 b2 b3 b4 b5 b6 b7 b8 b9
  rintro e w11 ⟨rfl, S11, hk⟩
  have H11 := Lib.hid hk
  clear hk
  have hcx : Calls Try.prog 19 #[.pointer (some ⟨c, 0, none⟩), .agg #[.int .i64 2, .int .i64 0, .int .i64 0]] w11 _ := kBest H11.out need2 need2_wf ⟨by decide, by decide, by decide, by decide, by decide⟩ X5 nodeA x5_ b4_
  go_wp2_with fail
  (with_reducible refine hcx.mono ?_)
  clear hcx
  rintro e w12 ⟨rfl, S12, hk⟩
  have H12 := Lib.hid hk
  clear hk
  go_upto_region 11 with fail
  have hk2 := H12.out.push nodeA
  simp only [boxNode] at hk2
  obtain ⟨p9, hp9⟩ : ∃ q, w12.heap.size = q := ⟨_, rfl⟩
  have HLp9 : Hid (bb < p9) := Lib.hid (by have := (H12.out.box (b := bb) (n := nodeC) (by simp)).lt; omega)
  rw [hp9] at hk2
  have H13 := Lib.hid hk2
  clear hk2
  generalize hwn : w12.alloc (.cells _ 55) = w13 at H13 ⊢
  clear hwn
  have H13 : Hid (K32 w w13 c X5 S12 ((p9, nodeA) :: [(bb, nodeC), (p6, nodeB), (p4, nodeB)])) := H13
  try simp only [hp9]
  clear hp9
  have q4 := (H13.out.box (b := p4) (n := nodeB) (by simp)).cell 0
  have q6 := (H13.out.box (b := p6) (n := nodeB) (by simp)).cell 0
  have q9 := (H13.out.box (b := p9) (n := nodeA) (by simp)).cell 0
  simp only [boxNode, nodeA, nodeB, List.getElem?_toArray, List.getElem?_cons_zero, List.getElem?_cons_succ] at q4 q6 q9
  have hcx : Calls Try.prog 26 #[.pointer (some ⟨c, 0, none⟩)] w13 (fun e w' => e = .returned (.int .i64 3) ∧ w' = w13) := caLooked_o H13.out.c1.a
  go_wp2_with fail
  (with_reducible refine hcx.mono ?_)
  clear hcx
  rintro e wq ⟨rfl, hw⟩
  replace hw := hw.symm
  subst hw
  have hcx : Calls Try.prog 24 #[.pointer (some ⟨c, 0, none⟩)] w13 (fun e w' => e = .returned (.int .i64 1) ∧ w' = w13) := caNeeds_o H13.out.c1.a
  go_wp2_with fail
  (with_reducible refine hcx.mono ?_)
  clear hcx
  rintro e wq ⟨rfl, hw⟩
  replace hw := hw.symm
  subst hw
  have hcx : Calls Try.prog 25 #[.pointer (some ⟨c, 0, none⟩)] w13 (fun e w' => e = .returned (.int .i64 0) ∧ w' = w13) := caStale_o H13.out.c1.a
  go_wp2_with fail
  (with_reducible refine hcx.mono ?_)
  clear hcx
  rintro e wq ⟨rfl, hw⟩
  replace hw := hw.symm
  subst hw
  go_wp2
  go_ret
  exact ⟨rfl, H13.out.c1.below⟩
end Go.Proofs.Ytcafmodenbifhaa
