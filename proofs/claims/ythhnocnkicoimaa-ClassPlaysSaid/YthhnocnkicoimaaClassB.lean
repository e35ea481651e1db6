/-
  LAYER 30 (class): a Classes of the law's own, call by call.
-/
import Derived.Test.YthhnocnkicoimaaSame01
import Derived.Test.YthhnocnkicoimaaClassA
import Derived.Test.YthhnocnkicoimaaClass2
set_option linter.unusedVariables false
set_option linter.unusedSimpArgs false
namespace Go.Proofs.Ythhnocnkicoimaa
open Go.RowKit Go.Maps

theorem encI_get_ (x : Int) : (encI x)[0]? = some (.int .i64 x) := rfl
theorem RdI.lit_ (w : World) (G : Nat) (hG : G = w.heap.size) (cs : Array Value) (t : TypeId) (fz : Nat × Nat) (l : List Int) (h : cs.toList = l.map (Value.int .i64)) : RdI (w.alloc (.cells cs t fz)) (some ⟨G, 0, none⟩) l.length l := by
  subst hG
  refine ⟨rfl, fun _ => ⟨_, _, rfl, by simp, fun i y hy j v hv => ?_⟩⟩
  have hj : j = 0 := by
    cases j with
    | zero => rfl
    | succ j => simp [encI] at hv
  subst hj
  rw [encI_get_] at hv
  cases hv
  rw [show 0 + (i * 1 + 0) = i by omega, cell_of_row _ _ _ cs t fz (heap_alloc_new w _), ← Array.getElem?_toList, h, List.getElem?_map, hy]
  rfl

/-- A Classes with its blocks S. -/
def CO (w : World) (c : Nat) (m : CM) (S : Nat → Prop) : Prop := ∃ gs A n cap am jm, CAt w c m (fun k => m.rows k) gs A n cap am jm ∧ S = cfoot c gs A am jm
theorem CO.lt {w : World} {c : Nat} {m : CM} {S : Nat → Prop} (h : CO w c m S) : ∀ k, S k → k < w.heap.size := by
  obtain ⟨gs, A, n, cap, am, jm, hA, rfl⟩ := h
  exact hA.foot_lt
theorem CO.step {w w' : World} {c : Nat} {m : CM} {S : Nat → Prop} (h : CO w c m S) (hk : ∀ k, S k → k < w.heap.size → w'.heap[k]? = w.heap[k]?) : CO w' c m S := by
  obtain ⟨gs, A, n, cap, am, jm, hA, rfl⟩ := h
  exact ⟨gs, A, n, cap, am, jm, hA.step hk, rfl⟩
theorem CO.below {w w' : World} {c : Nat} {m : CM} {S : Nat → Prop} (h : CO w c m S) (hb : Below w.heap.size w w') : CO w' c m S := h.step fun k _ hl => hb.block k hl
theorem CO.ok {w : World} {c : Nat} {m : CM} {S : Nat → Prop} (h : CO w c m S) : m.Ok := by
  obtain ⟨gs, A, n, cap, am, jm, hA, rfl⟩ := h
  exact hA.ok
theorem CO.rising {w : World} {c : Nat} {m : CM} {S : Nat → Prop} (h : CO w c m S) : Rising m.jrow := by
  obtain ⟨gs, A, n, cap, am, jm, hA, rfl⟩ := h
  exact hA.jb.rising
theorem CO.wfn {w : World} {c : Nat} {m : CM} {S : Nat → Prop} (h : CO w c m S) : ∀ r ∈ m.needs, wfRes r := by
  obtain ⟨gs, A, n, cap, am, jm, hA, rfl⟩ := h
  exact hA.at_.wf
theorem oMade (w : World) : CO (w.alloc (.cells #[.slice none 0 0, .map none, .map none] 32)) w.heap.size CM.zero (fun k => k = w.heap.size) := by
  refine ⟨[], none, 0, 0, none, none, CAt.made w, ?_⟩
  funext k
  simp [cfoot]
section
variable {w : World} {c : Nat} {m : CM} {S : Nat → Prop}
theorem oAdd (h : CO w c m S) (id : Int) (hid : wf64 id) (r : LRes) (hr : wfRes r) (hright : rightR r = true) (hsm : m.needs.length < 1000) (hjs : m.jrow.length < 1000) :
    Calls Try.prog 10 #[.pointer (some ⟨c, 0, none⟩), .int .i64 id, aggRes r] w fun e w' => e = .returned (.tuple #[.int .i64 (idxR (m.add id r).needs r), .bool true]) ∧ ∃ S', CO w' c (m.add id r) S' ∧ Turned S S' w w' := by
  obtain ⟨gs, A, n, cap, am, jm, hA, rfl⟩ := h
  refine (cAdd hA id hid r hr hright hsm hjs).mono ?_
  rintro e w' ⟨rfl, gs', A', n', cap', a, j, h1, h2⟩
  exact ⟨rfl, _, ⟨gs', A', n', cap', some a, some j, h1, rfl⟩, h2⟩
theorem oDrop (h : CO w c m S) (id : Int) (hid : wf64 id) :
    Calls Try.prog 13 #[.pointer (some ⟨c, 0, none⟩), .int .i64 id] w fun e w' => e = .returned (.bool (decide (id ∈ m.jrow))) ∧ ∃ S', CO w' c (m.drop id) S' ∧ Turned S S' w w' := by
  obtain ⟨gs, A, n, cap, am, jm, hA, rfl⟩ := h
  refine (cDrop hA id hid).mono ?_
  rintro e w' ⟨rfl, gs', h1, h2⟩
  exact ⟨rfl, _, ⟨gs', A, n, cap, am, jm, h1, rfl⟩, h2⟩
theorem oClass (h : CO w c m S) (id : Int) (hid : wf64 id) : Calls Try.prog 15 #[.pointer (some ⟨c, 0, none⟩), .int .i64 id] w fun e w' => e = .returned (.tuple #[.int .i64 (if id ∈ m.jrow then m.jf id else 0), .bool (decide (id ∈ m.jrow))]) ∧ w = w' := by
  obtain ⟨gs, A, n, cap, am, jm, hA, rfl⟩ := h
  exact cClass hA id hid
theorem oOf (h : CO w c m S) (r : LRes) (hr : wfRes r) : Calls Try.prog 14 #[.pointer (some ⟨c, 0, none⟩), aggRes r] w fun e w' => e = .returned (.tuple #[.int .i64 (if r ∈ m.needs then idxR m.needs r else 0), .bool (decide (r ∈ m.needs))]) ∧ Below w.heap.size w w' := by
  obtain ⟨gs, A, n, cap, am, jm, hA, rfl⟩ := h
  exact cOf hA r hr
theorem oNeed_no (h : CO w c m S) (k : Int) (hk : k < 0 ∨ (m.needs.length : Int) ≤ k) : Calls Try.prog 20 #[.pointer (some ⟨c, 0, none⟩), .int .i64 k] w fun e w' => e = .returned (.tuple #[aggRes ⟨0, 0, 0⟩, .bool false]) ∧ Below w.heap.size w w' := by
  obtain ⟨gs, A, n, cap, am, jm, hA, rfl⟩ := h
  exact cNeed_no hA k hk
theorem oNeed_yes (h : CO w c m S) (k : Nat) (r : LRes) (hk : m.needs[k]? = some r) : Calls Try.prog 20 #[.pointer (some ⟨c, 0, none⟩), .int .i64 k] w fun e w' => e = .returned (.tuple #[aggRes r, .bool true]) ∧ Below w.heap.size w w' := by
  obtain ⟨gs, A, n, cap, am, jm, hA, rfl⟩ := h
  exact cNeed_yes hA k r hk
theorem oLive (h : CO w c m S) : Calls Try.prog 18 #[.pointer (some ⟨c, 0, none⟩)] w fun e w' => ∃ A' n' c', e = .returned (.slice A' n' c') ∧ OwnL encI 3 1 w' w.heap.size A' n' c' m.live ∧ Below w.heap.size w w' := by
  obtain ⟨gs, A, n, cap, am, jm, hA, rfl⟩ := h
  exact cLive hA
theorem oJobs (h : CO w c m S) (k : Int) : Calls Try.prog 21 #[.pointer (some ⟨c, 0, none⟩), .int .i64 k] w fun e w' => ∃ A' n' c', e = .returned (.slice A' n' c') ∧ OwnL encI 3 1 w' w.heap.size A' n' c' (m.rows k) ∧ Below w.heap.size w w' := by
  obtain ⟨gs, A, n, cap, am, jm, hA, rfl⟩ := h
  exact cJobs hA k
end
/-- A Classes that was made since w0. -/
def CI (w0 w : World) (c : Nat) (m : CM) : Prop := ∃ S, CO w c m S ∧ Turned (fun _ => False) S w0 w
theorem CI.below {w0 w : World} {c : Nat} {m : CM} (h : CI w0 w c m) : Below w0.heap.size w0 w := by
  obtain ⟨S, _, ht⟩ := h
  exact ht.below (Nat.le_refl _) (fun _ h => h.elim)
theorem CI.then {w0 w w' : World} {c : Nat} {m : CM} (h : CI w0 w c m) (hb : Below w.heap.size w w') : CI w0 w' c m := by
  obtain ⟨S, ho, ht⟩ := h
  exact ⟨S, ho.below hb, ht.then_below hb⟩
theorem CI.made (w : World) : CI w (w.alloc (.cells #[.slice none 0 0, .map none, .map none] 32)) w.heap.size CM.zero :=
  ⟨_, oMade w, ⟨Kept.of_below ((Below.refl _ _).alloc (Nat.le_refl _) _), fun k hk => .inr (by show w.heap.size ≤ k; rw [show k = w.heap.size from hk]; exact Nat.le_refl _)⟩⟩
theorem iAdd {w0 w : World} {c : Nat} {m : CM} (h : CI w0 w c m) (id : Int) (hid : wf64 id) (r : LRes) (hr : wfRes r) (hright : rightR r = true) (hsm : m.needs.length < 1000) (hjs : m.jrow.length < 1000) (m' : CM) (hm : m.add id r = m') (k : Int) (hk : idxR m'.needs r = k) :
    Calls Try.prog 10 #[.pointer (some ⟨c, 0, none⟩), .int .i64 id, aggRes r] w fun e w' => e = .returned (.tuple #[.int .i64 k, .bool true]) ∧ CI w0 w' c m' := by
  subst hm
  subst hk
  obtain ⟨S, ho, ht⟩ := h
  refine (oAdd ho id hid r hr hright hsm hjs).mono ?_
  rintro e w' ⟨rfl, S', h1, h2⟩
  exact ⟨rfl, S', h1, ht.trans h2⟩
theorem iDrop {w0 w : World} {c : Nat} {m : CM} (h : CI w0 w c m) (id : Int) (hid : wf64 id) :
    Calls Try.prog 13 #[.pointer (some ⟨c, 0, none⟩), .int .i64 id] w fun e w' => e = .returned (.bool (decide (id ∈ m.jrow))) ∧ CI w0 w' c (m.drop id) := by
  obtain ⟨S, ho, ht⟩ := h
  refine (oDrop ho id hid).mono ?_
  rintro e w' ⟨rfl, S', h1, h2⟩
  exact ⟨rfl, S', h1, ht.trans h2⟩

set_option maxRecDepth 100000 in
set_option maxHeartbeats 3200000 in
theorem awake30 (w : World) : Calls Try.prog 7 #[] w fun e w' => e = .returned (.bool true) ∧ Below w.heap.size w w' := by
  obtain ⟨m1, h1⟩ : ∃ m1, CM.zero.add 5 ⟨1, 0, 0⟩ = m1 := ⟨_, rfl⟩
  obtain ⟨m2, h2⟩ : ∃ m2, m1.add 6 ⟨2, 0, 0⟩ = m2 := ⟨_, rfl⟩
  obtain ⟨m3, h3⟩ : ∃ m3, m2.add 5 ⟨2, 0, 0⟩ = m3 := ⟨_, rfl⟩
  have a1 : m1.needs = [⟨1, 0, 0⟩] ∧ m1.jrow = [5] := by subst h1; decide +kernel
  have a2 : m2.needs = [⟨1, 0, 0⟩, ⟨2, 0, 0⟩] ∧ m2.jrow = [5, 6] := by subst h2 h1; decide +kernel
  have a3 : m3.needs = [⟨1, 0, 0⟩, ⟨2, 0, 0⟩] ∧ m3.rows 1 = [5, 6] ∧ m3.rows 0 = [] ∧ m3.live = [1] := by subst h3 h2 h1; decide +kernel
  have HM := Lib.hid (And.intro h1 (And.intro h2 (And.intro h3 (And.intro a1 (And.intro a2 a3)))))
  clear h1 h2 h3 a1 a2 a3
  go_enter Try.func7, Try.ntmps7
  go_wp2_with fail
  (with_reducible refine (cNew w).mono ?_)
  rintro e w1 ⟨rfl, hw⟩
  have HI1 : Hid (CI w w1 w.heap.size CM.zero) := Lib.hid (by rw [hw]; exact CI.made w)
  clear hw
  obtain ⟨c, hc⟩ : ∃ c, w.heap.size = c := ⟨_, rfl⟩
  rw [hc] at HI1
  have HC := Lib.hid hc
  try rw [hc]
  clear hc
  go_wp2_with fail
  have hcx := iAdd HI1.out 5 (by decide) ⟨1, 0, 0⟩ ⟨by decide, by decide, by decide⟩ (by decide) (by decide) (by decide) m1 HM.out.1 0 (by rw [HM.out.2.2.2.1.1]; decide)
  (with_reducible refine hcx.mono ?_)
  clear hcx
  rintro e w2 ⟨rfl, hI⟩
  have HI2 := Lib.hid hI
  clear hI
  go_wp2_with fail
  have hcx := iAdd HI2.out 6 (by decide) ⟨2, 0, 0⟩ ⟨by decide, by decide, by decide⟩ (by decide) (by rw [HM.out.2.2.2.1.1]; decide) (by rw [HM.out.2.2.2.1.2]; decide) m2 HM.out.2.1 1 (by rw [HM.out.2.2.2.2.1.1]; decide)
  (with_reducible refine hcx.mono ?_)
  clear hcx
  rintro e w3 ⟨rfl, hI⟩
  have HI3 := Lib.hid hI
  clear hI
  go_wp2_with fail
  have hcx := iAdd HI3.out 5 (by decide) ⟨2, 0, 0⟩ ⟨by decide, by decide, by decide⟩ (by decide) (by rw [HM.out.2.2.2.2.1.1]; decide) (by rw [HM.out.2.2.2.2.1.2]; decide) m3 HM.out.2.2.1 1 (by rw [HM.out.2.2.2.2.2.1]; decide)
  (with_reducible refine hcx.mono ?_)
  clear hcx
  rintro e w4 ⟨rfl, hI⟩
  have HI4 := Lib.hid hI
  clear hI
  go_wp2_with fail
  have hcx := cAdd_no (c := c) (w := w4) 7 ⟨-1, 0, 0⟩ (by decide)
  (with_reducible refine hcx.mono ?_)
  clear hcx
  rintro e w5 ⟨rfl, hB5⟩
  have HI5 := Lib.hid (HI4.out.then hB5)
  clear hB5
  go_wp2_with fail
  obtain ⟨S, ho, _⟩ := HI5.out
  have hcx := oOf ho ⟨1, 0, 0⟩ ⟨by decide, by decide, by decide⟩
  rw [HM.out.2.2.2.2.2.1] at hcx
  have hcx : Calls Try.prog 14 #[.pointer (some ⟨c, 0, none⟩), aggRes ⟨1, 0, 0⟩] w5 fun e w' => e = .returned (.tuple #[.int .i64 0, .bool true]) ∧ Below w5.heap.size w5 w' := hcx
  (with_reducible refine hcx.mono ?_)
  clear hcx ho
  rintro e w6 ⟨rfl, hB6⟩
  have HI6 := Lib.hid (HI5.out.then hB6)
  clear hB6
  go_wp2_with fail
  obtain ⟨S6, ho, _⟩ := HI6.out
  have hcx := oJobs ho 1
  rw [HM.out.2.2.2.2.2.2.1] at hcx
  (with_reducible refine hcx.mono ?_)
  clear hcx ho
  rintro e w7 ⟨A7, n7, c7, rfl, hO7, hB7⟩
  have HI7 := Lib.hid (HI6.out.then hB7)
  have hr7 := hO7.rd (enc := encI) (sz := 1) (fun _ => rfl)
  have hn7 : n7 ≤ 10 := by have := hr7.len; simp at this; omega
  clear hO7 hB7
  go_wp2_with fail
  have hcx := same01_t A7 (some ⟨w7.heap.size, 0, none⟩) n7 c7 2 2 [5, 6] (w7.alloc (.cells #[.int .i64 5, .int .i64 6] 3)) (hr7.alloc _) (RdI.lit_ w7 w7.heap.size rfl _ _ _ [5, 6] rfl) (by omega) (by omega)
  (with_reducible refine hcx.mono ?_)
  clear hcx hr7
  rintro e w8 ⟨rfl, q8, rfl⟩
  have HI8 : Hid (CI w ((w7.alloc (.cells #[.int .i64 5, .int .i64 6] 3)).drewN q8) c m3) := Lib.hid (HI7.out.then (((Below.refl _ _).alloc (Nat.le_refl _) _).trans (below_dN q8)))
  generalize (w7.alloc (.cells #[.int .i64 5, .int .i64 6] 3)).drewN q8 = w8 at HI8 ⊢
  go_wp2_with fail
  obtain ⟨S8, ho, _⟩ := HI8.out
  have hcx := oLive ho
  rw [HM.out.2.2.2.2.2.2.2.2] at hcx
  (with_reducible refine hcx.mono ?_)
  clear hcx ho
  rintro e w9 ⟨A9, n9, c9, rfl, hO9, hB9⟩
  have HI9 := Lib.hid (HI8.out.then hB9)
  have hr9 := hO9.rd (enc := encI) (sz := 1) (fun _ => rfl)
  have hn9 : n9 ≤ 10 := by have := hr9.len; simp at this; omega
  clear hO9 hB9
  go_wp2_with fail
  have hcx := same01_t A9 (some ⟨w9.heap.size, 0, none⟩) n9 c9 1 1 [1] (w9.alloc (.cells #[.int .i64 1] 3)) (hr9.alloc _) (RdI.lit_ w9 w9.heap.size rfl _ _ _ [1] rfl) (by omega) (by omega)
  (with_reducible refine hcx.mono ?_)
  clear hcx hr9
  rintro e w10 ⟨rfl, q10, rfl⟩
  have HI10 : Hid (CI w ((w9.alloc (.cells #[.int .i64 1] 3)).drewN q10) c m3) := Lib.hid (HI9.out.then (((Below.refl _ _).alloc (Nat.le_refl _) _).trans (below_dN q10)))
  generalize (w9.alloc (.cells #[.int .i64 1] 3)).drewN q10 = w10 at HI10 ⊢
  go_wp2_with fail
  obtain ⟨S10, ho, _⟩ := HI10.out
  have hcx := oJobs ho 0
  rw [HM.out.2.2.2.2.2.2.2.1] at hcx
  (with_reducible refine hcx.mono ?_)
  clear hcx ho
  rintro e w11 ⟨A11, n11, c11, rfl, hO11, hB11⟩
  have HI11 := Lib.hid (HI10.out.then hB11)
  have hn11 : n11 = 0 := by have := hO11.len; simpa using this.symm
  subst hn11
  clear hO11 hB11
  go_wp2
  go_ret
  exact ⟨rfl, HI11.out.below⟩

end Go.Proofs.Ythhnocnkicoimaa
