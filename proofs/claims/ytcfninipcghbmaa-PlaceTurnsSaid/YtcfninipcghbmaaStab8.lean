/-
  slices.Clone, slices.SortStableFunc, rank.Jobs.
-/
import Derived.Test.YtcfninipcghbmaaStab7
import Derived.Test.YtcfninipcghbmaaObj
import Derived.Test.YtcfninipcghbmaaSwbOwn
set_option linter.unusedVariables false
set_option linter.unusedSimpArgs false
namespace Go.Proofs.Ytcfninipcghbmaa
open Go.Shelf Go.RowKit Go.Sort

section
variable {α : Type} [Inhabited α] {enc : α → List Value} {k : Nat} {w w0 W : World} {blk off : Nat} {l l0 : List α}
theorem SWB.kept (h : SWB enc k w0 blk off l W) : Kept (fun b => b = blk) w0 W := by
  obtain ⟨d, n, os, rfl⟩ := h
  refine ⟨rfl, rfl, rfl, ?_, fun b hb hn => ?_⟩
  · unfold sortWorldK; rw [size_grow, size_putRowK]; exact Nat.le_add_right _ _
  · unfold sortWorldK putRowK putRow mapBlock grow
    show (_ ++ os)[b]? = _
    rw [Array.getElem?_append_left (by rw [Array.size_modify]; exact hb), Array.getElem?_modify, if_neg (fun e => hn e.symm)]
    rfl
theorem SWB.rd (h : SWB enc k w0 blk off l W) (R : RowL enc k w0 blk off l0) (hs : l.length = l0.length) : Rd enc k W (some ⟨blk, off, none⟩) l.length l :=
  ⟨rfl, fun _ => ⟨blk, off, rfl, h.lt R.hblk, fun i x hx j v hv => by rw [← Nat.add_assoc]; exact (h.cells R hs hx).1 j v hv⟩⟩
theorem rowL_of_own (henc : ∀ x, (enc x).length = k) (hone : ∀ x, ∀ u ∈ enc x, u.oneCell' = true) {base e n c : Nat} {A : Option Addr} (h : OwnL enc e k w base A n c l) (hn : 0 < n) : ∃ g, A = some ⟨g, 0, none⟩ ∧ base ≤ g ∧ RowL enc k w g 0 l := by
  have hrd := h.rd henc
  rcases h.own.2 with ⟨_, h0⟩ | ⟨g, cap, cur, hv, hg, hh, _⟩
  · omega
  · injection hv with hA
    subst hA
    refine ⟨g, rfl, hg, henc, hone, fun j hj => ?_, (Array.getElem?_eq_some_iff.1 hh).1⟩
    rw [size_flatK] at hj
    have hk : 0 < k := by rcases Nat.eq_zero_or_pos k with h0 | h0; (subst h0; simp at hj); exact h0
    have hjl : j / k < l.toArray.size := by
      rw [Nat.div_lt_iff_lt_mul hk]; exact hj
    obtain ⟨b, o, he, _, hc⟩ := hrd.cells hn
    injection he with he
    injection he with he1 he2
    subst he1 he2
    have hjl2 : j / k < l.length := by simpa using hjl
    have hm : j % k < k := Nat.mod_lt _ hk
    have h1 := hc (j / k) l[j / k] (List.getElem?_eq_getElem hjl2) (j % k) ((enc l[j / k])[j % k]'(by rw [henc]; exact hm)) (List.getElem?_eq_getElem _)
    have e1 : j / k * k + j % k = j := by rw [Nat.mul_comm]; exact Nat.div_add_mod j k
    rw [e1] at h1
    refine ⟨?_, ?_⟩
    · rw [h1, get_flatK enc k _ _ hj]
      show some _ = some _
      congr 1
      rw [getElem!_pos l.toArray (j / k) hjl, getElem!_pos _ (j % k) (by rw [henc]; exact hm)]
      simp
    · simp [World.frozen?, hh]
end

theorem Try.infoJob0 : (Try.prog.info? 40).map (fun i => (i.zero, i.size, i.bytes)) = some (some (zeroJob), 8, 64) := Try.infoJob
/-- An empty slice of the call's own that is not nil. -/
theorem OwnL.empty {α : Type} {enc : α → List Value} {e sz : Nat} (w : World) (base : Nat) (hb : base ≤ w.heap.size) : OwnL enc e sz (w.alloc (.cells #[] e)) base (some ⟨w.heap.size, 0, none⟩) 0 0 [] :=
  ⟨⟨by simp, .inr ⟨w.heap.size, 0, #[], rfl, hb, heap_alloc_new w _, Nat.le_refl _, by unfold maxLen; omega, by simp, by simp⟩⟩, rfl⟩
set_option maxRecDepth 100000 in
set_option maxHeartbeats 800000 in
theorem cloneJob_t (A : Option Addr) (n c : Nat) (l : List LJob) (w : World) (h : Rd encJob 8 w A n l) (hn : n ≤ 1000000) :
    Calls Try.prog 128 #[.slice A n c] w fun e w' => ∃ A' c', e = .returned (.slice A' n c') ∧ OwnL encJob 40 8 w' w.heap.size A' n c' l ∧ Below w.heap.size w w' := by
  cases A with
  | none =>
    have hn0 : n = 0 := by
      rcases Nat.eq_zero_or_pos n with h0 | h0
      · exact h0
      · obtain ⟨_, _, he, _⟩ := h.cells h0
        cases he
    have hl : l = [] := List.eq_nil_of_length_eq_zero (by rw [h.len, hn0])
    subst hl
    subst hn0
    have hq := fun (W : World) => Lib.run_eql_slice_nil (P := Try.prog) W 23 40 none 0 c 0 0 Try.underlying23
    go_enter Try.func128, Try.ntmps128
    go_wp2
    go_ret
    exact ⟨none, 0, rfl, OwnL.nil _ _, Below.refl _ _⟩
  | some ad =>
    have hq := fun (W : World) => Lib.run_eql_slice_nil (P := Try.prog) W 23 40 (some ad) n c 0 0 Try.underlying23
    go_enter Try.func128, Try.ntmps128
    go_wp2_with (at_builtin; refine wp_app (enc := encJob) Job_len Job_one rfl (.tmp 5) (.tmp 6) 23 rfl 40 _ 64 Try.underlying23 Try.infoJob rfl (by decide) w.heap.size _ 0 _ [] (by rfl) (OwnL.empty w w.heap.size (Nat.le_refl _)) (some ad) n c l (by rfl) (h.alloc _) n (by omega) l (by simp) (by omega) (by omega) (by simp) ?_; intro A4 c4 w4 ho4 hg4 hat; have hb4 := ((Below.refl w.heap.size w).alloc (Nat.le_refl _) (.cells #[] 40)).grown hg4 (by simp) (fun j hj => by cases hj; exact Nat.le_refl _))
    go_ret
    exact ⟨A4, c4, rfl, ho4, hb4⟩
set_option maxRecDepth 100000 in
set_option maxHeartbeats 800000 in
/-- slices.SortStableFunc by rank.compare. -/
theorem sortStable_t (base : Nat) (A : Option Addr) (n c : Nat) (l : List LJob) (w : World) (h : OwnL encJob 40 8 w base A n c l) (hn : n ≤ 1000000) :
    Calls Try.prog 129 #[.slice A n c, .func (.func 130) #[] #[]] w fun e w' => e = .returned (.tuple #[]) ∧ OwnL encJob 40 8 w' base A n c (ssort jobLt l) ∧ Below base w w' := by
  have hl := h.len
  by_cases h0 : n = 0
  · subst h0
    have hl0 : l = [] := List.eq_nil_of_length_eq_zero hl
    subst hl0
    have hst : Calls Try.prog 149 #[.slice A 0 c, .int .i64 0, .func (.func 130) #[] #[]] w fun e w' => e = .returned (.tuple #[]) ∧ w' = w := by
      have hin : Calls Try.prog 160 #[.slice A 0 c, .int .i64 0, .int .i64 0, .func (.func 130) #[] #[]] w fun e w' => e = .returned (.tuple #[]) ∧ w' = w := by
        go_enter Try.func160, Try.ntmps160
        go_wp2
        refine wp_loop_rounds 1 ?_
        rw [rounds_succ]
        go_wp2
        go_end0
        exact ⟨rfl, rfl⟩
      go_enter Try.func149, Try.ntmps149
      go_wp2
      refine wp_loop_rounds 1 ?_
      rw [rounds_succ]
      go_wp2_with (go_at_call 160; with_reducible refine hin.mono ?_; rintro e w' ⟨rfl, rfl⟩)
      refine wp_loop_rounds 1 ?_
      rw [rounds_succ]
      go_wp2
      go_end0
      exact ⟨rfl, rfl⟩
    go_enter Try.func129, Try.ntmps129
    go_wp2_with (go_at_call 149; with_reducible refine hst.mono ?_; rintro e w' ⟨rfl, rfl⟩)
    go_end0
    exact ⟨rfl, by simpa [ssort] using h, Below.refl _ _⟩
  · obtain ⟨g, rfl, hg, R⟩ := rowL_of_own Job_len Job_one h (by omega)
    have hst := stable_t (cap := c) R (by omega) l rfl (SWB.start R)
    rw [hl] at hst
    have HR := Lib.hid (And.intro R h)
    have HL := Lib.hid hl
    clear hl R h
    go_enter Try.func129, Try.ntmps129
    go_wp2_with fail
    (with_reducible refine hst.mono ?_)
    clear hst
    rintro e w' ⟨rfl, hw⟩
    have HW := Lib.hid hw
    clear hw
    go_wp2
    go_end0
    exact ⟨rfl, SWB.own HR.out.2 HR.out.1 HW.out (length_ssort _), HW.out.kept.below (Nat.le_trans hg (Nat.le_of_lt HR.out.1.hblk)) (fun i hi e => by omega)⟩
set_option maxHeartbeats 800000 in
/-- rank.Jobs -/
theorem rankJobs_t (A : Option Addr) (n c : Nat) (l : List LJob) (w : World) (h : Rd encJob 8 w A n l) (hn : n ≤ 1000000) :
    Calls Try.prog 97 #[.slice A n c] w fun e w' => ∃ A' c', e = .returned (.slice A' n c') ∧ OwnL encJob 40 8 w' w.heap.size A' n c' (ssort jobLt l) ∧ Below w.heap.size w w' := by
  go_enter Try.func97, Try.ntmps97
  go_wp2_with fail
  have hcx := cloneJob_t A n c l w h hn
  (with_reducible refine hcx.mono ?_)
  clear hcx
  rintro e w1 ⟨A1, c1, rfl, ho, hb1⟩
  go_wp2_with fail
  have hcx := sortStable_t w.heap.size A1 n c1 l w1 ho hn
  (with_reducible refine hcx.mono ?_)
  clear hcx
  rintro e w2 ⟨rfl, hr, hb2⟩
  go_wp2
  go_ret
  exact ⟨A1, c1, rfl, hr, hb1.trans hb2⟩
end Go.Proofs.Ytcfninipcghbmaa
