/-
  LAYER 41: the document's client: Known.
  LAYER 41: the document's client: Same, of one and the same list.
-/
import Derived.Test.YthhnocnkicoimaaDoorCl9
import Derived.Test.YthhnocnkicoimaaDoorRow12s
import Derived.Test.YthhnocnkicoimaaDoorEqMsg
import Derived.BigQuiet
set_option linter.unusedVariables false
set_option linter.unusedSimpArgs false
namespace Go.Proofs.YthhnocnkicoimaaDoor
open Go.RowKit

abbrev boxX (A : Option Addr) (an ac : Nat) (O : Option Addr) (on oc : Nat) (R : Option Addr) (rn rc : Nat) : Array Value := #[.slice A an ac, .slice O on oc, .slice R rn rc]
theorem knownM_len (l : List LReply) : (knownM l).length ≤ l.length := by
  have h1 := (length_markAll_le [] ((l.filter saysM).map (·.job))).2
  have h2 := List.length_filter_le saysM l
  unfold knownM
  simp only [List.length_nil, Nat.zero_add, List.length_map] at h1
  omega
set_option maxRecDepth 100000 in
set_option maxHeartbeats 3200000 in
theorem refKnown_t (A : Option Addr) (an ac : Nat) (O : Option Addr) (on oc : Nat) (R : Option Addr) (rn rc : Nat) (reps : List LReply) (w : World) (h : Rd encReply 2 w R rn reps) (hn : rn ≤ 100000) :
    Calls Tryd.prog 19 #[.agg (boxX A an ac O on oc R rn rc)] w fun e w' => ∃ A' n' c', e = .returned (.slice A' n' c') ∧ RdI w' A' n' (knownM reps) ∧ Below w.heap.size w w' := by
  have h1 := Blk.new w 34 (boxX A an ac O on oc R rn rc)
  have hB : Below w.heap.size w (w.alloc (.cells (boxX A an ac O on oc R rn rc) 34)) := (Below.refl _ _).alloc (Nat.le_refl _) _
  have H0 := Lib.hid (And.intro h1 (And.intro (h.below hB) hB))
  have hl := h.len
  clear h1 hB h
  go_enter Tryd.func19, Tryd.ntmps19
  go_wp2_with fail
  generalize w.alloc (.cells (boxX A an ac O on oc R rn rc) 34) = w1 at H0 ⊢
  obtain ⟨b1, hb1⟩ : ∃ b1, w.heap.size = b1 := ⟨_, rfl⟩
  have H1 : Hid (Blk w1 b1 34 (boxX A an ac O on oc R rn rc)) := Lib.hid (by rw [← hb1]; exact H0.out.1)
  try simp only [hb1]
  clear hb1
  go_loopw [3, 4] (fun o i wr => ∃ (k : Nat) (A' : Option Addr) (n' c' : Nat), k ≤ rn ∧ i = .int .i64 k ∧ o = .slice A' n' c' ∧ RdI wr A' n' (knownM (reps.take k)) ∧ n' ≤ c' ∧ Below w1.heap.size w1 wr) (fun _ i _ => rn - (intOf i).toNat)
  case atStart => exact ⟨0, none, 0, 0, Nat.zero_le _, rfl, rfl, Rd.nil _ _, Nat.le_refl _, Below.refl _ _⟩
  case round =>
    obtain ⟨k, A', n', c', hk, rfl, rfl, hr, hc, hb⟩ := hrel
    have x2 : wr.cell? ⟨b1, 2, none⟩ = some (.slice R rn rc) := ((H1.out.below hb H1.out.lt).cell 2).trans rfl
    have xl := (H1.out.below hb H1.out.lt).lt
    by_cases hlt : k < rn
    · obtain ⟨ab, ao, r, rfl, hrr, hal, hcells⟩ := (H0.out.2.1.below hb).at_ hlt
      have g0 : wr.cell? ⟨ab, ao + k * 2, none⟩ = some (.int .i64 r.job) := hcells 0 _ rfl
      have g1 : wr.cell? ⟨ab, ao + k * 2 + 1, none⟩ = some (.int .i64 r.code) := hcells 1 _ rfl
      have hks : knownM (reps.take (k + 1)) = if saysM r then putR (knownM (reps.take k)) r.job else knownM (reps.take k) := by rw [take_succ_of _ _ _ hrr, knownM_snoc]
      have hn' : n' ≤ 1000000 := by
        have h1 := knownM_len (reps.take k)
        have h2 : (reps.take k).length ≤ k := List.length_take_le _ _
        have h3 := hr.len
        omega
      have hcx := put12 A' n' c' _ r.job wr hr hn' hc
      have HX := Lib.hid (And.intro hks (And.intro hr (And.intro hc hb)))
      clear hcells hrr hks hr hc hb hn'
      have hcase : ((r.code == 0) = true ∧ saysM r = true) ∨ ((r.code == 0) = false ∧ (r.code == 8) = true ∧ saysM r = true) ∨ ((r.code == 0) = false ∧ (r.code == 8) = false ∧ (r.code == 10) = true ∧ saysM r = true) ∨ ((r.code == 0) = false ∧ (r.code == 8) = false ∧ (r.code == 10) = false ∧ saysM r = false) := by
        unfold saysM
        cases (r.code == 0) <;> cases (r.code == 8) <;> cases (r.code == 10) <;> simp
      rcases hcase with ⟨t0, ts⟩ | ⟨t0, t1, ts⟩ | ⟨t0, t1, t2, ts⟩ | ⟨t0, t1, t2, ts⟩
      case inr.inr.inr =>
        have HS := Lib.hid ts
        clear ts hcx
        go_wp2
        go_roundw
        case rel => exact ⟨k + 1, A', n', c', by omega, by go_num, rfl, by rw [HX.out.1, HS.out]; exact HX.out.2.1, HX.out.2.2.1, HX.out.2.2.2⟩
        case measure => simp [intOf]; omega
      all_goals
        have HS := Lib.hid ts
        clear ts
        go_wp2_with fail
        (with_reducible refine hcx.mono ?_)
        clear hcx
        rintro e w6 ⟨A6, n6, c6, rfl, hr6, hc6, hb6⟩
        have HF := Lib.hid (And.intro hr6 (And.intro hc6 (HX.out.2.2.2.trans (hb6.mono HX.out.2.2.2.size))))
        clear hr6 hc6 hb6 g0 g1 x2 xl
        go_wp2
        go_roundw
        case rel => exact ⟨k + 1, A6, n6, c6, by omega, by go_num, rfl, by rw [HX.out.1, HS.out]; exact HF.out.1, HF.out.2.1, HF.out.2.2⟩
        case measure => simp [intOf]; omega
    · have hkn : k = rn := by omega
      subst hkn
      rw [List.take_of_length_le (by omega)] at hr
      have HF := Lib.hid (And.intro hr (H0.out.2.2.trans (hb.mono H0.out.2.2.size)))
      clear hr hb hc
      go_wp2
      go_ret
      exact ⟨A', n', c', rfl, HF.out.1, HF.out.2⟩
end Go.Proofs.YthhnocnkicoimaaDoor
namespace Go.Proofs.YthhnocnkicoimaaDoor
open Go.RowKit

theorem equalReply (d : Nat) (a b : LReply) (w : World) : (Op.equalIn (d + 4) 98 (aggReply a) (aggReply b)).run Tryd.prog w = .ok (decide (a = b)) w := by
  rw [run_equalIn_struct w (d + 3) _ _ _ (by kernel_rfl) (by kernel_rfl)]
  rw [run_eqFieldsM _ [(true, 3, 0), (true, 3, 1)] [a.job == b.job, a.code == b.code] (by kernel_rfl)
    ⟨rfl, ⟨.int .i64 a.job, .int .i64 b.job, by kernel_rfl, by kernel_rfl, run_equalIn_int w (d + 2) 3 .i64 .i64 _ _ Tryd.underlying3⟩,
     rfl, ⟨.int .i64 a.code, .int .i64 b.code, by kernel_rfl, by kernel_rfl, run_equalIn_int w (d + 2) 3 .i64 .i64 _ _ Tryd.underlying3⟩, trivial⟩]
  congr 1
  rw [Bool.eq_iff_iff]
  cases a; cases b
  simp
theorem neqReply (a b : LReply) (w : World) : (binOp .neq 98 (aggReply a) (aggReply b)).run Tryd.prog w = .ok (.bool (!decide (a = b))) w := by
  rw [run_neq_struct, equalReply]; rfl
set_option maxRecDepth 100000 in
set_option maxHeartbeats 3200000 in
theorem sameR_t (A B : Option Addr) (n c m d : Nat) (l : List LReply) (w : World) (h : Rd encReply 2 w A n l) (h' : Rd encReply 2 w B m l) (hn : n ≤ 1000000) :
    Calls Tryd.prog 15 #[.slice A n c, .slice B m d] w fun e w' => e = .returned (.bool true) ∧ Below w.heap.size w w' := by
  have hmn : m = n := by rw [← h.len, ← h'.len]
  subst hmn
  have HH := Lib.hid (And.intro h h')
  clear h h'
  go_enter Tryd.func15, Tryd.ntmps15
  go_wp2
  go_loopw [5] (fun i wr => ∃ k : Nat, k ≤ m ∧ i = .int .i64 k ∧ Below w.heap.size w wr) (fun i _ => m - (intOf i).toNat)
  case atStart => exact ⟨0, Nat.zero_le _, rfl, Below.refl _ _⟩
  case round =>
    obtain ⟨k, hk, rfl, hb⟩ := hrel
    by_cases hlt : k < m
    · obtain ⟨ab, ao, r, rfl, hr, hal, hcells⟩ := (HH.out.1.below hb).at_ hlt
      obtain ⟨ab2, ao2, r2, rfl, hr2, hal2, hcells2⟩ := (HH.out.2.below hb).at_ hlt
      have e : r = r2 := Option.some.inj (hr.symm.trans hr2)
      subst e
      have g0 : wr.cell? ⟨ab, ao + k * 2, none⟩ = some (.int .i64 r.job) := hcells 0 _ rfl
      have g1 : wr.cell? ⟨ab, ao + k * 2 + 1, none⟩ = some (.int .i64 r.code) := hcells 1 _ rfl
      have g2 : wr.cell? ⟨ab2, ao2 + k * 2, none⟩ = some (.int .i64 r.job) := hcells2 0 _ rfl
      have g3 : wr.cell? ⟨ab2, ao2 + k * 2 + 1, none⟩ = some (.int .i64 r.code) := hcells2 1 _ rfl
      have hne := fun (W : World) => neqReply r r W
      simp only [decide_true, Bool.not_true] at hne
      have HB := Lib.hid hb
      clear hcells hcells2 hr hr2 hal hal2 hb
      go_wp2_with fail
      go_quiet (fail)
      have HF := Lib.hid (show Below w.heap.size w (wr.drewN nq) from ⟨HB.out.os, HB.out.tape, HB.out.output, HB.out.size, HB.out.block⟩)
      clear g0 g1 g2 g3 hne
      go_wp2
      go_roundw
      case rel => exact ⟨k + 1, by omega, by go_num, HF.out⟩
      case measure => simp [intOf]; omega
    · have HB := Lib.hid hb
      clear hb
      go_wp2
      go_ret
      exact ⟨rfl, HB.out⟩
end Go.Proofs.YthhnocnkicoimaaDoor
