/-
  LAYER 10 (rank): compare, by cmp.Compare and cmp.Or; the order of jobs and of nodes.
-/
import Derived.Test.YtcafmodenbifhaaShelf
import Derived.Test.YtcafmodenbifhaaStabP
import Derived.Test.YtcafmodenbifhaaTJob
import Derived.Test.YtcafmodenbifhaaTNode
import Derived.StillTailTactics
set_option linter.unusedVariables false
set_option linter.unusedSimpArgs false
namespace Go.Proofs.Ytcafmodenbifhaa
open Go.RowKit

/-- A block of whole numbers, read as a list. -/
theorem rdI_of_blk {w : World} {g : Nat} {t : TypeId} {l : List Int} {n : Nat} (h : Blk w g t (l.map (Value.int .i64)).toArray) (hn : l.length = n) : RdI w (some ⟨g, 0, none⟩) n l := by
  refine ⟨hn, fun _ => ⟨g, 0, rfl, h.lt, fun i x hx j v hv => ?_⟩⟩
  have hj : j = 0 ∧ v = .int .i64 x := by
    cases j with
    | zero => simp [encI] at hv; exact ⟨rfl, hv.symm⟩
    | succ j => simp [encI] at hv
  obtain ⟨rfl, rfl⟩ := hj
  rw [show 0 + (i * 1 + 0) = i by omega, h.cell i]
  simp [hx]
def cmpI (a b : Int) : Int := if a < b then -1 else if b < a then 1 else 0
def orI : List Int → Int
  | [] => 0
  | x :: r => if x != 0 then x else orI r
theorem cmpCmp_t (a b : Int) (w : World) : Calls Try.prog 59 #[.int .i64 a, .int .i64 b] w fun e w' => e = .returned (.int .i64 (cmpI a b)) ∧ w' = w := by
  refine (Try.cmp_Compare_int a b w).mono ?_
  rintro e w' ⟨rfl, rfl⟩
  exact ⟨ret_int (by unfold cmpI; first | rfl | (simp only [Lib.compareInt]; omega)), rfl⟩
set_option maxHeartbeats 800000 in
theorem cmpOr_t (A : Option Addr) (n c : Nat) (l : List Int) (w : World) (h : RdI w A n l) (hn : n ≤ 1000000) :
    Calls Try.prog 58 #[.slice A n c] w fun e w' => e = .returned (.int .i64 (orI l)) ∧ w' = w := by
  have hall : ∀ (p q : List Int), (∀ x ∈ p, x = 0) → orI (p ++ q) = orI q := by
    intro p
    induction p with
    | nil => intro q _; rfl
    | cons x r ih => intro q hp; rw [List.cons_append, orI, hp x (by simp), if_neg (by decide)]; exact ih q (fun y hy => hp y (by simp [hy]))
  have HA := Lib.hid hall
  clear hall
  go_enter Try.func58, Try.ntmps58
  go_wp2
  go_loop [8] (fun i => ∃ k : Nat, k ≤ n ∧ i = .int .i64 k ∧ Hid (∀ x ∈ l.take k, x = 0)) (fun i => n - (intOf i).toNat)
  case atStart => exact ⟨0, Nat.zero_le _, rfl, Lib.hid (by simp)⟩
  case round =>
    obtain ⟨k, hk, rfl, HC⟩ := hrel
    by_cases hlt : k < n
    · obtain ⟨ab, ao, x, rfl, hx, hc⟩ := h.at_ hlt
      have hd : l = l.take k ++ x :: l.drop (k + 1) := by
        have e : l.drop k = x :: l.drop (k + 1) := by rw [List.drop_eq_getElem_cons (by have := h.len; omega)]; congr 1; exact (List.getElem?_eq_some_iff.1 hx).2
        rw [← e, List.take_append_drop]
      have ht := take_succ_of l k x hx
      have HX := Lib.hid (And.intro hd ht)
      clear hx hd ht
      cases hz : (x != 0)
      · go_wp2
        go_round
        case rel => exact ⟨k + 1, by omega, by go_num, Lib.hid (fun y hy => by rw [HX.out.2] at hy; rcases List.mem_append.1 hy with hy | hy; exact HC.out y hy; rw [List.mem_singleton.1 hy]; exact bne_eq_false_iff_eq.1 hz)⟩
        case measure => simp [intOf]; omega
      · go_wp2
        go_ret
        exact ⟨ret_int (by rw [HX.out.1, HA.out _ _ HC.out, orI, if_pos hz]), rfl⟩
    · have hall : l.take k = l := take_all l k n h.len hlt
      have HX := Lib.hid hall
      clear hall
      go_wp2
      go_ret
      exact ⟨ret_int (by have h2 := HC.out; rw [HX.out] at h2; have h3 := HA.out l [] h2; rw [List.append_nil] at h3; exact h3.symm), rfl⟩

/-- Which of two jobs is ahead. -/
def cfJob (a b : LJob) : Int := orI [cmpI b.prio a.prio, cmpI a.seq b.seq, cmpI a.id b.id]
def jobLt (a b : LJob) : Bool := if a.prio ≠ b.prio then decide (b.prio < a.prio) else if a.seq ≠ b.seq then decide (a.seq < b.seq) else decide (a.id < b.id)
theorem jobLt_iff (a b : LJob) : jobLt a b = true ↔ b.prio < a.prio ∨ a.prio = b.prio ∧ (a.seq < b.seq ∨ a.seq = b.seq ∧ a.id < b.id) := by
  unfold jobLt
  split
  · simp; omega
  · split
    · simp; omega
    · simp; omega
theorem cfJob_lt (a b : LJob) : decide (cfJob a b < 0) = jobLt a b := by
  rw [Bool.eq_iff_iff, jobLt_iff, decide_eq_true_iff]
  unfold cfJob cmpI
  simp only [orI, bne_iff_ne, ne_eq]
  repeat' split
  all_goals omega
theorem jobOrd : Ord3 jobLt where
  asym := fun a b h => by
    rw [jobLt_iff] at h
    cases h2 : jobLt b a with
    | false => rfl
    | true => rw [jobLt_iff] at h2; omega
  co := fun a b c h => by rw [jobLt_iff] at *; rw [jobLt_iff]; omega
def cfNode (a b : LNode) : Int := orI [cmpI a.load b.load, cmpI a.id b.id]
def nodeLt (a b : LNode) : Bool := decide (a.load < b.load) || (a.load == b.load && decide (a.id < b.id))
theorem nodeLt_iff (a b : LNode) : nodeLt a b = true ↔ a.load < b.load ∨ a.load = b.load ∧ a.id < b.id := by
  unfold nodeLt
  simp
theorem cfNode_lt (a b : LNode) : decide (cfNode a b < 0) = nodeLt a b := by
  rw [Bool.eq_iff_iff, nodeLt_iff, decide_eq_true_iff]
  unfold cfNode cmpI
  simp only [orI, bne_iff_ne, ne_eq]
  repeat' split
  all_goals omega
theorem nodeOrd : Ord3 nodeLt where
  asym := fun a b h => by
    rw [nodeLt_iff] at h
    cases h2 : nodeLt b a with
    | false => rfl
    | true => rw [nodeLt_iff] at h2; omega
  co := fun a b c h => by rw [nodeLt_iff] at *; rw [nodeLt_iff]; omega

set_option maxRecDepth 100000 in
set_option maxHeartbeats 1600000 in
theorem compare_t (a b : LJob) (w : World) : Calls Try.prog 83 #[aggJob a, aggJob b] w fun e w' => e = .returned (.int .i64 (cfJob a b)) ∧ Below w.heap.size w w' := by
  go_enter Try.func83, Try.ntmps83
  go_wp2
  have hb := (Blk.new w 75 (boxJob a)).alloc (.cells (boxJob b) 75)
  have hx := Blk.new (w.alloc (.cells (boxJob a) 75)) 75 (boxJob b)
  have hs1 : (w.alloc (.cells (boxJob a) 75)).heap.size = w.heap.size + 1 := by simp
  rw [hs1] at hx
  have hB : Below w.heap.size w ((w.alloc (.cells (boxJob a) 75)).alloc (.cells (boxJob b) 75)) := ((Below.refl _ _).alloc (Nat.le_refl _) _).alloc (by simp) _
  generalize (w.alloc (.cells (boxJob a) 75)).alloc (.cells (boxJob b) 75) = w1 at hb hx hB ⊢
  have a0 := hb.cell 0
  have a1 := hb.cell 1
  have a2 := hb.cell 2
  have b0 := hx.cell 0
  have b1 := hx.cell 1
  have b2 := hx.cell 2
  simp only [List.getElem?_toArray, List.getElem?_cons_zero, List.getElem?_cons_succ] at a0 a1 a2 b0 b1 b2
  have HB := Lib.hid hB
  clear hb hx hs1 hB
  go_wp2
  go_still_tail 15, (by kernel_rfl)
  repeat (first | still_step | still_call (cmpCmp_t _ _ _))
  refine wpStill_nil ?_
  go_wp2_with fail
  have hL : ∀ o : Obj, Below w.heap.size w ((w1.alloc o).drew) := fun o => (HB.out.alloc HB.out.size o).drew
  have HL := Lib.hid hL
  clear hL
  have hcx := cmpOr_t (some ⟨w1.heap.size, 0, none⟩) 3 3 [cmpI b.prio a.prio, cmpI a.seq b.seq, cmpI a.id b.id] (w1.alloc (.cells #[.int .i64 (cmpI b.prio a.prio), .int .i64 (cmpI a.seq b.seq), .int .i64 (cmpI a.id b.id)] 3)).drew (Rd.drew (rdI_of_blk (Blk.new w1 3 _) rfl)) (by omega)
  (with_reducible refine hcx.mono ?_)
  clear hcx
  rintro e w2 ⟨rfl, rfl⟩
  go_wp2
  go_ret
  exact ⟨rfl, HL.out _⟩
set_option maxRecDepth 100000 in
set_option maxHeartbeats 1600000 in
theorem node10_t (a b : LNode) (w : World) : Calls Try.prog 44 #[aggNode a, aggNode b] w fun e w' => e = .returned (.bool (nodeLt a b)) ∧ Below w.heap.size w w' := by
  have hbl := cfNode_lt a b
  go_enter Try.func44, Try.ntmps44
  go_wp2
  have hb := (Blk.new w 55 (boxNode a)).alloc (.cells (boxNode b) 55)
  have hx := Blk.new (w.alloc (.cells (boxNode a) 55)) 55 (boxNode b)
  have hs1 : (w.alloc (.cells (boxNode a) 55)).heap.size = w.heap.size + 1 := by simp
  rw [hs1] at hx
  have hB : Below w.heap.size w ((w.alloc (.cells (boxNode a) 55)).alloc (.cells (boxNode b) 55)) := ((Below.refl _ _).alloc (Nat.le_refl _) _).alloc (by simp) _
  generalize (w.alloc (.cells (boxNode a) 55)).alloc (.cells (boxNode b) 55) = w1 at hb hx hB ⊢
  have a0 := hb.cell 0
  have a2 := hb.cell 2
  have b0 := hx.cell 0
  have b2 := hx.cell 2
  simp only [List.getElem?_toArray, List.getElem?_cons_zero, List.getElem?_cons_succ] at a0 a2 b0 b2
  have HB := Lib.hid hB
  clear hb hx hs1 hB
  unfold cfNode at hbl
  go_wp2
  go_still_tail 10, (by kernel_rfl)
  repeat (first | still_step | still_call (cmpCmp_t _ _ _))
  refine wpStill_nil ?_
  go_wp2_with fail
  have hL : ∀ o : Obj, Below w.heap.size w ((w1.alloc o).drew) := fun o => (HB.out.alloc HB.out.size o).drew
  have HL := Lib.hid hL
  clear hL
  have hcx := cmpOr_t (some ⟨w1.heap.size, 0, none⟩) 2 2 [cmpI a.load b.load, cmpI a.id b.id] (w1.alloc (.cells #[.int .i64 (cmpI a.load b.load), .int .i64 (cmpI a.id b.id)] 3)).drew (Rd.drew (rdI_of_blk (Blk.new w1 3 _) rfl)) (by omega)
  (with_reducible refine hcx.mono ?_)
  clear hcx
  rintro e w2 ⟨rfl, rfl⟩
  go_wp2
  go_ret
  exact ⟨rfl, HL.out _⟩
end Go.Proofs.Ytcafmodenbifhaa
