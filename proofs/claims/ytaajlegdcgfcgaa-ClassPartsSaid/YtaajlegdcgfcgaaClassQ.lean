/-
  LAYER 30 (class): the law ClassParts, walked: the calls.
-/
import Derived.Test.YtaajlegdcgfcgaaClassP
import Derived.Deep.RegionHeld3
set_option linter.unusedVariables false
set_option linter.unusedSimpArgs false
namespace Go.Proofs.Ytaajlegdcgfcgaa
open Go.RowKit Go.Maps

theorem runC_right (l : List LAct30) : ∀ r ∈ (runC l).needs, rightR r = true := by
  have key : ∀ (l : List LAct30) (m : CM), (∀ r ∈ m.needs, rightR r = true) → ∀ r ∈ (l.foldl stepC m).needs, rightR r = true := by
    intro l
    induction l with
    | nil => intro m h; exact h
    | cons a l ih =>
      intro m h
      refine ih (stepC m a) fun r hr => ?_
      unfold stepC at hr
      split at hr
      · split at hr
        · rename_i h1 h2
          rw [CM.add_needs] at hr
          split at hr
          · exact h r hr
          · rcases List.mem_append.1 hr with hr | hr
            · exact h r hr
            · rw [List.mem_singleton.1 hr]; exact h2
        · exact h r hr
      · exact h r hr
  exact key l CM.zero (by simp [CM.zero])
theorem oNeed_any {w : World} {c : Nat} {m : CM} {S : Nat → Prop} (h : CO w c m S) (k : Int) : Calls Try.prog 41 #[.pointer (some ⟨c, 0, none⟩), .int .i64 k] w fun e w' => ∃ r ok, e = .returned (.tuple #[aggRes r, .bool ok]) ∧ Below w.heap.size w w' := by
  by_cases hk : k < 0 ∨ (m.needs.length : Int) ≤ k
  · exact (oNeed_no h k hk).mono fun e w' ⟨he, hb⟩ => ⟨_, _, he, hb⟩
  · obtain ⟨q, rfl⟩ : ∃ q : Nat, k = q := ⟨k.toNat, by omega⟩
    have hq : q < m.needs.length := by omega
    exact (oNeed_yes h q _ (List.getElem?_eq_getElem hq)).mono fun e w' ⟨he, hb⟩ => ⟨_, _, he, hb⟩

/-- Where the last act of a job stands among the first k. -/
def AtRel (l : List LAct30) (k : Nat) (id atv : Int) : Prop := (atv = -1 ∧ lastA (effA id) (l.take k) = none) ∨ ∃ (q : Nat) (b : LAct30), atv = (q : Int) ∧ q < k ∧ l[q]? = some b ∧ lastA (effA id) (l.take k) = some b
theorem AtRel.no {l : List LAct30} {k : Nat} {id atv : Int} {b : LAct30} (h : AtRel l k id atv) (hb : l[k]? = some b) (he : effA id b = false) : AtRel l (k + 1) id atv := by
  have e : lastA (effA id) (l.take (k + 1)) = lastA (effA id) (l.take k) := by rw [take_succ_of _ _ _ hb, lastA_snoc, he]; simp
  rcases h with ⟨h1, h2⟩ | ⟨q, c, h1, h2, h3, h4⟩
  · exact .inl ⟨h1, e.trans h2⟩
  · exact .inr ⟨q, c, h1, by omega, h3, e.trans h4⟩
theorem AtRel.yes {l : List LAct30} {k : Nat} {id : Int} {b : LAct30} (hb : l[k]? = some b) (he : effA id b = true) : AtRel l (k + 1) id (k : Int) :=
  .inr ⟨k, b, rfl, by omega, hb, by rw [take_succ_of _ _ _ hb, lastA_snoc, if_pos he]⟩

set_option maxRecDepth 100000 in
set_option maxHeartbeats 6400000 in
theorem parts30 (A : Option Addr) (n c0 : Nat) (l : List LAct30) (w : World) (h : Rd encAct30 5 w A n l) (hw : ∀ a ∈ l, wfAct30 a) :
    Calls Try.prog 8 #[.slice A n c0] w fun e w' => e = .returned (.bool true) ∧ Below w.heap.size w w' := by
  by_cases hb1 : 100 < n
  · go_enter Try.func8, Try.ntmps8
    go_wp2_with (go_at_call 29; with_reducible refine (awake30 _).mono ?_; rintro e w' ⟨rfl, hb⟩)
    go_ret
    exact ⟨rfl, hb⟩
  have hn : n ≤ 100 := by omega
  have Hh := Lib.hid (And.intro h hw)
  clear hb1 h hw
  go_enter Try.func8, Try.ntmps8
  go_wp2_with fail
  (with_reducible refine (cNew w).mono ?_)
  rintro e w1 ⟨rfl, hw1⟩
  have HI1 : Hid (CI w w1 w.heap.size CM.zero) := Lib.hid (by rw [hw1]; exact CI.made w)
  clear hw1
  obtain ⟨c, hc⟩ : ∃ c, w.heap.size = c := ⟨_, rfl⟩
  rw [hc] at HI1
  have HC := Lib.hid hc
  try rw [hc]
  clear hc
  go_wp2
  go_loopw [4] (fun i wr => ∃ k : Nat, k ≤ n ∧ i = .int .i64 k ∧ CI w wr c (runC (l.take k))) (fun i _ => n - (intOf i).toNat)
  case atStart => exact ⟨0, Nat.zero_le _, rfl, HI1.out⟩
  case round =>
    obtain ⟨k, hk, rfl, hI⟩ := hrel
    have HI := Lib.hid hI
    clear hI
    by_cases hlt : k < n
    · obtain ⟨ab, ao, a, rfl, haa, hal, hcells⟩ := Hh.out.1.at_ hlt
      have HE := Lib.hid (And.intro hcells hal)
      have HR := Lib.hid (show runC (l.take (k + 1)) = stepC (runC (l.take k)) a by rw [take_succ_of _ _ _ haa, runC_snoc])
      have hlens := runC_len (l.take k)
      have htk : (l.take k).length ≤ 100 := by rw [List.length_take]; omega
      have hwa := Hh.out.2 a (List.mem_of_getElem? haa)
      have HW := Lib.hid (And.intro hwa (And.intro (show (runC (l.take k)).needs.length < 1000 by omega) (And.intro (show (runC (l.take k)).jrow.length < 1000 by omega) (runC_right (l.take k)))))
      clear hcells hal haa hlens htk hwa
      obtain ⟨m, hm⟩ : ∃ m, runC (l.take k) = m := ⟨_, rfl⟩
      rw [hm] at HI HR HW
      clear hm
      have g0 : wr.cell? ⟨ab, ao + k * 5, none⟩ = some (.int .i64 a.kind) := (HI.out.below.cell (p := ⟨ab, ao + k * 5, none⟩) HE.out.2).trans (HE.out.1 0 _ rfl)
      have g1 : wr.cell? ⟨ab, ao + k * 5 + 1, none⟩ = some (.int .i64 a.id) := (HI.out.below.cell (p := ⟨ab, ao + k * 5 + 1, none⟩) HE.out.2).trans (HE.out.1 1 _ rfl)
      have g2 : wr.cell? ⟨ab, ao + k * 5 + 2, none⟩ = some (.int .i64 a.need.a) := (HI.out.below.cell (p := ⟨ab, ao + k * 5 + 2, none⟩) HE.out.2).trans (HE.out.1 2 _ rfl)
      have g3 : wr.cell? ⟨ab, ao + k * 5 + 3, none⟩ = some (.int .i64 a.need.b) := (HI.out.below.cell (p := ⟨ab, ao + k * 5 + 3, none⟩) HE.out.2).trans (HE.out.1 3 _ rfl)
      have g4 : wr.cell? ⟨ab, ao + k * 5 + 4, none⟩ = some (.int .i64 a.need.c) := (HI.out.below.cell (p := ⟨ab, ao + k * 5 + 4, none⟩) HE.out.2).trans (HE.out.1 4 _ rfl)
      by_cases hk1 : a.kind = 1
      · have t1 : (a.kind == 1) = true := by simp [hk1]
        obtain ⟨S, ho, ht⟩ := HI.out
        have hcx := oOf ho a.need HW.out.1.2.2
        clear ho ht
        by_cases hr : rightR a.need = true
        · have HS := Lib.hid (show stepC m a = m.add a.id a.need by rw [stepC, if_pos hk1, if_pos hr])
          have HRR := Lib.hid hr
          obtain ⟨idx, hidx⟩ : ∃ idx, idxR (m.add a.id a.need).needs a.need = idx := ⟨_, rfl⟩
          by_cases hin : a.need ∈ m.needs
          · have hold : idxR m.needs a.need = idx := by rw [← hidx, CM.add_needs, if_pos hin]
            rw [if_pos hin, decide_eq_true hin, hold] at hcx
            have HX := Lib.hid hidx
            have hii : (idx != idx) = false := bne_self_eq_false _
            clear hk1 hr hin hold hidx
            go_wp2_with fail
            (with_reducible refine hcx.mono ?_)
            clear hcx
            rintro e w2 ⟨rfl, hB2⟩
            have HI2 := Lib.hid (HI.out.then hB2)
            have q0 : w2.cell? ⟨ab, ao + k * 5, none⟩ = some (.int .i64 a.kind) := (HI2.out.below.cell (p := ⟨ab, ao + k * 5, none⟩) HE.out.2).trans (HE.out.1 0 _ rfl)
            have q1 : w2.cell? ⟨ab, ao + k * 5 + 1, none⟩ = some (.int .i64 a.id) := (HI2.out.below.cell (p := ⟨ab, ao + k * 5 + 1, none⟩) HE.out.2).trans (HE.out.1 1 _ rfl)
            have q2 : w2.cell? ⟨ab, ao + k * 5 + 2, none⟩ = some (.int .i64 a.need.a) := (HI2.out.below.cell (p := ⟨ab, ao + k * 5 + 2, none⟩) HE.out.2).trans (HE.out.1 2 _ rfl)
            have q3 : w2.cell? ⟨ab, ao + k * 5 + 3, none⟩ = some (.int .i64 a.need.b) := (HI2.out.below.cell (p := ⟨ab, ao + k * 5 + 3, none⟩) HE.out.2).trans (HE.out.1 3 _ rfl)
            have q4 : w2.cell? ⟨ab, ao + k * 5 + 4, none⟩ = some (.int .i64 a.need.c) := (HI2.out.below.cell (p := ⟨ab, ao + k * 5 + 4, none⟩) HE.out.2).trans (HE.out.1 4 _ rfl)
            clear hB2 g0 g1 g2 g3 g4
            go_wp2
            go_region_held3 (fun w' => w'.cell? ⟨ab, ao + k * 5 + 1, none⟩ = some (.int .i64 a.id) ∧ w'.cell? ⟨ab, ao + k * 5 + 2, none⟩ = some (.int .i64 a.need.a) ∧ w'.cell? ⟨ab, ao + k * 5 + 2 + 1, none⟩ = some (.int .i64 a.need.b) ∧ w'.cell? ⟨ab, ao + k * 5 + 2 + 2, none⟩ = some (.int .i64 a.need.c)) (first | exact ⟨q1, q2, q3, q4⟩ | exact ⟨p1, p2, p3, p4⟩)
              (first
                | (go_at_call 32; have hcx := iAdd (HI2.out.then (w' := w2.drew) (Below.refl _ _).drew) a.id HW.out.1.2.1 a.need HW.out.1.2.2 HRR.out HW.out.2.1 HW.out.2.2.1 _ rfl idx HX.out; (with_reducible refine hcx.mono ?_); clear hcx; rintro e w3 ⟨rfl, hI3⟩; have HI3 := Lib.hid hI3; clear hI3; have p0 : w3.cell? ⟨ab, ao + k * 5, none⟩ = some (.int .i64 a.kind) := (HI3.out.below.cell (p := ⟨ab, ao + k * 5, none⟩) HE.out.2).trans (HE.out.1 0 _ rfl); have p1 : w3.cell? ⟨ab, ao + k * 5 + 1, none⟩ = some (.int .i64 a.id) := (HI3.out.below.cell (p := ⟨ab, ao + k * 5 + 1, none⟩) HE.out.2).trans (HE.out.1 1 _ rfl); have p2 : w3.cell? ⟨ab, ao + k * 5 + 2, none⟩ = some (.int .i64 a.need.a) := (HI3.out.below.cell (p := ⟨ab, ao + k * 5 + 2, none⟩) HE.out.2).trans (HE.out.1 2 _ rfl); have p3 : w3.cell? ⟨ab, ao + k * 5 + 3, none⟩ = some (.int .i64 a.need.b) := (HI3.out.below.cell (p := ⟨ab, ao + k * 5 + 3, none⟩) HE.out.2).trans (HE.out.1 3 _ rfl); have p4 : w3.cell? ⟨ab, ao + k * 5 + 4, none⟩ = some (.int .i64 a.need.c) := (HI3.out.below.cell (p := ⟨ab, ao + k * 5 + 4, none⟩) HE.out.2).trans (HE.out.1 4 _ rfl)))
            clear q0 q1 q2 q3 q4
            go_wp2_with fail
            have hcx := refRight_t a.need w3
            rw [HRR.out] at hcx
            (with_reducible refine hcx.mono ?_)
            clear hcx
            rintro e w4 ⟨rfl, hw4⟩
            have HI4 : Hid (CI w w4 c (m.add a.id a.need)) := Lib.hid (HI3.out.then (by rw [hw4]; exact (Below.refl _ _).alloc (Nat.le_refl _) _))
            clear hw4 p0 p1 p2 p3 p4
            go_wp2
            go_roundw
            case rel => exact ⟨k + 1, by omega, by go_num, by rw [HR.out, HS.out]; exact HI4.out⟩
            case measure => simp [intOf]; omega
          · rw [if_neg hin, decide_eq_false hin] at hcx
            have HX := Lib.hid hidx
            clear hk1 hr hin hidx
            go_wp2_with fail
            (with_reducible refine hcx.mono ?_)
            clear hcx
            rintro e w2 ⟨rfl, hB2⟩
            have HI2 := Lib.hid (HI.out.then hB2)
            have q0 : w2.cell? ⟨ab, ao + k * 5, none⟩ = some (.int .i64 a.kind) := (HI2.out.below.cell (p := ⟨ab, ao + k * 5, none⟩) HE.out.2).trans (HE.out.1 0 _ rfl)
            have q1 : w2.cell? ⟨ab, ao + k * 5 + 1, none⟩ = some (.int .i64 a.id) := (HI2.out.below.cell (p := ⟨ab, ao + k * 5 + 1, none⟩) HE.out.2).trans (HE.out.1 1 _ rfl)
            have q2 : w2.cell? ⟨ab, ao + k * 5 + 2, none⟩ = some (.int .i64 a.need.a) := (HI2.out.below.cell (p := ⟨ab, ao + k * 5 + 2, none⟩) HE.out.2).trans (HE.out.1 2 _ rfl)
            have q3 : w2.cell? ⟨ab, ao + k * 5 + 3, none⟩ = some (.int .i64 a.need.b) := (HI2.out.below.cell (p := ⟨ab, ao + k * 5 + 3, none⟩) HE.out.2).trans (HE.out.1 3 _ rfl)
            have q4 : w2.cell? ⟨ab, ao + k * 5 + 4, none⟩ = some (.int .i64 a.need.c) := (HI2.out.below.cell (p := ⟨ab, ao + k * 5 + 4, none⟩) HE.out.2).trans (HE.out.1 4 _ rfl)
            clear hB2 g0 g1 g2 g3 g4
            go_wp2
            go_region_held3 (fun w' => w'.cell? ⟨ab, ao + k * 5 + 1, none⟩ = some (.int .i64 a.id) ∧ w'.cell? ⟨ab, ao + k * 5 + 2, none⟩ = some (.int .i64 a.need.a) ∧ w'.cell? ⟨ab, ao + k * 5 + 2 + 1, none⟩ = some (.int .i64 a.need.b) ∧ w'.cell? ⟨ab, ao + k * 5 + 2 + 2, none⟩ = some (.int .i64 a.need.c)) (first | exact ⟨q1, q2, q3, q4⟩ | exact ⟨p1, p2, p3, p4⟩)
              (first
                | (go_at_call 32; have hcx := iAdd (HI2.out.then (w' := w2.drew) (Below.refl _ _).drew) a.id HW.out.1.2.1 a.need HW.out.1.2.2 HRR.out HW.out.2.1 HW.out.2.2.1 _ rfl idx HX.out; (with_reducible refine hcx.mono ?_); clear hcx; rintro e w3 ⟨rfl, hI3⟩; have HI3 := Lib.hid hI3; clear hI3; have p0 : w3.cell? ⟨ab, ao + k * 5, none⟩ = some (.int .i64 a.kind) := (HI3.out.below.cell (p := ⟨ab, ao + k * 5, none⟩) HE.out.2).trans (HE.out.1 0 _ rfl); have p1 : w3.cell? ⟨ab, ao + k * 5 + 1, none⟩ = some (.int .i64 a.id) := (HI3.out.below.cell (p := ⟨ab, ao + k * 5 + 1, none⟩) HE.out.2).trans (HE.out.1 1 _ rfl); have p2 : w3.cell? ⟨ab, ao + k * 5 + 2, none⟩ = some (.int .i64 a.need.a) := (HI3.out.below.cell (p := ⟨ab, ao + k * 5 + 2, none⟩) HE.out.2).trans (HE.out.1 2 _ rfl); have p3 : w3.cell? ⟨ab, ao + k * 5 + 3, none⟩ = some (.int .i64 a.need.b) := (HI3.out.below.cell (p := ⟨ab, ao + k * 5 + 3, none⟩) HE.out.2).trans (HE.out.1 3 _ rfl); have p4 : w3.cell? ⟨ab, ao + k * 5 + 4, none⟩ = some (.int .i64 a.need.c) := (HI3.out.below.cell (p := ⟨ab, ao + k * 5 + 4, none⟩) HE.out.2).trans (HE.out.1 4 _ rfl)))
            clear q0 q1 q2 q3 q4
            go_wp2_with fail
            have hcx := refRight_t a.need w3
            rw [HRR.out] at hcx
            (with_reducible refine hcx.mono ?_)
            clear hcx
            rintro e w4 ⟨rfl, hw4⟩
            have HI4 : Hid (CI w w4 c (m.add a.id a.need)) := Lib.hid (HI3.out.then (by rw [hw4]; exact (Below.refl _ _).alloc (Nat.le_refl _) _))
            clear hw4 p0 p1 p2 p3 p4
            go_wp2
            go_roundw
            case rel => exact ⟨k + 1, by omega, by go_num, by rw [HR.out, HS.out]; exact HI4.out⟩
            case measure => simp [intOf]; omega
        · have hrf : rightR a.need = false := by simpa using hr
          have HS := Lib.hid (show stepC m a = m by rw [stepC, if_pos hk1, if_neg hr])
          have hin : a.need ∉ m.needs := fun hm => hr (HW.out.2.2.2 _ hm)
          rw [if_neg hin, decide_eq_false hin] at hcx
          have HRR := Lib.hid hrf
          clear hk1 hr hin hrf
          go_wp2_with fail
          (with_reducible refine hcx.mono ?_)
          clear hcx
          rintro e w2 ⟨rfl, hB2⟩
          have HI2 := Lib.hid (HI.out.then hB2)
          have q0 : w2.cell? ⟨ab, ao + k * 5, none⟩ = some (.int .i64 a.kind) := (HI2.out.below.cell (p := ⟨ab, ao + k * 5, none⟩) HE.out.2).trans (HE.out.1 0 _ rfl)
          have q1 : w2.cell? ⟨ab, ao + k * 5 + 1, none⟩ = some (.int .i64 a.id) := (HI2.out.below.cell (p := ⟨ab, ao + k * 5 + 1, none⟩) HE.out.2).trans (HE.out.1 1 _ rfl)
          have q2 : w2.cell? ⟨ab, ao + k * 5 + 2, none⟩ = some (.int .i64 a.need.a) := (HI2.out.below.cell (p := ⟨ab, ao + k * 5 + 2, none⟩) HE.out.2).trans (HE.out.1 2 _ rfl)
          have q3 : w2.cell? ⟨ab, ao + k * 5 + 3, none⟩ = some (.int .i64 a.need.b) := (HI2.out.below.cell (p := ⟨ab, ao + k * 5 + 3, none⟩) HE.out.2).trans (HE.out.1 3 _ rfl)
          have q4 : w2.cell? ⟨ab, ao + k * 5 + 4, none⟩ = some (.int .i64 a.need.c) := (HI2.out.below.cell (p := ⟨ab, ao + k * 5 + 4, none⟩) HE.out.2).trans (HE.out.1 4 _ rfl)
          clear hB2 g0 g1 g2 g3 g4
          go_wp2
          go_region_held3 (fun w' => w'.cell? ⟨ab, ao + k * 5 + 1, none⟩ = some (.int .i64 a.id) ∧ w'.cell? ⟨ab, ao + k * 5 + 2, none⟩ = some (.int .i64 a.need.a) ∧ w'.cell? ⟨ab, ao + k * 5 + 2 + 1, none⟩ = some (.int .i64 a.need.b) ∧ w'.cell? ⟨ab, ao + k * 5 + 2 + 2, none⟩ = some (.int .i64 a.need.c)) (first | exact ⟨q1, q2, q3, q4⟩ | exact ⟨p1, p2, p3, p4⟩)
            (first
              | (go_at_call 32; have hcx := cAdd_no (c := c) (w := w2.drew) a.id a.need HRR.out; (with_reducible refine hcx.mono ?_); clear hcx; rintro e w3 ⟨rfl, hB3⟩; have HI3 : Hid (CI w w3 c m) := Lib.hid ((HI2.out.then (w' := w2.drew) (Below.refl _ _).drew).then hB3); clear hB3; have p0 : w3.cell? ⟨ab, ao + k * 5, none⟩ = some (.int .i64 a.kind) := (HI3.out.below.cell (p := ⟨ab, ao + k * 5, none⟩) HE.out.2).trans (HE.out.1 0 _ rfl); have p1 : w3.cell? ⟨ab, ao + k * 5 + 1, none⟩ = some (.int .i64 a.id) := (HI3.out.below.cell (p := ⟨ab, ao + k * 5 + 1, none⟩) HE.out.2).trans (HE.out.1 1 _ rfl); have p2 : w3.cell? ⟨ab, ao + k * 5 + 2, none⟩ = some (.int .i64 a.need.a) := (HI3.out.below.cell (p := ⟨ab, ao + k * 5 + 2, none⟩) HE.out.2).trans (HE.out.1 2 _ rfl); have p3 : w3.cell? ⟨ab, ao + k * 5 + 3, none⟩ = some (.int .i64 a.need.b) := (HI3.out.below.cell (p := ⟨ab, ao + k * 5 + 3, none⟩) HE.out.2).trans (HE.out.1 3 _ rfl); have p4 : w3.cell? ⟨ab, ao + k * 5 + 4, none⟩ = some (.int .i64 a.need.c) := (HI3.out.below.cell (p := ⟨ab, ao + k * 5 + 4, none⟩) HE.out.2).trans (HE.out.1 4 _ rfl)))
          clear q0 q1 q2 q3 q4
          go_wp2_with fail
          have hcx := refRight_t a.need w3
          rw [HRR.out] at hcx
          (with_reducible refine hcx.mono ?_)
          clear hcx
          rintro e w4 ⟨rfl, hw4⟩
          have HI4 : Hid (CI w w4 c m) := Lib.hid (HI3.out.then (by rw [hw4]; exact (Below.refl _ _).alloc (Nat.le_refl _) _))
          clear hw4 p0 p1 p2 p3 p4
          go_wp2
          go_roundw
          case rel => exact ⟨k + 1, by omega, by go_num, by rw [HR.out, HS.out]; exact HI4.out⟩
          case measure => simp [intOf]; omega
      · have t1 : (a.kind == 1) = false := by simp [hk1]
        have HS := Lib.hid (show stepC m a = m.drop a.id by rw [stepC, if_neg hk1])
        clear hk1
        go_wp2_with fail
        have hcx := iDrop HI.out a.id HW.out.1.2.1
        (with_reducible refine hcx.mono ?_)
        clear hcx
        rintro e w2 ⟨rfl, hI2⟩
        have HI2 := Lib.hid hI2
        clear hI2 g0 g1 g2 g3 g4
        go_wp2
        go_roundw
        case rel => exact ⟨k + 1, by omega, by go_num, by rw [HR.out, HS.out]; exact HI2.out⟩
        case measure => simp [intOf]; omega
    · have hkn : k = n := by omega
      subst hkn
      have hl : l.take k = l := List.take_of_length_le (by have := Hh.out.1.len; omega)
      rw [hl] at HI
      clear hl hlt hk
      obtain ⟨m, hm⟩ : ∃ m, runC l = m := ⟨_, rfl⟩
      have HM := Lib.hid (And.intro hm (And.intro (hm ▸ InvC.run l) (hm ▸ runC_len l)))
      rw [hm] at HI
      clear hm
      go_wp2
      obtain ⟨wo, rfl⟩ : ∃ wo : World, wo = wr := ⟨_, rfl⟩
      go_loopw [9] (fun i wq => ∃ p : Nat, p ≤ k ∧ i = .int .i64 p ∧ CI w wq c m) (fun i _ => k - (intOf i).toNat)
      case atStart => exact ⟨0, Nat.zero_le _, rfl, HI.out⟩
      case round =>
        obtain ⟨p, hp, rfl, hI2⟩ := hrel
        have HI2 := Lib.hid hI2
        clear hI2
        by_cases hlt : p < k
        · obtain ⟨ab, ao, a, rfl, haa, hal, hcells⟩ := Hh.out.1.at_ hlt
          have HE := Lib.hid (And.intro hcells hal)
          have HWA := Lib.hid (Hh.out.2 a (List.mem_of_getElem? haa))
          have g1 : wr.cell? ⟨ab, ao + p * 5 + 1, none⟩ = some (.int .i64 a.id) := (HI2.out.below.cell (p := ⟨ab, ao + p * 5 + 1, none⟩) hal).trans (hcells 1 _ rfl)
          clear hcells hal haa
          go_wp2
          obtain ⟨wi, rfl⟩ : ∃ wi : World, wi = wr := ⟨_, rfl⟩
          clear g1
          go_loopw [11, 12] (fun v i wq => ∃ (j : Nat) (atv : Int), j ≤ k ∧ i = .int .i64 j ∧ v = .int .i64 atv ∧ Hid (AtRel l j a.id atv) ∧ CI w wq c m) (fun _ i _ => k - (intOf i).toNat)
          case atStart => exact ⟨0, -1, Nat.zero_le _, rfl, rfl, Lib.hid (.inl ⟨rfl, by simp [lastA]⟩), HI2.out⟩
          case round =>
            obtain ⟨j, atv, hj, rfl, rfl, HA, hI3⟩ := hrel
            have HI3 := Lib.hid hI3
            clear hI3
            by_cases hjl : j < k
            · obtain ⟨ab', ao', b, hA', hbb, hbl, hcb⟩ := Hh.out.1.at_ hjl
              cases hA'
              have HEb := Lib.hid (And.intro hcb hbl)
              have HBB := Lib.hid hbb
              clear hcb hbl hbb
              have q0 : wr.cell? ⟨ab, ao + j * 5, none⟩ = some (.int .i64 b.kind) := (HI3.out.below.cell (p := ⟨ab, ao + j * 5, none⟩) HEb.out.2).trans (HEb.out.1 0 _ rfl)
              have q1 : wr.cell? ⟨ab, ao + j * 5 + 1, none⟩ = some (.int .i64 b.id) := (HI3.out.below.cell (p := ⟨ab, ao + j * 5 + 1, none⟩) HEb.out.2).trans (HEb.out.1 1 _ rfl)
              have q2 : wr.cell? ⟨ab, ao + j * 5 + 2, none⟩ = some (.int .i64 b.need.a) := (HI3.out.below.cell (p := ⟨ab, ao + j * 5 + 2, none⟩) HEb.out.2).trans (HEb.out.1 2 _ rfl)
              have q3 : wr.cell? ⟨ab, ao + j * 5 + 3, none⟩ = some (.int .i64 b.need.b) := (HI3.out.below.cell (p := ⟨ab, ao + j * 5 + 3, none⟩) HEb.out.2).trans (HEb.out.1 3 _ rfl)
              have q4 : wr.cell? ⟨ab, ao + j * 5 + 4, none⟩ = some (.int .i64 b.need.c) := (HI3.out.below.cell (p := ⟨ab, ao + j * 5 + 4, none⟩) HEb.out.2).trans (HEb.out.1 4 _ rfl)
              by_cases hi1 : b.id = a.id
              · have t1 : (b.id == a.id) = true := by simp [hi1]
                by_cases hk1 : b.kind = 1
                · have t2 : (b.kind != 1) = false := by simp [hk1]
                  have hcx := refRight_t b.need wr
                  cases hr : rightR b.need
                  · have HEF := Lib.hid (show effA a.id b = false by simp [effA, hi1, hk1, hr])
                    rw [hr] at hcx
                    clear hi1 hk1 hr
                    go_wp2_with fail
                    (with_reducible refine hcx.mono ?_)
                    clear hcx
                    rintro e w4 ⟨rfl, hw4⟩
                    have HI4 : Hid (CI w w4 c m) := Lib.hid (HI3.out.then (by rw [hw4]; exact (Below.refl _ _).alloc (Nat.le_refl _) _))
                    clear hw4 q0 q1 q2 q3 q4
                    go_wp2
                    go_roundw
                    case rel => exact ⟨j + 1, atv, by omega, by go_num, rfl, Lib.hid (HA.out.no HBB.out HEF.out), HI4.out⟩
                    case measure => simp [intOf]; omega
                  · have HEF := Lib.hid (show effA a.id b = true by simp [effA, hi1, hk1, hr])
                    rw [hr] at hcx
                    clear hi1 hk1 hr
                    go_wp2_with fail
                    (with_reducible refine hcx.mono ?_)
                    clear hcx
                    rintro e w4 ⟨rfl, hw4⟩
                    have HI4 : Hid (CI w w4 c m) := Lib.hid (HI3.out.then (by rw [hw4]; exact (Below.refl _ _).alloc (Nat.le_refl _) _))
                    clear hw4 q0 q1 q2 q3 q4
                    go_wp2
                    go_roundw
                    case rel => exact ⟨j + 1, (j : Int), by omega, by go_num, rfl, Lib.hid (AtRel.yes HBB.out HEF.out), HI4.out⟩
                    case measure => simp [intOf]; omega
                · have t2 : (b.kind != 1) = true := by simp [hk1]
                  have HEF := Lib.hid (show effA a.id b = true by simp [effA, hi1, hk1])
                  clear hi1 hk1
                  go_wp2
                  go_roundw
                  case rel => exact ⟨j + 1, (j : Int), by omega, by go_num, rfl, Lib.hid (AtRel.yes HBB.out HEF.out), HI3.out⟩
                  case measure => simp [intOf]; omega
              · have t1 : (b.id == a.id) = false := by simp [hi1]
                have HEF := Lib.hid (show effA a.id b = false by simp [effA, hi1])
                clear hi1
                go_wp2
                go_roundw
                case rel => exact ⟨j + 1, atv, by omega, by go_num, rfl, Lib.hid (HA.out.no HBB.out HEF.out), HI3.out⟩
                case measure => simp [intOf]; omega
            · have hjk : j = k := by omega
              have hfull : l.take j = l := List.take_of_length_le (by have := Hh.out.1.len; omega)
              rcases HA.out with ⟨rfl, hnone⟩ | ⟨q, b, rfl, hq, hb, hsome⟩
              · rw [hfull] at hnone
                have hnin : a.id ∉ m.jrow := fun hm => by obtain ⟨x, hx, _⟩ := (HM.out.2.1.mem a.id).1 hm; rw [hnone] at hx; cases hx
                clear hnone hfull hjk
                obtain ⟨S3, ho3, _⟩ := HI3.out
                have hcx := oClass ho3 a.id HWA.out.2.1
                rw [if_neg hnin, decide_eq_false hnin] at hcx
                have HMA := Lib.hid (show manyJ m m.live a.id = 0 by rw [manyJ_all m ho3.ok ho3.rising, if_neg hnin])
                clear hnin ho3
                go_wp2_with fail
                (with_reducible refine hcx.mono ?_)
                clear hcx
                rintro e w4 ⟨rfl, rfl⟩
                go_wp2_with fail
                obtain ⟨S4, ho4, _⟩ := HI3.out
                have hcx := oNeed_any ho4 0
                (with_reducible refine hcx.mono ?_)
                clear hcx ho4
                rintro e w5 ⟨r5, ok5, rfl, hB5⟩
                have HI5 := Lib.hid (HI3.out.then hB5)
                clear hB5
                go_wp2
                go_quiet (fail)
                have HI6 : Hid (CI w ((w5.alloc (.cells (boxRes r5) 36)).drewN nq) c m) := Lib.hid (HI5.out.then (((Below.refl _ _).alloc (Nat.le_refl _) _).trans (below_dN nq)))
                generalize (w5.alloc (.cells (boxRes r5) 36)).drewN nq = w6 at HI6 ⊢
                go_wp2_with fail
                obtain ⟨S6, ho6, _⟩ := HI6.out
                have hcx := oLive ho6
                (with_reducible refine hcx.mono ?_)
                clear hcx ho6
                rintro e w7 ⟨A7, n7, c7, rfl, hO7, hB7⟩
                have HI7 := Lib.hid (HI6.out.then hB7)
                have hr7 := hO7.rd (enc := encI) (sz := 1) (fun _ => rfl)
                have hn7 : n7 ≤ 100 := by have h1 := hr7.len; have h2 := live_len m; have h3 := HM.out.2.2.1; have h4 := Hh.out.1.len; omega
                have HL := Lib.hid hr7
                clear hO7 hB7 hr7
                go_wp2
                go_loopw [18, 20] (fun v i wq => ∃ q2 : Nat, q2 ≤ n7 ∧ i = .int .i64 q2 ∧ v = .int .i64 ((manyJ m (m.live.take q2) a.id : Nat) : Int) ∧ Below w7.heap.size w7 wq) (fun _ i _ => n7 - (intOf i).toNat)
                case atStart => exact ⟨0, Nat.zero_le _, rfl, rfl, Below.refl _ _⟩
                case round =>
                  obtain ⟨q2, hq2, rfl, rfl, hB8⟩ := hrel
                  obtain ⟨M, hM⟩ : ∃ M, manyJ m (m.live.take q2) a.id = M := ⟨_, rfl⟩
                  have hMb : M ≤ 10000 := by have h1 := manyJ_le m (m.live.take q2) a.id 100 (by have h3 := HM.out.2.2.2; have h4 := Hh.out.1.len; omega); have h2 : (m.live.take q2).length ≤ 100 := by { have := List.length_take_le q2 m.live; omega }; have h5 : (m.live.take q2).length * 100 ≤ 100 * 100 := Nat.mul_le_mul_right _ h2; omega
                  try rw [hM]
                  have HMM := Lib.hid hM
                  clear hM
                  by_cases hl2 : q2 < n7
                  · obtain ⟨lb, lo, x, hA7, hx, hlc⟩ := RdI.at_ (HL.out.below hB8) hl2
                    subst hA7
                    have HI8 := Lib.hid (HI7.out.then hB8)
                    have HX := Lib.hid hx
                    have HB8 := Lib.hid hB8
                    clear hx hB8
                    go_wp2_with fail
                    obtain ⟨S8, ho8, _⟩ := HI8.out
                    have hcx := oJobs ho8 x
                    (with_reducible refine hcx.mono ?_)
                    clear hcx ho8
                    rintro e w9 ⟨A9, n9, c9, rfl, hO9, hB9⟩
                    have hr9 := hO9.rd (enc := encI) (sz := 1) (fun _ => rfl)
                    have hn9 : n9 ≤ 100 := by have h1 := hr9.len; have h2 := m.rows_le x; have h3 := HM.out.2.2.2; have h4 := Hh.out.1.len; omega
                    have HL9 := Lib.hid hr9
                    have HB9 := Lib.hid (HB8.out.trans (hB9.mono HB8.out.size))
                    clear hO9 hB9 hr9 hlc
                    go_wp2
                    go_loop [18, 22] (fun v i => ∃ j2 : Nat, j2 ≤ n9 ∧ i = .int .i64 j2 ∧ v = .int .i64 ((M + cntJ ((m.rows x).take j2) a.id : Nat) : Int)) (fun _ i => n9 - (intOf i).toNat)
                    case atStart => exact ⟨0, Nat.zero_le _, rfl, by simp [cntJ]⟩
                    case round =>
                      obtain ⟨j2, hj2, rfl, rfl⟩ := hrel
                      obtain ⟨C, hC⟩ : ∃ C, cntJ ((m.rows x).take j2) a.id = C := ⟨_, rfl⟩
                      have hCb : C ≤ 100 := by rw [← hC]; have h1 := List.length_filter_le (fun y => y == a.id) ((m.rows x).take j2); have h2 := List.length_take_le j2 (m.rows x); unfold cntJ; omega
                      try rw [hC]
                      have HC2 := Lib.hid hC
                      clear hC
                      by_cases hj3 : j2 < n9
                      · obtain ⟨yb, yo, y, hA9, hy, hyc⟩ := RdI.at_ HL9.out hj3
                        subst hA9
                        have hsn := cntJ_snoc ((m.rows x).take j2) y a.id
                        rw [← take_succ_of _ _ _ hy, HC2.out] at hsn
                        clear hy
                        by_cases hya : y = a.id
                        · have ht : (y == a.id) = true := by simp [hya]
                          rw [if_pos hya] at hsn
                          have HSN := Lib.hid hsn
                          clear hsn hya
                          go_wp2
                          go_round
                          case rel => exact ⟨j2 + 1, by omega, by go_num, by rw [HSN.out]; go_num⟩
                          case measure => simp [intOf]; omega
                        · have ht : (y == a.id) = false := by simp [hya]
                          rw [if_neg hya] at hsn
                          have HSN := Lib.hid hsn
                          clear hsn hya
                          go_wp2
                          go_round
                          case rel => exact ⟨j2 + 1, by omega, by go_num, by rw [HSN.out]; go_num⟩
                          case measure => simp [intOf]; omega
                      · have hjn : j2 = n9 := by omega
                        have hfull : (m.rows x).take j2 = m.rows x := List.take_of_length_le (by have := HL9.out.len; omega)
                        have hsum : manyJ m (m.live.take (q2 + 1)) a.id = M + C := by rw [take_succ_of _ _ _ HX.out, manyJ_snoc, HMM.out, ← HC2.out, hfull]
                        have HSUM := Lib.hid hsum
                        clear hsum hfull hjn
                        go_wp2
                        go_roundw
                        case rel => exact ⟨q2 + 1, by omega, by go_num, by rw [HSUM.out], HB9.out⟩
                        case measure => simp [intOf]; omega
                  · have hqn : q2 = n7 := by omega
                    have hfull : m.live.take q2 = m.live := List.take_of_length_le (by have := HL.out.len; omega)
                    have hMv : M = 0 := by rw [← HMM.out, hfull]; exact HMA.out
                    subst hMv
                    have HI9 := Lib.hid (HI7.out.then hB8)
                    clear hfull hqn hB8
                    go_wp2
                    go_roundw
                    case rel => exact ⟨p + 1, by omega, by go_num, HI9.out⟩
                    case measure => simp [intOf]; omega
              · rw [hfull] at hsome
                obtain ⟨ab', ao', b', hA', hbb, hbl, hcb⟩ := Hh.out.1.at_ (show q < k by omega)
                cases hA'
                obtain rfl : b = b' := by rw [hb] at hbb; exact Option.some.inj hbb
                have HEb := Lib.hid (And.intro hcb hbl)
                have hqk : q < k := by omega
                clear hcb hbl hbb hb
                have q0 : wr.cell? ⟨ab, ao + q * 5, none⟩ = some (.int .i64 b.kind) := (HI3.out.below.cell (p := ⟨ab, ao + q * 5, none⟩) HEb.out.2).trans (HEb.out.1 0 _ rfl)
                have q1 : wr.cell? ⟨ab, ao + q * 5 + 1, none⟩ = some (.int .i64 b.id) := (HI3.out.below.cell (p := ⟨ab, ao + q * 5 + 1, none⟩) HEb.out.2).trans (HEb.out.1 1 _ rfl)
                have q2 : wr.cell? ⟨ab, ao + q * 5 + 2, none⟩ = some (.int .i64 b.need.a) := (HI3.out.below.cell (p := ⟨ab, ao + q * 5 + 2, none⟩) HEb.out.2).trans (HEb.out.1 2 _ rfl)
                have q3 : wr.cell? ⟨ab, ao + q * 5 + 3, none⟩ = some (.int .i64 b.need.b) := (HI3.out.below.cell (p := ⟨ab, ao + q * 5 + 3, none⟩) HEb.out.2).trans (HEb.out.1 3 _ rfl)
                have q4 : wr.cell? ⟨ab, ao + q * 5 + 4, none⟩ = some (.int .i64 b.need.c) := (HI3.out.below.cell (p := ⟨ab, ao + q * 5 + 4, none⟩) HEb.out.2).trans (HEb.out.1 4 _ rfl)
                by_cases hk1 : b.kind = 1
                · have t1 : (b.kind == 1) = true := by simp [hk1]
                  have hin : a.id ∈ m.jrow := (HM.out.2.1.mem a.id).2 ⟨b, hsome, hk1⟩
                  obtain ⟨kk, hkk, hneed⟩ := HM.out.2.1.at_ a.id b hsome hk1
                  obtain ⟨S3, ho3, _⟩ := HI3.out
                  have hcx := oClass ho3 a.id HWA.out.2.1
                  rw [if_pos hin, decide_eq_true hin, hkk] at hcx
                  have HMA := Lib.hid (show manyJ m m.live a.id = 1 by rw [manyJ_all m ho3.ok ho3.rising, if_pos hin])
                  have HND := Lib.hid hneed
                  have hne := fun (W : World) => neqRes b.need b.need W
                  simp only [decide_true, Bool.not_true] at hne
                  clear hin ho3 hkk hneed hsome hk1 hfull hjk
                  go_wp2_with fail
                  (with_reducible refine hcx.mono ?_)
                  clear hcx
                  rintro e w4 ⟨rfl, rfl⟩
                  go_wp2_with fail
                  obtain ⟨S4, ho4, _⟩ := HI3.out
                  have hcx := oNeed_yes ho4 kk b.need HND.out
                  (with_reducible refine hcx.mono ?_)
                  clear hcx ho4
                  rintro e w5 ⟨rfl, hB5⟩
                  have HI5 := Lib.hid (HI3.out.then hB5)
                  clear hB5 q0 q1 q2 q3 q4
                  have HI5a : Hid (CI w (w5.alloc (.cells (boxRes b.need) 36)) c m) := Lib.hid (HI5.out.then ((Below.refl _ _).alloc (Nat.le_refl _) _))
                  have y0 : (w5.alloc (.cells (boxRes b.need) 36)).cell? ⟨ab, ao + q * 5, none⟩ = some (.int .i64 b.kind) := (HI5a.out.below.cell (p := ⟨ab, ao + q * 5, none⟩) HEb.out.2).trans (HEb.out.1 0 _ rfl)
                  have y1 : (w5.alloc (.cells (boxRes b.need) 36)).cell? ⟨ab, ao + q * 5 + 1, none⟩ = some (.int .i64 b.id) := (HI5a.out.below.cell (p := ⟨ab, ao + q * 5 + 1, none⟩) HEb.out.2).trans (HEb.out.1 1 _ rfl)
                  have y2 : (w5.alloc (.cells (boxRes b.need) 36)).cell? ⟨ab, ao + q * 5 + 2, none⟩ = some (.int .i64 b.need.a) := (HI5a.out.below.cell (p := ⟨ab, ao + q * 5 + 2, none⟩) HEb.out.2).trans (HEb.out.1 2 _ rfl)
                  have y3 : (w5.alloc (.cells (boxRes b.need) 36)).cell? ⟨ab, ao + q * 5 + 3, none⟩ = some (.int .i64 b.need.b) := (HI5a.out.below.cell (p := ⟨ab, ao + q * 5 + 3, none⟩) HEb.out.2).trans (HEb.out.1 3 _ rfl)
                  have y4 : (w5.alloc (.cells (boxRes b.need) 36)).cell? ⟨ab, ao + q * 5 + 4, none⟩ = some (.int .i64 b.need.c) := (HI5a.out.below.cell (p := ⟨ab, ao + q * 5 + 4, none⟩) HEb.out.2).trans (HEb.out.1 4 _ rfl)
                  have hx5 := Blk.new w5 36 (boxRes b.need)
                  have x0 := hx5.cell 0
                  have x1 := hx5.cell 1
                  have x2 := hx5.cell 2
                  simp only [List.getElem?_toArray, List.getElem?_cons_zero, List.getElem?_cons_succ] at x0 x1 x2
                  clear hx5 HI5
                  go_wp2
                  generalize w5.alloc (.cells (boxRes b.need) 36) = w5a at HI5a x0 x1 x2 y0 y1 y2 y3 y4 ⊢
                  go_quiet (fail)
                  have HI6 : Hid (CI w (w5a.drewN nq) c m) := Lib.hid (HI5a.out.then (below_dN nq))
                  clear y0 y1 y2 y3 y4 x0 x1 x2 hne
                  generalize w5a.drewN nq = w6 at HI6 ⊢
                  go_wp2_with fail
                  obtain ⟨S6, ho6, _⟩ := HI6.out
                  have hcx := oLive ho6
                  (with_reducible refine hcx.mono ?_)
                  clear hcx ho6
                  rintro e w7 ⟨A7, n7, c7, rfl, hO7, hB7⟩
                  have HI7 := Lib.hid (HI6.out.then hB7)
                  have hr7 := hO7.rd (enc := encI) (sz := 1) (fun _ => rfl)
                  have hn7 : n7 ≤ 100 := by have h1 := hr7.len; have h2 := live_len m; have h3 := HM.out.2.2.1; have h4 := Hh.out.1.len; omega
                  have HL := Lib.hid hr7
                  clear hO7 hB7 hr7
                  go_wp2
                  go_loopw [18, 20] (fun v i wq => ∃ q2 : Nat, q2 ≤ n7 ∧ i = .int .i64 q2 ∧ v = .int .i64 ((manyJ m (m.live.take q2) a.id : Nat) : Int) ∧ Below w7.heap.size w7 wq) (fun _ i _ => n7 - (intOf i).toNat)
                  case atStart => exact ⟨0, Nat.zero_le _, rfl, rfl, Below.refl _ _⟩
                  case round =>
                    obtain ⟨q2, hq2, rfl, rfl, hB8⟩ := hrel
                    obtain ⟨M, hM⟩ : ∃ M, manyJ m (m.live.take q2) a.id = M := ⟨_, rfl⟩
                    have hMb : M ≤ 10000 := by have h1 := manyJ_le m (m.live.take q2) a.id 100 (by have h3 := HM.out.2.2.2; have h4 := Hh.out.1.len; omega); have h2 : (m.live.take q2).length ≤ 100 := by { have := List.length_take_le q2 m.live; omega }; have h5 : (m.live.take q2).length * 100 ≤ 100 * 100 := Nat.mul_le_mul_right _ h2; omega
                    try rw [hM]
                    have HMM := Lib.hid hM
                    clear hM
                    by_cases hl2 : q2 < n7
                    · obtain ⟨lb, lo, x, hA7, hx, hlc⟩ := RdI.at_ (HL.out.below hB8) hl2
                      subst hA7
                      have HI8 := Lib.hid (HI7.out.then hB8)
                      have HX := Lib.hid hx
                      have HB8 := Lib.hid hB8
                      clear hx hB8
                      go_wp2_with fail
                      obtain ⟨S8, ho8, _⟩ := HI8.out
                      have hcx := oJobs ho8 x
                      (with_reducible refine hcx.mono ?_)
                      clear hcx ho8
                      rintro e w9 ⟨A9, n9, c9, rfl, hO9, hB9⟩
                      have hr9 := hO9.rd (enc := encI) (sz := 1) (fun _ => rfl)
                      have hn9 : n9 ≤ 100 := by have h1 := hr9.len; have h2 := m.rows_le x; have h3 := HM.out.2.2.2; have h4 := Hh.out.1.len; omega
                      have HL9 := Lib.hid hr9
                      have HB9 := Lib.hid (HB8.out.trans (hB9.mono HB8.out.size))
                      clear hO9 hB9 hr9 hlc
                      go_wp2
                      go_loop [18, 22] (fun v i => ∃ j2 : Nat, j2 ≤ n9 ∧ i = .int .i64 j2 ∧ v = .int .i64 ((M + cntJ ((m.rows x).take j2) a.id : Nat) : Int)) (fun _ i => n9 - (intOf i).toNat)
                      case atStart => exact ⟨0, Nat.zero_le _, rfl, by simp [cntJ]⟩
                      case round =>
                        obtain ⟨j2, hj2, rfl, rfl⟩ := hrel
                        obtain ⟨C, hC⟩ : ∃ C, cntJ ((m.rows x).take j2) a.id = C := ⟨_, rfl⟩
                        have hCb : C ≤ 100 := by rw [← hC]; have h1 := List.length_filter_le (fun y => y == a.id) ((m.rows x).take j2); have h2 := List.length_take_le j2 (m.rows x); unfold cntJ; omega
                        try rw [hC]
                        have HC2 := Lib.hid hC
                        clear hC
                        by_cases hj3 : j2 < n9
                        · obtain ⟨yb, yo, y, hA9, hy, hyc⟩ := RdI.at_ HL9.out hj3
                          subst hA9
                          have hsn := cntJ_snoc ((m.rows x).take j2) y a.id
                          rw [← take_succ_of _ _ _ hy, HC2.out] at hsn
                          clear hy
                          by_cases hya : y = a.id
                          · have ht : (y == a.id) = true := by simp [hya]
                            rw [if_pos hya] at hsn
                            have HSN := Lib.hid hsn
                            clear hsn hya
                            go_wp2
                            go_round
                            case rel => exact ⟨j2 + 1, by omega, by go_num, by rw [HSN.out]; go_num⟩
                            case measure => simp [intOf]; omega
                          · have ht : (y == a.id) = false := by simp [hya]
                            rw [if_neg hya] at hsn
                            have HSN := Lib.hid hsn
                            clear hsn hya
                            go_wp2
                            go_round
                            case rel => exact ⟨j2 + 1, by omega, by go_num, by rw [HSN.out]; go_num⟩
                            case measure => simp [intOf]; omega
                        · have hjn : j2 = n9 := by omega
                          have hfull : (m.rows x).take j2 = m.rows x := List.take_of_length_le (by have := HL9.out.len; omega)
                          have hsum : manyJ m (m.live.take (q2 + 1)) a.id = M + C := by rw [take_succ_of _ _ _ HX.out, manyJ_snoc, HMM.out, ← HC2.out, hfull]
                          have HSUM := Lib.hid hsum
                          clear hsum hfull hjn
                          go_wp2
                          go_roundw
                          case rel => exact ⟨q2 + 1, by omega, by go_num, by rw [HSUM.out], HB9.out⟩
                          case measure => simp [intOf]; omega
                    · have hqn : q2 = n7 := by omega
                      have hfull : m.live.take q2 = m.live := List.take_of_length_le (by have := HL.out.len; omega)
                      have hMv : M = 1 := by rw [← HMM.out, hfull]; exact HMA.out
                      subst hMv
                      have HI9 := Lib.hid (HI7.out.then hB8)
                      clear hfull hqn hB8
                      go_wp2
                      go_roundw
                      case rel => exact ⟨p + 1, by omega, by go_num, HI9.out⟩
                      case measure => simp [intOf]; omega
                · have t1 : (b.kind == 1) = false := by simp [hk1]
                  have hnin : a.id ∉ m.jrow := fun hm => by obtain ⟨x, hx, hx1⟩ := (HM.out.2.1.mem a.id).1 hm; rw [hsome] at hx; cases hx; exact hk1 hx1
                  clear hsome hk1 hfull hjk
                  obtain ⟨S3, ho3, _⟩ := HI3.out
                  have hcx := oClass ho3 a.id HWA.out.2.1
                  rw [if_neg hnin, decide_eq_false hnin] at hcx
                  have HMA := Lib.hid (show manyJ m m.live a.id = 0 by rw [manyJ_all m ho3.ok ho3.rising, if_neg hnin])
                  clear hnin ho3
                  go_wp2_with fail
                  (with_reducible refine hcx.mono ?_)
                  clear hcx
                  rintro e w4 ⟨rfl, rfl⟩
                  go_wp2_with fail
                  obtain ⟨S4, ho4, _⟩ := HI3.out
                  have hcx := oNeed_any ho4 0
                  (with_reducible refine hcx.mono ?_)
                  clear hcx ho4
                  rintro e w5 ⟨r5, ok5, rfl, hB5⟩
                  have HI5 := Lib.hid (HI3.out.then hB5)
                  clear hB5 q0 q1 q2 q3 q4
                  go_wp2
                  go_quiet (fail)
                  have HI6 : Hid (CI w ((w5.alloc (.cells (boxRes r5) 36)).drewN nq) c m) := Lib.hid (HI5.out.then (((Below.refl _ _).alloc (Nat.le_refl _) _).trans (below_dN nq)))
                  generalize (w5.alloc (.cells (boxRes r5) 36)).drewN nq = w6 at HI6 ⊢
                  go_wp2_with fail
                  obtain ⟨S6, ho6, _⟩ := HI6.out
                  have hcx := oLive ho6
                  (with_reducible refine hcx.mono ?_)
                  clear hcx ho6
                  rintro e w7 ⟨A7, n7, c7, rfl, hO7, hB7⟩
                  have HI7 := Lib.hid (HI6.out.then hB7)
                  have hr7 := hO7.rd (enc := encI) (sz := 1) (fun _ => rfl)
                  have hn7 : n7 ≤ 100 := by have h1 := hr7.len; have h2 := live_len m; have h3 := HM.out.2.2.1; have h4 := Hh.out.1.len; omega
                  have HL := Lib.hid hr7
                  clear hO7 hB7 hr7
                  go_wp2
                  go_loopw [18, 20] (fun v i wq => ∃ q2 : Nat, q2 ≤ n7 ∧ i = .int .i64 q2 ∧ v = .int .i64 ((manyJ m (m.live.take q2) a.id : Nat) : Int) ∧ Below w7.heap.size w7 wq) (fun _ i _ => n7 - (intOf i).toNat)
                  case atStart => exact ⟨0, Nat.zero_le _, rfl, rfl, Below.refl _ _⟩
                  case round =>
                    obtain ⟨q2, hq2, rfl, rfl, hB8⟩ := hrel
                    obtain ⟨M, hM⟩ : ∃ M, manyJ m (m.live.take q2) a.id = M := ⟨_, rfl⟩
                    have hMb : M ≤ 10000 := by have h1 := manyJ_le m (m.live.take q2) a.id 100 (by have h3 := HM.out.2.2.2; have h4 := Hh.out.1.len; omega); have h2 : (m.live.take q2).length ≤ 100 := by { have := List.length_take_le q2 m.live; omega }; have h5 : (m.live.take q2).length * 100 ≤ 100 * 100 := Nat.mul_le_mul_right _ h2; omega
                    try rw [hM]
                    have HMM := Lib.hid hM
                    clear hM
                    by_cases hl2 : q2 < n7
                    · obtain ⟨lb, lo, x, hA7, hx, hlc⟩ := RdI.at_ (HL.out.below hB8) hl2
                      subst hA7
                      have HI8 := Lib.hid (HI7.out.then hB8)
                      have HX := Lib.hid hx
                      have HB8 := Lib.hid hB8
                      clear hx hB8
                      go_wp2_with fail
                      obtain ⟨S8, ho8, _⟩ := HI8.out
                      have hcx := oJobs ho8 x
                      (with_reducible refine hcx.mono ?_)
                      clear hcx ho8
                      rintro e w9 ⟨A9, n9, c9, rfl, hO9, hB9⟩
                      have hr9 := hO9.rd (enc := encI) (sz := 1) (fun _ => rfl)
                      have hn9 : n9 ≤ 100 := by have h1 := hr9.len; have h2 := m.rows_le x; have h3 := HM.out.2.2.2; have h4 := Hh.out.1.len; omega
                      have HL9 := Lib.hid hr9
                      have HB9 := Lib.hid (HB8.out.trans (hB9.mono HB8.out.size))
                      clear hO9 hB9 hr9 hlc
                      go_wp2
                      go_loop [18, 22] (fun v i => ∃ j2 : Nat, j2 ≤ n9 ∧ i = .int .i64 j2 ∧ v = .int .i64 ((M + cntJ ((m.rows x).take j2) a.id : Nat) : Int)) (fun _ i => n9 - (intOf i).toNat)
                      case atStart => exact ⟨0, Nat.zero_le _, rfl, by simp [cntJ]⟩
                      case round =>
                        obtain ⟨j2, hj2, rfl, rfl⟩ := hrel
                        obtain ⟨C, hC⟩ : ∃ C, cntJ ((m.rows x).take j2) a.id = C := ⟨_, rfl⟩
                        have hCb : C ≤ 100 := by rw [← hC]; have h1 := List.length_filter_le (fun y => y == a.id) ((m.rows x).take j2); have h2 := List.length_take_le j2 (m.rows x); unfold cntJ; omega
                        try rw [hC]
                        have HC2 := Lib.hid hC
                        clear hC
                        by_cases hj3 : j2 < n9
                        · obtain ⟨yb, yo, y, hA9, hy, hyc⟩ := RdI.at_ HL9.out hj3
                          subst hA9
                          have hsn := cntJ_snoc ((m.rows x).take j2) y a.id
                          rw [← take_succ_of _ _ _ hy, HC2.out] at hsn
                          clear hy
                          by_cases hya : y = a.id
                          · have ht : (y == a.id) = true := by simp [hya]
                            rw [if_pos hya] at hsn
                            have HSN := Lib.hid hsn
                            clear hsn hya
                            go_wp2
                            go_round
                            case rel => exact ⟨j2 + 1, by omega, by go_num, by rw [HSN.out]; go_num⟩
                            case measure => simp [intOf]; omega
                          · have ht : (y == a.id) = false := by simp [hya]
                            rw [if_neg hya] at hsn
                            have HSN := Lib.hid hsn
                            clear hsn hya
                            go_wp2
                            go_round
                            case rel => exact ⟨j2 + 1, by omega, by go_num, by rw [HSN.out]; go_num⟩
                            case measure => simp [intOf]; omega
                        · have hjn : j2 = n9 := by omega
                          have hfull : (m.rows x).take j2 = m.rows x := List.take_of_length_le (by have := HL9.out.len; omega)
                          have hsum : manyJ m (m.live.take (q2 + 1)) a.id = M + C := by rw [take_succ_of _ _ _ HX.out, manyJ_snoc, HMM.out, ← HC2.out, hfull]
                          have HSUM := Lib.hid hsum
                          clear hsum hfull hjn
                          go_wp2
                          go_roundw
                          case rel => exact ⟨q2 + 1, by omega, by go_num, by rw [HSUM.out], HB9.out⟩
                          case measure => simp [intOf]; omega
                    · have hqn : q2 = n7 := by omega
                      have hfull : m.live.take q2 = m.live := List.take_of_length_le (by have := HL.out.len; omega)
                      have hMv : M = 0 := by rw [← HMM.out, hfull]; exact HMA.out
                      subst hMv
                      have HI9 := Lib.hid (HI7.out.then hB8)
                      clear hfull hqn hB8
                      go_wp2
                      go_roundw
                      case rel => exact ⟨p + 1, by omega, by go_num, HI9.out⟩
                      case measure => simp [intOf]; omega
        · go_wp2_with (go_at_call 29; with_reducible refine (awake30 _).mono ?_; rintro e w' ⟨rfl, hb⟩)
          go_ret
          exact ⟨rfl, HI2.out.below.trans (hb.mono HI2.out.below.size)⟩

end Go.Proofs.Ytaajlegdcgfcgaa
