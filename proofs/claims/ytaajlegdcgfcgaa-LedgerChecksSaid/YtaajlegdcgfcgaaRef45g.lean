/-
  LAYERS 43, 45: the reference: Holders, last, heed.
-/
import Derived.Test.YtaajlegdcgfcgaaRef45a
import Derived.Test.YtaajlegdcgfcgaaRef45p
import Derived.Test.YtaajlegdcgfcgaaObj
set_option linter.unusedVariables false
set_option linter.unusedSimpArgs false
namespace Go.Proofs.Ytaajlegdcgfcgaa
open Go.RowKit Go.Maps

theorem putR_len_le (l : List Int) (x : Int) : (putR l x).length ≤ l.length + 1 := by
  rw [length_putR]
  split <;> omega

set_option maxRecDepth 100000 in
set_option maxHeartbeats 1600000 in
theorem holders_t (job : Int) (A : Option Addr) (n c : Nat) (l : List LRow) (w : World) (h : Rd encR 7 w A n l) (hn : n ≤ 100000) :
    Calls Try.prog 111 #[.int .i64 job, .slice A n c] w fun e w' => ∃ A' n' c', e = .returned (.slice A' n' c') ∧ RdI w' A' n' (holdersL job l) ∧ n' ≤ n ∧ n' ≤ c' ∧ Below w.heap.size w w' := by
  have Hh := Lib.hid h
  clear h
  go_enter Try.func111, Try.ntmps111
  go_wp2
  go_loopw [5, 6] (fun v i wr => ∃ (k m : Nat) (A' : Option Addr) (c' : Nat), k ≤ n ∧ i = .int .i64 k ∧ v = .slice A' m c' ∧ m ≤ k ∧ m ≤ c' ∧ RdI wr A' m (holdersL job (l.take k)) ∧ Below w.heap.size w wr) (fun _ i _ => n - (intOf i).toNat)
  case atStart => exact ⟨0, 0, none, 0, Nat.zero_le _, rfl, rfl, Nat.le_refl _, Nat.le_refl _, Rd.nil _ _, Below.refl _ _⟩
  case round =>
    obtain ⟨k, m, A', c', hk, rfl, rfl, hmk, hmc, hR, hB⟩ := hrel
    by_cases hlt : k < n
    · obtain ⟨ab, ao, r, rfl, hrr, hal, hcells⟩ := (Hh.out.below hB).at_ hlt
      have g1 : wr.cell? ⟨ab, ao + k * 7 + 1, none⟩ = some (.int .i64 r.kind) := hcells 1 _ rfl
      have g2 : wr.cell? ⟨ab, ao + k * 7 + 2, none⟩ = some (.int .i64 r.place) := hcells 2 _ rfl
      have g5 : wr.cell? ⟨ab, ao + k * 7 + 5, none⟩ = some (.int .i64 r.job) := hcells 5 _ rfl
      have HE := Lib.hid (And.intro hcells hal)
      have hst : holdersL job (l.take (k + 1)) = holdStep job (holdersL job (l.take k)) r := by rw [take_succ_of _ _ _ hrr, holdersL_snoc]
      obtain ⟨row, hrow⟩ : ∃ row, holdersL job (l.take k) = row := ⟨_, rfl⟩
      rw [hrow] at hst hR
      clear hcells hal hrr hrow
      by_cases hj : (r.job == job) = true
      · by_cases k4 : (r.kind == 4) = true
        · have k5 : (r.kind == 5) = false := by have hk4 : r.kind = 4 := (by simpa using k4); simp [hk4]
          have HS := Lib.hid (show holdersL job (l.take (k + 1)) = putR row r.place by rw [hst]; simp only [holdStep, hj, k4, k5, Bool.and_self, Bool.and_false, if_pos, if_neg, Bool.false_eq_true, not_false_eq_true])
          clear hst
          go_wp2_with fail
          with_reducible refine (put12 A' m c' row r.place _ hR (by omega) hmc).mono ?_
          rintro e w2 ⟨A2, m2, c2, rfl, hR2, hmc2, hB2⟩
          have hm2 : m2 ≤ k + 1 := by have h1 := hR2.len; have h2 := putR_len_le row r.place; have h3 := hR.len; omega
          have e1 : w2.cell? ⟨ab, ao + k * 7 + 1, none⟩ = some (.int .i64 r.kind) := (hB2.cell (p := ⟨ab, ao + k * 7 + 1, none⟩) HE.out.2).trans (HE.out.1 1 _ rfl)
          have e5 : w2.cell? ⟨ab, ao + k * 7 + 5, none⟩ = some (.int .i64 r.job) := (hB2.cell (p := ⟨ab, ao + k * 7 + 5, none⟩) HE.out.2).trans (HE.out.1 5 _ rfl)
          have hBw := hB.trans (hB2.mono hB.size)
          clear g1 g2 g5 hR hB hB2
          go_wp2
          go_roundw
          case rel => exact ⟨k + 1, m2, A2, c2, by omega, by go_num, rfl, hm2, hmc2, by rw [HS.out]; exact hR2, hBw⟩
          case measure => simp [intOf]; omega
        · have k4f : (r.kind == 4) = false := by simpa using k4
          clear k4
          by_cases k5 : (r.kind == 5) = true
          · have HS := Lib.hid (show holdersL job (l.take (k + 1)) = row.filter (· != r.place) by rw [hst]; simp only [holdStep, hj, k4f, k5, Bool.and_self, Bool.and_false, if_pos, if_neg, Bool.false_eq_true, not_false_eq_true])
            clear hst
            go_wp2_with fail
            with_reducible refine (drop12 A' m c' row r.place _ hR (by omega)).mono ?_
            rintro e w2 ⟨A2, m2, c2, rfl, hR2, hmc2, hB2⟩
            have hm2 : m2 ≤ k + 1 := by have h1 := hR2.len; have h2 := List.length_filter_le (· != r.place) row; have h3 := hR.len; omega
            have hBw := hB.trans (hB2.mono hB.size)
            clear g1 g2 g5 hR hB hB2
            go_wp2
            go_roundw
            case rel => exact ⟨k + 1, m2, A2, c2, by omega, by go_num, rfl, hm2, hmc2, by rw [HS.out]; exact hR2, hBw⟩
            case measure => simp [intOf]; omega
          · have k5f : (r.kind == 5) = false := by simpa using k5
            have HS := Lib.hid (show holdersL job (l.take (k + 1)) = row by rw [hst]; simp [holdStep, k4f, k5f])
            clear k5 hst
            go_wp2
            go_roundw
            case rel => exact ⟨k + 1, m, A', c', by omega, by go_num, rfl, by omega, hmc, by rw [HS.out]; exact hR, hB⟩
            case measure => simp [intOf]; omega
      · have hjf : (r.job == job) = false := by simpa using hj
        have HS := Lib.hid (show holdersL job (l.take (k + 1)) = row by rw [hst]; simp [holdStep, hjf])
        clear hj hst
        go_wp2
        go_roundw
        case rel => exact ⟨k + 1, m, A', c', by omega, by go_num, rfl, by omega, hmc, by rw [HS.out]; exact hR, hB⟩
        case measure => simp [intOf]; omega
    · have hkn : k = n := by omega
      subst hkn
      have hl : l.take k = l := List.take_of_length_le (by have := Hh.out.len; omega)
      rw [hl] at hR
      go_wp2
      go_ret
      exact ⟨A', m, c', rfl, hR, hmk, hmc, hB⟩

theorem drop_at {α : Type} {l : List α} {k : Nat} {x : α} (h : l[k]? = some x) : l.drop k = x :: l.drop (k + 1) := by
  obtain ⟨hlt, he⟩ := List.getElem?_eq_some_iff.1 h
  rw [List.drop_eq_getElem_cons hlt, he]

set_option maxRecDepth 100000 in
set_option maxHeartbeats 800000 in
/-- The Epoch of the last lead. -/
theorem last_t (A : Option Addr) (n c : Nat) (l : List LRow) (w : World) (h : Rd encR 7 w A n l) (hn : n ≤ 100000) :
    Calls Try.prog 112 #[.slice A n c, .int .i64 1, .int .i64 (-1)] w fun e w' => e = .returned (.int .i64 (ledE l)) ∧ w = w' := by
  have Hh := Lib.hid h
  clear h
  go_enter Try.func112, Try.ntmps112
  go_wp2
  go_loop [7] (fun i => ∃ j : Int, -1 ≤ j ∧ j < (n : Int) ∧ i = .int .i64 j ∧ Hid (∀ y ∈ l.drop (j + 1).toNat, isLead y = false)) (fun i => (intOf i + 1).toNat)
  case atStart => exact ⟨(n : Int) - 1, by omega, by omega, rfl, Lib.hid (by rw [List.drop_of_length_le (by have := Hh.out.len; omega)]; simp)⟩
  case round =>
    obtain ⟨j, hj1, hj2, rfl, HC⟩ := hrel
    by_cases hj : 0 ≤ j
    · obtain ⟨k, rfl⟩ : ∃ k : Nat, j = k := ⟨j.toNat, by omega⟩
      have hlt : k < n := by omega
      obtain ⟨ab, ao, r, rfl, hrr, hal, hcells⟩ := Hh.out.at_ hlt
      have c1 : w.cell? ⟨ab, ao + k * 7 + 1, none⟩ = some (.int .i64 r.kind) := hcells 1 _ rfl
      have c3 : w.cell? ⟨ab, ao + k * 7 + 3, none⟩ = some (.int .i64 r.epoch) := hcells 3 _ rfl
      have HR := Lib.hid hrr
      clear hcells hrr
      cases hk : (r.kind == 1)
      · go_wp2
        go_round
        case rel =>
          refine ⟨(k : Int) - 1, by omega, by omega, rfl, Lib.hid ?_⟩
          rw [show ((k : Int) - 1 + 1).toNat = k by omega, drop_at HR.out]
          intro y hy
          rcases List.mem_cons.1 hy with rfl | hy
          · exact hk
          · exact HC.out y (by rw [show ((k : Int) + 1).toNat = k + 1 by omega]; exact hy)
        case measure => simp [intOf] <;> omega
      · have HL := Lib.hid (show ledE l = r.epoch by
          have h1 := HC.out
          rw [show ((k : Int) + 1).toNat = k + 1 by omega] at h1
          rw [ledE, lastBy_hit isLead l k r HR.out hk h1]; rfl)
        go_wp2
        go_ret
        exact ⟨ret_int HL.out.symm, rfl⟩
    · have HL := Lib.hid (show ledE l = 0 by
        have h1 := HC.out
        rw [show (j + 1).toNat = 0 by omega, List.drop_zero] at h1
        rw [ledE, lastBy_none isLead l h1]; rfl)
      go_wp2
      go_ret
      exact ⟨ret_int HL.out.symm, rfl⟩

set_option maxRecDepth 100000 in
set_option maxHeartbeats 800000 in
/-- The Epoch of the last heed of a place. -/
theorem heed_t (A : Option Addr) (n c : Nat) (l : List LRow) (q : Int) (w : World) (h : Rd encR 7 w A n l) (hn : n ≤ 100000) :
    Calls Try.prog 113 #[.slice A n c, .int .i64 q] w fun e w' => e = .returned (.tuple #[.int .i64 ((heedE l q).getD 0), .bool (heedE l q).isSome]) ∧ w = w' := by
  have Hh := Lib.hid h
  clear h
  go_enter Try.func113, Try.ntmps113
  go_wp2
  go_loop [6] (fun i => ∃ j : Int, -1 ≤ j ∧ j < (n : Int) ∧ i = .int .i64 j ∧ Hid (∀ y ∈ l.drop (j + 1).toNat, isHeed q y = false)) (fun i => (intOf i + 1).toNat)
  case atStart => exact ⟨(n : Int) - 1, by omega, by omega, rfl, Lib.hid (by rw [List.drop_of_length_le (by have := Hh.out.len; omega)]; simp)⟩
  case round =>
    obtain ⟨j, hj1, hj2, rfl, HC⟩ := hrel
    by_cases hj : 0 ≤ j
    · obtain ⟨k, rfl⟩ : ∃ k : Nat, j = k := ⟨j.toNat, by omega⟩
      have hlt : k < n := by omega
      obtain ⟨ab, ao, r, rfl, hrr, hal, hcells⟩ := Hh.out.at_ hlt
      have c1 : w.cell? ⟨ab, ao + k * 7 + 1, none⟩ = some (.int .i64 r.kind) := hcells 1 _ rfl
      have c2 : w.cell? ⟨ab, ao + k * 7 + 2, none⟩ = some (.int .i64 r.place) := hcells 2 _ rfl
      have c3 : w.cell? ⟨ab, ao + k * 7 + 3, none⟩ = some (.int .i64 r.epoch) := hcells 3 _ rfl
      have HR := Lib.hid hrr
      clear hcells hrr
      have HN : isHeed q r = false → Hid (∀ y ∈ l.drop ((k : Int) - 1 + 1).toNat, isHeed q y = false) := fun hf => Lib.hid (by
        rw [show ((k : Int) - 1 + 1).toNat = k by omega, drop_at HR.out]
        intro y hy
        rcases List.mem_cons.1 hy with rfl | hy
        · exact hf
        · exact HC.out y (by rw [show ((k : Int) + 1).toNat = k + 1 by omega]; exact hy))
      have HN := Lib.hid HN
      cases hk : (r.kind == 2)
      · go_wp2
        go_round
        case rel => exact ⟨(k : Int) - 1, by omega, by omega, rfl, HN.out (by simp [isHeed, hk])⟩
        case measure => simp [intOf] <;> omega
      · cases hp : (r.place == q)
        · go_wp2
          go_round
          case rel => exact ⟨(k : Int) - 1, by omega, by omega, rfl, HN.out (by simp [isHeed, hp])⟩
          case measure => simp [intOf] <;> omega
        · have HL := Lib.hid (show heedE l q = some r.epoch by
            have h1 := HC.out
            rw [show ((k : Int) + 1).toNat = k + 1 by omega] at h1
            rw [heedE, lastBy_hit (isHeed q) l k r HR.out (by simp [isHeed, hk, hp]) h1]; rfl)
          go_wp2
          go_ret2
          rw [HL.out]
          exact ⟨rfl, rfl⟩
    · have HL := Lib.hid (show heedE l q = none by
        have h1 := HC.out
        rw [show (j + 1).toNat = 0 by omega, List.drop_zero] at h1
        rw [heedE, lastBy_none (isHeed q) l h1]; rfl)
      go_wp2
      go_ret2
      rw [HL.out]
      exact ⟨rfl, rfl⟩

end Go.Proofs.Ytaajlegdcgfcgaa
