/-
  LAYER 45: the reference: Check.
-/
import Derived.Test.YtaajlegdcgfcgaaRef45h
set_option linter.unusedVariables false
set_option linter.unusedSimpArgs false
namespace Go.Proofs.Ytaajlegdcgfcgaa
open Go.RowKit Go.Maps

theorem row_cells {W : World} {ab ao k : Nat} {r : LRow} (h : ∀ j v, (encR r)[j]? = some v → W.cell? ⟨ab, ao + k * 7 + j, none⟩ = some v) : W.cell? ⟨ab, ao + k * 7, none⟩ = some (.int .i64 r.tick) ∧ W.cell? ⟨ab, ao + k * 7 + 1, none⟩ = some (.int .i64 r.kind) ∧ W.cell? ⟨ab, ao + k * 7 + 2, none⟩ = some (.int .i64 r.place) ∧ W.cell? ⟨ab, ao + k * 7 + 3, none⟩ = some (.int .i64 r.epoch) ∧ W.cell? ⟨ab, ao + k * 7 + 4, none⟩ = some (.int .i64 r.inc) ∧ W.cell? ⟨ab, ao + k * 7 + 5, none⟩ = some (.int .i64 r.job) ∧ W.cell? ⟨ab, ao + k * 7 + 6, none⟩ = some (.int .i64 r.code) :=
  ⟨h 0 _ rfl, h 1 _ rfl, h 2 _ rfl, h 3 _ rfl, h 4 _ rfl, h 5 _ rfl, h 6 _ rfl⟩

set_option maxRecDepth 100000 in
set_option maxHeartbeats 1600000 in
theorem rCheck_t (A : Option Addr) (n c : Nat) (l : List LRow) (w : World) (h : Rd encR 7 w A n l) (hn : n ≤ 100000) (hnc : n ≤ c) :
    Calls Try.prog 47 #[.slice A n c] w fun e w' => e = .returned (.tuple #[.int .i64 ((checkR 0 [] l).1 : Int), .int .i64 (checkR 0 [] l).2]) ∧ Below w.heap.size w w' := by
  have HH := Lib.hid h
  clear h
  obtain ⟨i0, hi, hz0, hz1, hz2⟩ := info_parts Try.infoRow
  go_enter Try.func47, Try.ntmps47
  go_wp2
  go_loopw [4] (fun i wr => ∃ k : Nat, k ≤ n ∧ i = .int .i64 k ∧ Hid (checkR 0 [] l = checkR k (l.take k) (l.drop k)) ∧ Below w.heap.size w wr) (fun i _ => n - (intOf i).toNat)
  case atStart => exact ⟨0, Nat.zero_le _, rfl, Lib.hid rfl, Below.refl _ _⟩
  case round =>
    obtain ⟨k, hk, rfl, HC, hB⟩ := hrel
    by_cases hlt : k < n
    · obtain ⟨ab, ao, r, rfl, hrr, hal, hcells⟩ := (HH.out.below hB).at_ hlt
      obtain ⟨g0, g1, g2, g3, g4, g5, g6⟩ := row_cells hcells
      have HE := Lib.hid (And.intro hrr hB)
      have hcut := cut_to (P := Try.prog) 88 146 .i64 Try.underlying88 hi (some ⟨ab, ao, none⟩) n c k hk hnc
      clear hcells hrr hB
      have hcx := why_t (some ⟨ab, ao, none⟩) k c (l.take k) r wr.drew ((Rd.take (HH.out.below HE.out.2) hk).drew) (by omega)
      obtain ⟨z, hz⟩ : ∃ z, whyE (l.take k) r = z := ⟨_, rfl⟩
      rw [hz] at hcx
      have HZ := Lib.hid hz
      have hstep : checkR k (l.take k) (l.drop k) = if z = 0 then checkR (k + 1) (l.take (k + 1)) (l.drop (k + 1)) else (k, z) := by
        rw [drop_at HE.out.1, take_succ_of _ _ _ HE.out.1]
        simp only [checkR, hz]
      have HS := Lib.hid hstep
      clear hz hstep
      go_wp2
      go_still_tail 7, (by kernel_rfl)
      go_wp2_with fail
      (with_reducible refine hcx.mono ?_)
      clear hcx
      rintro e w2 ⟨rfl, hB2⟩
      have hBw : Below w.heap.size w w2 := (HE.out.2.drew).trans (hB2.mono HE.out.2.size)
      clear hB2 g0 g1 g2 g3 g4 g5 g6
      by_cases hz : z = 0
      · have hz' : (z != 0) = false := by simp [hz]
        have HC2 := Lib.hid (HC.out.trans (HS.out.trans (if_pos hz)))
        clear hz hcut
        go_wp2
        go_roundw
        case rel => exact ⟨k + 1, by omega, by go_num, HC2, hBw⟩
        case measure => simp [intOf]; omega
      · have hz' : (z != 0) = true := by simp [hz]
        have HC2 := Lib.hid (HC.out.trans (HS.out.trans (if_neg hz)))
        clear hz hcut
        go_wp2
        go_ret2
        rw [HC2.out]
        exact ⟨rfl, hBw⟩
    · have hkn : k = n := by omega
      have HE : Hid (checkR 0 [] l = (0, 0)) := Lib.hid (by
        have := HC.out
        rw [List.drop_of_length_le (by have := HH.out.len; omega)] at this
        exact this)
      go_wp2
      go_ret2
      rw [HE.out]
      exact ⟨rfl, hB⟩

end Go.Proofs.Ytaajlegdcgfcgaa
