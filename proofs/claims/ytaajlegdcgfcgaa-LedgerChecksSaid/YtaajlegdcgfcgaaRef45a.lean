/-
  LAYERS 43, 45: the reference: Same, Epochs, Told.
-/
import Derived.Test.YtaajlegdcgfcgaaLedger5
set_option linter.unusedVariables false
set_option linter.unusedSimpArgs false
namespace Go.Proofs.Ytaajlegdcgfcgaa
open Go.RowKit Go.Maps

set_option maxHeartbeats 800000 in
/-- reeveref43.Same, of lists that are the same. -/
theorem same43_t (A B : Option Addr) (n c m d : Nat) (l : List LRow) (w : World) (h : Rd encR 7 w A n l) (h' : Rd encR 7 w B m l) (hn : n ≤ 140737488351232) :
    Calls Try.prog 55 #[.slice A n c, .slice B m d] w fun e w' => e = .returned (.bool true) ∧ ∃ q, w' = w.drewN q := by
  obtain rfl : n = m := by rw [← h.len, h'.len]
  go_enter Try.func55, Try.ntmps55
  go_wp2
  go_loopw [5] (fun i wr => ∃ k q : Nat, k ≤ n ∧ i = .int .i64 k ∧ wr = w.drewN q) (fun i _ => n - (intOf i).toNat)
  case atStart => exact ⟨0, 0, Nat.zero_le _, rfl, rfl⟩
  case round =>
    obtain ⟨k, q, hk, rfl, rfl⟩ := hrel
    by_cases hlt : k < n
    · obtain ⟨ab, ao, y, rfl, hy, _, hcells⟩ := h.at_ hlt
      obtain ⟨bb, bo, z, rfl, hz, _, hcells'⟩ := h'.at_ hlt
      obtain rfl : y = z := by rw [hy] at hz; exact Option.some.inj hz
      have e0 : w.cell? ⟨ab, ao + k * 7, none⟩ = some (.int .i64 y.tick) := hcells 0 _ rfl
      have f0 : w.cell? ⟨bb, bo + k * 7, none⟩ = some (.int .i64 y.tick) := hcells' 0 _ rfl
      have e1 : w.cell? ⟨ab, ao + k * 7 + 1, none⟩ = some (.int .i64 y.kind) := hcells 1 _ rfl
      have f1 : w.cell? ⟨bb, bo + k * 7 + 1, none⟩ = some (.int .i64 y.kind) := hcells' 1 _ rfl
      have e2 : w.cell? ⟨ab, ao + k * 7 + 2, none⟩ = some (.int .i64 y.place) := hcells 2 _ rfl
      have f2 : w.cell? ⟨bb, bo + k * 7 + 2, none⟩ = some (.int .i64 y.place) := hcells' 2 _ rfl
      have e3 : w.cell? ⟨ab, ao + k * 7 + 3, none⟩ = some (.int .i64 y.epoch) := hcells 3 _ rfl
      have f3 : w.cell? ⟨bb, bo + k * 7 + 3, none⟩ = some (.int .i64 y.epoch) := hcells' 3 _ rfl
      have e4 : w.cell? ⟨ab, ao + k * 7 + 4, none⟩ = some (.int .i64 y.inc) := hcells 4 _ rfl
      have f4 : w.cell? ⟨bb, bo + k * 7 + 4, none⟩ = some (.int .i64 y.inc) := hcells' 4 _ rfl
      have e5 : w.cell? ⟨ab, ao + k * 7 + 5, none⟩ = some (.int .i64 y.job) := hcells 5 _ rfl
      have f5 : w.cell? ⟨bb, bo + k * 7 + 5, none⟩ = some (.int .i64 y.job) := hcells' 5 _ rfl
      have e6 : w.cell? ⟨ab, ao + k * 7 + 6, none⟩ = some (.int .i64 y.code) := hcells 6 _ rfl
      have f6 : w.cell? ⟨bb, bo + k * 7 + 6, none⟩ = some (.int .i64 y.code) := hcells' 6 _ rfl
      clear hcells hcells' hy hz
      go_wp2
      go_quiet (fail)
      go_wp2
      go_roundw
      case rel => exact ⟨k + 1, q + nq, by omega, by go_num, by first | rfl | exact World.drewN_drewN ..⟩
      case measure => simp [intOf]; omega
    · go_wp2
      go_ret
      exact ⟨rfl, _, rfl⟩

set_option maxHeartbeats 800000 in
theorem rEpochs_t (A : Option Addr) (n c : Nat) (l : List LRow) (w : World) (h : Rd encR 7 w A n l) (hn : n ≤ 1000000) :
    Calls Try.prog 49 #[.slice A n c] w fun e w' => ∃ A' n' c', e = .returned (.slice A' n' c') ∧ OwnL encI 3 1 w' w.heap.size A' n' c' ((l.filter (fun r : LRow => r.kind == 1)).map (·.place)) ∧ Below w.heap.size w w' := by
  have Hh := Lib.hid h
  clear h
  go_enter Try.func49, Try.ntmps49
  go_wp2
  go_loopw [3, 4] (fun v i wr => ∃ (k m : Nat) (A' : Option Addr) (c' : Nat), k ≤ n ∧ i = .int .i64 k ∧ v = .slice A' m c' ∧ m ≤ k ∧ OwnL encI 3 1 wr w.heap.size A' m c' (((l.take k).filter (fun r : LRow => r.kind == 1)).map (·.place)) ∧ Below w.heap.size w wr) (fun _ i _ => n - (intOf i).toNat)
  case atStart => exact ⟨0, 0, none, 0, Nat.zero_le _, rfl, rfl, Nat.le_refl _, OwnL.nil _ _, Below.refl _ _⟩
  case round =>
    obtain ⟨k, m, A', c', hk, rfl, rfl, hmk, hO, hB⟩ := hrel
    by_cases hlt : k < n
    · obtain ⟨ab, ao, r, rfl, hrr, hal, hcells⟩ := (Hh.out.below hB).at_ hlt
      have hc1 : wr.cell? ⟨ab, ao + k * 7 + 1, none⟩ = some (.int .i64 r.kind) := hcells 1 _ rfl
      have hc2 : wr.cell? ⟨ab, ao + k * 7 + 2, none⟩ = some (.int .i64 r.place) := hcells 2 _ rfl
      clear hcells
      have htk := take_succ_of _ _ _ hrr
      by_cases hp : (r.kind == 1) = true
      · have hft : ((l.take (k + 1)).filter (fun r : LRow => r.kind == 1)).map (·.place) = ((l.take k).filter (fun r : LRow => r.kind == 1)).map (·.place) ++ [r.place] := by rw [htk, filter_snoc_pos (fun r : LRow => r.kind == 1) _ _ hp, List.map_append]; rfl
        have HF := Lib.hid hft
        clear hft htk hrr
        go_wp2_with (at_builtin; refine wp_app (enc := encI) (fun _ => rfl) (by simp [encI, Value.oneCell']) rfl (.tmp 17) (.tmp 23) 27 rfl 3 (.int .i64 0) 8 Try.underlying27 Try.infoInt rfl (by decide) w.heap.size _ m _ _ rfl (hO.alloc _) _ 1 _ [r.place] (by rfl) (Rd.new1_at _ r.place _ _ _ wr.heap.size rfl rfl) (m + 1) rfl _ rfl (by omega) (by omega) (by have := hB.size; simp; omega) ?_; intro A4 c4 w4 ho4 hg4 _; have hb4 := (hB.alloc hB.size _).grown hg4 (by have := hB.size; simp; omega) (own_block_ge hO))
        go_roundw
        case rel => exact ⟨k + 1, m + 1, A4, c4, by omega, by go_num, rfl, by omega, by rw [HF.out]; exact ho4, hb4⟩
        case measure => simp [intOf]; omega
      · have hpf : (r.kind == 1) = false := by simpa using hp
        have hft : ((l.take (k + 1)).filter (fun r : LRow => r.kind == 1)).map (·.place) = ((l.take k).filter (fun r : LRow => r.kind == 1)).map (·.place) := by rw [htk, filter_snoc_neg (fun r : LRow => r.kind == 1) _ _ hpf]
        have HF := Lib.hid hft
        clear hft htk hrr hp
        go_wp2
        go_roundw
        case rel => exact ⟨k + 1, m, A', c', by omega, by go_num, rfl, by omega, by rw [HF.out]; exact hO, hB⟩
        case measure => simp [intOf]; omega
    · have hkn : k = n := by omega
      subst hkn
      have hl : l.take k = l := List.take_of_length_le (by have := Hh.out.len; omega)
      rw [hl] at hO
      go_wp2
      go_ret
      exact ⟨A', m, c', rfl, hO, hB⟩

end Go.Proofs.Ytaajlegdcgfcgaa
