/-
  LAYER 45: the reference: Told.
-/
import Derived.Test.YtaajlegdcgfcgaaRef45a
set_option linter.unusedVariables false
set_option linter.unusedSimpArgs false
namespace Go.Proofs.Ytaajlegdcgfcgaa
open Go.RowKit Go.Maps

theorem reply_one (p : LRep) : ∀ u ∈ encP p, u.oneCell' = true := by
  intro u hu
  simp [encP] at hu
  rcases hu with rfl | rfl <;> rfl

set_option maxRecDepth 100000 in
set_option maxHeartbeats 1600000 in
theorem rTold_t (A : Option Addr) (n c : Nat) (l : List LRow) (w : World) (h : Rd encR 7 w A n l) (hn : n ≤ 1000000) :
    Calls Try.prog 52 #[.slice A n c] w fun e w' => ∃ A' n' c', e = .returned (.slice A' n' c') ∧ OwnL encP 148 2 w' w.heap.size A' n' c' ((l.filter (fun r : LRow => r.kind == 3)).map toldP) ∧ Below w.heap.size w w' := by
  have Hh := Lib.hid h
  clear h
  go_enter Try.func52, Try.ntmps52
  go_wp2
  go_loopw [3, 4] (fun v i wr => ∃ (k m : Nat) (A' : Option Addr) (c' : Nat), k ≤ n ∧ i = .int .i64 k ∧ v = .slice A' m c' ∧ m ≤ k ∧ OwnL encP 148 2 wr w.heap.size A' m c' (((l.take k).filter (fun r : LRow => r.kind == 3)).map toldP) ∧ Below w.heap.size w wr) (fun _ i _ => n - (intOf i).toNat)
  case atStart => exact ⟨0, 0, none, 0, Nat.zero_le _, rfl, rfl, Nat.le_refl _, OwnL.nil _ _, Below.refl _ _⟩
  case round =>
    obtain ⟨k, m, A', c', hk, rfl, rfl, hmk, hO, hB⟩ := hrel
    by_cases hlt : k < n
    · obtain ⟨ab, ao, r, rfl, hrr, hal, hcells⟩ := Hh.out.at_ hlt
      have hc1 : wr.cell? ⟨ab, ao + k * 7 + 1, none⟩ = some (.int .i64 r.kind) := (hB.cell (p := ⟨ab, ao + k * 7 + 1, none⟩) hal).trans (hcells 1 _ rfl)
      have hc5 : wr.cell? ⟨ab, ao + k * 7 + 5, none⟩ = some (.int .i64 r.job) := (hB.cell (p := ⟨ab, ao + k * 7 + 5, none⟩) hal).trans (hcells 5 _ rfl)
      have hc6 : wr.cell? ⟨ab, ao + k * 7 + 6, none⟩ = some (.int .i64 r.code) := (hB.cell (p := ⟨ab, ao + k * 7 + 6, none⟩) hal).trans (hcells 6 _ rfl)
      clear hcells
      have htk := take_succ_of _ _ _ hrr
      by_cases hp : (r.kind == 3) = true
      · have hft : ((l.take (k + 1)).filter (fun r : LRow => r.kind == 3)).map toldP = ((l.take k).filter (fun r : LRow => r.kind == 3)).map toldP ++ [toldP r] := by rw [htk, filter_snoc_pos (fun r : LRow => r.kind == 3) _ _ hp, List.map_append]; rfl
        have HF := Lib.hid hft
        clear hft htk hrr
        obtain ⟨i0, hi0, hz0, hz1, hz2⟩ := info_parts Try.infoReply
        have hab : (Value.slice A' m c').ownBlock ≠ some ab := fun e => by have := own_block_ge hO ab e; omega
        have hk0 : (0 : Int) ≤ (k : Int) := Int.natCast_nonneg _
        have hk1 : (k : Int) < (n : Int) := by omega
        have hal' : ab < wr.heap.size := by have := hB.size; omega
        have HO := Lib.hid (And.intro hO (And.intro hB hab))
        clear hO hB hab hal
        go_wp2_with fail
        go_region_held3 (fun w' => w'.cell? ⟨ab, ao + k * 7 + 5, none⟩ = some (.int .i64 r.job) ∧ w'.cell? ⟨ab, ao + k * 7 + 6, none⟩ = some (.int .i64 r.code))
          (first
            | go_keep
            | (go_split_ands
               refine ⟨?_, ?_⟩
               · (rw [hgrow.cell_far _ (by simp; omega) (Ne.symm HO.out.2.2)]; assumption)
               · (rw [hgrow.cell_far _ (by simp; omega) (Ne.symm HO.out.2.2)]; assumption)))
          ((refine step_append_lies _ (by rfl) _ _ _ (by rfl) w.heap.size 148 i0 _ 2 16 Try.underlying97 hi0 hz0 hz1 hz2 rfl (by omega) (.slice A' m c') m _ (by rfl) ((HO.out.1.own.alloc _).drew)
              ⟨wr.heap.size, 0, none⟩ 1 1 (encP (toldP r)) (by rfl) (by rfl) (World.news_of_block (cs := #[.int .i64 r.job, .int .i64 r.code]) (t := 148) (fr := (0, 0)) (heap_alloc_new wr _)) (reply_one _)
              (by omega) (by simp only [maxLen]; omega) (by omega) (by have := HO.out.2.1.size; simp; omega) (wr.heap.size + 1) (by simp) ?_; intro gg cap w4 ho4 hgrow hat hlt4))
        have hb4 : Below w.heap.size w w4 := ((HO.out.2.1.alloc HO.out.2.1.size _).drew).grown hgrow (by have := HO.out.2.1.size; simp; omega) (own_block_ge HO.out.1)
        have ho4' : OwnL encP 148 2 w4 w.heap.size (some ⟨gg, 0, none⟩) (m + 1) cap (((l.take (k + 1)).filter (fun r : LRow => r.kind == 3)).map toldP) := by
          rw [HF.out]
          exact ⟨by rw [List.flatMap_append]; simpa using ho4, by rw [List.length_append, HO.out.1.len]; rfl⟩
        clear hgrow hat ho4
        go_wp2
        go_roundw
        case rel => exact ⟨k + 1, m + 1, _, cap, by omega, by go_num, rfl, by omega, ho4', hb4⟩
        case measure => simp [intOf]; omega
      · have hpf : (r.kind == 3) = false := by simpa using hp
        have hft : ((l.take (k + 1)).filter (fun r : LRow => r.kind == 3)).map toldP = ((l.take k).filter (fun r : LRow => r.kind == 3)).map toldP := by rw [htk, filter_snoc_neg (fun r : LRow => r.kind == 3) _ _ hpf]
        have HF := Lib.hid hft
        clear hft htk hrr hp
        go_wp2
        go_roundw
        case rel => exact ⟨k + 1, m, A', c', by omega, by go_num, rfl, by omega, by rw [HF.out]; exact hO, hB⟩
        case measure => simp [intOf]; omega
    · have hkn : k = n := by omega
      subst hkn
      have hl : l.take k = l := List.take_of_length_le (by have := Hh.out.len; omega)
      rw [hl] at hO
      go_wp2
      go_ret
      exact ⟨A', m, c', rfl, hO, hB⟩

end Go.Proofs.Ytaajlegdcgfcgaa
