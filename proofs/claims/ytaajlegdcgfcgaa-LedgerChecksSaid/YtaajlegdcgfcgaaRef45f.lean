/-
  LAYER 45: the reference: Ends.
-/
import Derived.Test.YtaajlegdcgfcgaaRef45e
import Derived.Test.YtaajlegdcgfcgaaRef45d
set_option linter.unusedVariables false
set_option linter.unusedSimpArgs false
namespace Go.Proofs.Ytaajlegdcgfcgaa
open Go.RowKit Go.Maps

set_option maxRecDepth 100000 in
set_option maxHeartbeats 3200000 in
theorem rEnds_t (A : Option Addr) (n c : Nat) (l : List LRow) (w : World) (h : Rd encR 7 w A n l) (hn : n ≤ 100000) :
    Calls Try.prog 57 #[.slice A n c] w fun e w' => ∃ A' n' c', e = .returned (.slice A' n' c') ∧ OwnL encR 146 7 w' w.heap.size A' n' c' (endsP l) ∧ Below w.heap.size w w' := by
  have Hh := Lib.hid h
  clear h
  go_enter Try.func57, Try.ntmps57
  go_wp2
  go_loopw [3, 4] (fun v i wr => ∃ (k m : Nat) (A' : Option Addr) (c' : Nat), k ≤ n ∧ i = .int .i64 k ∧ v = .slice A' m c' ∧ m ≤ k ∧ OwnL encR 146 7 wr w.heap.size A' m c' (endsP (l.take k)) ∧ Below w.heap.size w wr) (fun _ i _ => n - (intOf i).toNat)
  case atStart => exact ⟨0, 0, none, 0, Nat.zero_le _, rfl, rfl, Nat.le_refl _, OwnL.nil _ _, Below.refl _ _⟩
  case round =>
    obtain ⟨k, m, A', c', hk, rfl, rfl, hmk, hO, hB⟩ := hrel
    by_cases hlt : k < n
    · obtain ⟨ab, ao, r, rfl, hrr, hal, hcells⟩ := (Hh.out.below hB).at_ hlt
      have hc2 : wr.cell? ⟨ab, ao + k * 7 + 2, none⟩ = some (.int .i64 r.place) := hcells 2 _ rfl
      have HE := Lib.hid (And.intro hcells hal)
      have HRR := Lib.hid hrr
      have HL := Lib.hid hO.len
      clear hcells hrr hal
      go_wp2
      obtain ⟨wo, rfl⟩ : ∃ wo : World, wo = wr := ⟨_, rfl⟩
      go_loopw [5] (fun j wq => ∃ q d : Nat, q ≤ m ∧ j = .int .i64 q ∧ Hid (∀ y ∈ (endsP (l.take k)).take q, y.place < r.place) ∧ wq = wo.drewN d) (fun j _ => m - (intOf j).toNat)
      case atStart => exact ⟨0, 0, Nat.zero_le _, rfl, Lib.hid (by simp), rfl⟩
      case round =>
        obtain ⟨q, d, hq, rfl, HC, rfl⟩ := hrel
        by_cases hqm : q < m
        · obtain ⟨yb, yo, y, hA', hy, hyb, hycells⟩ := (hO.rd encR_len).at_ hqm
          subst hA'
          have hy2 : wo.cell? ⟨yb, yo + q * 7 + 2, none⟩ = some (.int .i64 y.place) := hycells 2 _ rfl
          have HY := Lib.hid (And.intro hy (And.intro hy2 hyb))
          clear hycells hy hyb
          by_cases hyl : y.place < r.place
          · have hd1 : decide (y.place < r.place) = true := decide_eq_true hyl
            go_wp2
            go_quiet (fail)
            go_wp2
            go_roundw
            case rel =>
              refine ⟨q + 1, d + nq, by omega, by go_num, Lib.hid ?_, by first | rfl | exact World.drewN_drewN ..⟩
              rw [take_succ_of _ _ _ HY.out.1]
              intro z hz
              rcases List.mem_append.1 hz with hz | hz
              · exact HC.out z hz
              · rw [List.mem_singleton.1 hz]; exact hyl
            case measure => simp [intOf]; omega
          · have hd1 : decide (y.place < r.place) = false := decide_eq_false hyl
            by_cases hye : y.place = r.place
            · have hd2 : (y.place == r.place) = true := by simp [hye]
              have hlaw := endsP_hit (l.take k) r y q HY.out.1 hye
              clear hyl
              obtain ⟨i0, hi, hz0, hz1, hz2⟩ := info_parts Try.infoRow
              have hcc := hO.cap
              have hcut := cut_to (P := Try.prog) 88 146 .i64 Try.underlying88 hi (some ⟨yb, yo, none⟩) m c' q hq hcc
              obtain ⟨AX, hcut3, hrd2⟩ := cut_from (P := Try.prog) 88 146 .i64 Try.underlying88 hi hz1 (some ⟨yb, yo, none⟩) m c' (q + 1) (by omega) hcc
              have hcut2 : ∀ W : World, (Instr.slice 88 (.slice (some ⟨yb, yo, none⟩) m c') (some (.int .i64 ((q : Int) + 1))) none none).run Try.prog W = .ok (.slice AX (m - (q + 1)) (c' - (q + 1))) W := hcut3
              have hr1 := Rd.take (hO.rd encR_len) hq
              have hr2 := hrd2 _ _ _ _ (hO.rd encR_len)
              have HF := Lib.hid (And.intro hlaw (And.intro hr1 (And.intro hr2 hB)))
              clear hlaw hr1 hr2 hrd2 hO hB hcc hz0 hz1 hz2 hi hcut3 hye
              go_wp2
              go_quiet (fail)
              go_wp2_with (first
                | (at_builtin; refine wp_app (enc := encR) encR_len row_one rfl (.tmp 32) (.tmp 35) 88 rfl 146 zeroR 56 Try.underlying88 Try.infoRow rfl (by decide) wo.heap.size none 0 0 [] (by rfl) (OwnL.nil _ _) _ q _ _ (by rfl) (HF.out.2.1.drewN _) q (by omega) _ (by rw [List.nil_append]) (by omega) (by omega) (Nat.le_refl _) ?_; intro A3 c3 w3 ho3 hg3 _; have hb3 : Below wo.heap.size wo w3 := Below.grown (h := below_dN _) hg3 (Nat.le_refl _) (by simp [Value.ownBlock]); have c0 : w3.cell? ⟨ab, ao + k * 7, none⟩ = some (.int .i64 r.tick) := (hb3.cell (p := ⟨ab, ao + k * 7, none⟩) HE.out.2).trans (HE.out.1 0 _ rfl); have c1 : w3.cell? ⟨ab, ao + k * 7 + 1, none⟩ = some (.int .i64 r.kind) := (hb3.cell (p := ⟨ab, ao + k * 7 + 1, none⟩) HE.out.2).trans (HE.out.1 1 _ rfl); have c2 : w3.cell? ⟨ab, ao + k * 7 + 2, none⟩ = some (.int .i64 r.place) := (hb3.cell (p := ⟨ab, ao + k * 7 + 2, none⟩) HE.out.2).trans (HE.out.1 2 _ rfl); have c3 : w3.cell? ⟨ab, ao + k * 7 + 3, none⟩ = some (.int .i64 r.epoch) := (hb3.cell (p := ⟨ab, ao + k * 7 + 3, none⟩) HE.out.2).trans (HE.out.1 3 _ rfl); have c4 : w3.cell? ⟨ab, ao + k * 7 + 4, none⟩ = some (.int .i64 r.inc) := (hb3.cell (p := ⟨ab, ao + k * 7 + 4, none⟩) HE.out.2).trans (HE.out.1 4 _ rfl); have c5 : w3.cell? ⟨ab, ao + k * 7 + 5, none⟩ = some (.int .i64 r.job) := (hb3.cell (p := ⟨ab, ao + k * 7 + 5, none⟩) HE.out.2).trans (HE.out.1 5 _ rfl); have c6 : w3.cell? ⟨ab, ao + k * 7 + 6, none⟩ = some (.int .i64 r.code) := (hb3.cell (p := ⟨ab, ao + k * 7 + 6, none⟩) HE.out.2).trans (HE.out.1 6 _ rfl))
                | (at_builtin; refine wp_app (enc := encR) encR_len row_one rfl (.tmp 37) (.tmp 42) 88 rfl 146 zeroR 56 Try.underlying88 Try.infoRow rfl (by decide) wo.heap.size _ q _ _ (by rfl) (ho3.alloc _) _ 1 _ [r] (by rfl) (Rd.new1_at _ r _ _ _ w3.heap.size rfl rfl) (q + 1) (by omega) _ (rfl) (by omega) (by omega) (by have := hb3.size; simp; omega) ?_; intro A4 c4 w4 ho4 hg4 _; have hb4 := (hb3.alloc hb3.size _).grown hg4 (by have := hb3.size; simp; omega) (own_block_ge ho3); have d2 : w4.cell? ⟨ab, ao + k * 7 + 2, none⟩ = some (.int .i64 r.place) := (hb4.cell (p := ⟨ab, ao + k * 7 + 2, none⟩) HE.out.2).trans (HE.out.1 2 _ rfl); have y2 : w4.cell? ⟨yb, yo + q * 7 + 2, none⟩ = some (.int .i64 y.place) := (hb4.cell (p := ⟨yb, yo + q * 7 + 2, none⟩) HY.out.2.2).trans HY.out.2.1))
              go_quiet (fail)
              go_wp2_with (at_builtin; refine wp_app (enc := encR) encR_len row_one rfl (.tmp 63) (.tmp 66) 88 rfl 146 zeroR 56 Try.underlying88 Try.infoRow rfl (by decide) wo.heap.size _ (q + 1) _ _ (by rfl) (ho4.drewN _) _ (m - (q + 1)) _ _ (by rfl) ((HF.out.2.2.1.below hb4).drewN _) (m) (by omega) _ (rfl) (by omega) (by omega) (hb4.size) ?_; intro A5 c5 w5 ho5 hg5 _; have hb5 := Below.grown (h := hb4.trans (below_dN _)) hg5 hb4.size (own_block_ge ho4))
              go_roundw
              case rel => exact ⟨k + 1, m, A5, c5, by omega, by go_num, rfl, by omega, by rw [take_succ_of _ _ _ HRR.out, HF.out.1]; simpa using ho5.lower HF.out.2.2.2.size, HF.out.2.2.2.trans (hb5.mono HF.out.2.2.2.size)⟩
              case measure => simp [intOf]; omega
            · have hd2 : (y.place == r.place) = false := by simp [hye]
              have hlaw := endsP_miss (l.take k) r q HC.out (fun z hz => by rw [HY.out.1] at hz; cases hz; omega)
              obtain ⟨i0, hi, hz0, hz1, hz2⟩ := info_parts Try.infoRow
              have hcc := hO.cap
              have hcut := cut_to (P := Try.prog) 88 146 .i64 Try.underlying88 hi (some ⟨yb, yo, none⟩) m c' q hq hcc
              obtain ⟨AX, hcut3, hrd2⟩ := cut_from (P := Try.prog) 88 146 .i64 Try.underlying88 hi hz1 (some ⟨yb, yo, none⟩) m c' (q) (by omega) hcc
              have hcut2 : ∀ W : World, (Instr.slice 88 (.slice (some ⟨yb, yo, none⟩) m c') (some (.int .i64 ((q : Int)))) none none).run Try.prog W = .ok (.slice AX (m - (q)) (c' - (q))) W := hcut3
              have hr1 := Rd.take (hO.rd encR_len) hq
              have hr2 := hrd2 _ _ _ _ (hO.rd encR_len)
              have HF := Lib.hid (And.intro hlaw (And.intro hr1 (And.intro hr2 hB)))
              clear hlaw hr1 hr2 hrd2 hO hB hcc hz0 hz1 hz2 hi hcut3 hyl hye
              go_wp2
              go_quiet (fail)
              go_wp2_with (first
                | (at_builtin; refine wp_app (enc := encR) encR_len row_one rfl (.tmp 32) (.tmp 35) 88 rfl 146 zeroR 56 Try.underlying88 Try.infoRow rfl (by decide) wo.heap.size none 0 0 [] (by rfl) (OwnL.nil _ _) _ q _ _ (by rfl) (HF.out.2.1.drewN _) q (by omega) _ (by rw [List.nil_append]) (by omega) (by omega) (Nat.le_refl _) ?_; intro A3 c3 w3 ho3 hg3 _; have hb3 : Below wo.heap.size wo w3 := Below.grown (h := below_dN _) hg3 (Nat.le_refl _) (by simp [Value.ownBlock]); have c0 : w3.cell? ⟨ab, ao + k * 7, none⟩ = some (.int .i64 r.tick) := (hb3.cell (p := ⟨ab, ao + k * 7, none⟩) HE.out.2).trans (HE.out.1 0 _ rfl); have c1 : w3.cell? ⟨ab, ao + k * 7 + 1, none⟩ = some (.int .i64 r.kind) := (hb3.cell (p := ⟨ab, ao + k * 7 + 1, none⟩) HE.out.2).trans (HE.out.1 1 _ rfl); have c2 : w3.cell? ⟨ab, ao + k * 7 + 2, none⟩ = some (.int .i64 r.place) := (hb3.cell (p := ⟨ab, ao + k * 7 + 2, none⟩) HE.out.2).trans (HE.out.1 2 _ rfl); have c3 : w3.cell? ⟨ab, ao + k * 7 + 3, none⟩ = some (.int .i64 r.epoch) := (hb3.cell (p := ⟨ab, ao + k * 7 + 3, none⟩) HE.out.2).trans (HE.out.1 3 _ rfl); have c4 : w3.cell? ⟨ab, ao + k * 7 + 4, none⟩ = some (.int .i64 r.inc) := (hb3.cell (p := ⟨ab, ao + k * 7 + 4, none⟩) HE.out.2).trans (HE.out.1 4 _ rfl); have c5 : w3.cell? ⟨ab, ao + k * 7 + 5, none⟩ = some (.int .i64 r.job) := (hb3.cell (p := ⟨ab, ao + k * 7 + 5, none⟩) HE.out.2).trans (HE.out.1 5 _ rfl); have c6 : w3.cell? ⟨ab, ao + k * 7 + 6, none⟩ = some (.int .i64 r.code) := (hb3.cell (p := ⟨ab, ao + k * 7 + 6, none⟩) HE.out.2).trans (HE.out.1 6 _ rfl))
                | (at_builtin; refine wp_app (enc := encR) encR_len row_one rfl (.tmp 37) (.tmp 42) 88 rfl 146 zeroR 56 Try.underlying88 Try.infoRow rfl (by decide) wo.heap.size _ q _ _ (by rfl) (ho3.alloc _) _ 1 _ [r] (by rfl) (Rd.new1_at _ r _ _ _ w3.heap.size rfl rfl) (q + 1) (by omega) _ (rfl) (by omega) (by omega) (by have := hb3.size; simp; omega) ?_; intro A4 c4 w4 ho4 hg4 _; have hb4 := (hb3.alloc hb3.size _).grown hg4 (by have := hb3.size; simp; omega) (own_block_ge ho3); have d2 : w4.cell? ⟨ab, ao + k * 7 + 2, none⟩ = some (.int .i64 r.place) := (hb4.cell (p := ⟨ab, ao + k * 7 + 2, none⟩) HE.out.2).trans (HE.out.1 2 _ rfl); have y2 : w4.cell? ⟨yb, yo + q * 7 + 2, none⟩ = some (.int .i64 y.place) := (hb4.cell (p := ⟨yb, yo + q * 7 + 2, none⟩) HY.out.2.2).trans HY.out.2.1))
              go_quiet (fail)
              go_wp2_with (at_builtin; refine wp_app (enc := encR) encR_len row_one rfl (.tmp 63) (.tmp 66) 88 rfl 146 zeroR 56 Try.underlying88 Try.infoRow rfl (by decide) wo.heap.size _ (q + 1) _ _ (by rfl) (ho4.drewN _) _ (m - (q)) _ _ (by rfl) ((HF.out.2.2.1.below hb4).drewN _) (m + 1) (by omega) _ (rfl) (by omega) (by omega) (hb4.size) ?_; intro A5 c5 w5 ho5 hg5 _; have hb5 := Below.grown (h := hb4.trans (below_dN _)) hg5 hb4.size (own_block_ge ho4))
              go_roundw
              case rel => exact ⟨k + 1, m + 1, A5, c5, by omega, by go_num, rfl, by omega, by rw [take_succ_of _ _ _ HRR.out, HF.out.1]; simpa using ho5.lower HF.out.2.2.2.size, HF.out.2.2.2.trans (hb5.mono HF.out.2.2.2.size)⟩
              case measure => simp [intOf]; omega
        · have hlaw := endsP_miss (l.take k) r q HC.out (fun z hz => by rw [List.getElem?_eq_none (by have := HL.out; omega)] at hz; cases hz)
          obtain ⟨i0, hi, hz0, hz1, hz2⟩ := info_parts Try.infoRow
          have hcc := hO.cap
          have hcut := cut_to (P := Try.prog) 88 146 .i64 Try.underlying88 hi A' m c' q hq hcc
          obtain ⟨AX, hcut3, hrd2⟩ := cut_from (P := Try.prog) 88 146 .i64 Try.underlying88 hi hz1 A' m c' (q) (by omega) hcc
          have hcut2 : ∀ W : World, (Instr.slice 88 (.slice A' m c') (some (.int .i64 ((q : Int)))) none none).run Try.prog W = .ok (.slice AX (m - (q)) (c' - (q))) W := hcut3
          have hr1 := Rd.take (hO.rd encR_len) hq
          have hr2 := hrd2 _ _ _ _ (hO.rd encR_len)
          have HF := Lib.hid (And.intro hlaw (And.intro hr1 (And.intro hr2 hB)))
          clear hlaw hr1 hr2 hrd2 hO hB hcc hz0 hz1 hz2 hi hcut3
          go_wp2
          go_quiet (fail)
          go_wp2_with (first
            | (at_builtin; refine wp_app (enc := encR) encR_len row_one rfl (.tmp 32) (.tmp 35) 88 rfl 146 zeroR 56 Try.underlying88 Try.infoRow rfl (by decide) wo.heap.size none 0 0 [] (by rfl) (OwnL.nil _ _) _ q _ _ (by rfl) (HF.out.2.1.drewN _) q (by omega) _ (by rw [List.nil_append]) (by omega) (by omega) (Nat.le_refl _) ?_; intro A3 c3 w3 ho3 hg3 _; have hb3 : Below wo.heap.size wo w3 := Below.grown (h := below_dN _) hg3 (Nat.le_refl _) (by simp [Value.ownBlock]); have c0 : w3.cell? ⟨ab, ao + k * 7, none⟩ = some (.int .i64 r.tick) := (hb3.cell (p := ⟨ab, ao + k * 7, none⟩) HE.out.2).trans (HE.out.1 0 _ rfl); have c1 : w3.cell? ⟨ab, ao + k * 7 + 1, none⟩ = some (.int .i64 r.kind) := (hb3.cell (p := ⟨ab, ao + k * 7 + 1, none⟩) HE.out.2).trans (HE.out.1 1 _ rfl); have c2 : w3.cell? ⟨ab, ao + k * 7 + 2, none⟩ = some (.int .i64 r.place) := (hb3.cell (p := ⟨ab, ao + k * 7 + 2, none⟩) HE.out.2).trans (HE.out.1 2 _ rfl); have c3 : w3.cell? ⟨ab, ao + k * 7 + 3, none⟩ = some (.int .i64 r.epoch) := (hb3.cell (p := ⟨ab, ao + k * 7 + 3, none⟩) HE.out.2).trans (HE.out.1 3 _ rfl); have c4 : w3.cell? ⟨ab, ao + k * 7 + 4, none⟩ = some (.int .i64 r.inc) := (hb3.cell (p := ⟨ab, ao + k * 7 + 4, none⟩) HE.out.2).trans (HE.out.1 4 _ rfl); have c5 : w3.cell? ⟨ab, ao + k * 7 + 5, none⟩ = some (.int .i64 r.job) := (hb3.cell (p := ⟨ab, ao + k * 7 + 5, none⟩) HE.out.2).trans (HE.out.1 5 _ rfl); have c6 : w3.cell? ⟨ab, ao + k * 7 + 6, none⟩ = some (.int .i64 r.code) := (hb3.cell (p := ⟨ab, ao + k * 7 + 6, none⟩) HE.out.2).trans (HE.out.1 6 _ rfl))
            | (at_builtin; refine wp_app (enc := encR) encR_len row_one rfl (.tmp 37) (.tmp 42) 88 rfl 146 zeroR 56 Try.underlying88 Try.infoRow rfl (by decide) wo.heap.size _ q _ _ (by rfl) (ho3.alloc _) _ 1 _ [r] (by rfl) (Rd.new1_at _ r _ _ _ w3.heap.size rfl rfl) (q + 1) (by omega) _ (rfl) (by omega) (by omega) (by have := hb3.size; simp; omega) ?_; intro A4 c4 w4 ho4 hg4 _; have hb4 := (hb3.alloc hb3.size _).grown hg4 (by have := hb3.size; simp; omega) (own_block_ge ho3); have d2 : w4.cell? ⟨ab, ao + k * 7 + 2, none⟩ = some (.int .i64 r.place) := (hb4.cell (p := ⟨ab, ao + k * 7 + 2, none⟩) HE.out.2).trans (HE.out.1 2 _ rfl)))
          go_quiet (fail)
          go_wp2_with (at_builtin; refine wp_app (enc := encR) encR_len row_one rfl (.tmp 63) (.tmp 66) 88 rfl 146 zeroR 56 Try.underlying88 Try.infoRow rfl (by decide) wo.heap.size _ (q + 1) _ _ (by rfl) (ho4.drewN _) _ (m - (q)) _ _ (by rfl) ((HF.out.2.2.1.below hb4).drewN _) (m + 1) (by omega) _ (rfl) (by omega) (by omega) (hb4.size) ?_; intro A5 c5 w5 ho5 hg5 _; have hb5 := Below.grown (h := hb4.trans (below_dN _)) hg5 hb4.size (own_block_ge ho4))
          go_roundw
          case rel => exact ⟨k + 1, m + 1, A5, c5, by omega, by go_num, rfl, by omega, by rw [take_succ_of _ _ _ HRR.out, HF.out.1]; simpa using ho5.lower HF.out.2.2.2.size, HF.out.2.2.2.trans (hb5.mono HF.out.2.2.2.size)⟩
          case measure => simp [intOf]; omega
    · have hkn : k = n := by omega
      subst hkn
      have hl : l.take k = l := List.take_of_length_le (by have := Hh.out.len; omega)
      rw [hl] at hO
      go_wp2
      go_ret
      exact ⟨A', m, c', rfl, hO, hB⟩

end Go.Proofs.Ytaajlegdcgfcgaa
