/-
  LAYER 45: the reference: Begun.
-/
import Derived.Test.YtaajlegdcgfcgaaRef45c
import Derived.Test.YtaajlegdcgfcgaaObj
set_option linter.unusedVariables false
set_option linter.unusedSimpArgs false
namespace Go.Proofs.Ytaajlegdcgfcgaa
open Go.RowKit Go.Maps

theorem OwnL.frozen {α : Type} {enc : α → List Value} {e : TypeId} {sz : Nat} {w : World} {base n c : Nat} {A : Option Addr} {l : List α} (h : OwnL enc e sz w base A n c l) {g o : Nat} (hA : A = some ⟨g, o, none⟩) (i : Nat) : w.frozen? ⟨g, i, none⟩ = false := by
  subst hA
  rcases h.own.2 with ⟨hv, h0⟩ | ⟨g', cap, cur, hv, hg, hh, _⟩
  · cases hv
  · cases hv
    simp [World.frozen?, hh]

set_option maxRecDepth 100000 in
set_option maxHeartbeats 3200000 in
theorem rBegun_t (A : Option Addr) (n c : Nat) (l : List LRow) (w : World) (h : Rd encR 7 w A n l) (hn : n ≤ 100000) :
    Calls Try.prog 54 #[.slice A n c] w fun e w' => ∃ A' n' c', e = .returned (.slice A' n' c') ∧ OwnL encP 148 2 w' w.heap.size A' n' c' (begunP ((l.filter (fun r : LRow => r.kind == 4)).map (·.job))) ∧ Below w.heap.size w w' := by
  have Hh := Lib.hid h
  clear h
  go_enter Try.func54, Try.ntmps54
  go_wp2
  go_loopw [3, 4] (fun v i wr => ∃ (k m : Nat) (A' : Option Addr) (c' : Nat) (js : List Int), k ≤ n ∧ i = .int .i64 k ∧ v = .slice A' m c' ∧ m ≤ k ∧ Hid (js = ((l.take k).filter (fun r : LRow => r.kind == 4)).map (·.job)) ∧ OwnL encP 148 2 wr w.heap.size A' m c' (begunP js) ∧ Below w.heap.size w wr) (fun _ i _ => n - (intOf i).toNat)
  case atStart => exact ⟨0, 0, none, 0, [], Nat.zero_le _, rfl, rfl, Nat.le_refl _, Lib.hid rfl, OwnL.nil _ _, Below.refl _ _⟩
  case round =>
    obtain ⟨k, m, A', c', js, hk, rfl, rfl, hmk, HJ, hO, hB⟩ := hrel
    by_cases hlt : k < n
    · obtain ⟨ab, ao, r, rfl, hrr, hal, hcells⟩ := Hh.out.at_ hlt
      have hc1 : wr.cell? ⟨ab, ao + k * 7 + 1, none⟩ = some (.int .i64 r.kind) := (hB.cell (p := ⟨ab, ao + k * 7 + 1, none⟩) hal).trans (hcells 1 _ rfl)
      have hc5 : wr.cell? ⟨ab, ao + k * 7 + 5, none⟩ = some (.int .i64 r.job) := (hB.cell (p := ⟨ab, ao + k * 7 + 5, none⟩) hal).trans (hcells 5 _ rfl)
      have hw5 := hcells 5 _ rfl
      have H5 := Lib.hid hw5
      clear hcells hw5
      have htk := take_succ_of _ _ _ hrr
      by_cases hp : (r.kind == 4) = true
      · have hne : (r.kind != 4) = false := by simpa using hp
        have HS := Lib.hid (show js ++ [r.job] = ((l.take (k + 1)).filter (fun r : LRow => r.kind == 4)).map (·.job) by rw [htk, filter_snoc_pos (fun r : LRow => r.kind == 4) _ _ hp, List.map_append, HJ.out]; rfl)
        clear htk hrr hp
        have hlen : m = (begunP js).length := hO.len.symm
        have HL := Lib.hid hlen
        clear hlen
        go_wp2
        obtain ⟨wo, rfl⟩ : ∃ wo : World, wo = wr := ⟨_, rfl⟩
        go_loopw [5] (fun j wq => ∃ q d : Nat, q ≤ m ∧ j = .int .i64 q ∧ Hid (∀ y ∈ (begunP js).take q, y.job < r.job) ∧ wq = wo.drewN d) (fun j _ => m - (intOf j).toNat)
        case atStart => exact ⟨0, 0, Nat.zero_le _, rfl, Lib.hid (by simp), rfl⟩
        case round =>
          obtain ⟨q, d, hq, rfl, HC, rfl⟩ := hrel
          by_cases hqm : q < m
          · obtain ⟨yb, yo, y, hA', hy, _, hycells⟩ := (hO.rd encP_len).at_ hqm
            subst hA'
            have hy0 : wo.cell? ⟨yb, yo + q * 2, none⟩ = some (.int .i64 y.job) := hycells 0 _ rfl
            have hy1 : wo.cell? ⟨yb, yo + q * 2 + 1, none⟩ = some (.int .i64 y.code) := hycells 1 _ rfl
            have HY := Lib.hid hy
            clear hycells hy
            by_cases hyl : y.job < r.job
            · have hd1 : decide (y.job < r.job) = true := decide_eq_true hyl
              clear hc1
              go_wp2
              go_quiet (fail)
              go_wp2
              go_roundw
              case rel =>
                refine ⟨q + 1, d + nq, by omega, by go_num, Lib.hid ?_, by first | rfl | exact World.drewN_drewN ..⟩
                rw [take_succ_of _ _ _ HY.out]
                intro z hz
                rcases List.mem_append.1 hz with hz | hz
                · exact HC.out z hz
                · rw [List.mem_singleton.1 hz]; exact hyl
              case measure => simp [intOf]; omega
            · have hd1 : decide (y.job < r.job) = false := decide_eq_false hyl
              by_cases hye : y.job = r.job
              · have hd2 : (y.job == r.job) = true := by simp [hye]
                have hjl : js.length ≤ k := by
                  rw [HJ.out, List.length_map]
                  have h1 := List.length_filter_le (fun r : LRow => r.kind == 4) (l.take k)
                  rw [List.length_take] at h1
                  omega
                have hyb : 0 ≤ y.code ∧ y.code ≤ 100000 := by
                  have h1 := HY.out
                  rw [begunP_at] at h1
                  obtain ⟨z, _, rfl⟩ := Option.map_eq_some_iff.1 h1
                  have := cntI_le js z
                  show 0 ≤ cntI js z ∧ cntI js z ≤ 100000
                  omega
                have hfz : wo.frozen? ⟨yb, yo + q * 2 + 1, none⟩ = false := hO.frozen rfl _
                have hset : ∀ dd, OwnL encP 148 2 ((wo.drewN dd).setCell ⟨yb, yo + q * 2 + 1, none⟩ (.int .i64 (y.code + 1))) w.heap.size (some ⟨yb, yo, none⟩) m c' (begunP (js ++ [r.job])) := by
                  intro dd
                  rw [begunP_hit js r.job q y HY.out hye]
                  exact (hO.drewN dd).set_ encP_len rfl (j := 1) (y := ⟨r.job, y.code + 1⟩) HY.out (by omega) (by simp [encP, hye])
                have hbl : ∀ dd, Below w.heap.size w ((wo.drewN dd).setCell ⟨yb, yo + q * 2 + 1, none⟩ (.int .i64 (y.code + 1))) := fun dd =>
                  (show Below w.heap.size w (wo.drewN dd) from hB.trans ⟨rfl, rfl, rfl, Nat.le_refl _, fun _ _ => rfl⟩).setCell (p := ⟨yb, yo + q * 2 + 1, none⟩) ((hO.at_base _ rfl).1) _
                have HF := Lib.hid (And.intro hset hbl)
                clear hset hbl hO hB hyl hye hjl hc1
                go_wp2
                go_quiet (fail)
                go_wp2
                go_quiet (fail)
                go_wp2
                go_roundw
                case rel => exact ⟨k + 1, m, _, c', js ++ [r.job], by omega, by go_num, rfl, by omega, HS, HF.out.1 _, HF.out.2 _⟩
                case measure => simp [intOf]; omega
              · have hd2 : (y.job == r.job) = false := by simp [hye]
                have hmiss := begunP_miss js r.job q HC.out (fun z hz => by rw [HY.out] at hz; cases hz; omega)
                obtain ⟨i0, hi, hz0, hz1, hz2⟩ := info_parts Try.infoReply
                have hcc := hO.cap
                have hcut := cut_to (P := Try.prog) 97 148 .i64 Try.underlying97 hi (some ⟨yb, yo, none⟩) m c' q hq hcc
                obtain ⟨AX, hcut2, hrd2⟩ := cut_from (P := Try.prog) 97 148 .i64 Try.underlying97 hi hz1 (some ⟨yb, yo, none⟩) m c' q hq hcc
                have hr1 := Rd.take (hO.rd encP_len) hq
                have hr2 := hrd2 _ _ _ _ (hO.rd encP_len)
                have HF := Lib.hid (And.intro hmiss (And.intro hr1 (And.intro hr2 hB)))
                clear hmiss hr1 hr2 hrd2 hO hB hcc hc1 hz0 hz1 hz2 hi hyl hye
                go_wp2
                go_quiet (fail)
                go_wp2
                go_quiet (fail)
                go_wp2_with (first
                  | (at_builtin; refine wp_app (enc := encP) encP_len reply_one rfl (.tmp 65) (.tmp 68) 97 rfl 148 _ 16 Try.underlying97 Try.infoReply rfl (by decide) wo.heap.size none 0 0 [] rfl (OwnL.nil _ _) _ q _ _ rfl (HF.out.2.1.drewN _) q (by omega) _ (by rw [List.nil_append]) (by omega) (by omega) (Nat.le_refl _) ?_; intro A3 c3 w3 ho3 hg3 _; have hb3 : Below wo.heap.size wo w3 := Below.grown (h := below_dN _) hg3 (Nat.le_refl _) (by simp [Value.ownBlock]); have d5 : w3.cell? ⟨ab, ao + k * 7 + 5, none⟩ = some (.int .i64 r.job) := ((HF.out.2.2.2.trans (hb3.mono HF.out.2.2.2.size)).cell (p := ⟨ab, ao + k * 7 + 5, none⟩) hal).trans H5.out)
                  | (at_builtin; refine wp_app (enc := encP) encP_len reply_one rfl (.tmp 70) (.tmp 77) 97 rfl 148 _ 16 Try.underlying97 Try.infoReply rfl (by decide) wo.heap.size _ q _ _ rfl (ho3.alloc _) _ 1 _ [(⟨r.job, 1⟩ : LRep)] (by rfl) (Rd.new1_at _ (⟨r.job, 1⟩ : LRep) _ _ _ w3.heap.size rfl rfl) (q + 1) rfl _ rfl (by omega) (by omega) (by have := hb3.size; simp; omega) ?_; intro A4 c4 w4 ho4 hg4 _; have hb4 := (hb3.alloc hb3.size _).grown hg4 (by have := hb3.size; simp; omega) (own_block_ge ho3))
                  | (at_builtin; refine wp_app (enc := encP) encP_len reply_one rfl (.tmp 79) (.tmp 82) 97 rfl 148 _ 16 Try.underlying97 Try.infoReply rfl (by decide) wo.heap.size _ (q + 1) _ _ rfl ho4 _ (m - q) _ _ rfl (HF.out.2.2.1.below hb4) (m + 1) (by omega) _ rfl (by omega) (by omega) hb4.size ?_; intro A5 c5 w5 ho5 hg5 _; have hb5 := hb4.grown hg5 hb4.size (own_block_ge ho4)))
                go_roundw
                case rel => exact ⟨k + 1, m + 1, A5, c5, js ++ [r.job], by omega, by go_num, rfl, by omega, HS, by rw [HF.out.1]; exact ho5.lower HF.out.2.2.2.size, HF.out.2.2.2.trans (hb5.mono HF.out.2.2.2.size)⟩
                case measure => simp [intOf]; omega
          · have hmiss := begunP_miss js r.job q HC.out (fun z hz => by rw [List.getElem?_eq_none (by have := HL.out; omega)] at hz; cases hz)
            obtain ⟨i0, hi, hz0, hz1, hz2⟩ := info_parts Try.infoReply
            have hcc := hO.cap
            have hcut := cut_to (P := Try.prog) 97 148 .i64 Try.underlying97 hi A' m c' q hq hcc
            obtain ⟨AX, hcut2, hrd2⟩ := cut_from (P := Try.prog) 97 148 .i64 Try.underlying97 hi hz1 A' m c' q hq hcc
            have hr1 := Rd.take (hO.rd encP_len) hq
            have hr2 := hrd2 _ _ _ _ (hO.rd encP_len)
            have HF := Lib.hid (And.intro hmiss (And.intro hr1 (And.intro hr2 hB)))
            clear hmiss hr1 hr2 hrd2 hO hB hcc hc1 hz0 hz1 hz2 hi 
            go_wp2
            go_quiet (fail)
            go_wp2
            go_quiet (fail)
            go_wp2_with (first
              | (at_builtin; refine wp_app (enc := encP) encP_len reply_one rfl (.tmp 65) (.tmp 68) 97 rfl 148 _ 16 Try.underlying97 Try.infoReply rfl (by decide) wo.heap.size none 0 0 [] rfl (OwnL.nil _ _) _ q _ _ rfl (HF.out.2.1.drewN _) q (by omega) _ (by rw [List.nil_append]) (by omega) (by omega) (Nat.le_refl _) ?_; intro A3 c3 w3 ho3 hg3 _; have hb3 : Below wo.heap.size wo w3 := Below.grown (h := below_dN _) hg3 (Nat.le_refl _) (by simp [Value.ownBlock]); have d5 : w3.cell? ⟨ab, ao + k * 7 + 5, none⟩ = some (.int .i64 r.job) := ((HF.out.2.2.2.trans (hb3.mono HF.out.2.2.2.size)).cell (p := ⟨ab, ao + k * 7 + 5, none⟩) hal).trans H5.out)
              | (at_builtin; refine wp_app (enc := encP) encP_len reply_one rfl (.tmp 70) (.tmp 77) 97 rfl 148 _ 16 Try.underlying97 Try.infoReply rfl (by decide) wo.heap.size _ q _ _ rfl (ho3.alloc _) _ 1 _ [(⟨r.job, 1⟩ : LRep)] (by rfl) (Rd.new1_at _ (⟨r.job, 1⟩ : LRep) _ _ _ w3.heap.size rfl rfl) (q + 1) rfl _ rfl (by omega) (by omega) (by have := hb3.size; simp; omega) ?_; intro A4 c4 w4 ho4 hg4 _; have hb4 := (hb3.alloc hb3.size _).grown hg4 (by have := hb3.size; simp; omega) (own_block_ge ho3))
              | (at_builtin; refine wp_app (enc := encP) encP_len reply_one rfl (.tmp 79) (.tmp 82) 97 rfl 148 _ 16 Try.underlying97 Try.infoReply rfl (by decide) wo.heap.size _ (q + 1) _ _ rfl ho4 _ (m - q) _ _ rfl (HF.out.2.2.1.below hb4) (m + 1) (by omega) _ rfl (by omega) (by omega) hb4.size ?_; intro A5 c5 w5 ho5 hg5 _; have hb5 := hb4.grown hg5 hb4.size (own_block_ge ho4)))
            go_roundw
            case rel => exact ⟨k + 1, m + 1, A5, c5, js ++ [r.job], by omega, by go_num, rfl, by omega, HS, by rw [HF.out.1]; exact ho5.lower HF.out.2.2.2.size, HF.out.2.2.2.trans (hb5.mono HF.out.2.2.2.size)⟩
            case measure => simp [intOf]; omega
      · have hne : (r.kind != 4) = true := by simpa using hp
        have hpf : (r.kind == 4) = false := by simpa using hp
        have HS := Lib.hid (show js = ((l.take (k + 1)).filter (fun r : LRow => r.kind == 4)).map (·.job) by rw [htk, filter_snoc_neg (fun r : LRow => r.kind == 4) _ _ hpf]; exact HJ.out)
        clear htk hrr hp hpf
        go_wp2
        go_roundw
        case rel => exact ⟨k + 1, m, A', c', js, by omega, by go_num, rfl, by omega, HS, hO, hB⟩
        case measure => simp [intOf]; omega
    · have hkn : k = n := by omega
      subst hkn
      have hl : l.take k = l := List.take_of_length_le (by have := Hh.out.len; omega)
      have hjs := HJ.out
      rw [hl] at hjs
      subst hjs
      go_wp2
      go_ret
      exact ⟨A', m, c', rfl, hO, hB⟩

end Go.Proofs.Ytaajlegdcgfcgaa
