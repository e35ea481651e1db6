/-
  LAYER 45 (ledger): the law LedgerChecks.
-/
import Derived.Test.YtaajlegdcgfcgaaLedger8
import Derived.Test.YtaajlegdcgfcgaaLedger9
import Derived.Test.YtaajlegdcgfcgaaRef45b
import Derived.Test.YtaajlegdcgfcgaaRef45f
import Derived.Test.YtaajlegdcgfcgaaRef45i
set_option linter.unusedVariables false
set_option linter.unusedSimpArgs false
namespace Go.Proofs.Ytaajlegdcgfcgaa
open Go.RowKit Go.Maps

theorem rcheck_eq (A : Option Addr) (n c : Nat) (l : List LRow) (w : World) (h : Rd encR 7 w A n l) (hn : n ≤ 100000) (hnc : n ≤ c) (k : Nat) (e : Int) (hk : checkR 0 [] l = (k, e)) :
    Calls Try.prog 47 #[.slice A n c] w fun e' w' => e' = .returned (.tuple #[.int .i64 (k : Int), .int .i64 e]) ∧ Below w.heap.size w w' := by
  have := rCheck_t A n c l w h hn hnc
  rw [hk] at this
  exact this
theorem encI_len (x : Int) : (encI x).length = 1 := rfl
theorem len_f1 (l : List LRow) : ((l.filter (fun r : LRow => r.kind == 1)).map (·.place)).length ≤ l.length := by rw [List.length_map]; exact List.length_filter_le _ _
theorem len_f3 (l : List LRow) : ((l.filter (fun r : LRow => r.kind == 3)).map toldP).length ≤ l.length := by rw [List.length_map]; exact List.length_filter_le _ _
theorem len_bg (l : List LRow) : (begunP ((l.filter (fun r : LRow => r.kind == 4)).map (·.job))).length ≤ l.length := by
  rw [begunP_len]
  have h1 := (length_markAll_le [] ((l.filter (fun r : LRow => r.kind == 4)).map (·.job))).2
  rw [List.length_map] at h1
  have h2 := List.length_filter_le (fun r : LRow => r.kind == 4) l
  simp only [List.length_nil] at h1
  omega
theorem len_en (l : List LRow) : (endsP l).length ≤ l.length := by
  rw [endsP_len]
  have h1 := (length_markAll_le [] (l.map (·.place))).2
  rw [List.length_map] at h1
  simp only [List.length_nil] at h1
  omega

set_option maxRecDepth 100000 in
set_option maxHeartbeats 3200000 in
theorem checks45 (A : Option Addr) (n c : Nat) (l : List LRow) (w : World) (h : Rd encR 7 w A n l) (hw : ∀ r ∈ l, wfR r) (hnc : n ≤ c) :
    Calls Try.prog 10 #[.slice A n c] w fun e w' => e = .returned (.bool true) ∧ Below w.heap.size w w' := by
  by_cases hb1 : 60 < n
  · go_enter Try.func10, Try.ntmps10
    go_wp2_with (go_at_call 45; with_reducible refine (awake45 _).mono ?_; rintro e w' ⟨rfl, hb⟩)
    go_ret
    exact ⟨rfl, hb⟩
  have hn : n ≤ 60 := by omega
  clear hb1
  obtain ⟨k, z, hkz⟩ : ∃ k z, checkL 0 LSt.zero l = (k, z) := ⟨_, _, rfl⟩
  have HK := Lib.hid hkz
  have HH := Lib.hid (And.intro h hw)
  have hkk : (((k : Nat) : Int) == ((k : Nat) : Int)) = true := beq_self_eq_true _
  have hzz : (z == z) = true := beq_self_eq_true _
  clear hkz h hw
  go_enter Try.func10, Try.ntmps10
  go_wp2_with fail
  have hcx := check_eq A n c l w HH.out.1 HH.out.2 (by omega) k z HK.out
  (with_reducible refine hcx.mono ?_)
  clear hcx
  rintro e w1 ⟨rfl, hB1⟩
  have HB1 := Lib.hid hB1
  clear hB1
  go_wp2_with fail
  have hcx := rcheck_eq A n c l w1 (HH.out.1.below HB1.out) (by omega) hnc k z (by rw [← checkL_eq l 0 [] LSt.zero CInv.start]; exact HK.out)
  (with_reducible refine hcx.mono ?_)
  clear hcx
  rintro e w2 ⟨rfl, hB2⟩
  have HB2 := Lib.hid (HB1.out.trans (hB2.mono HB1.out.size))
  clear hB2
  go_wp2_with fail
  have hcx := epochs_t A n c l w2 (HH.out.1.below HB2.out) (by omega)
  (with_reducible refine hcx.mono ?_)
  clear hcx
  rintro e w3 ⟨A3, n3, c3, rfl, hO3, hB3⟩
  have HB3 := Lib.hid (HB2.out.trans (hB3.mono HB2.out.size))
  clear hB3
  go_wp2_with fail
  have hcx := rEpochs_t A n c l w3 (HH.out.1.below HB3.out) (by omega)
  (with_reducible refine hcx.mono ?_)
  clear hcx
  rintro e w4 ⟨A4, n4, c4, rfl, hO4, hB4⟩
  have hr3 := hO3.rd encI_len
  have hr3 := Rd.below hr3 hB4
  have HB4 := Lib.hid (HB3.out.trans (hB4.mono HB3.out.size))
  clear hB4
  have hr4 := hO4.rd encI_len
  have hl3 : n3 ≤ 100000 := by have h1 := hr3.len; have h2 := HH.out.1.len; have h3 := len_f1 l; omega
  have hl4 : n4 ≤ 100000 := by have h1 := hr4.len; have h2 := HH.out.1.len; have h3 := len_f1 l; omega
  have HP3 := Lib.hid (And.intro hr3 hr4)
  clear hr3 hr4 hO3 hO4
  go_wp2_with fail
  have hcx := same01_t A3 A4 n3 c3 n4 c4 _ w4 HP3.out.1 HP3.out.2 (by omega) (by omega)
  (with_reducible refine hcx.mono ?_)
  clear hcx
  rintro e w5 ⟨rfl, q5, rfl⟩
  have HB5 := Lib.hid (HB4.out.trans (below_dN q5))
  generalize w4.drewN q5 = w5 at HB5 ⊢
  clear HP3
  go_wp2_with fail
  have hcx := told_t A n c l w5 (HH.out.1.below HB5.out) (by omega)
  (with_reducible refine hcx.mono ?_)
  clear hcx
  rintro e w6 ⟨A6, n6, c6, rfl, hO6, hB6⟩
  have HB6 := Lib.hid (HB5.out.trans (hB6.mono HB5.out.size))
  clear hB6
  go_wp2_with fail
  have hcx := rTold_t A n c l w6 (HH.out.1.below HB6.out) (by omega)
  (with_reducible refine hcx.mono ?_)
  clear hcx
  rintro e w7 ⟨A7, n7, c7, rfl, hO7, hB7⟩
  have hr6 := hO6.rd encP_len
  have hr6 := Rd.below hr6 hB7
  have HB7 := Lib.hid (HB6.out.trans (hB7.mono HB6.out.size))
  clear hB7
  have hr7 := hO7.rd encP_len
  have hl6 : n6 ≤ 100000 := by have h1 := hr6.len; have h2 := HH.out.1.len; have h3 := len_f3 l; omega
  have hl7 : n7 ≤ 100000 := by have h1 := hr7.len; have h2 := HH.out.1.len; have h3 := len_f3 l; omega
  have HP6 := Lib.hid (And.intro hr6 hr7)
  clear hr6 hr7 hO6 hO7
  go_wp2_with fail
  have hcx := same41_t A6 A7 n6 c6 n7 c7 _ w7 HP6.out.1 HP6.out.2 (by omega)
  (with_reducible refine hcx.mono ?_)
  clear hcx
  rintro e w8 ⟨rfl, q8, rfl⟩
  have HB8 := Lib.hid (HB7.out.trans (below_dN q8))
  generalize w7.drewN q8 = w8 at HB8 ⊢
  clear HP6
  go_wp2_with fail
  have hcx := begun_t A n c l w8 (HH.out.1.below HB8.out) HH.out.2 (by omega)
  (with_reducible refine hcx.mono ?_)
  clear hcx
  rintro e w9 ⟨A9, n9, c9, rfl, hO9, hB9⟩
  have HB9 := Lib.hid (HB8.out.trans (hB9.mono HB8.out.size))
  clear hB9
  go_wp2_with fail
  have hcx := rBegun_t A n c l w9 (HH.out.1.below HB9.out) (by omega)
  (with_reducible refine hcx.mono ?_)
  clear hcx
  rintro e w10 ⟨A10, n10, c10, rfl, hO10, hB10⟩
  have hr9 := hO9.rd encP_len
  have hr9 := Rd.below hr9 hB10
  have HB10 := Lib.hid (HB9.out.trans (hB10.mono HB9.out.size))
  clear hB10
  have hr10 := hO10.rd encP_len
  have hl9 : n9 ≤ 100000 := by have h1 := hr9.len; have h2 := HH.out.1.len; have h3 := len_bg l; omega
  have hl10 : n10 ≤ 100000 := by have h1 := hr10.len; have h2 := HH.out.1.len; have h3 := len_bg l; omega
  have HP9 := Lib.hid (And.intro hr9 hr10)
  clear hr9 hr10 hO9 hO10
  go_wp2_with fail
  have hcx := same41_t A9 A10 n9 c9 n10 c10 _ w10 HP9.out.1 HP9.out.2 (by omega)
  (with_reducible refine hcx.mono ?_)
  clear hcx
  rintro e w11 ⟨rfl, q11, rfl⟩
  have HB11 := Lib.hid (HB10.out.trans (below_dN q11))
  generalize w10.drewN q11 = w11 at HB11 ⊢
  clear HP9
  go_wp2_with fail
  have hcx := ends_t A n c l w11 (HH.out.1.below HB11.out) HH.out.2 (by omega)
  (with_reducible refine hcx.mono ?_)
  clear hcx
  rintro e w12 ⟨A12, n12, c12, rfl, hO12, hB12⟩
  have HB12 := Lib.hid (HB11.out.trans (hB12.mono HB11.out.size))
  clear hB12
  go_wp2_with fail
  have hcx := rEnds_t A n c l w12 (HH.out.1.below HB12.out) (by omega)
  (with_reducible refine hcx.mono ?_)
  clear hcx
  rintro e w13 ⟨A13, n13, c13, rfl, hO13, hB13⟩
  have hr12 := hO12.rd encR_len
  have hr12 := Rd.below hr12 hB13
  have HB13 := Lib.hid (HB12.out.trans (hB13.mono HB12.out.size))
  clear hB13
  have hr13 := hO13.rd encR_len
  have hl12 : n12 ≤ 100000 := by have h1 := hr12.len; have h2 := HH.out.1.len; have h3 := len_en l; omega
  have hl13 : n13 ≤ 100000 := by have h1 := hr13.len; have h2 := HH.out.1.len; have h3 := len_en l; omega
  have HP12 := Lib.hid (And.intro hr12 hr13)
  clear hr12 hr13 hO12 hO13
  go_wp2_with fail
  have hcx := same43_t A12 A13 n12 c12 n13 c13 _ w13 HP12.out.1 HP12.out.2 (by omega)
  (with_reducible refine hcx.mono ?_)
  clear hcx
  rintro e w14 ⟨rfl, q14, rfl⟩
  have HB14 := Lib.hid (HB13.out.trans (below_dN q14))
  generalize w13.drewN q14 = w14 at HB14 ⊢
  clear HP12
  go_wp2_with (go_at_call 45; with_reducible refine (awake45 _).mono ?_; rintro e w' ⟨rfl, hb⟩)
  go_ret
  exact ⟨rfl, HB14.out.trans (hb.mono HB14.out.size)⟩

end Go.Proofs.Ytaajlegdcgfcgaa
