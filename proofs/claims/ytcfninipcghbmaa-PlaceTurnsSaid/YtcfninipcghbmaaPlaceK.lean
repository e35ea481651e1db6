/-
  REFERENCES: reeve/reeveref10.Jobs: put in order, one by one, by three appends.
  REFERENCES: reeve/reeveref27.All: put in order, one by one, by three appends.
-/
import Derived.Test.YtcfninipcghbmaaPlaceI
import Derived.Lib.QuietBelow
set_option linter.unusedVariables false
set_option linter.unusedSimpArgs false
namespace Go.Proofs.Ytcfninipcghbmaa
open Go.Shelf Go.RowKit Go.Sort

theorem Rd.cells_at {α : Type} {enc : α → List Value} {sz n ab ao k : Nat} {w : World} {l : List α} {x : α} (h : Rd enc sz w (some ⟨ab, ao, none⟩) n l) (hx : l[k]? = some x) : ∀ j v, (enc x)[j]? = some v → w.cell? ⟨ab, ao + k * sz + j, none⟩ = some v := by
  have hk : k < n := by rw [← h.len]; exact (List.getElem?_eq_some_iff.1 hx).1
  obtain ⟨ab', ao', x', e, hx', _, hc⟩ := h.at_ hk
  injection e with e
  injection e with e1 e2
  subst e1 e2
  rw [hx] at hx'
  cases hx'
  exact hc
theorem ins_at {α : Type} {lt : α → α → Bool} (o : Ord3 lt) {L : List α} (ha : Asc lt L) {x : α} {j : Nat} (hj : j ≤ L.length) (h2 : ∀ u ∈ L.drop j, lt x u = true) (h1 : ∀ y, 0 < j → L[j - 1]? = some y → lt x y = false) : sIns lt x L = L.take j ++ [x] ++ L.drop j := by
  have hs : sIns lt x (L.take j ++ L.drop j) = L.take j ++ x :: L.drop j := sIns_at (fun u hu => ?_) h2
  · rw [List.take_append_drop] at hs
    rw [hs, List.append_assoc]; rfl
  · obtain ⟨i, hi⟩ := List.mem_iff_getElem?.1 hu
    rw [List.getElem?_take] at hi
    split at hi
    · rename_i hij
      obtain ⟨y, hy⟩ : ∃ y, L[j - 1]? = some y := ⟨_, List.getElem?_eq_getElem (by omega)⟩
      exact o.nn (ha.le' o (show i ≤ j - 1 by omega) hi hy) (h1 y (by omega) hy)
    · cases hi

set_option maxRecDepth 100000 in
set_option maxHeartbeats 3200000 in
theorem refJobs_t (A : Option Addr) (n c : Nat) (l : List LJob) (w : World) (h : Rd encJob 8 w A n l) (hn : n ≤ 1000000) :
    Calls Try.prog 50 #[.slice A n c] w fun e w' => ∃ A' n' c', e = .returned (.slice A' n' c') ∧ n' ≤ n ∧ OwnL encJob 40 8 w' w.heap.size A' n' c' (ssort jobLt l) ∧ Below w.heap.size w w' := by
  obtain ⟨i0, hi, hz0, hz1, hz2⟩ := info_parts Try.infoJob
  have HH := Lib.hid h
  clear h
  go_enter Try.func50, Try.ntmps50
  go_wp2
  go_loopg [3, 4] (n + 1) (fun g1 v vi wr => ∃ (k q : Nat) (A' : Option Addr) (c' : Nat), vi = .int .i64 k ∧ k ≤ n ∧ v = .slice A' q c' ∧ q ≤ k ∧ n + 1 - k ≤ g1 ∧ OwnL encJob 40 8 wr w.heap.size A' q c' (ssort jobLt (l.take k)) ∧ Below w.heap.size w wr)
  case atStart => exact ⟨0, 0, none, 0, rfl, Nat.zero_le _, rfl, Nat.le_refl _, by omega, OwnL.nil _ _, Below.refl _ _⟩
  case round =>
    obtain ⟨k, q, A', c', rfl, hk, rfl, hqk, hg, hO, hBq⟩ := hrel
    by_cases hlt : k < n
    · obtain ⟨ab, ao, x, rfl, hxx, hal, hcells⟩ := (HH.out.below hBq).at_ hlt
      have tx : ssort jobLt (l.take (k + 1)) = sIns jobLt x (ssort jobLt (l.take k)) := by rw [take_succ_of _ _ _ hxx]; exact ssort_snoc _ _
      clear hcells
      obtain ⟨L, hL⟩ : ∃ L, ssort jobLt (l.take k) = L := ⟨_, rfl⟩
      have hasc : Asc jobLt L := by rw [← hL]; exact asc_ssort jobOrd _
      rw [hL] at hO tx
      have hc := hO.cap
      have HL := Lib.hid (And.intro tx (And.intro hasc hO.len))
      have HR := Lib.hid (And.intro hO (And.intro hBq hxx))
      clear hO tx hasc hL hBq hxx
      obtain ⟨wp, rfl⟩ : ∃ wp : World, wp = wr := ⟨_, rfl⟩
      go_wp2
      go_loopg [5] (q + 1) (fun g2 vj wr => ∃ j : Nat, vj = .int .i64 j ∧ j ≤ q ∧ j ≤ g2 ∧ Hid (∀ u ∈ L.drop j, jobLt x u = true) ∧ Below wp.heap.size wp wr)
      case atStart => exact ⟨q, rfl, Nat.le_refl _, by omega, Lib.hid (by rw [List.drop_of_length_le (by have := HL.out.2.2; omega)]; simp), Below.refl _ _⟩
      case round =>
        obtain ⟨j, rfl, hjq, hg2, HC, hB2⟩ := hrel
        have hO2 := HR.out.1.below hB2
        have hBx := HR.out.2.1.trans (hB2.mono HR.out.2.1.size)
        by_cases hj0 : 0 < j
        · obtain ⟨i, hij⟩ : ∃ i, j = i + 1 := ⟨j - 1, by omega⟩
          obtain ⟨bb, bo, y, rfl, hyy, hbl, hyc⟩ := (hO2.rd Job_len).at_ (show i < q by omega)
          have hxc := (HH.out.below hBx).cells_at HR.out.2.2
          have x0 := cell_regrown (hxc 0 _ rfl)
          have x1 := cell_regrown (hxc 1 _ rfl)
          have x2 := cell_regrown (hxc 2 _ rfl)
          have x3 := cell_regrown (hxc 3 _ rfl)
          have x4 := cell_regrown (hxc 4 _ rfl)
          have x5 := cell_regrown (hxc 5 _ rfl)
          have x6 := cell_regrown (hxc 6 _ rfl)
          have x7 := cell_regrown (hxc 7 _ rfl)
          have y0 := cell_regrown (hyc 0 _ rfl)
          have y1 := cell_regrown (hyc 1 _ rfl)
          have y2 := cell_regrown (hyc 2 _ rfl)
          have y3 := cell_regrown (hyc 3 _ rfl)
          have y4 := cell_regrown (hyc 4 _ rfl)
          have y5 := cell_regrown (hyc 5 _ rfl)
          have y6 := cell_regrown (hyc 6 _ rfl)
          have y7 := cell_regrown (hyc 7 _ rfl)
          simp only [Nat.add_zero] at x0 y0
          have hcq := fun d os => Calls.regrown_of (refJob_t x y (grow (redrawn wr d) os))
          have hgt : (0 : Int) < (j : Int) := by omega
          have hij2 : (j : Int) - 1 = (i : Int) := by omega
          have wi : IntKind.i64.wrap ((j : Int) - 1) = (i : Int) := by rw [IntKind.wrap_i64, hij2]; omega
          have wi2 : wrap64 ((j : Int) - 1) = (i : Int) := by rw [hij2]; unfold wrap64; omega
          have hiq : i < q := by omega
          have HY := Lib.hid (And.intro hyy hij)
          have HO2 := Lib.hid (And.intro hO2 hBx)
          clear hyy hyc hxc hO2 hBx hij2 hij
          cases hb2 : jobLt x y
          · simp only [hb2] at hcq
            have HB := Lib.hid hb2
            clear hb2
            go_wp2
            refine wp_region_quiet_below (by kernel_rfl) (by kernel_rfl) ?_
            repeat (quiet_step (exact hcq _ _))
            refine wpQuiet_nil ?_
            intro _ hw'
            obtain ⟨⟨dq, osq⟩, hwq⟩ := hw'
            subst hwq
            have HK := Lib.hid (And.intro (HO2.out.1.below (below_regrown wr dq osq)) (HO2.out.2.trans ((below_regrown wr dq osq).mono HO2.out.2.size)))
            clear x0 x1 x2 x3 x4 x5 x6 x7 y0 y1 y2 y3 y4 y5 y6 y7 hcq
            clear hB2 HO2 wi wi2 hiq
            generalize grow (redrawn wr dq) osq = w3 at HK ⊢
            have hO3 := HK.out.1
            have hB3 := HK.out.2
            have hfin := ins_at jobOrd HL.out.2.1 (x := x) (j := j) (by have := HL.out.2.2; omega) HC.out (fun z hz0 hz => by rw [HY.out.2, Nat.add_sub_cancel, HY.out.1] at hz; cases hz; exact HB.out)
            have HF := Lib.hid (hfin.symm.trans HL.out.1.symm)
            have hcut := cut_to (P := Try.prog) 23 40 .i64 Try.underlying23 hi (some ⟨bb, bo, none⟩) q c' j hjq hc
            obtain ⟨A2, hcut2, hrd2⟩ := cut_from (P := Try.prog) 23 40 .i64 Try.underlying23 hi hz1 (some ⟨bb, bo, none⟩) q c' j hjq hc
            have hr1 := Rd.take (hO3.rd Job_len) hjq
            have hr2 := hrd2 _ _ _ _ (hO3.rd Job_len)
            clear hrd2 hfin hO3
            go_wp2_with (first
              | (at_builtin; refine wp_app (enc := encJob) Job_len Job_one rfl (.tmp 31) (.tmp 34) 23 rfl 40 _ 64 Try.underlying23 Try.infoJob rfl (by decide) w3.heap.size none 0 0 [] rfl (OwnL.nil _ _) _ j _ _ rfl hr1 j (by omega) _ (by rw [List.nil_append]) (by omega) (by omega) (Nat.le_refl _) ?_; intro A3 c3 w4 ho3 hg3 _; have hb3 := (Below.refl w3.heap.size w3).grown hg3 (Nat.le_refl _) (by simp [Value.ownBlock]); have hxc := ((HH.out.below hB3).below hb3).cells_at HR.out.2.2; have x0 := hxc 0 _ rfl; have x1 := hxc 1 _ rfl; have x2 := hxc 2 _ rfl; have x3 := hxc 3 _ rfl; have x4 := hxc 4 _ rfl; have x5 := hxc 5 _ rfl; have x6 := hxc 6 _ rfl; have x7 := hxc 7 _ rfl; simp only [Nat.add_zero] at x0; clear hxc)
              | (at_builtin; refine wp_app (enc := encJob) Job_len Job_one rfl (.tmp 36) (.tmp 41) 23 rfl 40 _ 64 Try.underlying23 Try.infoJob rfl (by decide) w3.heap.size _ j _ _ rfl (ho3.alloc _) _ 1 _ [x] (by rfl) (Rd.new1 _ x _ _ _ rfl) (j + 1) rfl _ rfl (by omega) (by omega) (by have := hb3.size; simp; omega) ?_; intro A4 c4 w5 ho4 hg4 _; have hb4 := (hb3.alloc hb3.size _).grown hg4 (by have := hb3.size; simp; omega) (own_block_ge ho3); clear x0 x1 x2 x3 x4 x5 x6 x7)
              | (at_builtin; refine wp_app (enc := encJob) Job_len Job_one rfl (.tmp 43) (.tmp 46) 23 rfl 40 _ 64 Try.underlying23 Try.infoJob rfl (by decide) w3.heap.size _ (j + 1) _ _ rfl ho4 _ (q - j) _ _ rfl (hr2.below hb4) (q + 1) (by omega) _ rfl (by omega) (by omega) (by have := hb4.size; omega) ?_; intro A5 c5 w6 ho5 hg5 _; have hb5 := hb4.grown hg5 (by have := hb4.size; omega) (own_block_ge ho4)))
            go_roundg (n + 1 - (k + 1))
            case measure => omega
            case rel =>
              rw [HF.out] at ho5
              exact ⟨k + 1, q + 1, A5, c5, by go_num, by omega, rfl, by omega, by omega, ho5.lower hB3.size, hB3.trans (hb5.mono hB3.size)⟩
          · simp only [hb2] at hcq
            have HB := Lib.hid hb2
            clear hb2
            go_wp2
            refine wp_region_quiet_below (by kernel_rfl) (by kernel_rfl) ?_
            repeat (quiet_step (exact hcq _ _))
            refine wpQuiet_nil ?_
            intro _ hw'
            obtain ⟨⟨dq, osq⟩, hwq⟩ := hw'
            subst hwq
            have HK := Lib.hid (hB2.trans ((below_regrown wr dq osq).mono hB2.size))
            clear x0 x1 x2 x3 x4 x5 x6 x7 y0 y1 y2 y3 y4 y5 y6 y7 hcq
            clear hB2 HO2
            generalize grow (redrawn wr dq) osq = w3 at HK ⊢
            go_wp2
            go_roundg i
            case measure => have := HY.out.2; omega
            case rel =>
              refine ⟨i, by first | rfl | (simp [wi]) | (simp [wi2]), by omega, Nat.le_refl _, Lib.hid (fun u hu => ?_), HK.out⟩
              rw [List.drop_eq_getElem_cons (by have := HL.out.2.2; omega)] at hu
              rcases List.mem_cons.1 hu with rfl | hu
              · obtain ⟨h1, h2⟩ := List.getElem?_eq_some_iff.1 HY.out.1
                rw [h2]; exact HB.out
              · exact HC.out u (by rw [HY.out.2]; exact hu)
        · have hgt : ¬ (0 : Int) < (j : Int) := by omega
          have hjz : decide ((j : Int) > 0) = false := decide_eq_false hgt
          have HO2 := Lib.hid (And.intro hO2 hBx)
          clear hO2 hBx
          go_wp2
          go_quiet (fail)
          have HK := Lib.hid (And.intro (HO2.out.1.below (below_dN nq)) (HO2.out.2.trans (below_dN nq)))
          clear hB2 HO2
          generalize wr.drewN nq = w3 at HK ⊢
          have hO3 := HK.out.1
          have hB3 := HK.out.2
          have hfin := ins_at jobOrd HL.out.2.1 (x := x) (j := j) (by have := HL.out.2.2; omega) HC.out (fun z hz0 hz => by omega)
          have HF := Lib.hid (hfin.symm.trans HL.out.1.symm)
          have hcut := cut_to (P := Try.prog) 23 40 .i64 Try.underlying23 hi A' q c' j hjq hc
          obtain ⟨A2, hcut2, hrd2⟩ := cut_from (P := Try.prog) 23 40 .i64 Try.underlying23 hi hz1 A' q c' j hjq hc
          have hr1 := Rd.take (hO3.rd Job_len) hjq
          have hr2 := hrd2 _ _ _ _ (hO3.rd Job_len)
          clear hrd2 hfin hO3
          go_wp2_with (first
            | (at_builtin; refine wp_app (enc := encJob) Job_len Job_one rfl (.tmp 31) (.tmp 34) 23 rfl 40 _ 64 Try.underlying23 Try.infoJob rfl (by decide) w3.heap.size none 0 0 [] rfl (OwnL.nil _ _) _ j _ _ rfl hr1 j (by omega) _ (by rw [List.nil_append]) (by omega) (by omega) (Nat.le_refl _) ?_; intro A3 c3 w4 ho3 hg3 _; have hb3 := (Below.refl w3.heap.size w3).grown hg3 (Nat.le_refl _) (by simp [Value.ownBlock]); have hxc := ((HH.out.below hB3).below hb3).cells_at HR.out.2.2; have x0 := hxc 0 _ rfl; have x1 := hxc 1 _ rfl; have x2 := hxc 2 _ rfl; have x3 := hxc 3 _ rfl; have x4 := hxc 4 _ rfl; have x5 := hxc 5 _ rfl; have x6 := hxc 6 _ rfl; have x7 := hxc 7 _ rfl; simp only [Nat.add_zero] at x0; clear hxc)
            | (at_builtin; refine wp_app (enc := encJob) Job_len Job_one rfl (.tmp 36) (.tmp 41) 23 rfl 40 _ 64 Try.underlying23 Try.infoJob rfl (by decide) w3.heap.size _ j _ _ rfl (ho3.alloc _) _ 1 _ [x] (by rfl) (Rd.new1 _ x _ _ _ rfl) (j + 1) rfl _ rfl (by omega) (by omega) (by have := hb3.size; simp; omega) ?_; intro A4 c4 w5 ho4 hg4 _; have hb4 := (hb3.alloc hb3.size _).grown hg4 (by have := hb3.size; simp; omega) (own_block_ge ho3); clear x0 x1 x2 x3 x4 x5 x6 x7)
            | (at_builtin; refine wp_app (enc := encJob) Job_len Job_one rfl (.tmp 43) (.tmp 46) 23 rfl 40 _ 64 Try.underlying23 Try.infoJob rfl (by decide) w3.heap.size _ (j + 1) _ _ rfl ho4 _ (q - j) _ _ rfl (hr2.below hb4) (q + 1) (by omega) _ rfl (by omega) (by omega) (by have := hb4.size; omega) ?_; intro A5 c5 w6 ho5 hg5 _; have hb5 := hb4.grown hg5 (by have := hb4.size; omega) (own_block_ge ho4)))
          go_roundg (n + 1 - (k + 1))
          case measure => omega
          case rel =>
            rw [HF.out] at ho5
            exact ⟨k + 1, q + 1, A5, c5, by go_num, by omega, rfl, by omega, by omega, ho5.lower hB3.size, hB3.trans (hb5.mono hB3.size)⟩
    · have hfull : (l.take k) = l := by
        rw [List.take_of_length_le (by have := HH.out.len; omega)]
      rw [hfull] at hO
      have HO := Lib.hid (And.intro hO hBq)
      clear hO hBq hfull
      go_wp2
      go_ret
      exact ⟨A', q, c', rfl, by omega, HO.out.1, HO.out.2⟩
end Go.Proofs.Ytcfninipcghbmaa
namespace Go.Proofs.Ytcfninipcghbmaa
open Go.Shelf Go.RowKit Go.Sort

set_option maxRecDepth 100000 in
set_option maxHeartbeats 3200000 in
theorem refAll_t (A : Option Addr) (n c : Nat) (l : List LNode) (need : LRes) (w : World) (h : Rd encNode 10 w A n l) (hn : n ≤ 1000000) :
    Calls Try.prog 76 #[aggRes need, .slice A n c] w fun e w' => ∃ A' n' c', e = .returned (.slice A' n' c') ∧ n' ≤ n ∧ OwnL encNode 38 10 w' w.heap.size A' n' c' (ssort nodeLt (takersN need l)) ∧ Below w.heap.size w w' := by
  obtain ⟨i0, hi, hz0, hz1, hz2⟩ := info_parts Try.infoNode
  have hb := Blk.new w 36 (boxRes need)
  have hB : Below w.heap.size w (w.alloc (.cells (boxRes need) 36)) := (Below.refl _ _).alloc (Nat.le_refl _) _
  have HH := Lib.hid (And.intro (h.below hB) (And.intro hb hB))
  clear hb hB h
  go_enter Try.func76, Try.ntmps76
  go_wp2
  simp only [boxRes] at HH
  generalize w.alloc (.cells _ 36) = w1 at HH ⊢
  go_loopg [5, 6] (n + 1) (fun g1 v vi wr => ∃ (k q : Nat) (A' : Option Addr) (c' : Nat), vi = .int .i64 k ∧ k ≤ n ∧ v = .slice A' q c' ∧ q ≤ k ∧ n + 1 - k ≤ g1 ∧ OwnL encNode 38 10 wr w1.heap.size A' q c' (ssort nodeLt ((l.take k).filter (fun n => takesN n need))) ∧ Below w1.heap.size w1 wr)
  case atStart => exact ⟨0, 0, none, 0, rfl, Nat.zero_le _, rfl, Nat.le_refl _, by omega, OwnL.nil _ _, Below.refl _ _⟩
  case round =>
    obtain ⟨k, q, A', c', rfl, hk, rfl, hqk, hg, hO, hBq⟩ := hrel
    by_cases hlt : k < n
    · obtain ⟨ab, ao, x, rfl, hxx, hal, hcells⟩ := (HH.out.1.below hBq).at_ hlt
      obtain ⟨wo, rfl⟩ : ∃ wo : World, wo = wr := ⟨_, rfl⟩
      have x0 := hcells 0 _ rfl
      have x1 := hcells 1 _ rfl
      have x2 := hcells 2 _ rfl
      have x3 := hcells 3 _ rfl
      have x4 := hcells 4 _ rfl
      have x5 := hcells 5 _ rfl
      have x6 := hcells 6 _ rfl
      have x7 := hcells 7 _ rfl
      have x8 := hcells 8 _ rfl
      have x9 := hcells 9 _ rfl
      simp only [Nat.add_zero] at x0
      clear hcells
      have HO := Lib.hid (And.intro hO (And.intro hBq hxx))
      clear hO hBq hxx
      have hfs := filter_snoc_n (fun n : LNode => takesN n need) HO.out.2.2
      have HFS := Lib.hid hfs
      clear hfs
      have px0 := cell_regrown x0
      have px1 := cell_regrown x1
      have px2 := cell_regrown x2
      have px3 := cell_regrown x3
      have px4 := cell_regrown x4
      have px5 := cell_regrown x5
      have px6 := cell_regrown x6
      have px7 := cell_regrown x7
      have px8 := cell_regrown x8
      have px9 := cell_regrown x9
      have hbn := HH.out.2.1.below HO.out.2.1 HH.out.2.1.lt
      have pr0 := cell_regrown (hbn.cell 0)
      have pr1 := cell_regrown (hbn.cell 1)
      have pr2 := cell_regrown (hbn.cell 2)
      have hcq := fun d os => Calls.regrown_of (refTakes_t x need (grow (redrawn wo d) os))
      clear hbn x0 x1 x2 x3 x4 x5 x6 x7 x8 x9
      cases htk : takesN x need
      · have HS := Lib.hid (show (l.take (k + 1)).filter (fun n => takesN n need) = (l.take k).filter (fun n => takesN n need) by rw [HFS.out, htk]; simp)
        simp only [htk] at hcq
        go_wp2
        refine wp_region_quiet_below (by kernel_rfl) (by kernel_rfl) ?_
        repeat (quiet_step (exact hcq _ _))
        refine wpQuiet_nil ?_
        intro _ hw'
        obtain ⟨⟨dq, osq⟩, hwq⟩ := hw'
        subst hwq
        have HR := Lib.hid (And.intro (HO.out.1.below (below_regrown wo dq osq)) (HO.out.2.1.trans ((below_regrown wo dq osq).mono HO.out.2.1.size)))
        clear px0 px1 px2 px3 px4 px5 px6 px7 px8 px9 pr0 pr1 pr2 hcq htk
        generalize grow (redrawn wo dq) osq = w3 at HR ⊢
        go_wp2
        go_roundg (n + 1 - (k + 1))
        case measure => omega
        case rel => exact ⟨k + 1, q, A', c', by go_num, by omega, rfl, by omega, by omega, by rw [HS.out]; exact HR.out.1, HR.out.2⟩
      · have htx : (l.take (k + 1)).filter (fun n => takesN n need) = (l.take k).filter (fun n => takesN n need) ++ [x] := by rw [HFS.out, htk]; rfl
        simp only [htk] at hcq
        go_wp2
        refine wp_region_quiet_below (by kernel_rfl) (by kernel_rfl) ?_
        repeat (quiet_step (exact hcq _ _))
        refine wpQuiet_nil ?_
        intro _ hw'
        obtain ⟨⟨dq, osq⟩, hwq⟩ := hw'
        subst hwq
        have hO := HO.out.1.below (below_regrown wo dq osq)
        have hBq := HO.out.2.1.trans ((below_regrown wo dq osq).mono HO.out.2.1.size)
        clear px0 px1 px2 px3 px4 px5 px6 px7 px8 px9 pr0 pr1 pr2 hcq htk
        generalize grow (redrawn wo dq) osq = wr at hO hBq ⊢
        have tx : ssort nodeLt ((l.take (k + 1)).filter (fun n => takesN n need)) = sIns nodeLt x (ssort nodeLt ((l.take k).filter (fun n => takesN n need))) := by rw [htx]; exact ssort_snoc _ _
        have hxx := HO.out.2.2
        clear htx
        obtain ⟨L, hL⟩ : ∃ L, ssort nodeLt ((l.take k).filter (fun n => takesN n need)) = L := ⟨_, rfl⟩
        have hasc : Asc nodeLt L := by rw [← hL]; exact asc_ssort nodeOrd _
        rw [hL] at hO tx
        have hc := hO.cap
        have HL := Lib.hid (And.intro tx (And.intro hasc hO.len))
        have HR := Lib.hid (And.intro hO (And.intro hBq hxx))
        clear hO tx hasc hL hBq hxx
        obtain ⟨wp, rfl⟩ : ∃ wp : World, wp = wr := ⟨_, rfl⟩
        go_wp2
        go_loopg [7] (q + 1) (fun g2 vj wr => ∃ j : Nat, vj = .int .i64 j ∧ j ≤ q ∧ j ≤ g2 ∧ Hid (∀ u ∈ L.drop j, nodeLt x u = true) ∧ Below wp.heap.size wp wr)
        case atStart => exact ⟨q, rfl, Nat.le_refl _, by omega, Lib.hid (by rw [List.drop_of_length_le (by have := HL.out.2.2; omega)]; simp), Below.refl _ _⟩
        case round =>
          obtain ⟨j, rfl, hjq, hg2, HC, hB2⟩ := hrel
          have hO2 := HR.out.1.below hB2
          have hBx := HR.out.2.1.trans (hB2.mono HR.out.2.1.size)
          by_cases hj0 : 0 < j
          · obtain ⟨i, hij⟩ : ∃ i, j = i + 1 := ⟨j - 1, by omega⟩
            obtain ⟨bb, bo, y, rfl, hyy, hbl, hyc⟩ := (hO2.rd Node_len).at_ (show i < q by omega)
            have hxc := (HH.out.1.below hBx).cells_at HR.out.2.2
            have x0 := cell_regrown (hxc 0 _ rfl)
            have x1 := cell_regrown (hxc 1 _ rfl)
            have x2 := cell_regrown (hxc 2 _ rfl)
            have x3 := cell_regrown (hxc 3 _ rfl)
            have x4 := cell_regrown (hxc 4 _ rfl)
            have x5 := cell_regrown (hxc 5 _ rfl)
            have x6 := cell_regrown (hxc 6 _ rfl)
            have x7 := cell_regrown (hxc 7 _ rfl)
            have x8 := cell_regrown (hxc 8 _ rfl)
            have x9 := cell_regrown (hxc 9 _ rfl)
            have y0 := cell_regrown (hyc 0 _ rfl)
            have y1 := cell_regrown (hyc 1 _ rfl)
            have y2 := cell_regrown (hyc 2 _ rfl)
            have y3 := cell_regrown (hyc 3 _ rfl)
            have y4 := cell_regrown (hyc 4 _ rfl)
            have y5 := cell_regrown (hyc 5 _ rfl)
            have y6 := cell_regrown (hyc 6 _ rfl)
            have y7 := cell_regrown (hyc 7 _ rfl)
            have y8 := cell_regrown (hyc 8 _ rfl)
            have y9 := cell_regrown (hyc 9 _ rfl)
            simp only [Nat.add_zero] at x0 y0
            have hcq := fun d os => Calls.regrown_of (refNode_t x y (grow (redrawn wr d) os))
            have hgt : (0 : Int) < (j : Int) := by omega
            have hij2 : (j : Int) - 1 = (i : Int) := by omega
            have wi : IntKind.i64.wrap ((j : Int) - 1) = (i : Int) := by rw [IntKind.wrap_i64, hij2]; omega
            have wi2 : wrap64 ((j : Int) - 1) = (i : Int) := by rw [hij2]; unfold wrap64; omega
            have hiq : i < q := by omega
            have HY := Lib.hid (And.intro hyy hij)
            have HO2 := Lib.hid (And.intro hO2 hBx)
            clear hyy hyc hxc hO2 hBx hij2 hij
            cases hb2 : nodeLt x y
            · simp only [hb2] at hcq
              have HB := Lib.hid hb2
              clear hb2
              go_wp2
              refine wp_region_quiet_below (by kernel_rfl) (by kernel_rfl) ?_
              repeat (quiet_step (exact hcq _ _))
              refine wpQuiet_nil ?_
              intro _ hw'
              obtain ⟨⟨dq, osq⟩, hwq⟩ := hw'
              subst hwq
              have HK := Lib.hid (And.intro (HO2.out.1.below (below_regrown wr dq osq)) (HO2.out.2.trans ((below_regrown wr dq osq).mono HO2.out.2.size)))
              clear x0 x1 x2 x3 x4 x5 x6 x7 x8 x9 y0 y1 y2 y3 y4 y5 y6 y7 y8 y9 hcq
              clear hB2 HO2 wi wi2 hiq
              generalize grow (redrawn wr dq) osq = w3 at HK ⊢
              have hO3 := HK.out.1
              have hB3 := HK.out.2
              have hfin := ins_at nodeOrd HL.out.2.1 (x := x) (j := j) (by have := HL.out.2.2; omega) HC.out (fun z hz0 hz => by rw [HY.out.2, Nat.add_sub_cancel, HY.out.1] at hz; cases hz; exact HB.out)
              have HF := Lib.hid (hfin.symm.trans HL.out.1.symm)
              have hcut := cut_to (P := Try.prog) 22 38 .i64 Try.underlying22 hi (some ⟨bb, bo, none⟩) q c' j hjq hc
              obtain ⟨A2, hcut2, hrd2⟩ := cut_from (P := Try.prog) 22 38 .i64 Try.underlying22 hi hz1 (some ⟨bb, bo, none⟩) q c' j hjq hc
              have hr1 := Rd.take (hO3.rd Node_len) hjq
              have hr2 := hrd2 _ _ _ _ (hO3.rd Node_len)
              clear hrd2 hfin hO3
              go_wp2_with (first
                | (at_builtin; refine wp_app (enc := encNode) Node_len Node_one rfl (.tmp 40) (.tmp 43) 22 rfl 38 _ 80 Try.underlying22 Try.infoNode rfl (by decide) w3.heap.size none 0 0 [] rfl (OwnL.nil _ _) _ j _ _ rfl hr1 j (by omega) _ (by rw [List.nil_append]) (by omega) (by omega) (Nat.le_refl _) ?_; intro A3 c3 w4 ho3 hg3 _; have hb3 := (Below.refl w3.heap.size w3).grown hg3 (Nat.le_refl _) (by simp [Value.ownBlock]); have hxc := ((HH.out.1.below hB3).below hb3).cells_at HR.out.2.2; have x0 := hxc 0 _ rfl; have x1 := hxc 1 _ rfl; have x2 := hxc 2 _ rfl; have x3 := hxc 3 _ rfl; have x4 := hxc 4 _ rfl; have x5 := hxc 5 _ rfl; have x6 := hxc 6 _ rfl; have x7 := hxc 7 _ rfl; have x8 := hxc 8 _ rfl; have x9 := hxc 9 _ rfl; simp only [Nat.add_zero] at x0; clear hxc)
                | (at_builtin; refine wp_app (enc := encNode) Node_len Node_one rfl (.tmp 45) (.tmp 50) 22 rfl 38 _ 80 Try.underlying22 Try.infoNode rfl (by decide) w3.heap.size _ j _ _ rfl (ho3.alloc _) _ 1 _ [x] (by rfl) (Rd.new1 _ x _ _ _ rfl) (j + 1) rfl _ rfl (by omega) (by omega) (by have := hb3.size; simp; omega) ?_; intro A4 c4 w5 ho4 hg4 _; have hb4 := (hb3.alloc hb3.size _).grown hg4 (by have := hb3.size; simp; omega) (own_block_ge ho3); clear x0 x1 x2 x3 x4 x5 x6 x7 x8 x9)
                | (at_builtin; refine wp_app (enc := encNode) Node_len Node_one rfl (.tmp 52) (.tmp 55) 22 rfl 38 _ 80 Try.underlying22 Try.infoNode rfl (by decide) w3.heap.size _ (j + 1) _ _ rfl ho4 _ (q - j) _ _ rfl (hr2.below hb4) (q + 1) (by omega) _ rfl (by omega) (by omega) (by have := hb4.size; omega) ?_; intro A5 c5 w6 ho5 hg5 _; have hb5 := hb4.grown hg5 (by have := hb4.size; omega) (own_block_ge ho4)))
              go_roundg (n + 1 - (k + 1))
              case measure => omega
              case rel =>
                rw [HF.out] at ho5
                exact ⟨k + 1, q + 1, A5, c5, by go_num, by omega, rfl, by omega, by omega, ho5.lower hB3.size, hB3.trans (hb5.mono hB3.size)⟩
            · simp only [hb2] at hcq
              have HB := Lib.hid hb2
              clear hb2
              go_wp2
              refine wp_region_quiet_below (by kernel_rfl) (by kernel_rfl) ?_
              repeat (quiet_step (exact hcq _ _))
              refine wpQuiet_nil ?_
              intro _ hw'
              obtain ⟨⟨dq, osq⟩, hwq⟩ := hw'
              subst hwq
              have HK := Lib.hid (hB2.trans ((below_regrown wr dq osq).mono hB2.size))
              clear x0 x1 x2 x3 x4 x5 x6 x7 x8 x9 y0 y1 y2 y3 y4 y5 y6 y7 y8 y9 hcq
              clear hB2 HO2
              generalize grow (redrawn wr dq) osq = w3 at HK ⊢
              go_wp2
              go_roundg i
              case measure => have := HY.out.2; omega
              case rel =>
                refine ⟨i, by first | rfl | (simp [wi]) | (simp [wi2]), by omega, Nat.le_refl _, Lib.hid (fun u hu => ?_), HK.out⟩
                rw [List.drop_eq_getElem_cons (by have := HL.out.2.2; omega)] at hu
                rcases List.mem_cons.1 hu with rfl | hu
                · obtain ⟨h1, h2⟩ := List.getElem?_eq_some_iff.1 HY.out.1
                  rw [h2]; exact HB.out
                · exact HC.out u (by rw [HY.out.2]; exact hu)
          · have hgt : ¬ (0 : Int) < (j : Int) := by omega
            have hjz : decide ((j : Int) > 0) = false := decide_eq_false hgt
            have HO2 := Lib.hid (And.intro hO2 hBx)
            clear hO2 hBx
            go_wp2
            go_quiet (fail)
            have HK := Lib.hid (And.intro (HO2.out.1.below (below_dN nq)) (HO2.out.2.trans (below_dN nq)))
            clear hB2 HO2
            generalize wr.drewN nq = w3 at HK ⊢
            have hO3 := HK.out.1
            have hB3 := HK.out.2
            have hfin := ins_at nodeOrd HL.out.2.1 (x := x) (j := j) (by have := HL.out.2.2; omega) HC.out (fun z hz0 hz => by omega)
            have HF := Lib.hid (hfin.symm.trans HL.out.1.symm)
            have hcut := cut_to (P := Try.prog) 22 38 .i64 Try.underlying22 hi A' q c' j hjq hc
            obtain ⟨A2, hcut2, hrd2⟩ := cut_from (P := Try.prog) 22 38 .i64 Try.underlying22 hi hz1 A' q c' j hjq hc
            have hr1 := Rd.take (hO3.rd Node_len) hjq
            have hr2 := hrd2 _ _ _ _ (hO3.rd Node_len)
            clear hrd2 hfin hO3
            go_wp2_with (first
              | (at_builtin; refine wp_app (enc := encNode) Node_len Node_one rfl (.tmp 40) (.tmp 43) 22 rfl 38 _ 80 Try.underlying22 Try.infoNode rfl (by decide) w3.heap.size none 0 0 [] rfl (OwnL.nil _ _) _ j _ _ rfl hr1 j (by omega) _ (by rw [List.nil_append]) (by omega) (by omega) (Nat.le_refl _) ?_; intro A3 c3 w4 ho3 hg3 _; have hb3 := (Below.refl w3.heap.size w3).grown hg3 (Nat.le_refl _) (by simp [Value.ownBlock]); have hxc := ((HH.out.1.below hB3).below hb3).cells_at HR.out.2.2; have x0 := hxc 0 _ rfl; have x1 := hxc 1 _ rfl; have x2 := hxc 2 _ rfl; have x3 := hxc 3 _ rfl; have x4 := hxc 4 _ rfl; have x5 := hxc 5 _ rfl; have x6 := hxc 6 _ rfl; have x7 := hxc 7 _ rfl; have x8 := hxc 8 _ rfl; have x9 := hxc 9 _ rfl; simp only [Nat.add_zero] at x0; clear hxc)
              | (at_builtin; refine wp_app (enc := encNode) Node_len Node_one rfl (.tmp 45) (.tmp 50) 22 rfl 38 _ 80 Try.underlying22 Try.infoNode rfl (by decide) w3.heap.size _ j _ _ rfl (ho3.alloc _) _ 1 _ [x] (by rfl) (Rd.new1 _ x _ _ _ rfl) (j + 1) rfl _ rfl (by omega) (by omega) (by have := hb3.size; simp; omega) ?_; intro A4 c4 w5 ho4 hg4 _; have hb4 := (hb3.alloc hb3.size _).grown hg4 (by have := hb3.size; simp; omega) (own_block_ge ho3); clear x0 x1 x2 x3 x4 x5 x6 x7 x8 x9)
              | (at_builtin; refine wp_app (enc := encNode) Node_len Node_one rfl (.tmp 52) (.tmp 55) 22 rfl 38 _ 80 Try.underlying22 Try.infoNode rfl (by decide) w3.heap.size _ (j + 1) _ _ rfl ho4 _ (q - j) _ _ rfl (hr2.below hb4) (q + 1) (by omega) _ rfl (by omega) (by omega) (by have := hb4.size; omega) ?_; intro A5 c5 w6 ho5 hg5 _; have hb5 := hb4.grown hg5 (by have := hb4.size; omega) (own_block_ge ho4)))
            go_roundg (n + 1 - (k + 1))
            case measure => omega
            case rel =>
              rw [HF.out] at ho5
              exact ⟨k + 1, q + 1, A5, c5, by go_num, by omega, rfl, by omega, by omega, ho5.lower hB3.size, hB3.trans (hb5.mono hB3.size)⟩
    · have hfull : ((l.take k).filter (fun n => takesN n need)) = (takersN need l) := by
        rw [List.take_of_length_le (by have := HH.out.1.len; omega)]; rfl
      rw [hfull] at hO
      have HO := Lib.hid (And.intro hO hBq)
      clear hO hBq hfull
      go_wp2
      go_ret
      exact ⟨A', q, c', rfl, by omega, HO.out.1.lower HH.out.2.2.size, HH.out.2.2.trans (HO.out.2.mono HH.out.2.2.size)⟩
end Go.Proofs.Ytcfninipcghbmaa
