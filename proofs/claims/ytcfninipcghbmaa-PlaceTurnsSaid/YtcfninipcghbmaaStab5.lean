/-
  slices.symMergeCmpFunc at jobs: one element behind.
-/
import Derived.Test.YtcfninipcghbmaaStab4
set_option linter.unusedVariables false
set_option linter.unusedSimpArgs false
namespace Go.Proofs.Ytcfninipcghbmaa
open Go.Shelf Go.RowKit Go.Sort

section
variable {w0 W : World} {blk off cap : Nat} {l0 : List LJob}
set_option maxRecDepth 100000 in
set_option maxHeartbeats 3200000 in
theorem symTwo_t (R : RowL encJob 8 w0 blk off l0) (hsz : l0.length ≤ 1000000) (A X S : List LJob) (y : LJob) (a m b : Nat) (h : Sym w0 blk off l0 A X [y] S a m b W) (hX : 2 ≤ X.length) :
    Calls Try.prog 161 #[.slice (some ⟨blk, off, none⟩) l0.length cap, .int .i64 a, .int .i64 m, .int .i64 b, .func (.func 130) #[] #[]] W fun e W' => e = .returned (.tuple #[]) ∧ SWB encJob 8 w0 blk off (A ++ (smerge jobLt X [y] ++ S)) W' := by
  have hbm : b = m + 1 := by have := h.hb; simpa using this.symm
  have ham : a + 2 ≤ m := by have := h.hm; omega
  have hbn : b ≤ l0.length := by have := h.hn; omega
  have hmb : m + 1 ≤ b ∧ b ≤ m + 1 := by omega
  have hv : ((m : Int) - (a : Int) == 1) = false := by rw [beq_eq_false_iff_ne]; omega
  have hv2 : (b : Int) - (m : Int) = 1 := by omega
  have H := Lib.hid h
  clear h hbm
  go_enter Try.func161, Try.ntmps161
  go_wp2
  clear hv hv2
  go_loopg [14, 15] (m + 1) (fun g vi vj wr => ∃ i j : Nat, vi = .int .i64 i ∧ vj = .int .i64 j ∧ a ≤ i ∧ i ≤ j ∧ j ≤ m ∧ j - i ≤ g ∧ Sym w0 blk off l0 A X [y] S a m b wr ∧ Hid ((∀ (t : Nat) x, t < i - a → X[t]? = some x → jobLt y x = false) ∧ ∀ (t : Nat) x, j - a ≤ t → X[t]? = some x → jobLt y x = true))
  case atStart => exact ⟨a, m, rfl, rfl, Nat.le_refl _, by omega, Nat.le_refl _, by omega, H.out, Lib.hid ⟨fun t x ht => by omega, fun t x ht hx => by have := (List.getElem?_eq_some_iff.1 hx).1; have := H.out.hm; omega⟩⟩
  case round =>
    clear H
    obtain ⟨i, j, rfl, rfl, hai, hij, hjm, hg, hs, hc⟩ := hrel
    have H := Lib.hid hs
    clear hs
    by_cases hlt : i < j
    · obtain ⟨hh, hhd⟩ : ∃ hh, (i + j) / 2 = hh := ⟨_, rfl⟩
      have hz : ((i : Int) + (j : Int)) / 2 = (hh : Int) := by omega
      have hh1 : i ≤ hh ∧ hh < j := by omega
      obtain ⟨x, hx⟩ : ∃ x, X[hh - a]? = some x := ⟨_, List.getElem?_eq_getElem (by have := H.out.hm; omega)⟩
      have hwr := H.out.hw
      have hln := H.out.len
      have hx0 := H.out.getX (c := hh) hx (by omega)
      have hy0 := H.out.getY (c := m) (i := 0) (y := y) rfl rfl
      have exc := fun d os => ((hwr.below (below_regrown wr d os)).cells R hln (i := hh) hx0).1
      have ex0 := fun d os => exc d os 0 _ rfl
      have ex1 := fun d os => exc d os 1 _ rfl
      have ex2 := fun d os => exc d os 2 _ rfl
      have ex3 := fun d os => exc d os 3 _ rfl
      have ex4 := fun d os => exc d os 4 _ rfl
      have ex5 := fun d os => exc d os 5 _ rfl
      have ex6 := fun d os => exc d os 6 _ rfl
      have ex7 := fun d os => exc d os 7 _ rfl
      simp only [Nat.add_zero] at ex0
      clear exc
      have eyc := fun d os => ((hwr.below (below_regrown wr d os)).cells R hln (i := m) hy0).1
      have ey0 := fun d os => eyc d os 0 _ rfl
      have ey1 := fun d os => eyc d os 1 _ rfl
      have ey2 := fun d os => eyc d os 2 _ rfl
      have ey3 := fun d os => eyc d os 3 _ rfl
      have ey4 := fun d os => eyc d os 4 _ rfl
      have ey5 := fun d os => eyc d os 5 _ rfl
      have ey6 := fun d os => eyc d os 6 _ rfl
      have ey7 := fun d os => eyc d os 7 _ rfl
      simp only [Nat.add_zero] at ey0
      clear eyc
      have hcq := fun d os => Calls.regrown_of (compare_t y x (grow (redrawn wr d) os))
      have hcl := cfJob_lt y x
      have hz1 : (hh : Int) < (l0.length : Int) := by omega
      have hz2 : (m : Int) < (l0.length : Int) := by omega
      have HX := Lib.hid hx
      clear hx hwr hln hx0 hy0 hhd
      cases hb2 : jobLt y x
      all_goals
        rw [hb2] at hcl
        have HB := Lib.hid hb2
        clear hb2
        go_wp2
        refine wp_region_quiet_below (by kernel_rfl) (by kernel_rfl) ?_
        repeat (quiet_step (exact hcq _ _))
        refine wpQuiet_nil ?_
        intro _ hw'
        obtain ⟨⟨dq, osq⟩, hw''⟩ := hw'
        subst hw''
        clear ex0 ex1 ex2 ex3 ex4 ex5 ex6 ex7 ey0 ey1 ey2 ey3 ey4 ey5 ey6 ey7 hcq
        have hk : Sym w0 blk off l0 A X [y] S a m b (grow (redrawn wr dq) osq) := { H.out with hw := H.out.hw.below (below_regrown wr dq osq) }
        generalize grow (redrawn wr dq) osq = wr3 at hk ⊢
        have HK := Lib.hid hk
        clear hk hz
        go_wp2
      · go_roundg (j - (hh + 1))
        case measure => omega
        case rel => exact ⟨hh + 1, j, by go_num, rfl, by omega, by omega, hjm, Nat.le_refl _, HK.out, Lib.hid ⟨fun t z ht hz => jobOrd.nn (HK.out.hx.le' jobOrd (show t ≤ hh - a by omega) hz HX.out) HB.out, hc.out.2⟩⟩
      · go_roundg (hh - i)
        case measure => omega
        case rel => exact ⟨i, hh, rfl, rfl, hai, hh1.1, by omega, Nat.le_refl _, HK.out, Lib.hid ⟨hc.out.1, fun t z ht hz => by
          rcases jobOrd.co y z x HB.out with h1 | h1
          · exact h1
          · have := HK.out.hx.le' jobOrd ht HX.out hz
            rw [h1] at this
            cases this⟩⟩
    · obtain rfl : i = j := by omega
      obtain ⟨r, hr⟩ : ∃ r, i - a = r := ⟨_, rfl⟩
      rw [hr] at hc
      have hct := cut_search (p := fun x => jobLt y x) hc.out.1 hc.out.2
      have hone : smerge jobLt X [y] = X.take r ++ y :: X.drop r := by
        conv => lhs; rw [← List.take_append_drop r X]
        exact smerge_one_right y _ _ hct.1 hct.2
      have hxl : (X.take r).length = r := by rw [List.length_take]; have := H.out.hm; omega
      obtain ⟨s, hs⟩ : ∃ s, (X.drop r).length = s := ⟨_, rfl⟩
      have hsl : a + r + s + 1 + S.length = l0.length ∧ a + r + s = m := by rw [← hs, List.length_drop]; have := H.out.hm; have := H.out.hn; omega
      have hir : a + r ≤ i ∧ i ≤ a + r := by omega
      have hw0 : SWB encJob 8 w0 blk off (A ++ ((X.take r ++ X.drop r) ++ ([y] ++ S))) wr := by rw [List.take_append_drop]; exact H.out.hw
      have hms : a + r + s ≤ m ∧ m ≤ a + r + s := by omega
      have HX := Lib.hid (And.intro hone (And.intro hxl (And.intro hsl (And.intro hs hw0))))
      have him : i ≤ 1000000 ∧ m ≤ 1000000 := by omega
      clear hct hone hxl hsl hr hc hw0 hs
      generalize X.take r = X1 at HX
      generalize X.drop r = X2 at HX
      go_wp2
      go_loopg [17] (s + 1) (fun g vk wr => ∃ k t : Nat, vk = .int .i64 k ∧ k = a + r + t ∧ t ≤ s ∧ t ≤ g ∧ SWB encJob 8 w0 blk off (A ++ (X1 ++ (X2.take t ++ y :: (X2.drop t ++ S)))) wr)
      case atStart => exact ⟨m, s, rfl, by omega, Nat.le_refl _, by omega, by
        have h9 := HX.out.2.2.2.2
        rw [List.take_of_length_le (by rw [HX.out.2.2.2.1]; exact Nat.le_refl _), List.drop_of_length_le (by rw [HX.out.2.2.2.1]; exact Nat.le_refl _)]
        simpa using h9⟩
      case round =>
        obtain ⟨k, t, rfl, hkt, hts, hg, hw⟩ := hrel
        have hk1 : a + r + t ≤ k ∧ k ≤ a + r + t := by omega
        clear hkt
        by_cases hlt : 0 < t
        · obtain ⟨u, rfl⟩ : ∃ u, t = u + 1 := ⟨t - 1, by omega⟩
          obtain ⟨p, rfl⟩ : ∃ p, k = p + 1 := ⟨k - 1, by omega⟩
          obtain ⟨z, hz⟩ : ∃ z, X2[u]? = some z := ⟨_, List.getElem?_eq_getElem (by have := HX.out.2.2.2.1; omega)⟩
          have dz : X2.drop u = z :: X2.drop (u + 1) := by rw [List.drop_eq_getElem_cons (by have := HX.out.2.2.2.1; omega)]; congr 1; exact (List.getElem?_eq_some_iff.1 hz).2
          have tz : X2.take (u + 1) = X2.take u ++ [z] := by rw [List.take_add_one, hz]; rfl
          have hi1 : (A ++ X1 ++ X2.take u).length = p := by rw [List.length_append, List.length_append, List.length_take, H.out.ha, HX.out.2.1]; have := HX.out.2.2.2.1; omega
          have hE : A ++ (X1 ++ (X2.take u ++ y :: (X2.drop u ++ S))) = (A ++ X1 ++ X2.take u) ++ y :: ([] ++ z :: (X2.drop (u + 1) ++ S)) := by rw [dz]; simp
          rw [tz] at hw
          have hwl : SWB encJob 8 w0 blk off ((A ++ X1 ++ X2.take u) ++ z :: ([] ++ y :: (X2.drop (u + 1) ++ S))) wr := by simpa using hw
          have hln : ((A ++ X1 ++ X2.take u) ++ z :: ([] ++ y :: (X2.drop (u + 1) ++ S))).length = l0.length := by have h1 := HX.out.2.1; have h2 := HX.out.2.2.1; have h3 := HX.out.2.2.2.1; have := H.out.ha; simp; omega
          have HE := Lib.hid hE
          clear hz dz tz hE hw
          generalize A ++ X1 ++ X2.take u = A1 at hwl hln hi1 HE
          generalize X2.drop (u + 1) ++ S = S1 at hwl hln HE
          have hki : (p : Int) + 1 > (i : Int) := by omega
          have hkb : p + 1 < l0.length := by omega
          have hs2 := hwl.swapped R hi1.symm (show p + 1 = (A1).length + 1 + ([] : List LJob).length by rw [hi1]; rfl)
          simp only [setJob, World.setCell_drew] at hs2
          have HS := Lib.hid hs2
          obtain ⟨epc, epf⟩ := hwl.cells R hln (i := p) (get_mid _ _ _ hi1)
          have ep0 := epc 0 _ rfl
          have ep1 := epc 1 _ rfl
          have ep2 := epc 2 _ rfl
          have ep3 := epc 3 _ rfl
          have ep4 := epc 4 _ rfl
          have ep5 := epc 5 _ rfl
          have ep6 := epc 6 _ rfl
          have ep7 := epc 7 _ rfl
          simp only [Nat.add_zero] at ep0
          clear epc
          obtain ⟨exc, exf⟩ := hwl.cells R hln (i := p + 1) (by rw [show A1 ++ z :: ([] ++ y :: S1) = (A1 ++ [z]) ++ y :: S1 by simp]; exact get_mid _ _ _ (by rw [List.length_append, hi1]; rfl))
          have ex0 := exc 0 _ rfl
          have ex1 := exc 1 _ rfl
          have ex2 := exc 2 _ rfl
          have ex3 := exc 3 _ rfl
          have ex4 := exc 4 _ rfl
          have ex5 := exc 5 _ rfl
          have ex6 := exc 6 _ rfl
          have ex7 := exc 7 _ rfl
          simp only [Nat.add_zero] at ex0
          clear exc
          have wi : IntKind.i64.wrap (p : Int) = (p : Int) := by rw [IntKind.wrap_i64]; omega
          have wj : IntKind.i64.wrap ((p : Int) + 1) = (p : Int) + 1 := by rw [IntKind.wrap_i64]; omega
          have h0j : (0 : Int) ≤ (p : Int) + 1 := by omega
          have hjz : (p : Int) + 1 < (l0.length : Int) := by omega
          have hiz : (p : Int) < (l0.length : Int) := by omega
          have hnt : ((p : Int) + 1).toNat = p + 1 := by omega
          have hab : p < p + 1 := by omega
          clear hs2
          clear hwl hln hi1
          go_wp2
          go_region
          all_goals
            go_wp2
            go_roundg u
            case measure => omega
            case rel => exact ⟨p, u, by go_num, by omega, by omega, Nat.le_refl _, by rw [HE.out]; first | (with_reducible exact HS.out.1) | (with_reducible exact HS.out.2)⟩
        · have htt : t = 0 := by omega
          have hki : ¬ (i : Int) < (k : Int) := by omega
          have HW := Lib.hid hw
          have HT := Lib.hid htt
          clear hw htt
          go_wp2
          (try simp only [Exit.inBlock, Exit.then]); refine bodyPost_ret (results_none rfl _ _ _) rfl ?_
          refine ⟨rfl, ?_⟩
          have h9 := HW.out
          rw [HT.out] at h9
          rw [HX.out.1]
          simpa using h9
end
end Go.Proofs.Ytcfninipcghbmaa
