/-
  slices.insertionSortCmpFunc at jobs, by rank.compare.
-/
import Derived.Test.YtcfninipcghbmaaStab1
import Derived.Test.YtcfninipcghbmaaRank1
set_option linter.unusedVariables false
set_option linter.unusedSimpArgs false
namespace Go.Proofs.Ytcfninipcghbmaa
open Go.Shelf Go.RowKit Go.Sort

section
variable {w0 W : World} {blk off cap : Nat} {l0 : List LJob}
theorem get_mid {α : Type} (P S : List α) (x : α) {i : Nat} (hi : P.length = i) : (P ++ x :: S)[i]? = some x := by subst hi; simp
/-- Inside the inner loop: x stands between o1 (not yet looked at) and o2 (all behind x). -/
structure Ins (w0 : World) (blk off : Nat) (A T : List LJob) (L : List LJob) (x : LJob) (a n : Nat) (o1 o2 : List LJob) (j : Nat) (wr : World) : Prop where
  l : o1 ++ o2 = L
  asc : Asc jobLt L
  b : ∀ u ∈ o2, jobLt x u = true
  j : a + o1.length = j
  n : A.length + o1.length + o2.length + 1 + T.length = n
  w : SWB encJob 8 w0 blk off (A ++ (o1 ++ x :: (o2 ++ T))) wr
theorem Ins.stop {A T L : List LJob} {x : LJob} {a n : Nat} {o1 o2 : List LJob} {j : Nat} {wr : World} (h : Ins w0 blk off A T L x a n o1 o2 j wr) (hs : ∀ u ∈ o1, jobLt x u = false) : sIns jobLt x L = o1 ++ x :: o2 := by
  rw [← h.l]; exact sIns_at hs h.b
set_option maxRecDepth 100000 in
set_option maxHeartbeats 3200000 in
theorem insSort_t (R : RowL encJob 8 w0 blk off l0) (hsz : l0.length ≤ 1000000) (A X S : List LJob) (a b : Nat) (ha : A.length = a) (hb : a + X.length = b)
    (hl : A.length + X.length + S.length = l0.length) (h : SWB encJob 8 w0 blk off (A ++ (X ++ S)) W) :
    Calls Try.prog 160 #[.slice (some ⟨blk, off, none⟩) l0.length cap, .int .i64 a, .int .i64 b, .func (.func 130) #[] #[]] W fun e W' => e = .returned (.tuple #[]) ∧ SWB encJob 8 w0 blk off (A ++ (ssort jobLt X ++ S)) W' := by
  have H := Lib.hid (And.intro h (And.intro ha (And.intro hb hl)))
  obtain ⟨q, hq⟩ : ∃ q, X.length = q := ⟨_, rfl⟩
  rw [hq] at hb
  have hbn : b ≤ l0.length := by omega
  have HQ := Lib.hid hq
  have h1 : ssort jobLt (X.take 1) = X.take 1 := by cases X with | nil => rfl | cons x r => rfl
  have HS1 := Lib.hid h1
  clear h ha hl hq h1
  go_enter Try.func160, Try.ntmps160
  go_wp2
  go_loopg [8] (q + 1) (fun g1 vi wr => ∃ k i8 : Nat, vi = .int .i64 i8 ∧ i8 = a + k ∧ 1 ≤ k ∧ k ≤ q + 1 ∧ (k ≤ q ∨ k = 1 ∧ q = 0) ∧ q + 1 - k ≤ g1 ∧ SWB encJob 8 w0 blk off (A ++ (ssort jobLt (X.take k) ++ (X.drop k ++ S))) wr)
  case atStart => exact ⟨1, a + 1, by go_num, rfl, Nat.le_refl _, by omega, by omega, by omega, by rw [HS1.out, ← List.append_assoc (X.take 1), List.take_append_drop]; exact H.out.1⟩
  case round =>
    obtain ⟨k, i8, rfl, hi8, hk1, hkq, hkk, hg, hw⟩ := hrel
    have hik : a + 1 ≤ i8 ∧ i8 ≤ a + k ∧ a + k ≤ i8 := by omega
    have HI8 := Lib.hid hi8
    clear hi8
    by_cases hlt : i8 < b
    · obtain ⟨x, hx⟩ : ∃ x, X[k]? = some x := ⟨_, List.getElem?_eq_getElem (by have := HQ.out; omega)⟩
      have dx : X.drop k = x :: X.drop (k + 1) := by rw [List.drop_eq_getElem_cons (by have := HQ.out; omega)]; congr 1; exact (List.getElem?_eq_some_iff.1 hx).2
      have tx : ssort jobLt (X.take (k + 1)) = sIns jobLt x (ssort jobLt (X.take k)) := by rw [List.take_add_one, hx]; exact ssort_snoc _ _
      have hlk : (ssort jobLt (X.take k)).length = k := by rw [length_ssort, List.length_take]; have := HQ.out; omega
      have hld : (X.drop (k + 1)).length = q - (k + 1) := by rw [List.length_drop, HQ.out]
      rw [dx] at hw
      have hI : Ins w0 blk off A (X.drop (k + 1) ++ S) (ssort jobLt (X.take k)) x a l0.length (ssort jobLt (X.take k)) [] (a + k) wr := ⟨List.append_nil _, asc_ssort jobOrd _, by simp, by rw [hlk], by have := H.out.2.2.2; have := HQ.out; simp; omega, hw⟩
      obtain ⟨L, hL⟩ : ∃ L, ssort jobLt (X.take k) = L := ⟨_, rfl⟩
      obtain ⟨T, hT⟩ : ∃ T, X.drop (k + 1) ++ S = T := ⟨_, rfl⟩
      rw [hL] at hI tx
      rw [hT] at hI
      have HI := Lib.hid hI
      have HX := Lib.hid (And.intro tx hT)
      have hltz : (i8 : Int) < (b : Int) := by omega
      clear hx dx tx hlk hld hw hI hL
      obtain ⟨wo, rfl⟩ : ∃ wo : World, wo = wr := ⟨_, rfl⟩
      go_wp2
      go_loopg [9] (k + 1) (fun g2 vj wr2 => ∃ (j : Nat) (o1 o2 : List LJob), vj = .int .i64 j ∧ a ≤ j ∧ j ≤ i8 ∧ j - a ≤ g2 ∧ Ins w0 blk off A T L x a l0.length o1 o2 j wr2)
      case atStart => exact ⟨i8, L, [], rfl, by omega, Nat.le_refl _, by omega, by rw [HI8.out]; exact HI.out⟩
      case round =>
        clear HI
        obtain ⟨j, o1, o2, rfl, haj, hji, hg2, hI⟩ := hrel
        have hjn : j < l0.length := by omega
        by_cases hja : a < j
        · obtain ⟨p1, p, rfl⟩ : ∃ p1 p, o1 = p1 ++ [p] := by
            have hne : o1 ≠ [] := by rintro rfl; have := hI.j; simp at this; omega
            exact ⟨o1.dropLast, o1.getLast hne, (List.dropLast_concat_getLast hne).symm⟩
          obtain ⟨i, rfl⟩ : ∃ i, j = i + 1 := ⟨j - 1, by omega⟩
          have hpl : p1.length + a = i := by have := hI.j; simp at this; omega
          have hwl := hI.w
          rw [show A ++ (p1 ++ [p] ++ x :: (o2 ++ T)) = (A ++ p1) ++ p :: ([] ++ x :: (o2 ++ T)) by simp] at hwl
          have hln : ((A ++ p1) ++ p :: ([] ++ x :: (o2 ++ T))).length = l0.length := by have := hI.n; simp at this ⊢; omega
          have hi1 : (A ++ p1).length = i := by have := H.out.2.1; simp; omega
          have hs2 := hwl.swapped R hi1.symm (show i + 1 = (A ++ p1).length + 1 + ([] : List LJob).length by rw [hi1]; rfl)
          simp only [setJob, World.setCell_drew] at hs2
          have exc := fun d os => ((hwl.below (below_regrown wr d os)).cells R hln (i := i + 1) (by rw [show (A ++ p1) ++ p :: ([] ++ x :: (o2 ++ T)) = (A ++ p1 ++ [p]) ++ x :: (o2 ++ T) by simp]; exact get_mid _ _ _ (by simp at hi1 ⊢; omega))).1
          have ex0 := fun d os => exc d os 0 _ rfl
          have ex1 := fun d os => exc d os 1 _ rfl
          have ex2 := fun d os => exc d os 2 _ rfl
          have ex3 := fun d os => exc d os 3 _ rfl
          have ex4 := fun d os => exc d os 4 _ rfl
          have ex5 := fun d os => exc d os 5 _ rfl
          have ex6 := fun d os => exc d os 6 _ rfl
          have ex7 := fun d os => exc d os 7 _ rfl
          simp only [Nat.add_zero] at ex0
          clear exc
          have epc := fun d os => ((hwl.below (below_regrown wr d os)).cells R hln (i := i) (get_mid _ _ _ hi1)).1
          have ep0 := fun d os => epc d os 0 _ rfl
          have ep1 := fun d os => epc d os 1 _ rfl
          have ep2 := fun d os => epc d os 2 _ rfl
          have ep3 := fun d os => epc d os 3 _ rfl
          have ep4 := fun d os => epc d os 4 _ rfl
          have ep5 := fun d os => epc d os 5 _ rfl
          have ep6 := fun d os => epc d os 6 _ rfl
          have ep7 := fun d os => epc d os 7 _ rfl
          simp only [Nat.add_zero] at ep0
          clear epc
          have hcq := fun d os => Calls.regrown_of (compare_t x p (grow (redrawn wr d) os))
          have hcl := cfJob_lt x p
          have hgt : ((i : Int) + 1 > (a : Int)) := by omega
          have wi : IntKind.i64.wrap (i : Int) = (i : Int) := by rw [IntKind.wrap_i64]; omega
          have h0j : (0 : Int) ≤ (i : Int) + 1 := by omega
          have hjz : (i : Int) + 1 < (l0.length : Int) := by omega
          have hiz : (i : Int) < (l0.length : Int) := by omega
          have hnt : ((i : Int) + 1).toNat = i + 1 := by omega
          have HI := Lib.hid hI
          have HW := Lib.hid (And.intro hwl (And.intro hln (And.intro hi1 (And.intro hpl hs2))))
          clear hI hwl hln hi1 hpl hs2
          cases hb2 : jobLt x p
          · rw [hb2] at hcl
            have HB := Lib.hid hb2
            clear hb2
            go_wp2
            refine wp_region_quiet_below (by kernel_rfl) (by kernel_rfl) ?_
            repeat (quiet_step (exact hcq _ _))
            refine wpQuiet_nil ?_
            intro _ hw'
            obtain ⟨⟨dq, osq⟩, hw''⟩ := hw'
            subst hw''
            clear ex0 ex1 ex2 ex3 ex4 ex5 ex6 ex7 ep0 ep1 ep2 ep3 ep4 ep5 ep6 ep7 hcq
            have hk := HW.out.1.below (below_regrown wr dq osq)
            generalize grow (redrawn wr dq) osq = wr3 at hk ⊢
            have HK := Lib.hid hk
            clear hk
            go_wp2
            go_roundg (q + 1 - (k + 1))
            case measure => omega
            case rel =>
              refine ⟨k + 1, i8 + 1, by go_num, by omega, by omega, by omega, by omega, Nat.le_refl _, ?_⟩
              have hst := HI.out.stop (fun u hu => by
                have h1 : p1 ++ [p] ++ o2 = L := HI.out.l
                rcases List.mem_append.1 hu with hu | hu
                · obtain ⟨n1, hn1⟩ := List.mem_iff_getElem?.1 hu
                  have hn2 : n1 < p1.length := (List.getElem?_eq_some_iff.1 hn1).1
                  exact jobOrd.nn (HI.out.asc.le (i := n1) (j := p1.length) (a := u) (b := p) hn2 (by rw [← h1, List.append_assoc, List.getElem?_append_left hn2, hn1]) (by rw [← h1, List.append_assoc]; simp)) HB.out
                · rw [List.mem_singleton.1 hu]; exact HB.out)
              rw [HX.out.1, hst, HX.out.2]
              have := HK.out
              simpa using this
          · rw [hb2] at hcl
            have HB := Lib.hid hb2
            clear hb2
            go_wp2
            refine wp_region_quiet_below (by kernel_rfl) (by kernel_rfl) ?_
            repeat (quiet_step (exact hcq _ _))
            refine wpQuiet_nil ?_
            intro _ hw'
            obtain ⟨⟨dq, osq⟩, hw''⟩ := hw'
            subst hw''
            clear ex0 ex1 ex2 ex3 ex4 ex5 ex6 ex7 ep0 ep1 ep2 ep3 ep4 ep5 ep6 ep7 hcq
            have hk := HW.out.1.below (below_regrown wr dq osq)
            generalize grow (redrawn wr dq) osq = wr3 at hk ⊢
            have hln := HW.out.2.1
            have hi1 := HW.out.2.2.1
            have hs2 := hk.swapped R hi1.symm (show i + 1 = (A ++ p1).length + 1 + ([] : List LJob).length by rw [hi1]; rfl)
            simp only [setJob, World.setCell_drew] at hs2
            have HS := Lib.hid hs2
            obtain ⟨exc, exf⟩ := hk.cells R hln (i := i + 1) (by rw [show (A ++ p1) ++ p :: ([] ++ x :: (o2 ++ T)) = (A ++ p1 ++ [p]) ++ x :: (o2 ++ T) by simp]; exact get_mid _ _ _ (by simp at hi1 ⊢; omega))
            have ex0 := exc 0 _ rfl
            have ex1 := exc 1 _ rfl
            have ex2 := exc 2 _ rfl
            have ex3 := exc 3 _ rfl
            have ex4 := exc 4 _ rfl
            have ex5 := exc 5 _ rfl
            have ex6 := exc 6 _ rfl
            have ex7 := exc 7 _ rfl
            simp only [Nat.add_zero] at ex0
            clear exc
            obtain ⟨epc, epf⟩ := hk.cells R hln (i := i) (get_mid _ _ _ hi1)
            have ep0 := epc 0 _ rfl
            have ep1 := epc 1 _ rfl
            have ep2 := epc 2 _ rfl
            have ep3 := epc 3 _ rfl
            have ep4 := epc 4 _ rfl
            have ep5 := epc 5 _ rfl
            have ep6 := epc 6 _ rfl
            have ep7 := epc 7 _ rfl
            simp only [Nat.add_zero] at ep0
            clear epc
            clear hk hln hi1 hs2
            have hab : i < i + 1 := by omega
            go_wp2
            go_region
            all_goals
              go_wp2
              go_roundg (i - a)
              case measure => omega
              case rel =>
                refine ⟨i, p1, p :: o2, by go_num, by omega, by omega, Nat.le_refl _, ?_⟩
                have hx1 : p1 ++ [p] ++ o2 = L := HI.out.l
                refine ⟨by rw [← hx1]; simp, HI.out.asc, fun u hu => ?_, by have := HW.out.2.2.2.1; omega, by have := HI.out.n; simp at this ⊢; omega, ?_⟩
                · rcases List.mem_cons.1 hu with rfl | hu
                  · exact HB.out
                  · exact HI.out.b u hu
                · rw [show A ++ (p1 ++ x :: (p :: o2 ++ T)) = (A ++ p1) ++ x :: ([] ++ p :: (o2 ++ T)) by simp]
                  first | (with_reducible exact HS.out.1) | (with_reducible exact HS.out.2)
        · have hjz : decide ((j : Int) > (a : Int)) = false := decide_eq_false (by omega)
          have hjz' : ¬ (a : Int) < (j : Int) := by omega
          have ho1 : o1 = [] := List.eq_nil_of_length_eq_zero (by have := hI.j; omega)
          subst ho1
          have HI := Lib.hid hI
          clear hI
          go_wp2
          go_quiet (fail)
          go_wp2
          go_roundg (q + 1 - (k + 1))
          case measure => omega
          case rel =>
            refine ⟨k + 1, i8 + 1, by go_num, by omega, by omega, by omega, by omega, Nat.le_refl _, ?_⟩
            rw [HX.out.1, HI.out.stop (by simp), HX.out.2]
            have := HI.out.w.below (below_dN nq)
            simpa using this
    · have hltz : ¬ (i8 : Int) < (b : Int) := by omega
      have HW := Lib.hid hw
      clear hw
      go_wp2
      go_end0
      refine ⟨rfl, ?_⟩
      have := HW.out
      rw [List.take_of_length_le (by have := HQ.out; omega), List.drop_of_length_le (by have := HQ.out; omega)] at this
      simpa using this
end
end Go.Proofs.Ytcfninipcghbmaa
