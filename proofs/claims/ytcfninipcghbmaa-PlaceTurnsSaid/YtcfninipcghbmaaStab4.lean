/-
  slices.symMergeCmpFunc at jobs.
-/
import Derived.Test.YtcfninipcghbmaaStab2
import Derived.Test.YtcfninipcghbmaaStab3
import Derived.Deep.DeepCutAuto
import Derived.Outline
set_option linter.unusedVariables false
set_option linter.unusedSimpArgs false
namespace Go.Proofs.Ytcfninipcghbmaa
open Go.Shelf Go.RowKit Go.Sort

section
variable {w0 W : World} {blk off cap : Nat} {l0 : List LJob}
/-- What is asked at the head of symMerge. -/
structure Sym (w0 : World) (blk off : Nat) (l0 A X Y S : List LJob) (a m b : Nat) (W : World) : Prop where
  ha : A.length = a
  hm : a + X.length = m
  hb : m + Y.length = b
  hn : b + S.length = l0.length
  hx : Asc jobLt X
  hy : Asc jobLt Y
  hw : SWB encJob 8 w0 blk off (A ++ (X ++ (Y ++ S))) W
theorem Sym.len {A X Y S : List LJob} {a m b : Nat} (h : Sym w0 blk off l0 A X Y S a m b W) : (A ++ (X ++ (Y ++ S))).length = l0.length := by
  have := h.ha; have := h.hm; have := h.hb; have := h.hn; simp; omega
theorem get_right {α : Type} (P S : List α) {i j : Nat} {x : α} (hx : S[j]? = some x) (hi : P.length + j = i) : (P ++ S)[i]? = some x := by
  subst hi; rw [List.getElem?_append_right (by omega), show P.length + j - P.length = j by omega]; exact hx
theorem get_left {α : Type} (P S : List α) {i : Nat} {x : α} (hx : P[i]? = some x) : (P ++ S)[i]? = some x := by
  rw [List.getElem?_append_left (List.getElem?_eq_some_iff.1 hx).1]; exact hx
theorem Sym.getX {A X Y S : List LJob} {a m b : Nat} (h : Sym w0 blk off l0 A X Y S a m b W) {c i : Nat} {x : LJob} (hx : X[i]? = some x) (hc : a + i = c) : (A ++ (X ++ (Y ++ S)))[c]? = some x := get_right _ _ (get_left _ _ hx) (by rw [h.ha]; exact hc)
theorem Sym.getY {A X Y S : List LJob} {a m b : Nat} (h : Sym w0 blk off l0 A X Y S a m b W) {c i : Nat} {y : LJob} (hy : Y[i]? = some y) (hc : m + i = c) : (A ++ (X ++ (Y ++ S)))[c]? = some y := by
  rw [← List.append_assoc]
  exact get_right _ _ (get_left _ _ hy) (by rw [List.length_append, h.ha, h.hm]; exact hc)
theorem mem_at {α : Type} {l : List α} {p : α → Prop} (h : ∀ (t : Nat) (x : α), l[t]? = some x → p x) : ∀ x ∈ l, p x := fun x hx => by
  obtain ⟨t, ht⟩ := List.mem_iff_getElem?.1 hx
  exact h t x ht
/-- A row cut where a binary search has come to: what is said of the places ahead, and of those behind. -/
theorem cut_search {l : List LJob} {p : LJob → Bool} {r : Nat} {u v : Bool} (h1 : ∀ (t : Nat) x, t < r → l[t]? = some x → p x = u) (h2 : ∀ (t : Nat) x, r ≤ t → l[t]? = some x → p x = v) : (∀ x ∈ l.take r, p x = u) ∧ ∀ x ∈ l.drop r, p x = v :=
  ⟨mem_at fun t x ht => (by
    rw [List.getElem?_take] at ht
    split at ht
    · exact h1 t x (by assumption) ht
    · cases ht), mem_at fun t x ht => by rw [List.getElem?_drop] at ht; exact h2 _ x (by omega) ht⟩
set_option maxRecDepth 100000 in
set_option maxHeartbeats 3200000 in
theorem symOne_t (R : RowL encJob 8 w0 blk off l0) (hsz : l0.length ≤ 1000000) (A Y S : List LJob) (x : LJob) (a m b : Nat) (h : Sym w0 blk off l0 A [x] Y S a m b W) :
    Calls Try.prog 161 #[.slice (some ⟨blk, off, none⟩) l0.length cap, .int .i64 a, .int .i64 m, .int .i64 b, .func (.func 130) #[] #[]] W fun e W' => e = .returned (.tuple #[]) ∧ SWB encJob 8 w0 blk off (A ++ (smerge jobLt [x] Y ++ S)) W' := by
  have hm : m = a + 1 := by have := h.hm; simpa using this.symm
  have hmb : m ≤ b := by have := h.hb; omega
  have hbn : b ≤ l0.length := by have := h.hn; omega
  have hv : (m : Int) - (a : Int) = 1 := by omega
  have ham : a < m := by omega
  have H := Lib.hid h
  have HM := Lib.hid hm
  clear h hm
  go_enter Try.func161, Try.ntmps161
  go_wp2
  clear hv
  go_loopg [10, 11] (b + 1) (fun g vi vj wr => ∃ i j : Nat, vi = .int .i64 i ∧ vj = .int .i64 j ∧ m ≤ i ∧ i ≤ j ∧ j ≤ b ∧ j - i ≤ g ∧ Sym w0 blk off l0 A [x] Y S a m b wr ∧ Hid ((∀ (t : Nat) y, t < i - m → Y[t]? = some y → jobLt y x = true) ∧ ∀ (t : Nat) y, j - m ≤ t → Y[t]? = some y → jobLt y x = false))
  case atStart => exact ⟨m, b, rfl, rfl, Nat.le_refl _, hmb, Nat.le_refl _, by omega, H.out, Lib.hid ⟨fun t y ht => by omega, fun t y ht hy => by have := (List.getElem?_eq_some_iff.1 hy).1; have := H.out.hb; omega⟩⟩
  case round =>
    clear H
    obtain ⟨i, j, rfl, rfl, hmi, hij, hjb, hg, hs, hc⟩ := hrel
    have H := Lib.hid hs
    clear hs
    by_cases hlt : i < j
    · obtain ⟨hh, hhd⟩ : ∃ hh, (i + j) / 2 = hh := ⟨_, rfl⟩
      have hz : ((i : Int) + (j : Int)) / 2 = (hh : Int) := by omega
      have hh1 : i ≤ hh ∧ hh < j := by omega
      obtain ⟨y, hy⟩ : ∃ y, Y[hh - m]? = some y := ⟨_, List.getElem?_eq_getElem (by have := H.out.hb; omega)⟩
      have hwr := H.out.hw
      have hln := H.out.len
      have hx0 := H.out.getX (c := a) (i := 0) (x := x) rfl rfl
      have hy0 := H.out.getY (c := hh) hy (by omega)
      have exc := fun d os => ((hwr.below (below_regrown wr d os)).cells R hln (i := a) hx0).1
      have ex0 := fun d os => exc d os 0 _ rfl
      have ex1 := fun d os => exc d os 1 _ rfl
      have ex2 := fun d os => exc d os 2 _ rfl
      have ex3 := fun d os => exc d os 3 _ rfl
      have ex4 := fun d os => exc d os 4 _ rfl
      have ex5 := fun d os => exc d os 5 _ rfl
      have ex6 := fun d os => exc d os 6 _ rfl
      have ex7 := fun d os => exc d os 7 _ rfl
      simp only [Nat.add_zero] at ex0
      clear exc
      have eyc := fun d os => ((hwr.below (below_regrown wr d os)).cells R hln (i := hh) hy0).1
      have ey0 := fun d os => eyc d os 0 _ rfl
      have ey1 := fun d os => eyc d os 1 _ rfl
      have ey2 := fun d os => eyc d os 2 _ rfl
      have ey3 := fun d os => eyc d os 3 _ rfl
      have ey4 := fun d os => eyc d os 4 _ rfl
      have ey5 := fun d os => eyc d os 5 _ rfl
      have ey6 := fun d os => eyc d os 6 _ rfl
      have ey7 := fun d os => eyc d os 7 _ rfl
      simp only [Nat.add_zero] at ey0
      clear eyc
      have hcq := fun d os => Calls.regrown_of (compare_t y x (grow (redrawn wr d) os))
      have hcl := cfJob_lt y x
      have hz1 : (hh : Int) < (l0.length : Int) := by omega
      have hz2 : (a : Int) < (l0.length : Int) := by omega
      have HY := Lib.hid hy
      clear hy hwr hln hx0 hy0 hhd
      cases hb2 : jobLt y x
      all_goals
        rw [hb2] at hcl
        have HB := Lib.hid hb2
        clear hb2
        go_wp2
        refine wp_region_quiet_below (by kernel_rfl) (by kernel_rfl) ?_
        repeat (quiet_step (exact hcq _ _))
        refine wpQuiet_nil ?_
        intro _ hw'
        obtain ⟨⟨dq, osq⟩, hw''⟩ := hw'
        subst hw''
        clear ex0 ex1 ex2 ex3 ex4 ex5 ex6 ex7 ey0 ey1 ey2 ey3 ey4 ey5 ey6 ey7 hcq
        have hk : Sym w0 blk off l0 A [x] Y S a m b (grow (redrawn wr dq) osq) := { H.out with hw := H.out.hw.below (below_regrown wr dq osq) }
        generalize grow (redrawn wr dq) osq = wr3 at hk ⊢
        have HK := Lib.hid hk
        clear hk hz
        go_wp2
      · go_roundg (hh - i)
        case measure => omega
        case rel => exact ⟨i, hh, rfl, rfl, hmi, hh1.1, by omega, Nat.le_refl _, HK.out, Lib.hid ⟨hc.out.1, fun t z ht hz => by
          rcases Nat.lt_or_ge t (j - m) with h1 | h1
          · exact jobOrd.nn HB.out (HK.out.hy.le' jobOrd ht HY.out hz)
          · exact hc.out.2 t z h1 hz⟩⟩
      · go_roundg (j - (hh + 1))
        case measure => omega
        case rel => exact ⟨hh + 1, j, by go_num, rfl, by omega, by omega, hjb, Nat.le_refl _, HK.out, Lib.hid ⟨fun t z ht hz => by
          rcases jobOrd.co y z x HB.out with h1 | h1
          · have := HK.out.hy.le' jobOrd (show t ≤ hh - m by omega) hz HY.out
            rw [h1] at this
            cases this
          · exact h1, hc.out.2⟩⟩
    · obtain rfl : i = j := by omega
      obtain ⟨r, hr⟩ : ∃ r, i - m = r := ⟨_, rfl⟩
      rw [hr] at hc
      have hct := cut_search (p := fun y => jobLt y x) hc.out.1 hc.out.2
      have hone : smerge jobLt [x] Y = Y.take r ++ x :: Y.drop r := by
        conv => lhs; rw [← List.take_append_drop r Y]
        exact smerge_one_left x _ _ hct.1 hct.2
      have hyl : (Y.take r).length = r := by rw [List.length_take]; have := H.out.hb; omega
      have hma : a + 1 ≤ m ∧ m ≤ a + 1 := by have := HM.out; omega
      have hsl : r + 1 + (Y.drop r).length + S.length + a = l0.length := by rw [List.length_drop]; have := H.out.hb; have := H.out.hn; omega
      have hir : m + r ≤ i ∧ i ≤ m + r := by omega
      have hw0 : SWB encJob 8 w0 blk off (A ++ ([x] ++ ((Y.take r ++ Y.drop r) ++ S))) wr := by rw [List.take_append_drop]; exact H.out.hw
      have HX := Lib.hid (And.intro hone (And.intro hyl (And.intro hsl (And.intro trivial hw0))))
      have hi1 : 1 ≤ i := by omega
      have him : i ≤ 1000000 := by omega
      clear hct hone hyl hsl hr hc hw0
      generalize Y.take r = Y1 at HX
      generalize Y.drop r = Y2 at HX
      go_wp2
      go_loopg [13] (r + 1) (fun g vk wr => ∃ k t : Nat, vk = .int .i64 k ∧ k = a + t ∧ t ≤ r ∧ r - t ≤ g ∧ SWB encJob 8 w0 blk off (A ++ (Y1.take t ++ x :: (Y1.drop t ++ (Y2 ++ S)))) wr)
      case atStart => exact ⟨a, 0, rfl, rfl, Nat.zero_le _, by omega, by simpa using HX.out.2.2.2.2⟩
      case round =>
        obtain ⟨k, t, rfl, hkt, htr, hg, hw⟩ := hrel
        have hk1 : a + t ≤ k ∧ k ≤ a + t := by omega
        clear hkt
        by_cases hlt : t < r
        · obtain ⟨y, hy⟩ : ∃ y, Y1[t]? = some y := ⟨_, List.getElem?_eq_getElem (by have := HX.out.2.1; omega)⟩
          have dy : Y1.drop t = y :: Y1.drop (t + 1) := by rw [List.drop_eq_getElem_cons (by have := HX.out.2.1; omega)]; congr 1; exact (List.getElem?_eq_some_iff.1 hy).2
          have ty : Y1.take (t + 1) = Y1.take t ++ [y] := by rw [List.take_add_one, hy]; rfl
          have hi1 : (A ++ Y1.take t).length = k := by rw [List.length_append, List.length_take, H.out.ha]; have := HX.out.2.1; omega
          have hE : A ++ (Y1.take (t + 1) ++ x :: (Y1.drop (t + 1) ++ (Y2 ++ S))) = (A ++ Y1.take t) ++ y :: ([] ++ x :: (Y1.drop (t + 1) ++ (Y2 ++ S))) := by rw [ty]; simp
          rw [dy] at hw
          have hwl : SWB encJob 8 w0 blk off ((A ++ Y1.take t) ++ x :: ([] ++ y :: (Y1.drop (t + 1) ++ (Y2 ++ S)))) wr := by simpa using hw
          have hln : ((A ++ Y1.take t) ++ x :: ([] ++ y :: (Y1.drop (t + 1) ++ (Y2 ++ S)))).length = l0.length := by have := HX.out.2.1; have := HX.out.2.2.1; have := H.out.ha; simp; omega
          have HE := Lib.hid hE
          clear hy dy ty hE hw
          generalize A ++ Y1.take t = A1 at hwl hln hi1 HE
          obtain ⟨S1, hS1⟩ : ∃ S1, Y1.drop (t + 1) ++ (Y2 ++ S) = S1 := ⟨_, rfl⟩
          rw [hS1] at hwl hln
          have HS1 := Lib.hid hS1
          clear hS1
          have hki : (k : Int) < (i : Int) - 1 := by omega
          have hkb : k + 1 < l0.length := by omega
          have hs2 := hwl.swapped R hi1.symm (show k + 1 = (A1).length + 1 + ([] : List LJob).length by rw [hi1]; rfl)
          simp only [setJob, World.setCell_drew] at hs2
          have HS := Lib.hid hs2
          obtain ⟨epc, epf⟩ := hwl.cells R hln (i := k) (get_mid _ _ _ hi1)
          have ep0 := epc 0 _ rfl
          have ep1 := epc 1 _ rfl
          have ep2 := epc 2 _ rfl
          have ep3 := epc 3 _ rfl
          have ep4 := epc 4 _ rfl
          have ep5 := epc 5 _ rfl
          have ep6 := epc 6 _ rfl
          have ep7 := epc 7 _ rfl
          simp only [Nat.add_zero] at ep0
          clear epc
          obtain ⟨exc, exf⟩ := hwl.cells R hln (i := k + 1) (by rw [show A1 ++ x :: ([] ++ y :: S1) = (A1 ++ [x]) ++ y :: S1 by simp]; exact get_mid _ _ _ (by rw [List.length_append, hi1]; rfl))
          have ex0 := exc 0 _ rfl
          have ex1 := exc 1 _ rfl
          have ex2 := exc 2 _ rfl
          have ex3 := exc 3 _ rfl
          have ex4 := exc 4 _ rfl
          have ex5 := exc 5 _ rfl
          have ex6 := exc 6 _ rfl
          have ex7 := exc 7 _ rfl
          simp only [Nat.add_zero] at ex0
          clear exc
          have wi : IntKind.i64.wrap (k : Int) = (k : Int) := by rw [IntKind.wrap_i64]; omega
          have wj : IntKind.i64.wrap ((k : Int) + 1) = (k : Int) + 1 := by rw [IntKind.wrap_i64]; omega
          have h0j : (0 : Int) ≤ (k : Int) + 1 := by omega
          have hjz : (k : Int) + 1 < (l0.length : Int) := by omega
          have hiz : (k : Int) < (l0.length : Int) := by omega
          have hnt : ((k : Int) + 1).toNat = k + 1 := by omega
          have hab : k < k + 1 := by omega
          clear hs2
          clear hwl hln hi1
          go_wp2
          go_region
          all_goals
            go_wp2
            go_roundg (r - (t + 1))
            case measure => omega
            case rel => exact ⟨k + 1, t + 1, by go_num, by omega, by omega, Nat.le_refl _, by rw [HS1.out] at HE; rw [HS1.out, HE.out]; first | (with_reducible exact HS.out.1) | (with_reducible exact HS.out.2)⟩
        · have htt : t = r := by omega
          have hki : ¬ (k : Int) < (i : Int) - 1 := by omega
          have HW := Lib.hid hw
          have HT := Lib.hid htt
          clear hw htt
          go_wp2
          (try simp only [Exit.inBlock, Exit.then]); refine bodyPost_ret (results_none rfl _ _ _) rfl ?_
          refine ⟨rfl, ?_⟩
          have h9 := HW.out
          rw [HT.out, List.take_of_length_le (by rw [HX.out.2.1]; exact Nat.le_refl _), List.drop_of_length_le (by rw [HX.out.2.1]; exact Nat.le_refl _)] at h9
          rw [HX.out.1]
          simpa using h9
end
end Go.Proofs.Ytcfninipcghbmaa
