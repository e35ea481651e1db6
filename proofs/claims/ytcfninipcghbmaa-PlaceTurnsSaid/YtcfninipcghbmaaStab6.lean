/-
  slices.symMergeCmpFunc at jobs: the great case, and all cases.
-/
import Derived.Test.YtcfninipcghbmaaStab5
set_option linter.unusedVariables false
set_option linter.unusedSimpArgs false
namespace Go.Proofs.Ytcfninipcghbmaa
open Go.Shelf Go.RowKit Go.Sort

section
variable {w0 W : World} {blk off cap : Nat} {l0 : List LJob}
theorem sym_cut {X Y : List LJob} (hx : Asc jobLt X) (hy : Asc jobLt Y) (i j : Nat) (hi : i ≤ X.length) (hj : j ≤ Y.length)
    (h1 : ∀ x y, X[i]? = some x → 0 < j → Y[j - 1]? = some y → jobLt y x = true) (h2 : ∀ x y, 0 < i → X[i - 1]? = some x → Y[j]? = some y → jobLt y x = false) :
    smerge jobLt X Y = smerge jobLt (X.take i) (Y.take j) ++ smerge jobLt (X.drop i) (Y.drop j) := by
  conv => lhs; rw [← List.take_append_drop i X, ← List.take_append_drop j Y]
  refine smerge_split _ _ _ _ _ (Nat.le_refl _) (mem_at fun t y hty => mem_at fun c x hcx => ?_) (mem_at fun t x htx => mem_at fun c y hcy => ?_)
  · rw [List.getElem?_take] at hty
    split at hty
    · rw [List.getElem?_drop] at hcx
      have hl := (List.getElem?_eq_some_iff.1 hcx).1
      obtain ⟨y0, hy0⟩ : ∃ y0, Y[j - 1]? = some y0 := ⟨_, List.getElem?_eq_getElem (by omega)⟩
      obtain ⟨x0, hx0⟩ : ∃ x0, X[i]? = some x0 := ⟨_, List.getElem?_eq_getElem (by omega)⟩
      have g1 := h1 x0 y0 hx0 (by omega) hy0
      have g2 := hy.le' jobOrd (show t ≤ j - 1 by omega) hty hy0
      have g3 := hx.le' jobOrd (show i ≤ i + c by omega) hx0 hcx
      rcases jobOrd.co y0 y x0 g1 with g | g
      · rw [g] at g2; cases g2
      · rcases jobOrd.co y x x0 g with g | g
        · exact g
        · rw [g] at g3; cases g3
    · cases hty
  · rw [List.getElem?_take] at htx
    split at htx
    · rw [List.getElem?_drop] at hcy
      have hl := (List.getElem?_eq_some_iff.1 hcy).1
      obtain ⟨x0, hx0⟩ : ∃ x0, X[i - 1]? = some x0 := ⟨_, List.getElem?_eq_getElem (by omega)⟩
      obtain ⟨y0, hy0⟩ : ∃ y0, Y[j]? = some y0 := ⟨_, List.getElem?_eq_getElem (by omega)⟩
      exact jobOrd.nn (jobOrd.nn (hx.le' jobOrd (show t ≤ i - 1 by omega) htx hx0) (h2 x0 y0 (by omega) hx0 hy0)) (hy.le' jobOrd (show j ≤ j + c by omega) hy0 hcy)
    · cases htx
/-- Behind the search: the row in its four parts. -/
structure Four (w0 : World) (blk off : Nat) (l0 A X1 X2 Y1 Y2 S : List LJob) (a s m e b mid : Nat) (wr : World) : Prop where
  ha : A.length = a
  hs : a + X1.length = s
  hm : s + X2.length = m
  he : m + Y1.length = e
  hb : e + Y2.length = b
  hd : s + Y1.length = mid
  hn : b + S.length = l0.length
  x1 : Asc jobLt X1
  x2 : Asc jobLt X2
  y1 : Asc jobLt Y1
  y2 : Asc jobLt Y2
  hw : SWB encJob 8 w0 blk off (A ++ (X1 ++ (X2 ++ (Y1 ++ (Y2 ++ S))))) wr
section
variable {A X1 X2 Y1 Y2 S : List LJob} {a s m e b mid : Nat} {wr w1 : World}
theorem Four.skip1 (h : Four w0 blk off l0 A X1 X2 Y1 Y2 S a s m e b mid wr) (hc : ¬ (s < m ∧ m < e)) : SWB encJob 8 w0 blk off (A ++ (X1 ++ (Y1 ++ (X2 ++ (Y2 ++ S))))) wr := by
  have := h.hw
  have h1 := h.hm; have h2 := h.he
  by_cases hx : X2 = []
  · subst hx; simpa using this
  · have : Y1 = [] := List.eq_nil_of_length_eq_zero (by have : 0 < X2.length := List.length_pos_iff.2 hx; omega)
    subst this; simpa using h.hw
theorem Four.skip2 (h : Four w0 blk off l0 A X1 X2 Y1 Y2 S a s m e b mid wr) (hc : ¬ (a < s ∧ s < mid)) : smerge jobLt X1 Y1 = X1 ++ Y1 := by
  have h1 := h.hs; have h2 := h.hd
  by_cases hx : X1 = []
  · subst hx; rw [nil_smerge]; rfl
  · have : Y1 = [] := List.eq_nil_of_length_eq_zero (by have : 0 < X1.length := List.length_pos_iff.2 hx; omega)
    subst this; rw [smerge_nil, List.append_nil]
theorem Four.skip3 (h : Four w0 blk off l0 A X1 X2 Y1 Y2 S a s m e b mid wr) (hc : ¬ (mid < e ∧ e < b)) : smerge jobLt X2 Y2 = X2 ++ Y2 := by
  have h1 := h.hm; have h2 := h.hb; have h3 := h.hd; have h4 := h.he
  by_cases hx : X2 = []
  · subst hx; rw [nil_smerge]; rfl
  · have : Y2 = [] := List.eq_nil_of_length_eq_zero (by have : 0 < X2.length := List.length_pos_iff.2 hx; omega)
    subst this; rw [smerge_nil, List.append_nil]
theorem Four.sym2 (h : Four w0 blk off l0 A X1 X2 Y1 Y2 S a s m e b mid wr) (hw : SWB encJob 8 w0 blk off (A ++ (X1 ++ (Y1 ++ (X2 ++ (Y2 ++ S))))) w1) : Sym w0 blk off l0 A X1 Y1 (X2 ++ (Y2 ++ S)) a s mid w1 :=
  ⟨h.ha, h.hs, h.hd, by have := h.hm; have := h.he; have := h.hb; have := h.hd; have := h.hn; simp; omega, h.x1, h.y1, hw⟩
theorem Four.sym3 (h : Four w0 blk off l0 A X1 X2 Y1 Y2 S a s m e b mid wr) (hw : SWB encJob 8 w0 blk off (A ++ (smerge jobLt X1 Y1 ++ (X2 ++ (Y2 ++ S)))) w1) : Sym w0 blk off l0 (A ++ smerge jobLt X1 Y1) X2 Y2 S mid e b w1 :=
  ⟨by rw [List.length_append, length_smerge _ _ _ (Nat.le_refl _)]; have := h.ha; have := h.hs; have := h.hd; omega, by have := h.hm; have := h.he; have := h.hd; omega, h.hb, h.hn, h.x2, h.y2, by rw [List.append_assoc]; exact hw⟩
end
def SymCalls (w0 : World) (blk off cap : Nat) (l0 : List LJob) (d : Nat) : Prop := ∀ (A X Y S : List LJob) (a m b : Nat) (W : World), Sym w0 blk off l0 A X Y S a m b W → 0 < X.length → 0 < Y.length → b - a < d →
    Calls Try.prog 161 #[.slice (some ⟨blk, off, none⟩) l0.length cap, .int .i64 a, .int .i64 m, .int .i64 b, .func (.func 130) #[] #[]] W fun e W' => e = .returned (.tuple #[]) ∧ SWB encJob 8 w0 blk off (A ++ (smerge jobLt X Y ++ S)) W'
set_option maxRecDepth 100000 in
set_option maxHeartbeats 6400000 in
theorem symMain_t (R : RowL encJob 8 w0 blk off l0) (hsz : l0.length ≤ 1000000) (A X Y S : List LJob) (a m b : Nat) (h : Sym w0 blk off l0 A X Y S a m b W) (hX : 2 ≤ X.length) (hY : 2 ≤ Y.length) (ih : SymCalls w0 blk off cap l0 (b - a)) :
    Calls Try.prog 161 #[.slice (some ⟨blk, off, none⟩) l0.length cap, .int .i64 a, .int .i64 m, .int .i64 b, .func (.func 130) #[] #[]] W fun e W' => e = .returned (.tuple #[]) ∧ SWB encJob 8 w0 blk off (A ++ (smerge jobLt X Y ++ S)) W' := by
  have ham : a + 2 ≤ m := by have := h.hm; omega
  have hmb : m + 2 ≤ b := by have := h.hb; omega
  have hbn : b ≤ l0.length := by have := h.hn; omega
  have hv : ((m : Int) - (a : Int) == 1) = false := by rw [beq_eq_false_iff_ne]; omega
  have hv2 : ((b : Int) - (m : Int) == 1) = false := by rw [beq_eq_false_iff_ne]; omega
  obtain ⟨mid, hmid⟩ : ∃ mid, (a + b) / 2 = mid := ⟨_, rfl⟩
  obtain ⟨n, hn⟩ : ∃ n, mid + m = n := ⟨_, rfl⟩
  obtain ⟨p, hp⟩ : ∃ p, n - 1 = p := ⟨_, rfl⟩
  have hz : ((a : Int) + (b : Int)) / 2 = (mid : Int) := by omega
  have hzn : (mid : Int) + (m : Int) = (n : Int) := by omega
  have hzp : (n : Int) - 1 = (p : Int) := by omega
  have hm1 : a < mid ∧ mid < b ∧ mid + m ≤ n ∧ n ≤ mid + m ∧ p + 1 ≤ n ∧ n ≤ p + 1 ∧ a + b ≤ 2 * mid + 1 ∧ 2 * mid ≤ a + b := by omega
  have H := Lib.hid (And.intro h ih)
  clear h ih hmid hn hp
  go_enter Try.func161, Try.ntmps161
  go_upto_if 140 with fail
  clear hv hv2 hz hzn
  go_cut [20, 21] (fun v20 v21 wx => ∃ s0 r0 : Nat, v20 = .int .i64 s0 ∧ v21 = .int .i64 r0 ∧ a ≤ s0 ∧ s0 ≤ r0 ∧ r0 ≤ m ∧ n ≤ s0 + b ∧ r0 + m ≤ n ∧ (s0 = a ∨ s0 + b = n) ∧ (r0 = m ∨ r0 + m = n) ∧ wx = W)
  case first =>
    by_cases hgt : mid < m
    · have hzs : (n : Int) - (b : Int) = ((n - b : Nat) : Int) := by omega
      go_wp2_with fail
      go_meet
      exact ⟨n - b, mid, rfl, rfl, by omega, by omega, by omega, by omega, by omega, .inr (by omega), .inr (by omega), rfl⟩
    · go_wp2_with fail
      go_meet
      exact ⟨a, m, rfl, rfl, by omega, by omega, by omega, by omega, by omega, .inl rfl, .inl rfl, rfl⟩
  case rest =>
    obtain ⟨s0, r0, rfl, rfl, h1, h2, h3, h4, h5, h6, h7, rfl⟩ := hcut
    have H0 := Lib.hid (And.intro h6 h7)
    clear h6 h7
    go_wp2
    clear hzp
    go_loopg [20, 21] (m + 1) (fun g vs vr wr => ∃ s r : Nat, vs = .int .i64 s ∧ vr = .int .i64 r ∧ s0 ≤ s ∧ s ≤ r ∧ r ≤ r0 ∧ r - s ≤ g ∧ Sym w0 blk off l0 A X Y S a m b wr ∧
      Hid ((∀ (c : Nat) x y, s0 ≤ c → c < s → X[c - a]? = some x → Y[p - c - m]? = some y → jobLt y x = false) ∧ ∀ (c : Nat) x y, r ≤ c → c < r0 → X[c - a]? = some x → Y[p - c - m]? = some y → jobLt y x = true))
    case atStart => exact ⟨s0, r0, rfl, rfl, Nat.le_refl _, h2, Nat.le_refl _, by omega, H.out.1, Lib.hid ⟨fun c x y h1 h2 => by omega, fun c x y h1 h2 => by omega⟩⟩
    case round =>
      obtain ⟨s, r, rfl, rfl, hs0, hsr, hr0, hg, hS, hc⟩ := hrel
      have HS := Lib.hid hS
      clear hS
      by_cases hlt : s < r
      · obtain ⟨c, hcd⟩ : ∃ c, (s + r) / 2 = c := ⟨_, rfl⟩
        have hzc : ((s : Int) + (r : Int)) / 2 = (c : Int) := by omega
        have hc1 : s ≤ c ∧ c < r := by omega
        obtain ⟨pc, hpc⟩ : ∃ pc, p - c = pc := ⟨_, rfl⟩
        have hpc1 : pc + c ≤ p ∧ p ≤ pc + c ∧ m ≤ pc ∧ pc < b := by omega
        have hwp : IntKind.i64.wrap ((p : Int) - (c : Int)) = (pc : Int) := by rw [IntKind.wrap_i64]; omega
        obtain ⟨x, hx⟩ : ∃ x, X[c - a]? = some x := ⟨_, List.getElem?_eq_getElem (by have := HS.out.hm; omega)⟩
        obtain ⟨y, hy⟩ : ∃ y, Y[pc - m]? = some y := ⟨_, List.getElem?_eq_getElem (by have := HS.out.hb; omega)⟩
        have hwr := HS.out.hw
        have hln := HS.out.len
        have hx0 := HS.out.getX (c := c) hx (by omega)
        have hy0 := HS.out.getY (c := pc) hy (by omega)
        have exc := fun d os => ((hwr.below (below_regrown wr d os)).cells R hln (i := c) hx0).1
        have ex0 := fun d os => exc d os 0 _ rfl
        have ex1 := fun d os => exc d os 1 _ rfl
        have ex2 := fun d os => exc d os 2 _ rfl
        have ex3 := fun d os => exc d os 3 _ rfl
        have ex4 := fun d os => exc d os 4 _ rfl
        have ex5 := fun d os => exc d os 5 _ rfl
        have ex6 := fun d os => exc d os 6 _ rfl
        have ex7 := fun d os => exc d os 7 _ rfl
        simp only [Nat.add_zero] at ex0
        clear exc
        have eyc := fun d os => ((hwr.below (below_regrown wr d os)).cells R hln (i := pc) hy0).1
        have ey0 := fun d os => eyc d os 0 _ rfl
        have ey1 := fun d os => eyc d os 1 _ rfl
        have ey2 := fun d os => eyc d os 2 _ rfl
        have ey3 := fun d os => eyc d os 3 _ rfl
        have ey4 := fun d os => eyc d os 4 _ rfl
        have ey5 := fun d os => eyc d os 5 _ rfl
        have ey6 := fun d os => eyc d os 6 _ rfl
        have ey7 := fun d os => eyc d os 7 _ rfl
        simp only [Nat.add_zero] at ey0
        clear eyc
        have hcq := fun d os => Calls.regrown_of (compare_t y x (grow (redrawn wr d) os))
        have hcl := cfJob_lt y x
        have hz1 : (pc : Int) < (l0.length : Int) := by omega
        have hz2 : (c : Int) < (l0.length : Int) := by omega
        have HX := Lib.hid (And.intro hx (show Y[p - c - m]? = some y by rw [hpc]; exact hy))
        clear hx hy hwr hln hx0 hy0 hcd hpc
        cases hb2 : jobLt y x
        all_goals
          rw [hb2] at hcl
          have HB := Lib.hid hb2
          clear hb2
          go_wp2
          refine wp_region_quiet_below (by kernel_rfl) (by kernel_rfl) ?_
          repeat (quiet_step (exact hcq _ _))
          refine wpQuiet_nil ?_
          intro _ hw'
          obtain ⟨⟨dq, osq⟩, hw''⟩ := hw'
          subst hw''
          clear ex0 ex1 ex2 ex3 ex4 ex5 ex6 ex7 ey0 ey1 ey2 ey3 ey4 ey5 ey6 ey7 hcq
          have hk : Sym w0 blk off l0 A X Y S a m b (grow (redrawn wr dq) osq) := { HS.out with hw := HS.out.hw.below (below_regrown wr dq osq) }
          generalize grow (redrawn wr dq) osq = wr3 at hk ⊢
          have HK := Lib.hid hk
          clear hk hzc
          go_wp2
        · go_roundg (r - (c + 1))
          case measure => omega
          case rel => exact ⟨c + 1, r, by go_num, rfl, by omega, by omega, hr0, Nat.le_refl _, HK.out, Lib.hid ⟨fun d u v hd1 hd2 hu hv => by
            exact jobOrd.nn (jobOrd.nn (HK.out.hx.le' jobOrd (show d - a ≤ c - a by omega) hu HX.out.1) HB.out) (HK.out.hy.le' jobOrd (show p - c - m ≤ p - d - m by omega) HX.out.2 hv), hc.out.2⟩⟩
        · go_roundg (c - s)
          case measure => omega
          case rel => exact ⟨s, c, rfl, rfl, hs0, hc1.1, by omega, Nat.le_refl _, HK.out, Lib.hid ⟨hc.out.1, fun d u v hd1 hd2 hu hv => by
            have g2 := HK.out.hy.le' jobOrd (show p - d - m ≤ p - c - m by omega) hv HX.out.2
            have g3 := HK.out.hx.le' jobOrd (show c - a ≤ d - a by omega) HX.out.1 hu
            rcases jobOrd.co y v x HB.out with q1 | q1
            · rw [q1] at g2; cases g2
            · rcases jobOrd.co v u x q1 with q2 | q2
              · exact q2
              · rw [q2] at g3; cases g3⟩⟩
      · obtain rfl : s = r := by omega
        obtain ⟨e, he⟩ : ∃ e, n - s = e := ⟨_, rfl⟩
        have hze : (n : Int) - (s : Int) = (e : Int) := by omega
        have hcut := sym_cut HS.out.hx HS.out.hy (s - a) (e - m) (by have := HS.out.hm; omega) (by have := HS.out.hb; omega)
          (fun x y hx hj hy => by
            rcases Nat.lt_or_ge s r0 with q | q
            · exact hc.out.2 s x y (Nat.le_refl _) q hx (by rw [show p - s - m = e - m - 1 by omega]; exact hy)
            · have := (List.getElem?_eq_some_iff.1 hx).1
              have := HS.out.hm
              rcases H0.out.2 with q2 | q2 <;> omega)
          (fun x y hi hx hy => by
            rcases Nat.lt_or_ge s0 s with q | q
            · exact hc.out.1 (s - 1) x y (by omega) (by omega) (by rw [show s - 1 - a = s - a - 1 by omega]; exact hx) (by rw [show p - (s - 1) - m = e - m by omega]; exact hy)
            · have := (List.getElem?_eq_some_iff.1 hy).1
              have := HS.out.hb
              rcases H0.out.1 with q2 | q2 <;> omega)
        have hF : Four w0 blk off l0 A (X.take (s - a)) (X.drop (s - a)) (Y.take (e - m)) (Y.drop (e - m)) S a s m e b mid wr := ⟨HS.out.ha, by rw [List.length_take]; have := HS.out.hm; omega, by rw [List.length_drop]; have := HS.out.hm; omega, by rw [List.length_take]; have := HS.out.hb; omega, by rw [List.length_drop]; have := HS.out.hb; omega,
          by rw [List.length_take]; have := HS.out.hb; omega, HS.out.hn, HS.out.hx.sublist (List.take_sublist _ _), HS.out.hx.sublist (List.drop_sublist _ _), HS.out.hy.sublist (List.take_sublist _ _), HS.out.hy.sublist (List.drop_sublist _ _), by
          rw [← List.append_assoc (X.take _), List.take_append_drop, ← List.append_assoc (Y.take _), List.take_append_drop]; exact HS.out.hw⟩
        generalize X.take (s - a) = X1 at hcut hF
        generalize X.drop (s - a) = X2 at hcut hF
        generalize Y.take (e - m) = Y1 at hcut hF
        generalize Y.drop (e - m) = Y2 at hcut hF
        have HC := Lib.hid hcut
        have HF := Lib.hid hF
        have hem : m ≤ e ∧ e ≤ b ∧ e + s ≤ n ∧ n ≤ e + s := by omega
        clear hcut hF hc he HS
        by_cases q1 : s < m
        · by_cases q2 : m < e
          · by_cases q3 : a < s
            · by_cases q4 : e < b
              · have hcx := rotate_t (cap := cap) (l0 := l0) R hsz (A ++ X1) X2 Y1 (Y2 ++ S) s m e (by have := HF.out.ha; have := HF.out.hs; simp; omega) HF.out.hm HF.out.he (by have := HF.out.hm; omega) (by have := HF.out.he; omega) (by have := HF.out.hb; have := HF.out.hn; simp; omega) (by rw [List.append_assoc]; exact HF.out.hw) (.func (.func 130) #[] #[])
                go_wp2_with fail
                (with_reducible refine hcx.mono ?_)
                clear hcx
                rintro e9 w1 ⟨rfl, hw1⟩
                rw [List.append_assoc] at hw1
                have H1 := Lib.hid hw1
                clear hw1
                have hcx := H.out.2 A X1 Y1 (X2 ++ (Y2 ++ S)) a s mid _ (HF.out.sym2 H1.out) (by have := HF.out.hs; omega) (by have := HF.out.hd; omega) (by omega)
                go_wp2_with fail
                (with_reducible refine hcx.mono ?_)
                clear hcx
                rintro e9 w2 ⟨rfl, hw2⟩
                have H2 := Lib.hid hw2
                clear hw2
                have hcx := H.out.2 (A ++ smerge jobLt X1 Y1) X2 Y2 S mid e b _ (HF.out.sym3 H2.out) (by have := HF.out.hm; omega) (by have := HF.out.hb; omega) (by omega)
                go_wp2_with fail
                (with_reducible refine hcx.mono ?_)
                clear hcx
                rintro e9 w3 ⟨rfl, hw3⟩
                have H3 := Lib.hid hw3
                clear hw3
                go_wp2
                go_end0
                exact ⟨rfl, by rw [HC.out]; have h9 := H3.out; simpa using h9⟩
              · have hcx := rotate_t (cap := cap) (l0 := l0) R hsz (A ++ X1) X2 Y1 (Y2 ++ S) s m e (by have := HF.out.ha; have := HF.out.hs; simp; omega) HF.out.hm HF.out.he (by have := HF.out.hm; omega) (by have := HF.out.he; omega) (by have := HF.out.hb; have := HF.out.hn; simp; omega) (by rw [List.append_assoc]; exact HF.out.hw) (.func (.func 130) #[] #[])
                go_wp2_with fail
                (with_reducible refine hcx.mono ?_)
                clear hcx
                rintro e9 w1 ⟨rfl, hw1⟩
                rw [List.append_assoc] at hw1
                have H1 := Lib.hid hw1
                clear hw1
                have hcx := H.out.2 A X1 Y1 (X2 ++ (Y2 ++ S)) a s mid _ (HF.out.sym2 H1.out) (by have := HF.out.hs; omega) (by have := HF.out.hd; omega) (by omega)
                go_wp2_with fail
                (with_reducible refine hcx.mono ?_)
                clear hcx
                rintro e9 w2 ⟨rfl, hw2⟩
                have H2 := Lib.hid hw2
                clear hw2
                go_wp2
                go_end0
                exact ⟨rfl, by rw [HC.out, HF.out.skip3 (by omega)]; have h9 := H2.out; simpa using h9⟩
            · by_cases q4 : e < b
              · have hcx := rotate_t (cap := cap) (l0 := l0) R hsz (A ++ X1) X2 Y1 (Y2 ++ S) s m e (by have := HF.out.ha; have := HF.out.hs; simp; omega) HF.out.hm HF.out.he (by have := HF.out.hm; omega) (by have := HF.out.he; omega) (by have := HF.out.hb; have := HF.out.hn; simp; omega) (by rw [List.append_assoc]; exact HF.out.hw) (.func (.func 130) #[] #[])
                go_wp2_with fail
                (with_reducible refine hcx.mono ?_)
                clear hcx
                rintro e9 w1 ⟨rfl, hw1⟩
                rw [List.append_assoc] at hw1
                have H1 := Lib.hid hw1
                clear hw1
                have H2 := Lib.hid (show SWB encJob 8 w0 blk off (A ++ (smerge jobLt X1 Y1 ++ (X2 ++ (Y2 ++ S)))) _ by rw [HF.out.skip2 (by omega), List.append_assoc]; exact H1.out)
                have hcx := H.out.2 (A ++ smerge jobLt X1 Y1) X2 Y2 S mid e b _ (HF.out.sym3 H2.out) (by have := HF.out.hm; omega) (by have := HF.out.hb; omega) (by omega)
                go_wp2_with fail
                (with_reducible refine hcx.mono ?_)
                clear hcx
                rintro e9 w3 ⟨rfl, hw3⟩
                have H3 := Lib.hid hw3
                clear hw3
                go_wp2
                go_end0
                exact ⟨rfl, by rw [HC.out]; have h9 := H3.out; simpa using h9⟩
              · have hcx := rotate_t (cap := cap) (l0 := l0) R hsz (A ++ X1) X2 Y1 (Y2 ++ S) s m e (by have := HF.out.ha; have := HF.out.hs; simp; omega) HF.out.hm HF.out.he (by have := HF.out.hm; omega) (by have := HF.out.he; omega) (by have := HF.out.hb; have := HF.out.hn; simp; omega) (by rw [List.append_assoc]; exact HF.out.hw) (.func (.func 130) #[] #[])
                go_wp2_with fail
                (with_reducible refine hcx.mono ?_)
                clear hcx
                rintro e9 w1 ⟨rfl, hw1⟩
                rw [List.append_assoc] at hw1
                have H1 := Lib.hid hw1
                clear hw1
                have H2 := Lib.hid (show SWB encJob 8 w0 blk off (A ++ (smerge jobLt X1 Y1 ++ (X2 ++ (Y2 ++ S)))) _ by rw [HF.out.skip2 (by omega), List.append_assoc]; exact H1.out)
                go_wp2
                go_end0
                exact ⟨rfl, by rw [HC.out, HF.out.skip3 (by omega)]; have h9 := H2.out; simpa using h9⟩
          · by_cases q3 : a < s
            · by_cases q4 : e < b
              · have H1 := Lib.hid (HF.out.skip1 (by omega))
                have H2 := Lib.hid (show SWB encJob 8 w0 blk off (A ++ (smerge jobLt X1 Y1 ++ (X2 ++ (Y2 ++ S)))) _ by rw [HF.out.skip2 (by omega), List.append_assoc]; exact H1.out)
                have hcx := H.out.2 (A ++ smerge jobLt X1 Y1) X2 Y2 S mid e b _ (HF.out.sym3 H2.out) (by have := HF.out.hm; omega) (by have := HF.out.hb; omega) (by omega)
                go_wp2_with fail
                (with_reducible refine hcx.mono ?_)
                clear hcx
                rintro e9 w3 ⟨rfl, hw3⟩
                have H3 := Lib.hid hw3
                clear hw3
                go_wp2
                go_end0
                exact ⟨rfl, by rw [HC.out]; have h9 := H3.out; simpa using h9⟩
              · exfalso; omega
            · by_cases q4 : e < b
              · exfalso; omega
              · exfalso; omega
        · by_cases q2 : m < e
          · by_cases q3 : a < s
            · by_cases q4 : e < b
              · have H1 := Lib.hid (HF.out.skip1 (by omega))
                have hcx := H.out.2 A X1 Y1 (X2 ++ (Y2 ++ S)) a s mid _ (HF.out.sym2 H1.out) (by have := HF.out.hs; omega) (by have := HF.out.hd; omega) (by omega)
                go_wp2_with fail
                (with_reducible refine hcx.mono ?_)
                clear hcx
                rintro e9 w2 ⟨rfl, hw2⟩
                have H2 := Lib.hid hw2
                clear hw2
                go_wp2
                go_end0
                exact ⟨rfl, by rw [HC.out, HF.out.skip3 (by omega)]; have h9 := H2.out; simpa using h9⟩
              · exfalso; omega
            · by_cases q4 : e < b
              · exfalso; omega
              · exfalso; omega
          · by_cases q3 : a < s
            · by_cases q4 : e < b
              · have H1 := Lib.hid (HF.out.skip1 (by omega))
                have H2 := Lib.hid (show SWB encJob 8 w0 blk off (A ++ (smerge jobLt X1 Y1 ++ (X2 ++ (Y2 ++ S)))) _ by rw [HF.out.skip2 (by omega), List.append_assoc]; exact H1.out)
                go_wp2
                go_end0
                exact ⟨rfl, by rw [HC.out, HF.out.skip3 (by omega)]; have h9 := H2.out; simpa using h9⟩
              · exfalso; omega
            · by_cases q4 : e < b
              · exfalso; omega
              · exfalso; omega
/-- slices.symMergeCmpFunc, all cases. -/
theorem symMerge_t (R : RowL encJob 8 w0 blk off l0) (hsz : l0.length ≤ 1000000) : ∀ d, SymCalls w0 blk off cap l0 d := by
  intro d
  induction d with
  | zero => intro A X Y S a m b W _ _ _ h; omega
  | succ d ih =>
    intro A X Y S a m b W h hX hY hd
    by_cases h1 : X.length = 1
    · obtain ⟨x, rfl⟩ := List.length_eq_one_iff.1 h1
      exact symOne_t R hsz A Y S x a m b h
    · by_cases h2 : Y.length = 1
      · obtain ⟨y, rfl⟩ := List.length_eq_one_iff.1 h2
        exact symTwo_t R hsz A X S y a m b h (by omega)
      · exact symMain_t R hsz A X Y S a m b h (by omega) (by omega) (fun A X Y S a' m' b' W h hX hY hd' => ih A X Y S a' m' b' W h hX hY (by omega))
end
end Go.Proofs.Ytcfninipcghbmaa
