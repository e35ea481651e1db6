/-
  PlaceTurns by its contract: the walk.
-/
import Derived.Test.YtcfninipcghbmaaPlaceQ
import Derived.Deep.RegionHeld3
set_option linter.unusedVariables false
set_option linter.unusedSimpArgs false
namespace Go.Proofs.Ytcfninipcghbmaa
open Go.Shelf Go.RowKit Go.Sort

def Uniq {α : Type} (f : α → Int) (l : List α) (k : Nat) : Prop := ∀ (a b : Nat) x y, b < a → a < k → l[b]? = some x → l[a]? = some y → f x ≠ f y
theorem uniq_succ {α : Type} {f : α → Int} {l : List α} {k : Nat} {y : α} (h : Uniq f l k) (hy : l[k]? = some y) (hd : ∀ (b : Nat) x, b < k → l[b]? = some x → f x ≠ f y) : Uniq f l (k + 1) := by
  intro a b x z hba hak hx hz
  rcases Nat.lt_or_eq_of_le (Nat.le_of_lt_succ hak) with h1 | rfl
  · exact h a b x z hba h1 hx hz
  · rw [hy] at hz
    cases hz
    exact hd b x hba hx
set_option maxRecDepth 100000 in
set_option maxHeartbeats 6400000 in
theorem turns28_t (A : Option Addr) (n c : Nat) (l : List LNode) (J : Option Addr) (m d : Nat) (js : List LJob) (p q : Nat) (hp : p < 256) (hq : q < 256) (hnc : n ≤ c) (hmd : m ≤ d) (w : World) (hl : Rd encNode 10 w A n l) (hj : Rd encJob 8 w J m js) :
    Calls Try.prog 4 #[.slice A n c, .slice J m d, .agg #[.int .u8 (p : Int), .int .u8 (q : Int)]] w fun e w' => e = .returned (.bool true) ∧ Below w.heap.size w w' := by
  have hb := Blk.new w 34 #[.int .u8 (p : Int), .int .u8 (q : Int)]
  have hB : Below w.heap.size w (w.alloc (.cells #[.int .u8 (p : Int), .int .u8 (q : Int)] 34)) := (Below.refl _ _).alloc (Nat.le_refl _) _
  have HH := Lib.hid (And.intro (hl.below hB) (And.intro (hj.below hB) (And.intro hb hB)))
  clear hb hB hl hj
  go_enter Try.func4, Try.ntmps4
  go_upto_region 1 with fail
  generalize w.alloc (.cells _ 34) = w1 at HH ⊢
  by_cases hn : (n : Int) > 12
  · skip
    go_wp2_with fail
    (with_reducible refine (awake28_t _).mono ?_)
    rintro e wz ⟨rfl, hBz⟩
    have hbz := (HH.out.2.2.2).trans (hBz.mono (HH.out.2.2.2).size)
    have HBZ := Lib.hid hbz
    clear hBz hbz
    go_wp2
    go_ret
    exact ⟨rfl, HBZ.out⟩
  · by_cases hm : (m : Int) > 20
    · skip
      go_wp2_with fail
      (with_reducible refine (awake28_t _).mono ?_)
      rintro e wz ⟨rfl, hBz⟩
      have hbz := (HH.out.2.2.2).trans (hBz.mono (HH.out.2.2.2).size)
      have HBZ := Lib.hid hbz
      clear hBz hbz
      go_wp2
      go_ret
      exact ⟨rfl, HBZ.out⟩
    · by_cases hn0 : n = 0
      · subst hn0
        go_wp2_with fail
        (with_reducible refine (awake28_t _).mono ?_)
        rintro e wz ⟨rfl, hBz⟩
        have hbz := (HH.out.2.2.2).trans (hBz.mono (HH.out.2.2.2).size)
        have HBZ := Lib.hid hbz
        clear hBz hbz
        go_wp2
        go_ret
        exact ⟨rfl, HBZ.out⟩
      · have hn1 : (n == 0) = false := by rw [beq_eq_false_iff_ne]; exact hn0
        have hn2 : ((n : Int) == 0) = false := by rw [beq_eq_false_iff_ne]; omega
        by_cases hm0 : m = 0
        · subst hm0
          go_wp2_with fail
          (with_reducible refine (awake28_t _).mono ?_)
          rintro e wz ⟨rfl, hBz⟩
          have hbz := (HH.out.2.2.2).trans (hBz.mono (HH.out.2.2.2).size)
          have HBZ := Lib.hid hbz
          clear hBz hbz
          go_wp2
          go_ret
          exact ⟨rfl, HBZ.out⟩
        · have hm1 : (m == 0) = false := by rw [beq_eq_false_iff_ne]; exact hm0
          have hm2 : ((m : Int) == 0) = false := by rw [beq_eq_false_iff_ne]; omega
          have hn12 : n ≤ 12 := by omega
          have hm20 : m ≤ 20 := by omega
          go_wp2
          go_loopg [7] (n + 1) (fun g1 vi wr => ∃ i qq : Nat, vi = .int .i64 i ∧ i ≤ n ∧ n + 1 - i ≤ g1 ∧ Hid (Uniq LNode.id l i) ∧ wr = w1.drewN qq)
          case atStart => exact ⟨0, 0, rfl, Nat.zero_le _, by omega, Lib.hid (fun a b x y h1 h2 => by omega), rfl⟩
          case round =>
            obtain ⟨i, qq, rfl, hi, hg1, HD, rfl⟩ := hrel
            by_cases hlt : i < n
            · obtain ⟨ab, ao, y, rfl, hyy, hyl, hyc⟩ := HH.out.1.at_ hlt
              have y0 := hyc 0 _ rfl
              simp only [Nat.add_zero] at y0
              have HY := Lib.hid hyy
              clear hyc hyy
              go_wp2
              go_loopg [8] (i + 1) (fun g2 vj wr => ∃ j qr : Nat, vj = .int .i64 j ∧ j ≤ i ∧ i + 1 - j ≤ g2 ∧ Hid (∀ (b : Nat) x, b < j → l[b]? = some x → x.id ≠ y.id) ∧ wr = w1.drewN qr)
              case atStart => exact ⟨0, qq, rfl, Nat.zero_le _, by omega, Lib.hid (fun b x h => by omega), rfl⟩
              case round =>
                obtain ⟨j, qr, rfl, hji, hg2, HE, rfl⟩ := hrel
                by_cases hlt2 : j < i
                · have hjn : j < n := by omega
                  obtain ⟨x, hxx⟩ : ∃ x, l[j]? = some x := ⟨_, List.getElem?_eq_getElem (by have := HH.out.1.len; omega)⟩
                  have x0 := HH.out.1.cells_at hxx 0 _ rfl
                  simp only [Nat.add_zero] at x0
                  have HX := Lib.hid hxx
                  clear hxx
                  by_cases hxy : x.id = y.id
                  · have hbq : (x.id == y.id) = true := by rw [beq_iff_eq]; exact hxy
                    have HXY := Lib.hid hxy
                    clear hxy
                    go_wp2
                    go_quiet (fail)
                    have hbw : Below w.heap.size w (w1.drewN (qr + nq)) := HH.out.2.2.2.trans ((below_dN _).mono HH.out.2.2.2.size)
                    try rw [World.drewN_drewN]
                    generalize w1.drewN (qr + nq) = wq at hbw ⊢
                    go_wp2_with fail
                    (with_reducible refine (awake28_t _).mono ?_)
                    rintro e wz ⟨rfl, hBz⟩
                    have hbz := (hbw).trans (hBz.mono (hbw).size)
                    have HBZ := Lib.hid hbz
                    clear hBz hbz
                    go_wp2
                    go_ret
                    exact ⟨rfl, HBZ.out⟩
                  · have hbq : (x.id == y.id) = false := by rw [beq_eq_false_iff_ne]; exact hxy
                    have HXY := Lib.hid hxy
                    clear hxy
                    go_wp2
                    go_quiet (fail)
                    go_wp2
                    go_roundg (i + 1 - (j + 1))
                    case measure => omega
                    case rel =>
                      refine ⟨j + 1, qr + nq, by go_num, by omega, by omega, Lib.hid (fun b z hb hz => ?_), by first | rfl | exact World.drewN_drewN ..⟩
                      rcases Nat.lt_or_eq_of_le (Nat.le_of_lt_succ hb) with h1 | rfl
                      · exact HE.out b z h1 hz
                      · rw [HX.out] at hz; cases hz; exact HXY.out
                · obtain rfl : j = i := by omega
                  go_wp2
                  go_roundg (n + 1 - (j + 1))
                  case measure => omega
                  case rel => exact ⟨j + 1, qr, by go_num, by omega, by omega, Lib.hid (uniq_succ HD.out HY.out HE.out), rfl⟩
            · obtain rfl : i = n := by omega
              have hw2 := below_dN (w := w1) (B := w1.heap.size) qq
              have H2 := Lib.hid (And.intro (HH.out.1.below hw2) (And.intro (HH.out.2.1.below hw2) (And.intro (HH.out.2.2.1.below hw2 HH.out.2.2.1.lt) (HH.out.2.2.2.trans (hw2.mono HH.out.2.2.2.size)))))
              clear hw2
              go_wp2
              generalize w1.drewN qq = w2 at H2 ⊢
              go_loopg [9, 10] (m + 1) (fun g1 v vi wr => ∃ (k r : Nat) (W' : Option Addr) (cw : Nat), vi = .int .i64 k ∧ k ≤ m ∧ v = .slice W' r cw ∧ r ≤ k ∧ m + 1 - k ≤ g1 ∧ Hid (Uniq LJob.id js k) ∧ OwnL encJob 40 8 wr w2.heap.size W' r cw ((js.take k).filter (fun j => j.phase == 1)) ∧ Below w2.heap.size w2 wr)
              case atStart => exact ⟨0, 0, none, 0, rfl, Nat.zero_le _, rfl, Nat.le_refl _, by omega, Lib.hid (fun a b x y h1 h2 => by omega), OwnL.nil _ _, Below.refl _ _⟩
              case round =>
                obtain ⟨k, r, W', cw, rfl, hk, rfl, hrk, hg1, HU, hO, hBq⟩ := hrel
                by_cases hlt3 : k < m
                · obtain ⟨ab, ao, y, rfl, hyy, hyl, hyc⟩ := (H2.out.2.1.below hBq).at_ hlt3
                  have y0 := hyc 0 _ rfl
                  simp only [Nat.add_zero] at y0
                  have HO := Lib.hid (And.intro hO (And.intro hBq hyy))
                  clear hyc hyy hO hBq
                  obtain ⟨wp, rfl⟩ : ∃ wp : World, wp = wr := ⟨_, rfl⟩
                  go_wp2
                  go_loopg [11] (k + 1) (fun g2 vj wr => ∃ j qr : Nat, vj = .int .i64 j ∧ j ≤ k ∧ k + 1 - j ≤ g2 ∧ Hid (∀ (b : Nat) x, b < j → js[b]? = some x → x.id ≠ y.id) ∧ wr = wp.drewN qr)
                  case atStart => exact ⟨0, 0, rfl, Nat.zero_le _, by omega, Lib.hid (fun b x h => by omega), rfl⟩
                  case round =>
                    obtain ⟨j, qr, rfl, hjk, hg2, HE, rfl⟩ := hrel
                    by_cases hlt4 : j < k
                    · have hjm : j < m := by omega
                      obtain ⟨x, hxx⟩ : ∃ x, js[j]? = some x := ⟨_, List.getElem?_eq_getElem (by have := H2.out.2.1.len; omega)⟩
                      have x0 := (H2.out.2.1.below HO.out.2.1).cells_at hxx 0 _ rfl
                      simp only [Nat.add_zero] at x0
                      have HX := Lib.hid hxx
                      clear hxx
                      by_cases hxy : x.id = y.id
                      · have hbq : (x.id == y.id) = true := by rw [beq_iff_eq]; exact hxy
                        have HXY := Lib.hid hxy
                        clear hxy
                        go_wp2
                        go_quiet (fail)
                        have hbw : Below w.heap.size w (wp.drewN (qr + nq)) := H2.out.2.2.2.trans ((HO.out.2.1.trans ((below_dN _).mono HO.out.2.1.size)).mono H2.out.2.2.2.size)
                        try rw [World.drewN_drewN]
                        generalize wp.drewN (qr + nq) = wq at hbw ⊢
                        go_wp2_with fail
                        (with_reducible refine (awake28_t _).mono ?_)
                        rintro e wz ⟨rfl, hBz⟩
                        have hbz := (hbw).trans (hBz.mono (hbw).size)
                        have HBZ := Lib.hid hbz
                        clear hBz hbz
                        go_wp2
                        go_ret
                        exact ⟨rfl, HBZ.out⟩
                      · have hbq : (x.id == y.id) = false := by rw [beq_eq_false_iff_ne]; exact hxy
                        have HXY := Lib.hid hxy
                        clear hxy
                        go_wp2
                        go_quiet (fail)
                        go_wp2
                        go_roundg (k + 1 - (j + 1))
                        case measure => omega
                        case rel =>
                          refine ⟨j + 1, qr + nq, by go_num, by omega, by omega, Lib.hid (fun b z hb hz => ?_), by first | rfl | exact World.drewN_drewN ..⟩
                          rcases Nat.lt_or_eq_of_le (Nat.le_of_lt_succ hb) with h1 | rfl
                          · exact HE.out b z h1 hz
                          · rw [HX.out] at hz; cases hz; exact HXY.out
                    · obtain rfl : j = k := by omega
                      have hw3 := below_dN (w := wp) (B := wp.heap.size) qr
                      have H3 := Lib.hid (And.intro (HO.out.1.below hw3) (HO.out.2.1.trans (hw3.mono HO.out.2.1.size)))
                      have hyc := (H2.out.2.1.below H3.out.2).cells_at HO.out.2.2
                      clear hw3 y0
                      have HUS := Lib.hid (uniq_succ HU.out HO.out.2.2 HE.out)
                      generalize wp.drewN qr = w3 at H3 hyc ⊢
                      have y0 := hyc 0 _ rfl
                      have y1 := hyc 1 _ rfl
                      have y2 := hyc 2 _ rfl
                      have y3 := hyc 3 _ rfl
                      have y4 := hyc 4 _ rfl
                      have y5 := hyc 5 _ rfl
                      have y6 := hyc 6 _ rfl
                      have y7 := hyc 7 _ rfl
                      simp only [Nat.add_zero] at y0
                      have hst := filter_snoc_n (fun j : LJob => j.phase == 1) HO.out.2.2
                      have HST := Lib.hid hst
                      clear hyc hst
                      cases hph : (y.phase == 1)
                      · have HS := Lib.hid (show (js.take (j + 1)).filter (fun j => j.phase == 1) = (js.take j).filter (fun j => j.phase == 1) by rw [HST.out, hph]; simp)
                        go_wp2
                        go_roundg (m + 1 - (j + 1))
                        case measure => omega
                        case rel => exact ⟨j + 1, r, W', cw, by go_num, by omega, rfl, by omega, by omega, HUS, by rw [HS.out]; exact H3.out.1, H3.out.2⟩
                      · have HS := Lib.hid (show (js.take (j + 1)).filter (fun j => j.phase == 1) = (js.take j).filter (fun j => j.phase == 1) ++ [y] by rw [HST.out, hph]; rfl)
                        go_wp2_with (at_builtin; refine wp_app (enc := encJob) Job_len Job_one rfl (.tmp 88) (.tmp 93) 23 rfl 40 _ 64 Try.underlying23 Try.infoJob rfl (by decide) w2.heap.size _ r _ _ rfl (H3.out.1.alloc _) _ 1 _ [y] (by rfl) (Rd.new1 _ y _ _ _ rfl) (r + 1) rfl _ rfl (by omega) (by omega) (by have := H3.out.2.size; simp; omega) ?_; intro A4 c4 w4 ho4 hg4 _; have hb4 := (H3.out.2.alloc H3.out.2.size _).grown hg4 (by have := H3.out.2.size; simp; omega) (own_block_ge H3.out.1))
                        go_roundg (m + 1 - (j + 1))
                        case measure => omega
                        case rel => exact ⟨j + 1, r + 1, A4, c4, by go_num, by omega, rfl, by omega, by omega, HUS, by rw [HS.out]; exact ho4, hb4⟩
                · obtain rfl : k = m := by omega
                  have hfull : js.take k = js := List.take_of_length_le (by have := H2.out.2.1.len; omega)
                  rw [hfull] at hO
                  have H5 := Lib.hid (And.intro (H2.out.1.below hBq) (And.intro (H2.out.2.1.below hBq) (And.intro (hO.rd Job_len) (H2.out.2.2.2.trans (hBq.mono H2.out.2.2.2.size)))))
                  have hb5 := H2.out.2.2.1.below hBq H2.out.2.2.1.lt
                  have hlen := hO.len
                  have HLN := Lib.hid hlen
                  clear hO hBq hfull hlen
                  have b0 : wr.cell? ⟨w.heap.size, 0, none⟩ = some (.int .u8 (p : Int)) := hb5.cell 0
                  have b1 : wr.cell? ⟨w.heap.size, 1, none⟩ = some (.int .u8 (q : Int)) := hb5.cell 1
                  clear hb5
                  obtain ⟨wo, rfl⟩ : ∃ wo : World, wo = wr := ⟨_, rfl⟩
                  go_wp2
                  go_quiet (fail)
                  obtain ⟨a, hpa⟩ : ∃ a : Nat, p % i = a := ⟨_, rfl⟩
                  obtain ⟨b, hqb⟩ : ∃ b : Nat, q % k = b := ⟨_, rfl⟩
                  have hai : a < i := by rw [← hpa]; exact Nat.mod_lt _ (by omega)
                  have hbk : b < k := by rw [← hqb]; exact Nat.mod_lt _ (by omega)
                  have epa : (p : Int) % (i : Int) = (a : Int) := by rw [← hpa]; exact (Int.natCast_emod _ _).symm
                  have eqb : (q : Int) % (k : Int) = (b : Int) := by rw [← hqb]; exact (Int.natCast_emod _ _).symm
                  rw [epa, eqb]
                  have hw4 := below_dN (w := wo) (B := wo.heap.size) nq
                  have H6 := Lib.hid (And.intro (H5.out.1.below hw4) (And.intro (H5.out.2.1.below hw4) (And.intro (H5.out.2.2.1.below hw4) (H5.out.2.2.2.trans (hw4.mono H5.out.2.2.2.size)))))
                  have hun : ∀ (i' j : Nat) x y, j < i' → l[j]? = some x → l[i']? = some y → x.id ≠ y.id := fun i' j x y h1 h2 h3 => HD.out i' j x y h1 (by have h4 := (List.getElem?_eq_some_iff.1 h3).1; rw [HH.out.1.len] at h4; exact h4) h2 h3
                  have huj : ∀ (i' j : Nat) x y, j < i' → js[j]? = some x → js[i']? = some y → x.id ≠ y.id := fun i' j x y h1 h2 h3 => HU.out i' j x y h1 (by have h4 := (List.getElem?_eq_some_iff.1 h3).1; rw [HH.out.2.1.len] at h4; exact h4) h2 h3
                  have HPT := Lib.hid (by have h9 := placeP_turn (napart_of hun a) (japart_of huj b); rw [List.take_append_drop, List.take_append_drop] at h9; exact h9 : (placeP (l.drop a ++ l.take a) (js.drop b ++ js.take b)).out = (placeP l js).out ∧ (placeP (l.drop a ++ l.take a) (js.drop b ++ js.take b)).left = (placeP l js).left)
                  clear hun huj hw4 epa eqb hpa hqb b0 b1
                  generalize wo.drewN nq = w4 at H6 ⊢
                  obtain ⟨fn0, hfi, hfz0, hfz1, hfz2⟩ := info_parts Try.infoNode
                  obtain ⟨fj0, hji, hjz0, hjz1, hjz2⟩ := info_parts Try.infoJob
                  have hctn := cut_to (P := Try.prog) 22 38 .i64 Try.underlying22 hfi A i c a (by omega) (by omega)
                  obtain ⟨A2n, hcfn, hrdn⟩ := cut_from (P := Try.prog) 22 38 .i64 Try.underlying22 hfi hfz1 A i c a (by omega) (by omega)
                  have HRn := Lib.hid (And.intro (Rd.take H6.out.1 (show a ≤ i by omega)) (hrdn _ _ _ _ H6.out.1))
                  clear hrdn
                  have hemn : OwnL encNode 38 10 (w4.alloc (.cells #[] 38)).drew w4.heap.size (some ⟨w4.heap.size, 0, none⟩) 0 0 [] := OwnL.below (OwnL.empty w4 w4.heap.size (Nat.le_refl _)) (below_drew1 _)
                  have hben : Below w4.heap.size w4 (w4.alloc (.cells #[] 38)).drew := ((Below.refl _ w4).alloc (Nat.le_refl _) _).drew
                  have hsen := hben.size
                  have HEn := Lib.hid (And.intro hemn (And.intro hben (And.intro (HRn.out.2.below hben) hsen)))
                  clear hemn hben hsen
                  go_wp2
                  go_region_held3 (fun _ => True) (exact trivial)
                    (first
                      | ((refine step_app (enc := encNode) Node_len Node_one (by rfl) (.tmp 107) (.tmp 110) 22 (by rfl) 38 _ 80 Try.underlying22 Try.infoNode (by rfl) (by decide) w4.heap.size _ 0 _ [] (by rfl) HEn.out.1 A2n (i - a) (c - a) (l.drop a) (by rfl) HEn.out.2.2.1 (i - a) (by omega) (l.drop a) (by rw [List.nil_append]) (by omega) (by omega) HEn.out.2.2.2 ?_; intro A6n c6n w6n ho6n hg6n; have hb6n := HEn.out.2.1.grown hg6n HEn.out.2.1.size (own_block_ge HEn.out.1)))
                      | ((refine step_app (enc := encNode) Node_len Node_one (by rfl) (.tmp 111) (.tmp 114) 22 (by rfl) 38 _ 80 Try.underlying22 Try.infoNode (by rfl) (by decide) w4.heap.size A6n (i - a) c6n (l.drop a) (by rfl) ho6n A a c (l.take a) (by rfl) (HRn.out.1.below hb6n) i (by omega) _ rfl (by omega) (by omega) (by have := hb6n.size; omega) ?_; intro A7n c7n w7n ho7n hg7n; have HB7n := Lib.hid (And.intro (ho7n.rd Node_len) (hb6n.grown hg7n hb6n.size (own_block_ge ho6n))); clear ho7n hg7n)))
                  have H7 := Lib.hid (And.intro (H6.out.1.below HB7n.out.2) (And.intro (H6.out.2.1.below HB7n.out.2) (And.intro (H6.out.2.2.1.below HB7n.out.2) (H6.out.2.2.2.trans (HB7n.out.2.mono H6.out.2.2.2.size)))))
                  clear ho6n hg6n hb6n hctn hcfn
                  have hctj := cut_to (P := Try.prog) 23 40 .i64 Try.underlying23 hji J k d b (by omega) (by omega)
                  obtain ⟨A2j, hcfj, hrdj⟩ := cut_from (P := Try.prog) 23 40 .i64 Try.underlying23 hji hjz1 J k d b (by omega) (by omega)
                  have HRj := Lib.hid (And.intro (Rd.take H7.out.2.1 (show b ≤ k by omega)) (hrdj _ _ _ _ H7.out.2.1))
                  clear hrdj
                  have hemj : OwnL encJob 40 8 (w7n.alloc (.cells #[] 40)).drew w7n.heap.size (some ⟨w7n.heap.size, 0, none⟩) 0 0 [] := OwnL.below (OwnL.empty w7n w7n.heap.size (Nat.le_refl _)) (below_drew1 _)
                  have hbej : Below w7n.heap.size w7n (w7n.alloc (.cells #[] 40)).drew := ((Below.refl _ w7n).alloc (Nat.le_refl _) _).drew
                  have hsej := hbej.size
                  have HEj := Lib.hid (And.intro hemj (And.intro hbej (And.intro (HRj.out.2.below hbej) hsej)))
                  clear hemj hbej hsej
                  go_wp2
                  go_region_held3 (fun _ => True) (exact trivial)
                    (first
                      | ((refine step_app (enc := encJob) Job_len Job_one (by rfl) (.tmp 116) (.tmp 119) 23 (by rfl) 40 _ 64 Try.underlying23 Try.infoJob (by rfl) (by decide) w7n.heap.size _ 0 _ [] (by rfl) HEj.out.1 A2j (k - b) (d - b) (js.drop b) (by rfl) HEj.out.2.2.1 (k - b) (by omega) (js.drop b) (by rw [List.nil_append]) (by omega) (by omega) HEj.out.2.2.2 ?_; intro A6j c6j w6j ho6j hg6j; have hb6j := HEj.out.2.1.grown hg6j HEj.out.2.1.size (own_block_ge HEj.out.1)))
                      | ((refine step_app (enc := encJob) Job_len Job_one (by rfl) (.tmp 120) (.tmp 123) 23 (by rfl) 40 _ 64 Try.underlying23 Try.infoJob (by rfl) (by decide) w7n.heap.size A6j (k - b) c6j (js.drop b) (by rfl) ho6j J b d (js.take b) (by rfl) (HRj.out.1.below hb6j) k (by omega) _ rfl (by omega) (by omega) (by have := hb6j.size; omega) ?_; intro A7j c7j w7j ho7j hg7j; have HB7j := Lib.hid (And.intro (ho7j.rd Job_len) (hb6j.grown hg7j hb6j.size (own_block_ge ho6j))); clear ho7j hg7j)))
                  have H9 := Lib.hid (And.intro (H7.out.1.below HB7j.out.2) (And.intro (H7.out.2.1.below HB7j.out.2) (And.intro (H7.out.2.2.1.below HB7j.out.2) (And.intro (HB7n.out.1.below HB7j.out.2) (And.intro HB7j.out.1 (H7.out.2.2.2.trans (HB7j.out.2.mono H7.out.2.2.2.size)))))))
                  clear ho6j hg6j hb6j hctj hcfj
                  go_wp2_with fail
                  (with_reducible refine (place_t (c := c) (d := d) H9.out.1 H9.out.2.1 (by omega) (by omega)).mono ?_)
                  rintro e v1 ⟨O, on, oc, rfl, hon, hO1, hB1⟩
                  have honl := hO1.len
                  have HO1 := Lib.hid (And.intro (hO1.rd Assign_len) honl)
                  have hb1 := hB1
                  clear hO1 hB1 honl
                  go_wp2_with fail
                  (with_reducible refine (place_t (c := c7n) (d := c7j) (H9.out.2.2.2.1.below hb1) (H9.out.2.2.2.2.1.below hb1) (by omega) (by omega)).mono ?_)
                  rintro e v2 ⟨O2, on2, oc2, rfl, hon2, hO2, hB2⟩
                  rw [HPT.out.1] at hO2
                  have hO2r := hO2.rd Assign_len
                  have hb12 := hB2
                  have hb2 := hb1.trans (hB2.mono hb1.size)
                  clear hO2 hB2 hb1
                  go_wp2_with fail
                  have hcx := equal_b O2 O on2 oc2 on oc _ _ v2 hO2r (HO1.out.1.below hb12) (by omega) (by omega)
                  rw [decide_eq_true rfl] at hcx
                  (with_reducible refine hcx.mono ?_)
                  clear hcx hO2r
                  rintro e v3 ⟨rfl, hB3⟩
                  have hb3 := hb2.trans (hB3.mono hb2.size)
                  have hb13 := hb12.trans (hB3.mono hb12.size)
                  clear hB3 hb2 hb12
                  go_wp2_with fail
                  have hcx := place_t (c := c) (d := cw) (H9.out.1.below hb3) (H9.out.2.2.1.below hb3) (by omega) (by omega)
                  rw [placeP_waiting] at hcx
                  (with_reducible refine hcx.mono ?_)
                  clear hcx
                  rintro e v4 ⟨O4, on4, oc4, rfl, hon4, hO4, hB4⟩
                  have hO4r := hO4.rd Assign_len
                  have hb4 := hb3.trans (hB4.mono hb3.size)
                  have hb14 := hb13.trans (hB4.mono hb13.size)
                  clear hO4 hB4 hb3 hb13
                  go_wp2_with fail
                  have hcx := equal_b O4 O on4 oc4 on oc _ _ v4 hO4r (HO1.out.1.below hb14) (by omega) (by omega)
                  rw [decide_eq_true rfl] at hcx
                  (with_reducible refine hcx.mono ?_)
                  clear hcx hO4r
                  rintro e v5 ⟨rfl, hB5⟩
                  have hb5 := hb4.trans (hB5.mono hb4.size)
                  clear hB5 hb4 hb14
                  go_wp2_with fail
                  have hcx := left_t (c := c7n) (d := c7j) (H9.out.2.2.2.1.below hb5) (H9.out.2.2.2.2.1.below hb5) (by omega) (by omega)
                  rw [HPT.out.2] at hcx
                  (with_reducible refine hcx.mono ?_)
                  clear hcx
                  rintro e v6 ⟨L6, l6, c6, rfl, hl6, hL6, hB6⟩
                  have hL6r := OwnL.rd (enc := encI) (sz := 1) (fun _ => rfl) hL6
                  have hb6 := hb5.trans (hB6.mono hb5.size)
                  clear hL6 hB6 hb5
                  go_wp2_with fail
                  (with_reducible refine (left_t (c := c) (d := d) (H9.out.1.below hb6) (H9.out.2.1.below hb6) (by omega) (by omega)).mono ?_)
                  rintro e v7 ⟨L7, l7, c7, rfl, hl7, hL7, hB7⟩
                  have hL7r := OwnL.rd (enc := encI) (sz := 1) (fun _ => rfl) hL7
                  have hb7 := hb6.trans (hB7.mono hb6.size)
                  go_wp2_with fail
                  have hcx := same01_b L6 L7 l6 c6 l7 c7 _ _ v7 (hL6r.below hB7) hL7r (by omega) (by omega)
                  rw [decide_eq_true rfl] at hcx
                  (with_reducible refine hcx.mono ?_)
                  clear hcx hL6r hL7r hL7 hB7 hb6
                  rintro e v8 ⟨rfl, hB8⟩
                  have hb8 := hb7.trans (hB8.mono hb7.size)
                  clear hB8 hb7
                  go_wp2_with fail
                  (with_reducible refine (left_t (c := c) (d := d) (H9.out.1.below hb8) (H9.out.2.1.below hb8) (by omega) (by omega)).mono ?_)
                  rintro e v9 ⟨L9, l9, c9, rfl, hl9, hL9, hB9⟩
                  have hb9 := hb8.trans (hB9.mono hb8.size)
                  have hsum : on + l9 = r := by have h1 := HO1.out.2; have h2 := hL9.len; have h3 := placeP_len l js; have h4 := HLN.out; omega
                  have hsq : ((on : Int) + (l9 : Int) == (r : Int)) = true := by rw [beq_iff_eq]; omega
                  have hsq2 : (on + l9 == r) = true := by rw [beq_iff_eq]; omega
                  clear hL9 hB9 hb8
                  go_wp2_with fail
                  (with_reducible refine (awake28_t _).mono ?_)
                  rintro e vz ⟨rfl, hBz⟩
                  have HBZ := Lib.hid (H9.out.2.2.2.2.2.trans ((hb9.trans (hBz.mono hb9.size)).mono H9.out.2.2.2.2.2.size))
                  clear hBz hb9 hsum hsq hsq2
                  go_wp2
                  go_ret
                  exact ⟨rfl, HBZ.out⟩
end Go.Proofs.Ytcfninipcghbmaa
