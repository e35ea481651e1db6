/-
 LAYER 35 (msg): right.
-/
import Derived.Test.YthhnocnkicoimaaDoorMsg2
import Derived.Test.YthhnocnkicoimaaDoorMsg4
import Derived.BigQuiet
set_option linter.unusedVariables false
set_option linter.unusedSimpArgs false
namespace Go.Proofs.YthhnocnkicoimaaDoor
open Go.RowKit

/-- A number and its bounds, of a message in block b. -/
def encB (b : Nat) (x : Nat × Int × Int) : List Value := [.pointer (some ⟨b, x.1, none⟩), .int .i64 x.2.1, .int .i64 x.2.2]
theorem ints_box (x : LMsg) (i : Nat) (h : i < 12) : (boxMsg x)[i]? = some (.int .i64 ((intsM x).getD i 0)) := by
 have e : boxMsg x = ((intsM x).map (Value.int .i64)).toArray := rfl
 have hl : i < (intsM x).length := by simpa [intsM] using h
 rw [e, List.getElem?_toArray, List.getElem?_map, List.getD_eq_getElem?_getD, List.getElem?_eq_getElem hl]; rfl
theorem bnd_lt : ∀ x ∈ bndM, x.1 < 12 := by decide
set_option maxRecDepth 100000 in
set_option maxHeartbeats 3200000 in
theorem right_t (m : LMsg) (w : World) : Calls Tryd.prog 85 #[aggMsg m] w fun e w' => e = .returned (.bool (rightM m)) ∧ Below w.heap.size w w' := by
 obtain ⟨B0, hB0⟩ : ∃ B0, w.heap.size = B0 := ⟨_, rfl⟩
 have h1 := Blk.new w 38 (boxMsg m)
 have hB : Below w.heap.size w (w.alloc (.cells (boxMsg m) 38)) := (Below.refl _ _).alloc (Nat.le_refl _) _
 rw [hB0] at hB h1 ⊢
 have H0 := Lib.hid (And.intro h1 hB)
 clear h1 hB
 go_enter Tryd.func85, Tryd.ntmps85
 go_wp2_with fail
 generalize w.alloc (.cells (boxMsg m) 38) = w1 at H0 ⊢
 obtain ⟨b1, hb1⟩ : ∃ b1, b1 = B0 := ⟨_, rfl⟩
 try rw [hB0]
 (with_reducible refine (named_t B0 m.kind w1 ((H0.out.1.cell 0).trans rfl)).mono ?_)
 rintro e w2 ⟨A, n, c, rfl, hA, hB2⟩
 have hn : n ≤ 5 := by have := (names_bound m.kind).1; have := hA.len; omega
 have H2 := Lib.hid (And.intro (H0.out.1.below hB2 H0.out.1.lt) (And.intro hA (H0.out.2.trans (hB2.mono (by have := H0.out.1.lt; omega)))))
 clear hA hB2
 have hB3 : Below w2.heap.size w2 (w2.alloc (.cells #[.pointer (some ⟨B0, 3, none⟩), .int .i64 1, .int .i64 4294967295, .pointer (some ⟨B0, 4, none⟩), .int .i64 1, .int .i64 2147483647, .pointer (some ⟨B0, 5, none⟩), .int .i64 1, .int .i64 2147483647, .pointer (some ⟨B0, 6, none⟩), .int .i64 0, .int .i64 1099511627776, .pointer (some ⟨B0, 7, none⟩), .int .i64 0, .int .i64 99, .pointer (some ⟨B0, 8, none⟩), .int .i64 0, .int .i64 14] 148)) := (Below.refl _ _).alloc (Nat.le_refl _) _
 have hL := (OwnL.lit (enc := encB B0) (e := 148) (sz := 3) w2 0 (Nat.zero_le _) bndM 6 #[.pointer (some ⟨B0, 3, none⟩), .int .i64 1, .int .i64 4294967295, .pointer (some ⟨B0, 4, none⟩), .int .i64 1, .int .i64 2147483647, .pointer (some ⟨B0, 5, none⟩), .int .i64 1, .int .i64 2147483647, .pointer (some ⟨B0, 6, none⟩), .int .i64 0, .int .i64 1099511627776, .pointer (some ⟨B0, 7, none⟩), .int .i64 0, .int .i64 99, .pointer (some ⟨B0, 8, none⟩), .int .i64 0, .int .i64 14] rfl (by omega) rfl rfl).rd (enc := encB B0) (sz := 3) (fun _ => rfl)
 have H3 := Lib.hid (And.intro (H2.out.1.below hB3 H2.out.1.lt) (And.intro (H2.out.2.1.below hB3) (And.intro hL (H2.out.2.2.trans (hB3.mono (by have := H2.out.1.lt; omega))))))
 clear hB3 hL
 go_wp2_with fail
 generalize w2.alloc (.cells #[.pointer (some ⟨B0, 3, none⟩), .int .i64 1, .int .i64 4294967295, .pointer (some ⟨B0, 4, none⟩), .int .i64 1, .int .i64 2147483647, .pointer (some ⟨B0, 5, none⟩), .int .i64 1, .int .i64 2147483647, .pointer (some ⟨B0, 6, none⟩), .int .i64 0, .int .i64 1099511627776, .pointer (some ⟨B0, 7, none⟩), .int .i64 0, .int .i64 99, .pointer (some ⟨B0, 8, none⟩), .int .i64 0, .int .i64 14] 148) = w3 at H3 ⊢
 obtain ⟨b3, hb3⟩ : ∃ b3, w2.heap.size = b3 := ⟨_, rfl⟩
 rw [hb3] at H3
 try rw [hb3]
 clear hb3
 go_loopw [21] (fun i wr => ∃ k : Nat, k ≤ 6 ∧ i = .int .i64 k ∧ Hid (∀ x ∈ bndM.take k, okB m x = true) ∧ Below w3.heap.size w3 wr) (fun i _ => 6 - (intOf i).toNat)
 case atStart => exact ⟨0, by omega, rfl, Lib.hid (by simp), Below.refl _ _⟩
 case round =>
  obtain ⟨k, hk, rfl, HC, hBr⟩ := hrel
  have HR := Lib.hid (And.intro (H3.out.1.below hBr H3.out.1.lt) (And.intro (H3.out.2.1.below hBr) (And.intro (H3.out.2.2.1.below hBr) (And.intro (H3.out.2.2.2.trans (hBr.mono (by have := H3.out.1.lt; omega))) hBr))))
  clear hBr
  by_cases hlt : k < 6
  ·obtain ⟨ab, ao, x, hAx, hx, hal, hcells⟩ := HR.out.2.2.1.at_ hlt
   cases hAx
   obtain ⟨o, lo, hi⟩ := x
   have g0 : wr.cell? ⟨b3, k * 3, none⟩ = some (.pointer (some ⟨B0, o, none⟩)) := by have := hcells 0 _ rfl; simpa using this
   have g1 : wr.cell? ⟨b3, k * 3 + 1, none⟩ = some (.int .i64 lo) := by have := hcells 1 _ rfl; simpa using this
   have g2 : wr.cell? ⟨b3, k * 3 + 2, none⟩ = some (.int .i64 hi) := by have := hcells 2 _ rfl; simpa using this
   have ho12 : o < 12 := bnd_lt _ (List.mem_of_getElem? hx)
   have htk := take_succ_of bndM k _ hx
   have hBa : Below wr.heap.size wr (wr.alloc (.cells #[.pointer (some ⟨B0, o, none⟩), .int .i64 lo, .int .i64 hi] 148)) := (Below.refl _ _).alloc (Nat.le_refl _) _
   have hxa := Blk.new wr 148 #[.pointer (some ⟨B0, o, none⟩), .int .i64 lo, .int .i64 hi]
   have HX := Lib.hid (And.intro hxa (And.intro (HR.out.1.below hBa HR.out.1.lt) (And.intro (HR.out.2.1.below hBa) (And.intro htk (And.intro (HR.out.2.2.2.2.trans (hBa.mono HR.out.2.2.2.2.size)) (HR.out.2.2.2.1.trans (hBa.mono (by have := HR.out.1.lt; omega))))))))
   have hstep : Hid (okB m (o, lo, hi) = true → ∀ x ∈ bndM.take (k + 1), okB m x = true) := Lib.hid (fun h x hx2 => by
    rw [HX.out.2.2.2.1] at hx2
    rcases List.mem_append.1 hx2 with h2 | h2
    ·exact HC.out x h2
    ·rw [List.mem_singleton.1 h2]; exact h)
   have hfail : Hid (okB m (o, lo, hi) = false → rightM m = false) := Lib.hid (fun h => by
    unfold rightM
    have : bndM.all (okB m) = false := by
     rw [List.all_eq_false]
     exact ⟨_, List.mem_of_getElem? hx, by rw [h]; decide⟩
    rw [this]; rfl)
   clear hcells hxa hBa htk hx hal
   go_wp2_with fail
   clear g0 g1 g2
   generalize wr.alloc (.cells #[.pointer (some ⟨B0, o, none⟩), .int .i64 lo, .int .i64 hi] 148) = wa at HX ⊢
   obtain ⟨ba, hba⟩ : ∃ ba, wr.heap.size = ba := ⟨_, rfl⟩
   rw [hba] at HX
   try rw [hba]
   clear hba
   have x0 := HX.out.1.cell 0
   have x1 := HX.out.1.cell 1
   have x2 := HX.out.1.cell 2
   have xl := HX.out.1.lt
   simp only [List.getElem?_toArray, List.getElem?_cons_zero, List.getElem?_cons_succ] at x0 x1 x2
   have v0 : wa.cell? ⟨B0, o, none⟩ = some (.int .i64 ((intsM m).getD o 0)) := (HX.out.2.1.cell o).trans (ints_box m o ho12)
   obtain ⟨v, hv⟩ : ∃ v, (intsM m).getD o 0 = v := ⟨_, rfl⟩
   rw [hv] at v0
   have HV := Lib.hid hv
   clear hv
   have HC1 : Hid (∀ q, Calls Tryd.prog 102 #[.slice A n c, .pointer (some ⟨B0, o, none⟩)] (wa.drewN q) fun e w' => e = .returned (.bool (decide (o ∈ namesM m.kind))) ∧ w' = wa.drewN q) :=
    Lib.hid (fun q => containsP_t B0 A n c (namesM m.kind) o _ (show Blk (wa.drewN q) B0 _ _ from HX.out.2.1) (HX.out.2.2.1.drewN q) (by omega))
   have HC2 : Hid (∀ q, Calls Tryd.prog 55 #[.int .i64 v, .int .i64 lo, .int .i64 hi] (wa.drewN q) fun e w' => e = .returned (.bool (inM v lo hi)) ∧ w' = wa.drewN q) := Lib.hid (fun q => numRightM_t v lo hi _)
   by_cases hin : o ∈ namesM m.kind
   ·have HC3 := Lib.hid (show ∀ q, Calls Tryd.prog 102 #[.slice A n c, .pointer (some ⟨B0, o, none⟩)] (wa.drewN q) fun e w' => e = .returned (.bool true) ∧ w' = wa.drewN q from fun q => by have := HC1.out q; rwa [decide_eq_true hin] at this)
    cases hok : inM v lo hi with
    | true =>
     have HC4 := Lib.hid (show ∀ q, Calls Tryd.prog 55 #[.int .i64 v, .int .i64 lo, .int .i64 hi] (wa.drewN q) fun e w' => e = .returned (.bool true) ∧ w' = wa.drewN q from fun q => by have := HC2.out q; rwa [hok] at this)
     have HS := Lib.hid (hstep.out (by unfold okB; rw [HV.out, hok]; simp))
     clear HC1 HC2 hin hok hstep hfail
     go_quiet (first
      | (go_at_call 102; exact (HC3.out _).mono (fun _ _ h => ⟨h.1, _, h.2⟩))
      | (go_at_call 55; exact (HC4.out _).mono (fun _ _ h => ⟨h.1, _, h.2⟩)))
     have HBn := Lib.hid (show Below w3.heap.size w3 (wa.drewN nq) from ⟨HX.out.2.2.2.2.1.os, HX.out.2.2.2.2.1.tape, HX.out.2.2.2.2.1.output, HX.out.2.2.2.2.1.size, HX.out.2.2.2.2.1.block⟩)
     clear x0 x1 x2 xl v0
     go_wp2
     go_roundw
     case rel => exact ⟨k + 1, by omega, by go_num, HS, HBn.out⟩
     case measure => simp [intOf]; omega
    | false =>
     have HC4 := Lib.hid (show ∀ q, Calls Tryd.prog 55 #[.int .i64 v, .int .i64 lo, .int .i64 hi] (wa.drewN q) fun e w' => e = .returned (.bool false) ∧ w' = wa.drewN q from fun q => by have := HC2.out q; rwa [hok] at this)
     have HS := Lib.hid (hfail.out (by unfold okB; rw [HV.out, hok, decide_eq_true hin]; rfl))
     clear HC1 HC2 hin hok hstep hfail
     go_quiet (first
      | (go_at_call 102; exact (HC3.out _).mono (fun _ _ h => ⟨h.1, _, h.2⟩))
      | (go_at_call 55; exact (HC4.out _).mono (fun _ _ h => ⟨h.1, _, h.2⟩)))
     have HBn := Lib.hid (show Below B0 w (wa.drewN nq) from ⟨HX.out.2.2.2.2.2.os, HX.out.2.2.2.2.2.tape, HX.out.2.2.2.2.2.output, HX.out.2.2.2.2.2.size, HX.out.2.2.2.2.2.block⟩)
     clear x0 x1 x2 xl v0
     go_wp2
     go_ret
     exact ⟨ret_bool HS.out.symm, HBn.out⟩
   ·have HC3 := Lib.hid (show ∀ q, Calls Tryd.prog 102 #[.slice A n c, .pointer (some ⟨B0, o, none⟩)] (wa.drewN q) fun e w' => e = .returned (.bool false) ∧ w' = wa.drewN q from fun q => by have := HC1.out q; rwa [decide_eq_false hin] at this)
    have HS := Lib.hid (hstep.out (by unfold okB; rw [decide_eq_false hin]; rfl))
    clear HC1 HC2 hin hstep hfail
    go_quiet (first
     | (go_at_call 102; exact (HC3.out _).mono (fun _ _ h => ⟨h.1, _, h.2⟩)))
    have HBn := Lib.hid (show Below w3.heap.size w3 (wa.drewN nq) from ⟨HX.out.2.2.2.2.1.os, HX.out.2.2.2.2.1.tape, HX.out.2.2.2.2.1.output, HX.out.2.2.2.2.1.size, HX.out.2.2.2.2.1.block⟩)
    clear x0 x1 x2 xl v0
    go_wp2
    go_roundw
    case rel => exact ⟨k + 1, by omega, by go_num, HS, HBn.out⟩
    case measure => simp [intOf]; omega
  ·have hk6 : k = 6 := by omega
   subst hk6
   have HA : Hid (bndM.all (okB m) = true) := Lib.hid (List.all_eq_true.2 (fun x hx => HC.out x hx))
   have r0 : wr.cell? ⟨B0, 9, none⟩ = some (.int .i64 m.res.a) := (HR.out.1.cell 9).trans rfl
   have r1 : wr.cell? ⟨B0, 10, none⟩ = some (.int .i64 m.res.b) := (HR.out.1.cell 10).trans rfl
   have r2 : wr.cell? ⟨B0, 11, none⟩ = some (.int .i64 m.res.c) := (HR.out.1.cell 11).trans rfl
   have hcx := resRight_t m.res wr
   go_wp2_with fail
   (with_reducible refine hcx.mono ?_)
   clear hcx
   rintro e w5 ⟨rfl, hB5⟩
   have HBn := Lib.hid (HR.out.2.2.2.1.trans (hB5.mono (by have := HR.out.1.lt; omega)))
   clear hB5
   go_wp2
   go_ret
   exact ⟨ret_bool (by unfold rightM; rw [HA.out]; rfl), HBn.out⟩
end Go.Proofs.YthhnocnkicoimaaDoor
