/-
  LAYER 30: the reference: Add.
-/
import Derived.Test.YthhnocnkicoimaaRef30b
set_option linter.unusedVariables false
set_option linter.unusedSimpArgs false
namespace Go.Proofs.Ythhnocnkicoimaa
open Go.RowKit Go.Maps

theorem Rd.new1_at_ {α : Type} {enc : α → List Value} {sz : Nat} (w : World) (x : α) (cs : Array Value) (t : TypeId) (fz : Nat × Nat) (g : Nat) (hg : w.heap.size = g) (h : cs.toList = enc x) : Rd enc sz (w.alloc (.cells cs t fz)) (some ⟨g, 0, none⟩) 1 [x] := by
  subst hg
  exact Rd.new1 w x cs t fz h
def addN (needs : List LRes) (r : LRes) : List LRes := if r ∈ needs then needs else needs ++ [r]
def addJ (jobs : List LMember) (id : Int) (needs : List LRes) (r : LRes) : List LMember := dropJ jobs id ++ [⟨id, ((addN needs r).idxOf r : Int)⟩]
section
variable {w : World} {N J : Option Addr} {nn nc jn jc : Nat} {needs : List LRes} {jobs : List LMember}
set_option maxRecDepth 100000 in
set_option maxHeartbeats 3200000 in
theorem rAdd_yes (hN : Rd encRes 3 w N nn needs) (hnn : nn ≤ 900) (hJ : Rd encMember 2 w J jn jobs) (hjn : jn ≤ 900) (id : Int) (r : LRes) (hr : rightR r = true) :
    Calls Try.prog 9 #[aggC N nn nc J jn jc, .int .i64 id, aggRes r] w fun e w' => ∃ N' nn' nc' J' jn' jc', e = .returned (.tuple #[aggC N' nn' nc' J' jn' jc', .int .i64 ((addN needs r).idxOf r : Int)]) ∧
      Rd encRes 3 w' N' nn' (addN needs r) ∧ Rd encMember 2 w' J' jn' (addJ jobs id needs r) ∧ nn' ≤ nn + 1 ∧ jn' ≤ jn + 1 ∧ Below w.heap.size w w' ∧ (∀ ad, N' = some ad → N = some ad ∨ (w.heap.size ≤ ad.block ∧ ad.block < w'.heap.size)) ∧ (∀ ad, J' = some ad → w.heap.size ≤ ad.block ∧ ad.block < w'.heap.size) := by
  have hs1 : (w.alloc (.cells #[.slice N nn nc, .slice J jn jc] 36)).heap.size = w.heap.size + 1 := by simp
  have hs2 : ((w.alloc (.cells #[.slice N nn nc, .slice J jn jc] 36)).alloc (.cells (boxRes r) 24)).heap.size = w.heap.size + 1 + 1 := by simp
  have hb := ((Blk.new w 36 #[.slice N nn nc, .slice J jn jc]).alloc (.cells (boxRes r) 24)).alloc (.cells #[.slice none 0 0, .slice none 0 0] 36)
  have hx := (Blk.new (w.alloc (.cells #[.slice N nn nc, .slice J jn jc] 36)) 24 (boxRes r)).alloc (.cells #[.slice none 0 0, .slice none 0 0] 36)
  have hz := Blk.new ((w.alloc (.cells #[.slice N nn nc, .slice J jn jc] 36)).alloc (.cells (boxRes r) 24)) 36 #[.slice none 0 0, .slice none 0 0]
  rw [hs1] at hx
  rw [hs2] at hz
  have hB : Below w.heap.size w (((w.alloc (.cells #[.slice N nn nc, .slice J jn jc] 36)).alloc (.cells (boxRes r) 24)).alloc (.cells #[.slice none 0 0, .slice none 0 0] 36)) := (((Below.refl _ _).alloc (Nat.le_refl _) _).alloc (by simp) _).alloc (by simp; omega) _
  have HBL := Lib.hid (And.intro hb (And.intro hx hz))
  have HH := Lib.hid (And.intro hN hJ)
  have HB := Lib.hid hB
  clear hb hz hx hB hJ hN hs1 hs2
  go_enter Try.func9, Try.ntmps9
  go_wp2_with fail
  generalize ((w.alloc (.cells #[.slice N nn nc, .slice J jn jc] 36)).alloc (.cells (boxRes r) 24)).alloc (.cells #[.slice none 0 0, .slice none 0 0] 36) = w1 at HBL HB ⊢
  have hcx := refRight_t r w1
  rw [hr] at hcx
  (with_reducible refine hcx.mono ?_)
  clear hcx
  rintro e w2 ⟨rfl, hw2⟩
  have hB2 : Below w1.heap.size w1 w2 := by rw [hw2]; exact (Below.refl _ _).alloc (Nat.le_refl _) _
  have HBL2 := Lib.hid (And.intro (HBL.out.1.below hB2 HBL.out.1.lt) (And.intro (HBL.out.2.1.below hB2 HBL.out.2.1.lt) (HBL.out.2.2.below hB2 HBL.out.2.2.lt)))
  have HB2 := Lib.hid (HB.out.trans (hB2.mono HB.out.size))
  clear hw2 hB2 HBL HB
  have c0 := HBL2.out.1.cell 0
  have c1 := HBL2.out.1.cell 1
  simp only [List.getElem?_toArray, List.getElem?_cons_zero, List.getElem?_cons_succ] at c0 c1
  go_wp2_with fail
  have hcx := rDrop_t (N := N) (nn := nn) (nc := nc) (jc := jc) (HH.out.2.below HB2.out) (by omega) id
  (with_reducible refine hcx.mono ?_)
  clear hcx
  rintro e w3 ⟨J3, jn3, jc3, rfl, hO3, hjn3, hB3⟩
  have hb3 := HBL2.out.1.below hB3 HBL2.out.1.lt
  have hx3 := HBL2.out.2.1.below hB3 HBL2.out.2.1.lt
  have hz3 := HBL2.out.2.2.below hB3 HBL2.out.2.2.lt
  clear c0 c1
  have c0 := hb3.cell 0
  have c1 := hb3.cell 1
  have fz := hb3.frozen
  have x0 := hx3.cell 0
  have x1 := hx3.cell 1
  have x2 := hx3.cell 2
  simp only [List.getElem?_toArray, List.getElem?_cons_zero, List.getElem?_cons_succ] at c0 c1 x0 x1 x2
  have l0 := hb3.lt
  have l1 := hx3.lt
  have H3 := Lib.hid (And.intro hb3 (And.intro hx3 (And.intro hz3 (And.intro hO3 hB3))))
  clear hb3 hx3 hz3 hO3 hB3
  go_wp2_with fail
  have hk4 : Kept (fun b => b = w.heap.size) w3 ((w3.setCell ⟨w.heap.size, 0, none⟩ (.slice N nn nc)).setCell ⟨w.heap.size, 1, none⟩ (.slice J3 jn3 jc3)) := Kept.setCell (p := ⟨w.heap.size, 1, none⟩) (Kept.setCell (p := ⟨w.heap.size, 0, none⟩) (Kept.refl (fun b => b = w.heap.size) w3) (fun _ => rfl) _) (fun _ => rfl) _
  have hsz2 : w.heap.size + 1 + 1 < w2.heap.size := HBL2.out.2.2.lt
  have hb4 : Blk ((w3.setCell ⟨w.heap.size, 0, none⟩ (.slice N nn nc)).setCell ⟨w.heap.size, 1, none⟩ (.slice J3 jn3 jc3)) w.heap.size 36 #[.slice N nn nc, .slice J3 jn3 jc3] := (H3.out.1.set_ 0 _).set_ 1 _
  have hx4 := H3.out.2.1.kept hk4 (by omega)
  have hz4 := H3.out.2.2.1.kept hk4 (by omega)
  have hO4 := H3.out.2.2.2.1.kept hk4 (fun ad ha => by have := (H3.out.2.2.2.1.at_base ad ha).1; omega)
  have hB4 : Below w.heap.size w ((w3.setCell ⟨w.heap.size, 0, none⟩ (.slice N nn nc)).setCell ⟨w.heap.size, 1, none⟩ (.slice J3 jn3 jc3)) := (HB2.out.trans (H3.out.2.2.2.2.mono HB2.out.size)).trans (hk4.below (by have := HB2.out.size; have := H3.out.2.2.2.2.size; omega) (fun b hb e => by omega))
  have hs34 : w3.heap.size = ((w3.setCell ⟨w.heap.size, 0, none⟩ (.slice N nn nc)).setCell ⟨w.heap.size, 1, none⟩ (.slice J3 jn3 jc3)).heap.size := by simp [World.setCell]
  have hs23 := H3.out.2.2.2.2.size
  have H3s := Lib.hid hsz2
  clear hk4 c0 c1 fz x0 x1 x2 l0 l1
  generalize (w3.setCell ⟨w.heap.size, 0, none⟩ (.slice N nn nc)).setCell ⟨w.heap.size, 1, none⟩ (.slice J3 jn3 jc3) = w4 at hb4 hx4 hz4 hO4 hB4 hs34 ⊢
  have hcx := rOf_t (J := J3) (nc := nc) (jn := jn3) (jc := jc3) (HH.out.1.below hB4) (by omega) r
  (with_reducible refine hcx.mono ?_)
  clear hcx
  rintro e w5 ⟨rfl, hB5⟩
  have hb5 := hb4.below hB5 hb4.lt
  have hx5 := hx4.below hB5 hx4.lt
  have hz5 := hz4.below hB5 hz4.lt
  have hO5 := hO4.below hB5
  have hB5w := hB4.trans (hB5.mono hB4.size)
  have hs25 : w2.heap.size ≤ w5.heap.size := by have := hB5.size; omega
  have hjl : jn3 ≤ 900 := by omega
  have H5 := Lib.hid (And.intro hb5 (And.intro hx5 (And.intro hz5 (And.intro hO5 hB5w))))
  have c0 := hb5.cell 0
  have c1 := hb5.cell 1
  have x0 := hx5.cell 0
  have x1 := hx5.cell 1
  have x2 := hx5.cell 2
  have fz := hb5.frozen
  have l0 := hb5.lt
  have l1 := hx5.lt
  simp only [List.getElem?_toArray, List.getElem?_cons_zero, List.getElem?_cons_succ] at c0 c1 x0 x1 x2
  clear hb4 hx4 hz4 hO4 hB4 hs34 hb5 hx5 hz5 hO5 hB5w hB5 hs23
  obtain ⟨i0, hi0, hzz0, hzz1, hzz2⟩ := info_parts Try.infoMember
  by_cases hin : r ∈ needs
  · obtain ⟨k, hk⟩ : ∃ k : Nat, needs.idxOf r = k := ⟨_, rfl⟩
    have hof : rOfE needs r = (k : Int) := by rw [rOfE, if_pos hin, idxR, hk]
    have HK : Hid (((addN needs r).idxOf r : Int) = (k : Int) ∧ addJ jobs id needs r = dropJ jobs id ++ [⟨id, (k : Int)⟩]) := Lib.hid (by
      have e : addN needs r = needs := by rw [addN, if_pos hin]
      exact ⟨by rw [e, hk], by rw [addJ, e, hk]⟩)
    rw [hof]
    have HIN := Lib.hid hin
    clear hof hin hk
    go_wp2_with (at_builtin; refine wp_app (enc := encMember) Member_len Member_one rfl (.tmp 35) (.tmp 39) 34 rfl 96 _ 16 Try.underlying34 Try.infoMember rfl (by decide) w2.heap.size _ jn3 _ _ (by rfl) (H5.out.2.2.2.1.alloc _) _ 1 _ [(⟨id, (k : Int)⟩ : LMember)] (by rfl) (Rd.new1 _ (⟨id, (k : Int)⟩ : LMember) _ _ _ rfl) (jn3 + 1) rfl _ rfl (by omega) (by omega) (by simp; omega) ?_; intro A9 c9 w9 ho9 hg9 hat9; have hr9 : ∀ g, (Value.slice J3 jn3 jc3).ownBlock = some g → w2.heap.size ≤ g := own_block_ge H5.out.2.2.2.1; have hb9 := (H5.out.1.alloc _).grown hg9 (fun e => by have := hr9 _ e.symm; omega); have hz9 := (H5.out.2.2.1.alloc _).grown hg9 (fun e => by have := hr9 _ e.symm; omega); have hBw9 : Below w.heap.size w w9 := (H5.out.2.2.2.2.alloc H5.out.2.2.2.2.size _).grown hg9 (by have := H5.out.2.2.2.2.size; simp; omega) (fun g e => by have := hr9 g e; omega); have hN9 := HH.out.1.below hBw9; have c9a := hb9.cell 0; have c9b := hb9.cell 1; have f9 := hb9.frozen; have f9z := hz9.frozen; have z9a := hz9.cell 0; have z9b := hz9.cell 1; have l9 := hb9.lt; have l9z := hz9.lt; simp only [List.getElem?_toArray, List.getElem?_cons_zero, List.getElem?_cons_succ] at c9a c9b z9a z9b)
    have hk9 : Kept (fun b => b = w.heap.size ∨ b = w.heap.size + 1 + 1) w9 (((w9.setCell ⟨w.heap.size, 1, none⟩ (.slice A9 (jn3 + 1) c9)).setCell ⟨w.heap.size + 1 + 1, 0, none⟩ (.slice N nn nc)).setCell ⟨w.heap.size + 1 + 1, 1, none⟩ (.slice A9 (jn3 + 1) c9)) :=
      Kept.setCell (p := ⟨w.heap.size + 1 + 1, 1, none⟩) (Kept.setCell (p := ⟨w.heap.size + 1 + 1, 0, none⟩) (Kept.setCell (p := ⟨w.heap.size, 1, none⟩) (Kept.refl (fun b => b = w.heap.size ∨ b = w.heap.size + 1 + 1) w9) (fun _ => .inl rfl) _) (fun _ => .inr rfl) _) (fun _ => .inr rfl) _
    have hZ : Blk (((w9.setCell ⟨w.heap.size, 1, none⟩ (.slice A9 (jn3 + 1) c9)).setCell ⟨w.heap.size + 1 + 1, 0, none⟩ (.slice N nn nc)).setCell ⟨w.heap.size + 1 + 1, 1, none⟩ (.slice A9 (jn3 + 1) c9)) (w.heap.size + 1 + 1) 36 #[.slice N nn nc, .slice A9 (jn3 + 1) c9] :=
      ((hz9.far (p := ⟨w.heap.size, 1, none⟩) (by show w.heap.size + 1 + 1 ≠ w.heap.size; omega) _).set_ 0 _).set_ 1 _
    have hOZ := (ho9.rd Member_len).kept hk9 (fun _ ad ha => by have h1 := (ho9.at_base ad ha).1; have h2 := H3s.out; omega)
    have hNZ := hN9.kept hk9 (fun _ ad ha => by obtain ⟨bb, oo, e, hlt, _⟩ := HH.out.1.cells (by assumption); rw [e] at ha; cases ha; show ¬ (bb = _ ∨ bb = _); omega)
    have hBZ : Below w.heap.size w (((w9.setCell ⟨w.heap.size, 1, none⟩ (.slice A9 (jn3 + 1) c9)).setCell ⟨w.heap.size + 1 + 1, 0, none⟩ (.slice N nn nc)).setCell ⟨w.heap.size + 1 + 1, 1, none⟩ (.slice A9 (jn3 + 1) c9)) :=
      hBw9.trans (hk9.below hBw9.size (fun b hb e => by omega))
    have HJ9 := Lib.hid (fun ad ha => ho9.at_base ad ha)
    have hs9 := hk9.size
    have HZ := Lib.hid (And.intro hZ (And.intro hOZ (And.intro hNZ (And.intro hBZ hs9))))
    clear hk9 hZ hOZ hNZ hBZ hs9
    obtain ⟨hZ, hOZ, hNZ, hBZ, hs9⟩ := HZ.out
    generalize ((w9.setCell ⟨w.heap.size, 1, none⟩ (.slice A9 (jn3 + 1) c9)).setCell ⟨w.heap.size + 1 + 1, 0, none⟩ (.slice N nn nc)).setCell ⟨w.heap.size + 1 + 1, 1, none⟩ (.slice A9 (jn3 + 1) c9) = W3 at hZ hOZ hNZ hBZ hs9 ⊢
    have z0 := hZ.cell 0
    have z1 := hZ.cell 1
    simp only [List.getElem?_toArray] at z0 z1
    rw [HK.out.1, HK.out.2]
    exact bodyPost_ret (v := .tuple #[aggC N nn nc A9 (jn3 + 1) c9, .int .i64 (k : Int)]) (by simp [results, Try.results9, go_sem, z0, z1]) rfl ⟨_, _, _, _, _, _, rfl, by rw [addN, if_pos HIN.out]; exact hNZ, hOZ, by omega, by omega, hBZ, fun ad ha => .inl ha, fun ad ha => by have h1 := HJ9.out ad ha; have h2 := HB2.out.size; omega⟩
  · have hof : rOfE needs r = -1 := by rw [rOfE, if_neg hin]
    have HK : Hid (((addN needs r).idxOf r : Int) = (nn : Int) ∧ addJ jobs id needs r = dropJ jobs id ++ [⟨id, (nn : Int)⟩]) := Lib.hid (by
      have e : addN needs r = needs ++ [r] := by rw [addN, if_neg hin]
      have e2 : (needs ++ [r]).idxOf r = nn := by
        have := idxR_new hin
        unfold idxR at this
        rw [HH.out.1.len] at this
        omega
      exact ⟨by rw [e, e2], by rw [addJ, e, e2]⟩)
    rw [hof]
    have HIN := Lib.hid hin
    have hN5 := HH.out.1.below H5.out.2.2.2.2
    clear hof hin
    go_wp2_with (first
      | (at_builtin; refine wp_app (enc := encRes) Res_len Res_one rfl (.tmp 25) (.tmp 27) 33 rfl 24 _ 24 Try.underlying33 Try.infoRes rfl (by decide) w5.heap.size none 0 0 [] (by rfl) (OwnL.nil _ _) N nn nc _ (by rfl) hN5 nn (by omega) _ (by rw [List.nil_append]) (by omega) (by omega) (Nat.le_refl _) ?_; intro A6 c6 w6 ho6 hg6 _; have hg6b : Below w5.heap.size w5 w6 := (Below.refl _ _).grown hg6 (Nat.le_refl _) (by simp [Value.ownBlock]); have hx6 := H5.out.2.1.below hg6b l1; have x0 := hx6.cell 0; have x1 := hx6.cell 1; have x2 := hx6.cell 2; simp only [List.getElem?_toArray, List.getElem?_cons_zero, List.getElem?_cons_succ] at x0 x1 x2; have l6 := hx6.lt)
      | (at_builtin; refine wp_app (enc := encRes) Res_len Res_one rfl (.tmp 29) (.tmp 31) 33 rfl 24 _ 24 Try.underlying33 Try.infoRes rfl (by decide) w5.heap.size _ nn _ _ (by rfl) (ho6.alloc _) _ 1 _ [r] (by rfl) (Rd.new1 _ r _ _ _ rfl) (nn + 1) rfl _ rfl (by omega) (by omega) (by have := hg6b.size; simp; omega) ?_; intro A7 c7 w7 ho7 hg7 _; have hg7b : Below w5.heap.size w5 w7 := (hg6b.alloc hg6b.size _).grown hg7 (by have := hg6b.size; simp; omega) (own_block_ge ho6); have hb7 := (H5.out.1.below hg7b l0).set_ 0 (.slice A7 (nn + 1) c7); have hz7 := (H5.out.2.2.1.below hg7b H5.out.2.2.1.lt).far (p := ⟨w.heap.size, 0, none⟩) (by show w.heap.size + 1 + 1 ≠ w.heap.size; omega) (.slice A7 (nn + 1) c7); have hO7 := (H5.out.2.2.2.1.below hg7b).step (w' := w7.setCell ⟨w.heap.size, 0, none⟩ (.slice A7 (nn + 1) c7)) (fun ad ha hge _ => Below.heap_setCell w7 _ _ _ (by show ad.block ≠ w.heap.size; omega)); have hN7 := (ho7.rd Res_len).kept (Kept.setCell (p := ⟨w.heap.size, 0, none⟩) (Kept.refl (fun b => b = w.heap.size) w7) (fun _ => rfl) (.slice A7 (nn + 1) c7)) (fun _ ad ha => by have := (ho7.at_base ad ha).1; omega); have hn7 : ∀ ad, A7 = some ad → w5.heap.size ≤ ad.block := fun ad ha => (ho7.at_base ad ha).1; have hB7 : Below w.heap.size w (w7.setCell ⟨w.heap.size, 0, none⟩ (.slice A7 (nn + 1) c7)) := (H5.out.2.2.2.2.trans (hg7b.mono H5.out.2.2.2.2.size)).setCell (p := ⟨w.heap.size, 0, none⟩) (Nat.le_refl _) _; have q0 := hb7.cell 0; have q1 := hb7.cell 1; have qf := hb7.frozen; have ql := hb7.lt; have k0 := (H5.out.1.below hg7b l0).cell 0; have k1 := (H5.out.1.below hg7b l0).cell 1; have kf := (H5.out.1.below hg7b l0).frozen; have kl := (H5.out.1.below hg7b l0).lt; simp at q0 q1 k0 k1; have hs7 : (w7.setCell ⟨w.heap.size, 0, none⟩ (.slice A7 (nn + 1) c7)).heap.size = w7.heap.size := by simp [World.setCell])
      | (at_builtin; refine wp_app (enc := encMember) Member_len Member_one rfl (.tmp 35) (.tmp 39) 34 rfl 96 _ 16 Try.underlying34 Try.infoMember rfl (by decide) w2.heap.size _ jn3 _ _ (by rfl) (hO7.alloc _) _ 1 _ [(⟨id, (nn : Int)⟩ : LMember)] (by rfl) (Rd.new1_at_ _ (⟨id, (nn : Int)⟩ : LMember) _ _ _ w7.heap.size hs7 rfl) (jn3 + 1) rfl _ rfl (by omega) (by omega) (by have := hg7b.size; simp [World.setCell]; omega) ?_; intro A9 c9 w9 ho9 hg9 hat9; have hr9 : ∀ g, (Value.slice J3 jn3 jc3).ownBlock = some g → w2.heap.size ≤ g := own_block_ge hO7; have hb9 := (hb7.alloc _).grown hg9 (fun e => by have := hr9 _ e.symm; omega); have hz9 := (hz7.alloc _).grown hg9 (fun e => by have := hr9 _ e.symm; omega); have hBw9 : Below w.heap.size w w9 := (hB7.alloc hB7.size _).grown hg9 (by have := hB7.size; simp; omega) (fun g e => by have := hr9 g e; omega); have hN9 : Rd encRes 3 w9 A7 (nn + 1) (needs ++ [r]) := (hN7.alloc _).kept (Kept.of_grown (F := fun b => some b = (Value.slice J3 jn3 jc3).ownBlock) hg9 (fun k e _ => e.symm)) (fun _ ad ha e => by have h1 := hn7 ad ha; cases J3 with | none => simp [Value.ownBlock] at e | some jd => have h2 := (H5.out.2.2.2.1.at_base jd rfl).2; simp [Value.ownBlock] at e; omega); have hn7b : ∀ ad, A7 = some ad → ad.block < w9.heap.size := fun ad ha => by { have h1 := (ho7.at_base ad ha).2; have h2 := hg9.size; simp [World.setCell] at h2; omega }; have c9a := hb9.cell 0; have c9b := hb9.cell 1; have f9 := hb9.frozen; have f9z := hz9.frozen; have z9a := hz9.cell 0; have z9b := hz9.cell 1; have l9 := hb9.lt; have l9z := hz9.lt; simp at c9a c9b z9a z9b))
    have hk9 : Kept (fun b => b = w.heap.size ∨ b = w.heap.size + 1 + 1) w9 (((w9.setCell ⟨w.heap.size, 1, none⟩ (.slice A9 (jn3 + 1) c9)).setCell ⟨w.heap.size + 1 + 1, 0, none⟩ (.slice A7 (nn + 1) c7)).setCell ⟨w.heap.size + 1 + 1, 1, none⟩ (.slice A9 (jn3 + 1) c9)) :=
      Kept.setCell (p := ⟨w.heap.size + 1 + 1, 1, none⟩) (Kept.setCell (p := ⟨w.heap.size + 1 + 1, 0, none⟩) (Kept.setCell (p := ⟨w.heap.size, 1, none⟩) (Kept.refl (fun b => b = w.heap.size ∨ b = w.heap.size + 1 + 1) w9) (fun _ => .inl rfl) _) (fun _ => .inr rfl) _) (fun _ => .inr rfl) _
    have hZ : Blk (((w9.setCell ⟨w.heap.size, 1, none⟩ (.slice A9 (jn3 + 1) c9)).setCell ⟨w.heap.size + 1 + 1, 0, none⟩ (.slice A7 (nn + 1) c7)).setCell ⟨w.heap.size + 1 + 1, 1, none⟩ (.slice A9 (jn3 + 1) c9)) (w.heap.size + 1 + 1) 36 #[.slice A7 (nn + 1) c7, .slice A9 (jn3 + 1) c9] :=
      ((hz9.far (p := ⟨w.heap.size, 1, none⟩) (by show w.heap.size + 1 + 1 ≠ w.heap.size; omega) _).set_ 0 _).set_ 1 _
    have hOZ := (ho9.rd Member_len).kept hk9 (fun _ ad ha => by have h1 := (ho9.at_base ad ha).1; have h2 := H3s.out; omega)
    have hNZ := hN9.kept hk9 (fun _ ad ha => by have h1 := hn7 ad ha; have h2 := H3s.out; show ¬ (ad.block = _ ∨ ad.block = _); omega)
    have hBZ : Below w.heap.size w (((w9.setCell ⟨w.heap.size, 1, none⟩ (.slice A9 (jn3 + 1) c9)).setCell ⟨w.heap.size + 1 + 1, 0, none⟩ (.slice A7 (nn + 1) c7)).setCell ⟨w.heap.size + 1 + 1, 1, none⟩ (.slice A9 (jn3 + 1) c9)) :=
      hBw9.trans (hk9.below hBw9.size (fun b hb e => by omega))
    have HJ9 := Lib.hid (fun ad ha => ho9.at_base ad ha)
    have hs9 := hk9.size
    have HZ := Lib.hid (And.intro hZ (And.intro hOZ (And.intro hNZ (And.intro hBZ hs9))))
    clear hk9 hZ hOZ hNZ hBZ hs9
    obtain ⟨hZ, hOZ, hNZ, hBZ, hs9⟩ := HZ.out
    generalize ((w9.setCell ⟨w.heap.size, 1, none⟩ (.slice A9 (jn3 + 1) c9)).setCell ⟨w.heap.size + 1 + 1, 0, none⟩ (.slice A7 (nn + 1) c7)).setCell ⟨w.heap.size + 1 + 1, 1, none⟩ (.slice A9 (jn3 + 1) c9) = W3 at hZ hOZ hNZ hBZ hs9 ⊢
    have z0 := hZ.cell 0
    have z1 := hZ.cell 1
    simp only [List.getElem?_toArray] at z0 z1
    rw [HK.out.1, HK.out.2]
    exact bodyPost_ret (v := .tuple #[aggC A7 (nn + 1) c7 A9 (jn3 + 1) c9, .int .i64 (nn : Int)]) (by simp [results, Try.results9, go_sem, z0, z1]) rfl ⟨_, _, _, _, _, _, rfl, by rw [addN, if_neg HIN.out]; exact hNZ, hOZ, by omega, by omega, hBZ, fun ad ha => .inr (by have h1 := hn7 ad ha; have h3 := hn7b ad ha; have h2 := HB2.out.size; omega), fun ad ha => by have h1 := HJ9.out ad ha; have h2 := HB2.out.size; omega⟩
end

end Go.Proofs.Ythhnocnkicoimaa
