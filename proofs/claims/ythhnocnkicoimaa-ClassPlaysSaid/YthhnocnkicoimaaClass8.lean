/-
  LAYER 30 (class): known, of a need that is not known.
-/
import Derived.Test.YthhnocnkicoimaaClass7
set_option linter.unusedVariables false
set_option linter.unusedSimpArgs false
namespace Go.Proofs.Ythhnocnkicoimaa
open Go.RowKit Go.Maps

section
variable {w : World} {c n cap a j : Nat} {m : CM} {R : Nat → List Int} {gs : List (Nat × Option Nat)} {A : Option Addr}
set_option maxRecDepth 100000 in
set_option maxHeartbeats 3200000 in
theorem cKnown_some (h : CAt w c m R gs A n cap (some a) (some j)) (r : LRes) (hr : wfRes r) (hin : r ∉ m.needs) (hsm : m.needs.length < 1000) (hR : R m.needs.length = []) :
    Calls Try.prog 39 #[.pointer (some ⟨c, 0, none⟩), aggRes r] w fun e w' => e = .returned (.int .i64 n) ∧ ∃ g A' cap', CAt w' c ⟨m.needs ++ [r], m.jrow, m.jf⟩ R (gs ++ [(g, none)]) A' (n + 1) cap' (some a) (some j) ∧ Turned (cfoot c gs A (some a) (some j)) (cfoot c (gs ++ [(g, none)]) A' (some a) (some j)) w w' := by
  have hb := Blk.new w 24 (boxRes r)
  have hB : Below w.heap.size w (w.alloc (.cells (boxRes r) 24)) := (Below.refl _ _).alloc (Nat.le_refl _) _
  have hA0 := h.below hB
  have hc0 := hA0.blk.cell 0
  have hc1 := hA0.blk.cell 1
  have hl := fun k => ((hA0.at_.below (w' := (w.alloc (.cells (boxRes r) 24)).drewN k) (below_dN k))).look hr
  have c0 := hb.cell 0
  have c1 := hb.cell 1
  have c2 := hb.cell 2
  simp only [List.getElem?_toArray, List.getElem?_cons_zero, List.getElem?_cons_succ] at c0 c1 c2 hc0 hc1
  simp only [if_neg hin, decide_eq_false hin] at hl
  have HIN := Lib.hid hin
  have HH := Lib.hid h
  have HB := Lib.hid hB
  have HB0 := Lib.hid hb
  have HA0 := Lib.hid hA0
  have hmn := fun (W : World) => run_eql_map_nil (P := Try.prog) W 29 _ _ (some a) Try.underlying29
  clear h hb hB hA0 hin
  obtain ⟨b0, hb0⟩ : ∃ b0, w.heap.size = b0 := ⟨_, rfl⟩
  go_enter Try.func39, Try.ntmps39
  go_wp2
  generalize w.alloc (.cells (boxRes r) 24) = w1 at hc0 hc1 hl HB HB0 HA0 c0 c1 c2 ⊢
  rw [hb0] at HB0 c0 c1 c2
  try rw [hb0]
  go_quiet (fail)
  have hA : CAt (w1.drewN nq) c m R gs A n cap (some a) (some j) := HA0.out.below (below_dN nq)
  have hk0 : Kept (fun k => k = c ∨ k = a ∨ some k = (Value.slice A n cap).ownBlock) w (w1.drewN nq) := (Kept.of_below HB.out).drewN nq
  have HBX : Hid (Blk (w1.drewN nq) b0 24 (boxRes r)) := Lib.hid HB0.out
  have k0 : (w1.drewN nq).cell? ⟨b0, 0, none⟩ = some (.int .i64 r.a) := c0
  have k1 : (w1.drewN nq).cell? ⟨b0, 1, none⟩ = some (.int .i64 r.b) := c1
  have k2 : (w1.drewN nq).cell? ⟨b0, 2, none⟩ = some (.int .i64 r.c) := c2
  clear hc0 hc1 hl HB HB0 HA0 c0 c1 c2
  generalize w1.drewN nq = W0 at hA hk0 HBX k0 k1 k2 ⊢
  have hq0 := hA.blk.cell 0
  have hq1 := hA.blk.cell 1
  have hfc := hA.blk.frozen
  simp only [List.getElem?_toArray, List.getElem?_cons_zero, List.getElem?_cons_succ] at hq0 hq1
  have hnn := hA.nlen
  have hn1000 : n < 1000 := by omega
  have hcl := hA.blk.lt
  have HA := Lib.hid hA
  have HK := Lib.hid hk0
  have HN := Lib.hid hnn
  clear hA hk0 hnn
  go_wp2
  go_still_tail 6, (by kernel_rfl)
  obtain ⟨w3, hrun, hM3, hg3, hs3⟩ := (HA.out.at_.below (w' := W0.drew) (Below.refl _ _).drew).store hr (y := (n : Int)) (wf64_mk (by omega)) HIN.out (by have := HN.out; omega) (idxR (m.needs ++ [r])) (fun k hk => idxR_old hk) (by rw [idxR_new HIN.out, ← HN.out])
  have hca : c ≠ a := (map_ne_cells HA.out.at_.isM HA.out.blk.isC).symm
  have hba : b0 ≠ a := by
    have := HA.out.at_.isM
    exact fun e => map_ne_cells this HBX.out.isC e.symm
  have hb3 : Blk w3 c 32 #[.slice A n cap, .map (some a), .map (some j)] := (show Blk W0.drew c _ _ from HA.out.blk).grown hg3 (by simpa using hca)
  have hx3 : Blk w3 b0 24 (boxRes r) := (show Blk W0.drew b0 _ _ from HBX.out).grown hg3 (by simpa using hba)
  have ho3 : OwnL encPtr 98 1 w3 0 A n cap (gs.map (·.1)) := HA.out.own.step fun ad ha _ hl => hg3.block _ hl (fun e => map_ne_cells HA.out.at_.isM (HA.out.own.isC ha) (by injection e with e; exact e.symm))
  have hk3 : Kept (fun k => k = c ∨ k = a ∨ some k = (Value.slice A n cap).ownBlock) w w3 := (HK.out.drew).trans (Kept.of_grown (F := fun k => k = c ∨ k = a ∨ some k = (Value.slice A n cap).ownBlock) hg3 (fun k e _ => by cases e; exact .inr (.inl rfl))) (fun _ _ h => h)
  go_wp2
  have q0 := hb3.cell 0
  have fc := hb3.frozen
  have e0 := hx3.cell 0
  have e1 := hx3.cell 1
  have e2 := hx3.cell 2
  simp only [List.getElem?_toArray, List.getElem?_cons_zero, List.getElem?_cons_succ] at q0 e0 e1 e2
  have fc0 := fc 0
  have hlc := hb3.lt
  have hlx := hx3.lt
  have hne : (Value.slice A n cap).ownBlock ≠ some c := fun e => by
    cases A with
    | none => simp [Value.ownBlock] at e
    | some ad => exact cells_ne (ho3.isC (ad := ad) rfl) hb3.isC (by decide) (by simpa [Value.ownBlock] using e)
  have HO := Lib.hid (And.intro hb3 (And.intro ho3 (And.intro hk3 (And.intro hne hM3))))
  have hk0s : w.heap.size ≤ w3.heap.size := hk3.size
  clear hb3 hx3 ho3 hk3 hM3 hne hg3 hrun hs3 fc hq0 hq1 hfc
  obtain ⟨i0, hi0, hz0, hz1, hz2⟩ := info_parts Try.infoPtrClass
  have hnb : ∀ o1 : Obj, (w3.alloc o1).heap.size = w3.heap.size + 1 := fun o1 => by simp
  have HNB := Lib.hid hnb
  clear hnb
  go_region_law
    ((refine step_append_lies _ (by rfl) _ _ _ (by rfl) 0 98 i0 _ 1 8 Try.underlying28 hi0 hz0 hz1 hz2 rfl (by omega) (.slice A n cap) n ((gs.map (·.1)).flatMap encPtr) (by rfl) (((HO.out.2.1.own.alloc _).alloc _).drew)
        ⟨w3.heap.size + 1, 0, none⟩ 1 1 (encPtr w3.heap.size) (by rfl) (by rfl) (World.news_of_block (cs := #[.pointer (some ⟨w3.heap.size, 0, none⟩)]) (t := 98) (fr := (0, 0)) (by have := heap_alloc_new (w3.alloc (.cells #[.map none, .int .i64 r.a, .int .i64 r.b, .int .i64 r.c] 101)) (.cells #[.pointer (some ⟨w3.heap.size, 0, none⟩)] 98); rw [HNB.out] at this; exact this)) (fun u hu => by simp [encPtr] at hu; subst hu; rfl)
        (by omega) (by simp only [maxLen]; omega) (by omega) (Nat.zero_le _) (w3.heap.size + 1 + 1) (by simp) ?_; intro gg cap' w4 hown4 hgrow hat hlt4; have c4 : w4.cell? ⟨c, 0, none⟩ = some (.slice A n cap) := (hgrow.cell_far ⟨c, 0, none⟩ (by show c < _; simp; omega) (Ne.symm HO.out.2.2.2.1)).trans ((((HO.out.1.alloc _).alloc _).cell 0)); have f4 : w4.frozen? ⟨c, 0, none⟩ = false := (hgrow.frozen_far ⟨c, 0, none⟩ (by show c < _; simp; omega) (Ne.symm HO.out.2.2.2.1)).trans ((((HO.out.1.alloc _).alloc _).frozen 0))))
  all_goals (
    have ho5 : OwnL encPtr 98 1 w4 0 (some ⟨gg, 0, none⟩) (n + 1) cap' (gs.map (·.1) ++ [w3.heap.size]) := ⟨by rw [List.flatMap_append]; simpa using hown4, by rw [List.length_append, HO.out.2.1.len]; rfl⟩
    have hb4 : Blk w4 c 32 #[.slice A n cap, .map (some a), .map (some j)] := (show Blk (((w3.alloc (.cells #[.map none, .int .i64 r.a, .int .i64 r.b, .int .i64 r.c] 101)).alloc (.cells #[.pointer (some ⟨w3.heap.size, 0, none⟩)] 98)).drew) c _ _ from (HO.out.1.alloc _).alloc _).grown hgrow (Ne.symm HO.out.2.2.2.1)
    have hgc : gg ≠ c := cells_ne (ho5.isC (ad := ⟨gg, 0, none⟩) rfl) hb4.isC (by decide)
    have hb5 : Blk (w4.setCell ⟨c, 0, none⟩ (.slice (some ⟨gg, 0, none⟩) (n + 1) cap')) c 32 #[.slice (some ⟨gg, 0, none⟩) (n + 1) cap', .map (some a), .map (some j)] := hb4.set_ 0 _
    have ho6 : OwnL encPtr 98 1 (w4.setCell ⟨c, 0, none⟩ (.slice (some ⟨gg, 0, none⟩) (n + 1) cap')) 0 (some ⟨gg, 0, none⟩) (n + 1) cap' (gs.map (·.1) ++ [w3.heap.size]) := ho5.step fun ad ha _ _ => by cases ha; exact Below.heap_setCell w4 _ _ gg hgc
    have hnew : (Value.slice A n cap).ownBlock ≠ some w3.heap.size := fun e => by
      cases A with
      | none => simp [Value.ownBlock] at e
      | some ad =>
        have h1 := (HO.out.2.1.at_base ad rfl).2
        simp [Value.ownBlock] at e
        omega
    have hx4 : Blk w4 w3.heap.size 101 #[.map none, .int .i64 r.a, .int .i64 r.b, .int .i64 r.c] := (show Blk (((w3.alloc (.cells #[.map none, .int .i64 r.a, .int .i64 r.b, .int .i64 r.c] 101)).alloc (.cells #[.pointer (some ⟨w3.heap.size, 0, none⟩)] 98)).drew) w3.heap.size _ _ from (Blk.new w3 _ _).alloc _).grown hgrow (Ne.symm hnew)
    have hx5 : Blk (w4.setCell ⟨c, 0, none⟩ (.slice (some ⟨gg, 0, none⟩) (n + 1) cap')) w3.heap.size 101 #[.map none, .int .i64 r.a, .int .i64 r.b, .int .i64 r.c] := hx4.far (p := ⟨c, 0, none⟩) (by show w3.heap.size ≠ c; omega) _
    have hk5 : Kept (fun k => k = c ∨ k = a ∨ some k = (Value.slice A n cap).ownBlock) w (w4.setCell ⟨c, 0, none⟩ (.slice (some ⟨gg, 0, none⟩) (n + 1) cap')) := (((((HO.out.2.2.1.alloc _).alloc _).drew).trans (Kept.of_grown (F := fun k => k = c ∨ k = a ∨ some k = (Value.slice A n cap).ownBlock) hgrow (fun k e _ => .inr (.inr e.symm))) (fun _ _ h => h)).setCell (fun _ => .inl rfl) _)
    have hM5 : MapRes (w4.setCell ⟨c, 0, none⟩ (.slice (some ⟨gg, 0, none⟩) (n + 1) cap')) (.map (some a)) (m.needs ++ [r]) (idxR (m.needs ++ [r])) := HO.out.2.2.2.2.step fun b hb hl => by
      cases hb
      refine (Below.heap_setCell w4 ⟨c, 0, none⟩ _ a (Ne.symm hca)).trans ((hgrow.block a (by show a < _; simp; omega) (fun e => ?_)).trans ?_)
      · cases A with
        | none => simp [Value.ownBlock] at e
        | some ad => exact map_ne_cells HO.out.2.2.2.2.isM (HO.out.2.1.isC (ad := ad) rfl) (by simpa [Value.ownBlock] using e)
      · show ((w3.alloc _).alloc _).heap[a]? = _
        exact (Below.heap_alloc (w3.alloc _) _ a (by simp; omega)).trans (Below.heap_alloc w3 _ a hl)
    have hgrow2 := HH.out.grow (W := w4.setCell ⟨c, 0, none⟩ (.slice (some ⟨gg, 0, none⟩) (n + 1) cap')) HIN.out hsm hR hM5 hb5 ho6 hx5 (by have := hk0s; omega) (fun ad ha => by
        cases ha
        rcases hat with e | e
        · left
          cases A with
          | none => simp [Value.ownBlock] at e
          | some ad' =>
            have hz : ad' = ⟨ad'.block, 0, none⟩ := by
              rcases HH.out.own.own.2 with ⟨hv, _⟩ | ⟨g', cc, cur, hv, _⟩
              · cases hv
              · cases hv; rfl
            simp [Value.ownBlock] at e
            rw [hz, e]
        · right
          show w.heap.size ≤ gg
          have := hk0s
          omega) hk5.os hk5.tape hk5.output hk5.size (fun b hb h1 h2 h3 => hk5.block b hb (fun e => e.elim h1 (fun e => e.elim h2 (fun e => by
            cases A with
            | none => simp [Value.ownBlock] at e
            | some ad => exact h3 ad rfl (by simpa [Value.ownBlock] using e)))))
    have HZ := Lib.hid hgrow2
    clear ho5 hb4 hgc hb5 ho6 hnew hx4 hx5 hk5 hM5 hgrow2 hat hgrow hown4 c4 f4 q0 fc0 e0 e1 e2
    generalize w4.setCell _ _ = w5 at HZ ⊢
    go_wp2
    go_ret
    exact ⟨rfl, _, _, _, HZ.out.1, HZ.out.2⟩)
end

end Go.Proofs.Ythhnocnkicoimaa
