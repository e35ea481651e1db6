/-
  LAYER 30: the reference: Drop, Add.
-/
import Derived.Test.YthhnocnkicoimaaRef30a
set_option linter.unusedVariables false
set_option linter.unusedSimpArgs false
namespace Go.Proofs.Ythhnocnkicoimaa
open Go.RowKit Go.Maps

def dropJ (jobs : List LMember) (id : Int) : List LMember := jobs.filter (fun j => j.id != id)
theorem filter_take_m (p : LMember → Bool) {l : List LMember} {k : Nat} {x : LMember} (h : l[k]? = some x) : (l.take (k + 1)).filter p = (l.take k).filter p ++ if p x = true then [x] else [] := by
  rw [take_succ_of _ _ _ h, List.filter_append]
  cases hp : p x <;> simp [hp]
section
variable {w : World} {N J : Option Addr} {nn nc jn jc : Nat} {needs : List LRes} {jobs : List LMember}
set_option maxRecDepth 100000 in
set_option maxHeartbeats 1600000 in
theorem rDrop_t (hJ : Rd encMember 2 w J jn jobs) (hjn : jn ≤ 1000) (id : Int) :
    Calls Try.prog 12 #[aggC N nn nc J jn jc, .int .i64 id] w fun e w' => ∃ J' jn' jc', e = .returned (aggC N nn nc J' jn' jc') ∧ OwnL encMember 96 2 w' w.heap.size J' jn' jc' (dropJ jobs id) ∧ jn' ≤ jn ∧ Below w.heap.size w w' := by
  have hs1 : (w.alloc (.cells #[.slice N nn nc, .slice J jn jc] 36)).heap.size = w.heap.size + 1 := by simp
  have hb := (Blk.new w 36 #[.slice N nn nc, .slice J jn jc]).alloc (.cells #[.slice none 0 0, .slice none 0 0] 36)
  have hz := Blk.new (w.alloc (.cells #[.slice N nn nc, .slice J jn jc] 36)) 36 #[.slice none 0 0, .slice none 0 0]
  rw [hs1] at hz
  have hB : Below w.heap.size w ((w.alloc (.cells #[.slice N nn nc, .slice J jn jc] 36)).alloc (.cells #[.slice none 0 0, .slice none 0 0] 36)) := ((Below.refl _ _).alloc (Nat.le_refl _) _).alloc (by simp) _
  have HBL := Lib.hid (And.intro hb hz)
  have HJ := Lib.hid (hJ.below hB)
  have HB := Lib.hid hB
  clear hb hz hB hJ hs1
  go_enter Try.func12, Try.ntmps12
  go_wp2
  generalize (w.alloc (.cells #[.slice N nn nc, .slice J jn jc] 36)).alloc (.cells #[.slice none 0 0, .slice none 0 0] 36) = w1 at HBL HJ HB ⊢
  go_loopw [5, 6] (fun v i wq => ∃ (k q : Nat) (A' : Option Addr) (c' : Nat), k ≤ jn ∧ i = .int .i64 k ∧ v = .slice A' q c' ∧ q ≤ k ∧ OwnL encMember 96 2 wq w1.heap.size A' q c' ((jobs.take k).filter (fun j => j.id != id)) ∧ Below w1.heap.size w1 wq) (fun _ i _ => jn - (intOf i).toNat)
  case atStart => exact ⟨0, 0, none, 0, Nat.zero_le _, rfl, rfl, Nat.le_refl _, OwnL.nil _ _, Below.refl _ _⟩
  case round =>
    obtain ⟨k, q, A', c', hk, rfl, rfl, hqk, hO, hBq⟩ := hrel
    have hbq := HBL.out.1.below hBq HBL.out.1.lt
    have hzq := HBL.out.2.below hBq HBL.out.2.lt
    have c0 := hbq.cell 0
    have c1 := hbq.cell 1
    simp only [List.getElem?_toArray, List.getElem?_cons_zero, List.getElem?_cons_succ] at c0 c1
    by_cases hlt : k < jn
    · obtain ⟨ab, ao, x, rfl, hxx, hal, hcells⟩ := (HJ.out.below hBq).at_ hlt
      have d0 : wr.cell? ⟨ab, ao + k * 2, none⟩ = some (.int .i64 x.id) := hcells 0 _ rfl
      have d1 : wr.cell? ⟨ab, ao + k * 2 + 1, none⟩ = some (.int .i64 x.cls) := hcells 1 _ rfl
      have hst := filter_take_m (fun j => j.id != id) hxx
      clear hcells hxx hbq hzq
      by_cases hxk : x.id = id
      · have t : (x.id != id) = false := by simp [hxk]
        rw [t] at hst
        simp only [Bool.false_eq_true, if_false, List.append_nil] at hst
        have HS := Lib.hid hst
        clear hst hxk
        go_wp2
        go_roundw
        case rel => exact ⟨k + 1, q, A', c', by omega, by go_num, rfl, by omega, by rw [HS.out]; exact hO, hBq⟩
        case measure => simp [intOf]; omega
      · have t : (x.id != id) = true := by simp [hxk]
        rw [if_pos t] at hst
        have HS := Lib.hid hst
        clear hst hxk
        go_wp2_with (at_builtin; refine wp_app (enc := encMember) Member_len Member_one rfl (.tmp 22) (.tmp 28) 34 rfl 96 _ 16 Try.underlying34 Try.infoMember rfl (by decide) w1.heap.size _ q _ _ rfl (hO.alloc _) _ 1 _ [x] (by rfl) (Rd.new1 _ x _ _ _ rfl) (q + 1) rfl _ rfl (by omega) (by omega) (by have := hBq.size; simp; omega) ?_; intro A4 c4 w4 ho4 hg4 _; have hb4 := (hBq.alloc hBq.size _).grown hg4 (by have := hBq.size; simp; omega) (own_block_ge hO))
        go_roundw
        case rel => exact ⟨k + 1, q + 1, A4, c4, by omega, by go_num, rfl, by omega, by rw [HS.out]; exact ho4, hb4⟩
        case measure => simp [intOf]; omega
    · have hfull : jobs.take k = jobs := List.take_of_length_le (by have := HJ.out.len; omega)
      rw [hfull] at hO
      have f0 := hbq.frozen
      have g0 := hzq.frozen
      have z0 := hzq.cell 0
      have z1 := hzq.cell 1
      have hl0 := hbq.lt
      have hl1 := hzq.lt
      have hsz : w.heap.size + 1 < w1.heap.size := HBL.out.2.lt
      have hk1 : Kept (fun b => b = w.heap.size ∨ b = w.heap.size + 1) wr (((wr.setCell ⟨w.heap.size, 1, none⟩ (.slice A' q c')).setCell ⟨w.heap.size + 1, 0, none⟩ (.slice N nn nc)).setCell ⟨w.heap.size + 1, 1, none⟩ (.slice A' q c')) :=
        Kept.setCell (p := ⟨w.heap.size + 1, 1, none⟩) (Kept.setCell (p := ⟨w.heap.size + 1, 0, none⟩) (Kept.setCell (p := ⟨w.heap.size, 1, none⟩) (Kept.refl _ _) (fun _ => .inl rfl) _) (fun _ => .inr rfl) _) (fun _ => .inr rfl) _
      have hZ : Blk (((wr.setCell ⟨w.heap.size, 1, none⟩ (.slice A' q c')).setCell ⟨w.heap.size + 1, 0, none⟩ (.slice N nn nc)).setCell ⟨w.heap.size + 1, 1, none⟩ (.slice A' q c')) (w.heap.size + 1) 36 #[.slice N nn nc, .slice A' q c'] :=
        ((hzq.far (p := ⟨w.heap.size, 1, none⟩) (by show w.heap.size + 1 ≠ w.heap.size; omega) _).set_ 0 _).set_ 1 _
      have hOZ := hO.kept hk1 (fun ad ha => by have := (hO.at_base ad ha).1; omega)
      have hBZ : Below w.heap.size w (((wr.setCell ⟨w.heap.size, 1, none⟩ (.slice A' q c')).setCell ⟨w.heap.size + 1, 0, none⟩ (.slice N nn nc)).setCell ⟨w.heap.size + 1, 1, none⟩ (.slice A' q c')) :=
        (HB.out.trans (hBq.mono HB.out.size)).trans (hk1.below (by have := hBq.size; omega) (fun b hb e => by omega))
      have HZ := Lib.hid (And.intro hZ (And.intro (hOZ.lower HB.out.size) hBZ))
      clear hfull hbq hzq hk1 hZ hOZ hBZ
      go_wp2
      obtain ⟨hZ, hOZ, hBZ⟩ := HZ.out
      generalize ((wr.setCell ⟨w.heap.size, 1, none⟩ (.slice A' q c')).setCell ⟨w.heap.size + 1, 0, none⟩ (.slice N nn nc)).setCell ⟨w.heap.size + 1, 1, none⟩ (.slice A' q c') = W3 at hZ hOZ hBZ ⊢
      have y0 := hZ.cell 0
      have y1 := hZ.cell 1
      simp only [List.getElem?_toArray] at y0 y1
      exact bodyPost_ret (v := aggC N nn nc A' q c') (by simp [results, Try.results12, go_sem, y0, y1]) rfl ⟨A', q, c', rfl, hOZ, by omega, hBZ⟩
end

end Go.Proofs.Ythhnocnkicoimaa
