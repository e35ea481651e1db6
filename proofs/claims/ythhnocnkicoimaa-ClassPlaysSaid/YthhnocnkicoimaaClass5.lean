/-
  LAYER 30 (class): Drop.
-/
import Derived.Test.YthhnocnkicoimaaClass4
set_option linter.unusedVariables false
set_option linter.unusedSimpArgs false
namespace Go.Proofs.Ythhnocnkicoimaa
open Go.RowKit Go.Maps

def CM.drop (m : CM) (id : Int) : CM := ⟨m.needs, m.jrow.filter (· != id), m.jf⟩
theorem CM.drop_rows (m : CM) (id k : Int) : (m.drop id).rows k = (m.rows k).filter (· != id) := by
  unfold CM.rows CM.drop
  simp only [List.filter_filter]
  congr 1
  funext i
  exact Bool.and_comm _ _
theorem CM.rows_other (m : CM) {id k : Int} (h : m.jf id ≠ k) : (m.rows k).filter (· != id) = m.rows k := by
  rw [List.filter_eq_self]
  intro i hi
  have := (List.mem_filter.1 hi).2
  have h2 : m.jf i = k := by simpa using this
  simp only [bne_iff_ne]
  intro e
  exact h (e ▸ h2)
theorem CM.drop_none (m : CM) {id : Int} (h : id ∉ m.jrow) : m.drop id = m := by
  unfold CM.drop
  rw [List.filter_eq_self.2 (fun i hi => by simp only [bne_iff_ne]; exact fun e => h (e ▸ hi))]
theorem CM.Ok.drop {m : CM} (h : m.Ok) (id : Int) : (m.drop id).Ok :=
  ⟨h.nd, fun i hi => h.at_ i (List.mem_filter.1 hi).1, h.small.1, Nat.le_trans (List.length_filter_le _ _) h.small.2⟩
theorem CM.drop_mark (m : CM) {id : Int} {k : Nat} (hk : m.jf id = k) : (fun i : Nat => if i = k then (m.rows (k : Int)).filter (· != id) else m.rows (i : Int)) = fun i : Nat => (m.drop id).rows (i : Int) := by
  funext i
  rw [CM.drop_rows]
  by_cases e : i = k
  · rw [if_pos e, e]
  · rw [if_neg e, CM.rows_other]
    rw [hk]
    omega

theorem cDrop_nil (id : Int) (w : World) : Calls Try.prog 13 #[.pointer none, .int .i64 id] w fun e w' => e = .returned (.bool false) ∧ w = w' := by
  go_enter Try.func13, Try.ntmps13
  go_wp2_with (go_at_call 15; with_reducible refine (cClass_nil _ _).mono ?_; rintro e w' ⟨rfl, rfl⟩)
  go_ret
  exact ⟨rfl, rfl⟩

section
variable {w : World} {c n cap : Nat} {m : CM} {gs : List (Nat × Option Nat)} {A : Option Addr} {am jm : Option Nat}
set_option maxRecDepth 100000 in
set_option maxHeartbeats 800000 in
/-- (*Classes).Drop -/
theorem cDrop (h : CAt w c m (fun k => m.rows k) gs A n cap am jm) (id : Int) (hid : wf64 id) : Calls Try.prog 13 #[.pointer (some ⟨c, 0, none⟩), .int .i64 id] w fun e w' => e = .returned (.bool (decide (id ∈ m.jrow))) ∧
    ∃ gs', CAt w' c (m.drop id) (fun k => (m.drop id).rows k) gs' A n cap am jm ∧ Turned (cfoot c gs A am jm) (cfoot c gs' A am jm) w w' := by
  have hcx := cClass h id hid
  by_cases hin : id ∈ m.jrow
  · obtain ⟨k, hk, hkl⟩ := h.ok.at_ id hin
    rw [if_pos hin, hk, decide_eq_true hin] at hcx
    obtain ⟨g, mo, r, rb, ro, hg, hr, rfl, hp, hblk, hset⟩ := h.class_at hkl
    have hcl := dClean g 0 _ _ _ _ id w hblk rfl hset hid
    have hc0 := h.blk.cell 0
    simp only [List.getElem?_toArray, List.getElem?_cons_zero, List.getElem?_cons_succ] at hc0
    have hn := h.nlen
    have hsm := h.ok.small.1
    rw [← hn] at hkl hsm
    have HH := Lib.hid (And.intro h (And.intro hk hg))
    have HI := Lib.hid hin
    clear h hk hg hn hr hblk hset hin
    rw [decide_eq_true HI.out]
    go_enter Try.func13, Try.ntmps13
    go_wp2_with fail
    (with_reducible refine hcx.mono ?_)
    clear hcx
    rintro e w' ⟨rfl, rfl⟩
    go_wp2_with fail
    (with_reducible refine hcl.mono ?_)
    clear hcl
    rintro e w1 ⟨rfl, ht⟩
    obtain ⟨mo', hA1, hT1⟩ := HH.out.1.turn HH.out.2.2 ht
    have hc2 := hA1.blk.cell 2
    simp only [List.getElem?_toArray, List.getElem?_cons_zero, List.getElem?_cons_succ] at hc2
    obtain ⟨w2, hrun, hM2, hg2, _⟩ := hA1.jb.del hid
    obtain ⟨hA2, hT2⟩ := hA1.jobs hM2 hg2 (HH.out.1.ok.drop id)
    rw [CM.drop_mark m HH.out.2.1] at hA2
    have HZ := Lib.hid (And.intro hA2 (hT1.trans hT2))
    clear ht hA1 hT1 hM2 hg2 hA2 hT2 hc0 hp
    go_wp2
    go_ret
    exact ⟨rfl, _, HZ.out.1, HZ.out.2⟩
  · rw [if_neg hin, decide_eq_false hin] at hcx
    have HH := Lib.hid h
    have HI := Lib.hid hin
    clear h hin
    rw [decide_eq_false HI.out]
    go_enter Try.func13, Try.ntmps13
    go_wp2_with fail
    (with_reducible refine hcx.mono ?_)
    clear hcx
    rintro e w' ⟨rfl, rfl⟩
    go_wp2
    go_ret
    rw [CM.drop_none m HI.out]
    exact ⟨rfl, gs, HH.out, Turned.refl _ _⟩
end

end Go.Proofs.Ythhnocnkicoimaa
