/-
  LAYER 45 (ledger): epochs, holds.
-/
import Derived.Test.YtaajlegdcgfcgaaLedger1
set_option linter.unusedVariables false
set_option linter.unusedSimpArgs false
namespace Go.Proofs.Ytaajlegdcgfcgaa
open Go.RowKit Go.Maps

/-! ### epochs -/
def epochsL (led : Int) (r : LRow) : Int := if r.kind = 1 then r.epoch else led
def epochsR (row : List Int) (r : LRow) : List Int := if r.kind = 2 then putR row r.place else row
def epochsF (f : Int → Int) (r : LRow) : Int → Int := if r.kind = 2 then (fun k => if k = r.place then r.epoch else f k) else f
abbrev boxR (r : LRow) : Obj := .cells #[.int .i64 r.tick, .int .i64 r.kind, .int .i64 r.place, .int .i64 r.epoch, .int .i64 r.inc, .int .i64 r.job, .int .i64 r.code] 146

set_option maxRecDepth 100000 in
set_option maxHeartbeats 400000 in
theorem epochs1 (bl bm b : Nat) (ti tm : TypeId) (led : Int) (row : List Int) (f : Int → Int) (r : LRow) (w : World) (hl : Blk w bl ti #[.int .i64 led]) (hb : Blk w bm tm #[.map (some b)]) (hM : MapKV w (.map (some b)) row f) (hne : bl ≠ bm)
    (hr : wfR r) (hlen : row.length < 1000000) :
    Calls Try.prog 109 #[aggR r, .pointer (some ⟨bl, 0, none⟩), .pointer (some ⟨bm, 0, none⟩)] w fun e w' => e = .returned (.int .i64 (epochsE led row f r)) ∧
      (epochsE led row f r = 0 → Blk w' bl ti #[.int .i64 (epochsL led r)] ∧ Blk w' bm tm #[.map (some b)] ∧ MapKV w' (.map (some b)) (epochsR row r) (epochsF f r)) ∧ Kept (fun k => k = bl ∨ k = b) w w' := by
  have c1 : w.cell? ⟨bl, 0, none⟩ = some (.int .i64 led) := hl.cell 0
  have c2 : w.cell? ⟨bm, 0, none⟩ = some (.map (some b)) := hb.cell 0
  have f1 := hl.frozen 0
  have f2 := hb.frozen 0
  have hll := hl.lt
  have hbl := hb.lt
  have hn1 : bl ≠ b := by rintro rfl; exact hM.ne_blk hl rfl
  have hn2 : bm ≠ b := by rintro rfl; exact hM.ne_blk hb rfl
  have HL := Lib.hid hl
  have HB := Lib.hid hb
  have HM := Lib.hid hM
  have HR := Lib.hid hr
  have HN := Lib.hid (And.intro hne (And.intro hn1 hn2))
  clear hl hb hM hr hne hn1 hn2
  have K0 : Kept (fun k => k = bl ∨ k = b) w (w.alloc (boxR r)) := Kept.of_below ((Below.refl _ _).alloc (Nat.le_refl _) _)
  have HK0 := Lib.hid K0
  clear K0
  have KL : ∀ u o, Kept (fun k => k = bl ∨ k = b) w ((w.setCell ⟨bl, 0, none⟩ u).alloc o) := fun u o => ((Kept.refl _ _).setCell (fun _ => .inl rfl) _).alloc _
  have HKL := Lib.hid KL
  clear KL
  by_cases h1 : r.kind = 1
  · have hd1 : (r.kind == 1) = true := by simp [h1]
    by_cases h2 : r.epoch = wrap64 (led + 1)
    · have HV := Lib.hid (show epochsE led row f r = 0 by simp only [epochsE, if_pos h1, if_pos h2])
      have hd2 : (r.epoch != wrap64 (led + 1)) = false := by simp [← h2]
      have HL1 := Lib.hid (show epochsL led r = r.epoch by simp only [epochsL, if_pos h1])
      have HR1 := Lib.hid (show epochsR row r = row by simp [epochsR, h1])
      have HF1 := Lib.hid (show epochsF f r = f by simp [epochsF, h1])
      clear h1 h2
      go_enter Try.func109, Try.ntmps109
      go_wp2
      go_ret
      rw [HV.out, HL1.out, HR1.out, HF1.out]
      exact ⟨rfl, ⟨fun _ => ⟨(HL.out.set_ 0 _).alloc _, (HB.out.far (p := ⟨bl, 0, none⟩) (fun e => HN.out.1 e.symm) _).alloc _, (HM.out.setCell (p := ⟨bl, 0, none⟩) (by intro e; cases e; exact HN.out.2.1 rfl) _).alloc _⟩, HKL.out _ _⟩⟩
    · have HV := Lib.hid (show epochsE led row f r = 11 by simp only [epochsE, if_pos h1, if_neg h2])
      have hd2 : (r.epoch != wrap64 (led + 1)) = true := by simp [h2]
      clear h1 h2
      go_enter Try.func109, Try.ntmps109
      go_wp2
      go_ret
      rw [HV.out]
      exact ⟨rfl, ⟨fun h => absurd h (by decide), HK0.out⟩⟩
  · have hd1 : (r.kind == 1) = false := by simp [h1]
    by_cases h2 : r.kind = 2
    · have hd2 : (r.kind == 2) = true := by simp [h2]
      have HL1 := Lib.hid (show epochsL led r = led by simp only [epochsL, if_neg h1])
      have HR1 := Lib.hid (show epochsR row r = putR row r.place by simp only [epochsR, if_pos h2])
      have HF1 := Lib.hid (show epochsF f r = (fun k => if k = r.place then r.epoch else f k) by simp only [epochsF, if_pos h2])
      have hlk : (Instr.lookup 45 (.map (some b)) (.int .i64 r.place) true).run Try.prog (w.alloc (boxR r)) = .ok (.tuple #[.int .i64 (if r.place ∈ row then f r.place else 0), .bool (decide (r.place ∈ row))]) (w.alloc (boxR r)) := (HM.out.alloc _).look HR.out.2.2.1
      obtain ⟨w2, hst, hM2, hg, hsz⟩ := (HM.out.alloc (boxR r)).store HR.out.2.2.1 HR.out.2.2.2.1 (by omega)
      have HM2 := Lib.hid (And.intro hM2 (And.intro hg hsz))
      clear hM2 hg hsz
      have hst2 := Lib.hid (show (r.place ∈ row ∧ r.epoch < f r.place) ∨ led < r.epoch → epochsE led row f r = 11 from fun h => by simp only [epochsE, if_neg h1, if_pos h2, if_pos h])
      have hst3 := Lib.hid (show ¬ ((r.place ∈ row ∧ r.epoch < f r.place) ∨ led < r.epoch) → epochsE led row f r = 0 from fun h => by simp only [epochsE, if_neg h1, if_pos h2, if_neg h])
      clear h1 h2
      by_cases hm : r.place ∈ row
      · rw [if_pos hm, decide_eq_true hm] at hlk
        by_cases h3 : r.epoch < f r.place
        · have hd3 : decide (r.epoch < f r.place) = true := decide_eq_true h3
          have HV := Lib.hid (hst2.out (.inl ⟨hm, h3⟩))
          clear h3 hm hst
          go_enter Try.func109, Try.ntmps109
          go_wp2
          go_ret
          rw [HV.out]
          exact ⟨rfl, ⟨fun h => absurd h (by decide), HK0.out⟩⟩
        · have hd3 : decide (r.epoch < f r.place) = false := decide_eq_false h3
          by_cases h4 : led < r.epoch
          · have hd4 : decide (led < r.epoch) = true := decide_eq_true h4
            have HV := Lib.hid (hst2.out (.inr h4))
            clear h3 hm hst h4
            go_enter Try.func109, Try.ntmps109
            go_wp2
            go_ret
            rw [HV.out]
            exact ⟨rfl, ⟨fun h => absurd h (by decide), HK0.out⟩⟩
          · have hd4 : decide (led < r.epoch) = false := decide_eq_false h4
            have HV := Lib.hid (hst3.out (fun h => h.elim (fun h => h3 h.2) h4))
            clear h3 hm h4
            go_enter Try.func109, Try.ntmps109
            go_wp2
            go_ret
            rw [HV.out, HL1.out, HR1.out, HF1.out]
            exact ⟨rfl, ⟨fun _ => ⟨(HL.out.alloc _).grown HM2.out.2.1 (by intro e; cases e; exact HN.out.2.1 rfl), (HB.out.alloc _).grown HM2.out.2.1 (by intro e; cases e; exact HN.out.2.2 rfl), HM2.out.1⟩, HK0.out.trans (Kept.of_grown (F := fun k => k = bl ∨ k = b) HM2.out.2.1 (by intro k e _; cases e; exact .inr rfl)) (fun _ _ h => h)⟩⟩
      · rw [if_neg hm, decide_eq_false hm] at hlk
        by_cases h4 : led < r.epoch
        · have hd4 : decide (led < r.epoch) = true := decide_eq_true h4
          have HV := Lib.hid (hst2.out (.inr h4))
          clear hm hst h4
          go_enter Try.func109, Try.ntmps109
          go_wp2
          go_ret
          rw [HV.out]
          exact ⟨rfl, ⟨fun h => absurd h (by decide), HK0.out⟩⟩
        · have hd4 : decide (led < r.epoch) = false := decide_eq_false h4
          have HV := Lib.hid (hst3.out (fun h => h.elim (fun h => hm h.1) h4))
          clear hm h4
          go_enter Try.func109, Try.ntmps109
          go_wp2
          go_ret
          rw [HV.out, HL1.out, HR1.out, HF1.out]
          exact ⟨rfl, ⟨fun _ => ⟨(HL.out.alloc _).grown HM2.out.2.1 (by intro e; cases e; exact HN.out.2.1 rfl), (HB.out.alloc _).grown HM2.out.2.1 (by intro e; cases e; exact HN.out.2.2 rfl), HM2.out.1⟩, HK0.out.trans (Kept.of_grown (F := fun k => k = bl ∨ k = b) HM2.out.2.1 (by intro k e _; cases e; exact .inr rfl)) (fun _ _ h => h)⟩⟩
    · have HV := Lib.hid (show epochsE led row f r = 0 by simp only [epochsE, if_neg h1, if_neg h2])
      have hd2 : (r.kind == 2) = false := by simp [h2]
      have HL1 := Lib.hid (show epochsL led r = led by simp only [epochsL, if_neg h1])
      have HR1 := Lib.hid (show epochsR row r = row by simp [epochsR, h2])
      have HF1 := Lib.hid (show epochsF f r = f by simp [epochsF, h2])
      clear h1 h2
      go_enter Try.func109, Try.ntmps109
      go_wp2
      go_ret
      rw [HV.out, HL1.out, HR1.out, HF1.out]
      exact ⟨rfl, ⟨fun _ => ⟨HL.out.alloc _, HB.out.alloc _, HM.out.alloc _⟩, HK0.out⟩⟩

/-! ### holds -/
def holdsR (row : List Int) (r : LRow) : List Int := if r.kind = 4 then putR row r.job else if r.kind = 5 then row.filter (· != r.job) else row
def holdsF (f : Int → Int) (r : LRow) : Int → Int := if r.kind = 4 then (fun k => if k = r.job then r.place else f k) else f

set_option maxRecDepth 100000 in
set_option maxHeartbeats 400000 in
theorem holds1 (bm b : Nat) (tm : TypeId) (row : List Int) (f : Int → Int) (r : LRow) (w : World) (hb : Blk w bm tm #[.map (some b)]) (hM : MapKV w (.map (some b)) row f)
    (hr : wfR r) (hlen : row.length < 1000000) :
    Calls Try.prog 110 #[aggR r, .pointer (some ⟨bm, 0, none⟩)] w fun e w' => e = .returned (.int .i64 (holdsE row f r)) ∧
      (holdsE row f r = 0 → Blk w' bm tm #[.map (some b)] ∧ MapKV w' (.map (some b)) (holdsR row r) (holdsF f r)) ∧ Kept (fun k => k = b) w w' := by
  have c2 : w.cell? ⟨bm, 0, none⟩ = some (.map (some b)) := hb.cell 0
  have f2 := hb.frozen 0
  have hbl := hb.lt
  have hn2 : bm ≠ b := by rintro rfl; exact hM.ne_blk hb rfl
  have HB := Lib.hid hb
  have HM := Lib.hid hM
  have HR := Lib.hid hr
  have HN := Lib.hid hn2
  clear hb hM hr hn2
  have K0 : Kept (fun k => k = b) w (w.alloc (boxR r)) := Kept.of_below ((Below.refl _ _).alloc (Nat.le_refl _) _)
  have HK0 := Lib.hid K0
  clear K0
  have hlk : (Instr.lookup 45 (.map (some b)) (.int .i64 r.job) true).run Try.prog (w.alloc (boxR r)) = .ok (.tuple #[.int .i64 (if r.job ∈ row then f r.job else 0), .bool (decide (r.job ∈ row))]) (w.alloc (boxR r)) := (HM.out.alloc _).look HR.out.2.2.2.2.2.1
  by_cases h1 : r.kind = 4
  · have hd1 : (r.kind == 4) = true := by simp [h1]
    by_cases hm : r.job ∈ row
    · have HV := Lib.hid (show holdsE row f r = 12 by simp only [holdsE, if_pos h1, if_pos hm])
      rw [if_pos hm, decide_eq_true hm] at hlk
      clear h1 hm
      go_enter Try.func110, Try.ntmps110
      go_wp2
      go_ret
      rw [HV.out]
      exact ⟨rfl, ⟨fun h => absurd h (by decide), HK0.out⟩⟩
    · have HV := Lib.hid (show holdsE row f r = 0 by simp only [holdsE, if_pos h1, if_neg hm])
      have HR1 := Lib.hid (show holdsR row r = putR row r.job by simp only [holdsR, if_pos h1])
      have HF1 := Lib.hid (show holdsF f r = (fun k => if k = r.job then r.place else f k) by simp only [holdsF, if_pos h1])
      rw [if_neg hm, decide_eq_false hm] at hlk
      obtain ⟨w2, hst, hM2, hg, hsz⟩ := (HM.out.alloc (boxR r)).store HR.out.2.2.2.2.2.1 HR.out.2.2.1 (by omega)
      have HM2 := Lib.hid (And.intro hM2 (And.intro hg hsz))
      clear hM2 hg hsz h1 hm
      go_enter Try.func110, Try.ntmps110
      go_wp2
      go_ret
      rw [HV.out, HR1.out, HF1.out]
      exact ⟨rfl, ⟨fun _ => ⟨(HB.out.alloc _).grown HM2.out.2.1 (by intro e; cases e; exact HN.out rfl), HM2.out.1⟩, HK0.out.trans (Kept.of_grown (F := fun k => k = b) HM2.out.2.1 (by intro k e _; cases e; rfl)) (fun _ _ h => h)⟩⟩
  · have hd1 : (r.kind == 4) = false := by simp [h1]
    by_cases h2 : r.kind = 5
    · have hd2 : (r.kind == 5) = true := by simp [h2]
      by_cases hm : r.job ∈ row
      · rw [if_pos hm, decide_eq_true hm] at hlk
        by_cases h3 : f r.job = r.place
        · have hd3 : (f r.job != r.place) = false := by simp [h3]
          have HV := Lib.hid (show holdsE row f r = 0 by simp only [holdsE, if_neg h1, if_pos h2, if_pos (And.intro hm h3)])
          have HR1 := Lib.hid (show holdsR row r = row.filter (· != r.job) by simp only [holdsR, if_neg h1, if_pos h2])
          have HF1 := Lib.hid (show holdsF f r = f by simp only [holdsF, if_neg h1])
          obtain ⟨w2, hst, hM2, hg, hsz⟩ := (HM.out.alloc (boxR r)).del HR.out.2.2.2.2.2.1
          have HM2 := Lib.hid (And.intro hM2 (And.intro hg hsz))
          clear hM2 hg hsz h1 h2 hm h3
          go_enter Try.func110, Try.ntmps110
          go_wp2
          go_ret
          rw [HV.out, HR1.out, HF1.out]
          exact ⟨rfl, ⟨fun _ => ⟨(HB.out.alloc _).grown HM2.out.2.1 (by intro e; cases e; exact HN.out rfl), HM2.out.1⟩, HK0.out.trans (Kept.of_grown (F := fun k => k = b) HM2.out.2.1 (by intro k e _; cases e; rfl)) (fun _ _ h => h)⟩⟩
        · have hd3 : (f r.job != r.place) = true := by simp [h3]
          have HV := Lib.hid (show holdsE row f r = 7 by simp only [holdsE, if_neg h1, if_pos h2, if_neg (fun h : r.job ∈ row ∧ f r.job = r.place => h3 h.2)])
          clear h1 h2 hm h3
          go_enter Try.func110, Try.ntmps110
          go_wp2
          go_ret
          rw [HV.out]
          exact ⟨rfl, ⟨fun h => absurd h (by decide), HK0.out⟩⟩
      · have HV := Lib.hid (show holdsE row f r = 7 by simp only [holdsE, if_neg h1, if_pos h2, if_neg (fun h : r.job ∈ row ∧ f r.job = r.place => hm h.1)])
        rw [if_neg hm, decide_eq_false hm] at hlk
        clear h1 h2 hm
        go_enter Try.func110, Try.ntmps110
        go_wp2
        go_ret
        rw [HV.out]
        exact ⟨rfl, ⟨fun h => absurd h (by decide), HK0.out⟩⟩
    · have HV := Lib.hid (show holdsE row f r = 0 by simp only [holdsE, if_neg h1, if_neg h2])
      have hd2 : (r.kind == 5) = false := by simp [h2]
      have HR1 := Lib.hid (show holdsR row r = row by simp only [holdsR, if_neg h1, if_neg h2])
      have HF1 := Lib.hid (show holdsF f r = f by simp only [holdsF, if_neg h1])
      clear h1 h2
      generalize (if r.job ∈ row then f r.job else 0) = cv at hlk
      generalize decide (r.job ∈ row) = ck at hlk
      go_enter Try.func110, Try.ntmps110
      go_wp2
      go_ret
      rw [HV.out, HR1.out, HF1.out]
      exact ⟨rfl, ⟨fun _ => ⟨HB.out.alloc _, HM.out.alloc _⟩, HK0.out⟩⟩

end Go.Proofs.Ytaajlegdcgfcgaa
