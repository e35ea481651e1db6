/-
  LAYER 30 (class): the law ClassPlays, walked.
-/
import Derived.Test.YthhnocnkicoimaaClass30
import Derived.Test.YthhnocnkicoimaaAnyBy
import Derived.Deep.RegionHeld3
import Derived.Deep.CutRange
set_option linter.unusedVariables false
set_option linter.unusedSimpArgs false
namespace Go.Proofs.Ythhnocnkicoimaa
open Go.RowKit Go.Maps


structure Q31 (w0 wr : World) (c z bx b5 : Nat) (m : CM) (S Z : Nat → Prop) (jobs : List LMember) (N : Option Addr) (nn nc : Nat) (J : Option Addr) (jn jc : Nat) (need : LRes) : Prop where
  q : Q30 w0 wr c z bx m m S Z m.needs jobs N nn nc J jn jc
  f : Blk wr b5 24 (boxRes need)
theorem Below.next {a w w' : World} (h : Below a.heap.size a w) (hb : Below w.heap.size w w') : Below a.heap.size a w' := h.trans (hb.mono h.size)
theorem Below.drew1 (w : World) : Below w.heap.size w w.drew := (Below.refl _ _).drew
theorem Below.drewN_ {B : Nat} {a w : World} (h : Below B a w) (q : Nat) : Below B a (w.drewN q) := ⟨h.os, h.tape, h.output, h.size, h.block⟩
section
variable {w0 wr w' : World} {c z bx b5 : Nat} {m : CM} {S Z : Nat → Prop} {jobs : List LMember} {N J : Option Addr} {nn nc jn jc : Nat} {need : LRes}
theorem Q31.below (h : Q31 w0 wr c z bx b5 m S Z jobs N nn nc J jn jc need) (hb : Below wr.heap.size wr w') : Q31 w0 w' c z bx b5 m S Z jobs N nn nc J jn jc need := ⟨h.q.below hb, h.f.below hb h.f.lt⟩
theorem Q31.drew (h : Q31 w0 wr c z bx b5 m S Z jobs N nn nc J jn jc need) : Q31 w0 wr.drew c z bx b5 m S Z jobs N nn nc J jn jc need := h.below (Below.refl _ _).drew
theorem Q31.drewN (h : Q31 w0 wr c z bx b5 m S Z jobs N nn nc J jn jc need) (q : Nat) : Q31 w0 (wr.drewN q) c z bx b5 m S Z jobs N nn nc J jn jc need := h.below (Below.drewN_ (Below.refl _ _) q)
theorem Q31.x (h : Q31 w0 wr c z bx b5 m S Z jobs N nn nc J jn jc need) : wr.cell? ⟨bx, 0, none⟩ = some (.slice N nn nc) ∧ wr.cell? ⟨bx, 1, none⟩ = some (.slice J jn jc) := ⟨h.q.blk.cell 0, h.q.blk.cell 1⟩
theorem Q31.x5 (h : Q31 w0 wr c z bx b5 m S Z jobs N nn nc J jn jc need) : wr.cell? ⟨bx, 0, none⟩ = some (.slice N nn nc) ∧ wr.cell? ⟨bx, 1, none⟩ = some (.slice J jn jc) ∧ wr.cell? ⟨b5, 0, none⟩ = some (.int .i64 need.a) ∧ wr.cell? ⟨b5, 1, none⟩ = some (.int .i64 need.b) ∧ wr.cell? ⟨b5, 2, none⟩ = some (.int .i64 need.c) := ⟨h.q.blk.cell 0, h.q.blk.cell 1, h.f.cell 0, h.f.cell 1, h.f.cell 2⟩
end
/-- What the document says of the jobs, once the act is done. -/
structure F31 (m : CM) (jobs : List LMember) (nn jn : Nat) : Prop where
  rows : ∀ k : Int, markAll [] ((jobs.filter (fun j => j.cls == k)).map (·.id)) = m.rows k
  live : markAll [] (jobs.map (·.cls)) = m.live
  ln : m.needs.length = nn
  n9 : nn ≤ 1000
  j9 : jn ≤ 1000
  n8 : nn ≤ 100
  ll : m.live.length ≤ 1000
  rl : ∀ k : Int, (m.rows k).length ≤ 1000
theorem F31.of_ {w0 wr : World} {c z bx b5 : Nat} {m : CM} {S Z : Nat → Prop} {jobs : List LMember} {N J : Option Addr} {nn nc jn jc : Nat} {need : LRes} (h : Q31 w0 wr c z bx b5 m S Z jobs N nn nc J jn jc need) (hr : RelJ m jobs) (h1 : nn ≤ 81) (h2 : jn ≤ 81) : F31 m jobs nn jn where
  rows := hr.jobs h.q.c_.rising
  live := hr.live h.q.c_.ok
  ln := h.q.rn.len
  n9 := by omega
  j9 := by omega
  n8 := by omega
  ll := Nat.le_trans (live_len m) h.q.c_.ok.small.1
  rl := fun k => Nat.le_trans (m.rows_le k) h.q.c_.ok.small.2
theorem max_of (l : List LRes) (r : LRes) : max (rOfE l r) 0 = (if r ∈ l then idxR l r else 0) ∧ decide (0 ≤ rOfE l r) = decide (r ∈ l) := by
  unfold rOfE
  by_cases h : r ∈ l
  · rw [if_pos h, if_pos h]
    have : (0 : Int) ≤ idxR l r := by unfold idxR; omega
    exact ⟨by omega, by rw [decide_eq_true h, decide_eq_true this]⟩
  · rw [if_neg h, if_neg h]
    exact ⟨rfl, by rw [decide_eq_false h]; rfl⟩
theorem max_cls {m : CM} (hok : m.Ok) {jobs : List LMember} (h : RelJ m jobs) (id : Int) : max (rClassE jobs id) 0 = (if id ∈ m.jrow then m.jf id else 0) ∧ decide (0 ≤ rClassE jobs id) = decide (id ∈ m.jrow) := by
  rw [h.cls id]
  by_cases hi : id ∈ m.jrow
  · obtain ⟨k, hk, _⟩ := hok.at_ id hi
    rw [if_pos hi, if_pos hi, hk]
    have : (0 : Int) ≤ (k : Int) := by omega
    exact ⟨by omega, by rw [decide_eq_true hi, decide_eq_true this]⟩
  · rw [if_neg hi, if_neg hi]
    exact ⟨rfl, by rw [decide_eq_false hi]; rfl⟩

set_option maxRecDepth 100000 in
set_option maxHeartbeats 12800000 in
theorem plays30 (A : Option Addr) (n c0 : Nat) (l : List LAct30) (id : Int) (need : LRes) (w : World) (h : Rd encAct30 5 w A n l) (hw : ∀ a ∈ l, wfAct30 a) (hid : wf64 id) (hneed : wfRes need) :
    Calls Try.prog 3 #[.slice A n c0, .int .i64 id, aggRes need] w fun e w' => e = .returned (.bool true) ∧ Below w.heap.size w w' := by
  have h5 := Blk.new w 24 (boxRes need)
  have hB0 : Below w.heap.size w (w.alloc (.cells (boxRes need) 24)) := (Below.refl _ _).alloc (Nat.le_refl _) _
  by_cases hb1 : 80 < n
  · clear h5
    go_enter Try.func3, Try.ntmps3
    go_wp2_with (go_at_call 7; with_reducible refine (awake30 _).mono ?_; rintro e w' ⟨rfl, hb⟩)
    go_ret
    exact ⟨rfl, hB0.trans (hb.mono hB0.size)⟩
  have hn : n ≤ 80 := by omega
  have Hh := Lib.hid (And.intro h (And.intro hw (And.intro hid hneed)))
  have H0 := Lib.hid (And.intro h5 hB0)
  clear hb1 h hw hid hneed h5 hB0
  obtain ⟨b5, hb5⟩ : ∃ b5, w.heap.size = b5 := ⟨_, rfl⟩
  go_enter Try.func3, Try.ntmps3
  go_wp2_with fail
  generalize w.alloc (.cells (boxRes need) 24) = w1 at H0 ⊢
  (with_reducible refine (cNew w1).mono ?_)
  rintro e w2 ⟨rfl, hw2⟩
  have hm1 := oMade w1
  rw [← hw2] at hm1
  have hB2 : Below w1.heap.size w1 w2 := by rw [hw2]; exact (Below.refl _ _).alloc (Nat.le_refl _) _
  have hm2 := oMade w2
  have h52 := H0.out.1.below hB2 H0.out.1.lt
  have hBw2 := H0.out.2.trans (hB2.mono H0.out.2.size)
  have hB3 : Below w2.heap.size w2 (w2.alloc (.cells #[.slice none 0 0, .map none, .map none] 32)) := (Below.refl _ _).alloc (Nat.le_refl _) _
  have hs3 : (w2.alloc (.cells #[.slice none 0 0, .map none, .map none] 32)).heap.size = w2.heap.size + 1 := by simp
  have hbx := Blk.new (w2.alloc (.cells #[.slice none 0 0, .map none, .map none] 32)) 36 #[.slice none 0 0, .slice none 0 0]
  have hB4 : Below (w2.alloc (.cells #[.slice none 0 0, .map none, .map none] 32)).heap.size (w2.alloc (.cells #[.slice none 0 0, .map none, .map none] 32)) ((w2.alloc (.cells #[.slice none 0 0, .map none, .map none] 32)).alloc (.cells #[.slice none 0 0, .slice none 0 0] 36)) := (Below.refl _ _).alloc (Nat.le_refl _) _
  have hq : Q30 w ((w2.alloc (.cells #[.slice none 0 0, .map none, .map none] 32)).alloc (.cells #[.slice none 0 0, .slice none 0 0] 36)) w1.heap.size w2.heap.size (w2.heap.size + 1) CM.zero CM.zero (fun k => k = w1.heap.size) (fun k => k = w2.heap.size) [] [] none 0 0 none 0 0 :=
    ⟨(hm1.below hB3).below hB4, hm2.below hB4, fun k e e' => by have h1 := hm1.lt k e; have : k = w2.heap.size := e'; omega, fun k e => by have : k = w1.heap.size := e; have := H0.out.2.size; omega, fun k e => by have : k = w2.heap.size := e; have := hBw2.size; omega, by have := hBw2.size; omega, by rw [hs3] at hbx; exact hbx, Rd.nil _ _, Rd.nil _ _, by simp, by simp, (hBw2.trans (hB3.mono hBw2.size)).trans (hB4.mono (by have := hBw2.size; omega))⟩
  have h54 := (h52.below hB3 h52.lt).below hB4 (h52.below hB3 h52.lt).lt
  rw [hb5] at h54
  have HQ0 := Lib.hid (And.intro hq h54)
  clear hw2 hm1 hB2 hm2 h52 hBw2 hB3 hs3 hbx hB4 hq h54 H0
  try rw [hb5]
  go_wp2
  obtain ⟨c, hc⟩ : ∃ c, w1.heap.size = c := ⟨_, rfl⟩
  obtain ⟨z, hz⟩ : ∃ z, w2.heap.size = z := ⟨_, rfl⟩
  obtain ⟨bx, hbx⟩ : ∃ bx, w2.heap.size + 1 = bx := ⟨_, rfl⟩
  rw [hc, hbx, hz] at HQ0
  try rw [hc]
  try rw [hbx]
  try rw [hz]
  clear hc hz hbx
  go_loopw [10] (fun i wr => ∃ k : Nat, k ≤ n ∧ i = .int .i64 k ∧ (∃ (S Z : Nat → Prop) (jobs : List LMember) (N : Option Addr) (nn nc : Nat) (J : Option Addr) (jn jc : Nat), Q30 w wr c z bx (runC (l.take k)) (runC (l.take k)) S Z (runC (l.take k)).needs jobs N nn nc J jn jc ∧ RelJ (runC (l.take k)) jobs ∧ nn ≤ k ∧ jn ≤ k ∧ Blk wr b5 24 (boxRes need))) (fun i _ => n - (intOf i).toNat)
  case atStart => exact ⟨0, Nat.zero_le _, rfl, _, _, [], none, 0, 0, none, 0, 0, HQ0.out.1, RelJ.start, Nat.le_refl _, Nat.le_refl _, HQ0.out.2⟩
  case round =>
    obtain ⟨k, hk, rfl, S, Z, jobs, N, nn, nc, J, jn, jc, hQ, hRJ, hnn, hjn, h5r⟩ := hrel
    by_cases hlt : k < n
    · obtain ⟨ab, ao, a, rfl, haa, hal, hcells⟩ := (Hh.out.1.below hQ.bel).at_ hlt
      have g0 : wr.cell? ⟨ab, ao + k * 5, none⟩ = some (.int .i64 a.kind) := hcells 0 _ rfl
      have g1 : wr.cell? ⟨ab, ao + k * 5 + 1, none⟩ = some (.int .i64 a.id) := hcells 1 _ rfl
      have g2 : wr.cell? ⟨ab, ao + k * 5 + 2, none⟩ = some (.int .i64 a.need.a) := hcells 2 _ rfl
      have g3 : wr.cell? ⟨ab, ao + k * 5 + 3, none⟩ = some (.int .i64 a.need.b) := hcells 3 _ rfl
      have g4 : wr.cell? ⟨ab, ao + k * 5 + 4, none⟩ = some (.int .i64 a.need.c) := hcells 4 _ rfl
      have HR := Lib.hid (show runC (l.take (k + 1)) = stepC (runC (l.take k)) a by rw [take_succ_of _ _ _ haa, runC_snoc])
      have hlens := runC_len (l.take k)
      have htk : (l.take k).length ≤ 80 := by rw [List.length_take]; omega
      have hwa := Hh.out.2.1 a (List.mem_of_getElem? haa)
      have HW := Lib.hid (And.intro hwa (And.intro (show (runC (l.take k)).needs.length < 1000 by omega) (show (runC (l.take k)).jrow.length < 1000 by omega)))
      have hb := Blk.new wr 38 (boxAct30 a)
      have hBA : Below wr.heap.size wr (wr.alloc (.cells (boxAct30 a) 38)) := (Below.refl _ _).alloc (Nat.le_refl _) _
      have HQ := Lib.hid (And.intro (hQ.below hBA) (h5r.below hBA h5r.lt))
      have HRJ := Lib.hid hRJ
      have HBA := Lib.hid hb
      have hl9 : (runC (l.take (k + 1))).needs.length ≤ 80 ∧ (runC (l.take (k + 1))).jrow.length ≤ 80 := by
        have h1 := runC_len (l.take (k + 1)); have h2 : (l.take (k + 1)).length ≤ 80 := by { rw [List.length_take]; have := Hh.out.1.len; omega }
        omega
      have HL9 := Lib.hid hl9
      clear hcells hal haa hlens htk hwa hb hBA hQ h5r hRJ hl9
      obtain ⟨m, hm⟩ : ∃ m, runC (l.take k) = m := ⟨_, rfl⟩
      rw [hm] at HQ HR HW HRJ
      clear hm
      go_upto_if 57 with (fail)
      generalize wr.alloc (.cells (boxAct30 a) 38) = wA at HQ HBA ⊢
      obtain ⟨ba, hba⟩ : ∃ ba, wr.heap.size = ba := ⟨_, rfl⟩
      rw [hba] at HBA
      try rw [hba]
      clear hba g0 g1 g2 g3 g4
      go_cut [] from 45 to 239 (fun wx => ∃ (S Z : Nat → Prop) (jobs : List LMember) (N : Option Addr) (nn nc : Nat) (J : Option Addr) (jn jc : Nat), Q30 w wx c z bx (stepC m a) (stepC m a) S Z (stepC m a).needs jobs N nn nc J jn jc ∧ RelJ (stepC m a) jobs ∧ nn ≤ (k + 1) ∧ jn ≤ (k + 1) ∧ Blk wx b5 24 (boxRes need))
      case first =>
        have e0 := HBA.out.cell 0
        have e1 := HBA.out.cell 1
        have e2 := HBA.out.cell 2
        have e3 := HBA.out.cell 3
        have e4 := HBA.out.cell 4
        have el := HBA.out.lt
        simp only [List.getElem?_toArray, List.getElem?_cons_zero, List.getElem?_cons_succ] at e0 e1 e2 e3 e4
        have x0 := HQ.out.1.blk.cell 0
        have x1 := HQ.out.1.blk.cell 1
        have xf := HQ.out.1.blk.frozen
        have xl := HQ.out.1.blk.lt
        simp only [List.getElem?_toArray, List.getElem?_cons_zero, List.getElem?_cons_succ] at x0 x1
        by_cases hk1 : a.kind = 1
        · have t1 : (a.kind == 1) = true := by simp [hk1]
          by_cases hr : rightR a.need = true
          · as_aux_lemma =>
              have HS := Lib.hid (show stepC m a = m.add a.id a.need by rw [stepC, if_pos hk1, if_pos hr])
              have HRR := Lib.hid hr
              have hnn9 : nn ≤ 900 := by omega
              have hjn9 : jn ≤ 900 := by omega
              clear hk1 hr
              go_wp2_with fail
              have hcx := rAdd_yes (nc := nc) (jc := jc) HQ.out.1.rn hnn9 HQ.out.1.rj hjn9 a.id a.need HRR.out
              (with_reducible refine hcx.mono ?_)
              clear hcx
              rintro e w2 ⟨N2, nn2, nc2, J2, jn2, jc2, rfl, hN2, hJ2, hnn2, hjn2, hB2, hNa, hJa⟩
              obtain ⟨kk, hkk⟩ : ∃ kk : Nat, (addN m.needs a.need).idxOf a.need = kk := ⟨_, rfl⟩
              rw [hkk]
              have hkk0 : (0 : Int) ≤ (kk : Int) := by omega
              have hneeds : (m.add a.id a.need).needs = addN m.needs a.need := by rw [CM.add_needs]; rfl
              have hki : idxR (m.add a.id a.need).needs a.need = (kk : Int) := by rw [hneeds, idxR, hkk]
              have hq2 := HQ.out.1.below hB2
              have hb2 := HBA.out.below hB2 HBA.out.lt
              have h52 := HQ.out.2.below hB2 HQ.out.2.lt
              have hqx := hq2.setX (nc' := nc2) (jc' := jc2) hN2 hJ2 (fun ad ha => by
                rcases hNa ad ha with e | e
                · exact hq2.nS ad e
                · refine ⟨fun hs => ?_, fun hs => ?_, e.2, ?_⟩
                  · have := HQ.out.1.c_.lt _ hs; omega
                  · have := HQ.out.1.z_.lt _ hs; omega
                  · have := HQ.out.1.blk.lt; omega) (fun ad ha => by
                have e := hJa ad ha
                refine ⟨fun hs => ?_, fun hs => ?_, e.2, ?_⟩
                · have := HQ.out.1.c_.lt _ hs; omega
                · have := HQ.out.1.z_.lt _ hs; omega
                · have := HQ.out.1.blk.lt; omega)
              have hne1 : ba ≠ bx := cells_ne hb2.isC hq2.blk.isC (by decide)
              have hne2 : b5 ≠ bx := cells_ne h52.isC hq2.blk.isC (by decide)
              have hq3 : Q30 w (((w2.setCell ⟨bx, 0, none⟩ (.slice N2 nn2 nc2)).setCell ⟨bx, 1, none⟩ (.slice J2 jn2 jc2)).alloc (.cells #[.slice N2 nn2 nc2, .slice J2 jn2 jc2] 36)) c z bx m m S Z (addN m.needs a.need) (addJ jobs a.id m.needs a.need) N2 nn2 nc2 J2 jn2 jc2 := hqx.below ((Below.refl _ _).alloc (Nat.le_refl _) _)
              have hb3 : Blk (((w2.setCell ⟨bx, 0, none⟩ (.slice N2 nn2 nc2)).setCell ⟨bx, 1, none⟩ (.slice J2 jn2 jc2)).alloc (.cells #[.slice N2 nn2 nc2, .slice J2 jn2 jc2] 36)) ba 38 (boxAct30 a) := ((hb2.far (p := ⟨bx, 0, none⟩) hne1 _).far (p := ⟨bx, 1, none⟩) hne1 _).alloc _
              have h53 : Blk (((w2.setCell ⟨bx, 0, none⟩ (.slice N2 nn2 nc2)).setCell ⟨bx, 1, none⟩ (.slice J2 jn2 jc2)).alloc (.cells #[.slice N2 nn2 nc2, .slice J2 jn2 jc2] 36)) b5 24 (boxRes need) := ((h52.far (p := ⟨bx, 0, none⟩) hne2 _).far (p := ⟨bx, 1, none⟩) hne2 _).alloc _
              clear e0 e1 e2 e3 e4 el
              clear x0 x1 xf xl
              have e0 := hb2.cell 0
              have e1 := hb2.cell 1
              have e2 := hb2.cell 2
              have e3 := hb2.cell 3
              have e4 := hb2.cell 4
              have el := hb2.lt
              simp only [List.getElem?_toArray, List.getElem?_cons_zero, List.getElem?_cons_succ] at e0 e1 e2 e3 e4
              have x0 := hq2.blk.cell 0
              have x1 := hq2.blk.cell 1
              have xf := hq2.blk.frozen
              have xl := hq2.blk.lt
              simp only [List.getElem?_toArray, List.getElem?_cons_zero, List.getElem?_cons_succ] at x0 x1
              have HX := Lib.hid (And.intro hq3 (And.intro hb3 (And.intro h53 (And.intro hki (And.intro hneeds (And.intro hnn2 hjn2))))))
              clear hqx hq2 hb2 h52 hq3 hb3 h53 hki hneeds hN2 hJ2 hNa hJa hB2 hkk hnn2 hjn2
              go_wp2_with fail
              clear e0 e1 e2 e3 e4 el
              clear x0 x1 xf xl
              generalize (((w2.setCell ⟨bx, 0, none⟩ (.slice N2 nn2 nc2)).setCell ⟨bx, 1, none⟩ (.slice J2 jn2 jc2)).alloc (.cells #[.slice N2 nn2 nc2, .slice J2 jn2 jc2] 36)) = w3 at HX ⊢
              have hcx := oAdd HX.out.1.c_ a.id HW.out.1.2.1 a.need HW.out.1.2.2 HRR.out HW.out.2.1 HW.out.2.2
              rw [HX.out.2.2.2.1] at hcx
              (with_reducible refine hcx.mono ?_)
              clear hcx
              rintro e w4 ⟨rfl, S4, hc4, ht4⟩
              have hq4 := HX.out.1.turnC hc4 ht4
              have hb4 := HX.out.1.keepC ht4 HX.out.2.1 (by decide) (by decide) (by decide)
              have h54 := HX.out.1.keepC ht4 HX.out.2.2.1 (by decide) (by decide) (by decide)
              have e0 := hb4.cell 0
              have e1 := hb4.cell 1
              have e2 := hb4.cell 2
              have e3 := hb4.cell 3
              have e4 := hb4.cell 4
              have el := hb4.lt
              simp only [List.getElem?_toArray, List.getElem?_cons_zero, List.getElem?_cons_succ] at e0 e1 e2 e3 e4
              have H4 := Lib.hid (And.intro hq4 (And.intro hb4 h54))
              clear hq4 hb4 h54 hc4 ht4
              go_wp2_with fail
              clear e0 e1 e2 e3 e4 el
              have hcx := oAdd H4.out.1.z_ a.id HW.out.1.2.1 a.need HW.out.1.2.2 HRR.out HW.out.2.1 HW.out.2.2
              rw [HX.out.2.2.2.1] at hcx
              (with_reducible refine hcx.mono ?_)
              clear hcx
              rintro e w5 ⟨rfl, Z5, hz5, ht5⟩
              have hq5 := H4.out.1.turnZ hz5 ht5
              have h55 := H4.out.1.keepZ ht5 H4.out.2.2 (by decide) (by decide) (by decide)
              have hkk1 : ((kk : Int) != (kk : Int)) = false := bne_self_eq_false _
              have H5 := Lib.hid (And.intro hq5 h55)
              clear hq5 h55 hz5 ht5
              go_wp2
              go_meet
              case rel => exact ⟨S4, Z5, addJ jobs a.id m.needs a.need, N2, nn2, nc2, J2, jn2, jc2, by rw [HS.out, HX.out.2.2.2.2.1]; exact H5.out.1, by rw [HS.out]; exact HRJ.out.add a.id a.need, by have := HX.out.2.2.2.2.2.1; omega, by have := HX.out.2.2.2.2.2.2; omega, H5.out.2⟩
          · as_aux_lemma =>
              have hrf : rightR a.need = false := by simpa using hr
              have HS := Lib.hid (show stepC m a = m by rw [stepC, if_pos hk1, if_neg hr])
              have HRR := Lib.hid hrf
              clear hk1 hr hrf
              go_wp2_with fail
              have hcx := rAdd_no (N := N) (nn := nn) (nc := nc) (J := J) (jn := jn) (jc := jc) (w := wA) a.id a.need HRR.out
              obtain ⟨q, hq⟩ : ∃ q : Int, -1 = q := ⟨_, rfl⟩
              have hqa : q < 0 := by omega
              have hqc : decide (0 ≤ q) = false := decide_eq_false (by omega)
              have hqa2 := Lib.hid hqa
              clear hqa
              have hqd : wf64 q := by rw [← hq]; decide
              rw [hq] at hcx
              clear hq
              (with_reducible refine hcx.mono ?_)
              clear hcx
              rintro e w2 ⟨rfl, hB2⟩
              have hq2 := HQ.out.1.below hB2
              have hb2 := HBA.out.below hB2 HBA.out.lt
              have h52 := HQ.out.2.below hB2 HQ.out.2.lt
              have hqx := hq2.setX (nc' := nc) (jc' := jc) hq2.rn hq2.rj hq2.nS hq2.jS
              have hne1 : ba ≠ bx := cells_ne hb2.isC hq2.blk.isC (by decide)
              have hne2 : b5 ≠ bx := cells_ne h52.isC hq2.blk.isC (by decide)
              have hq3 : Q30 w (((w2.setCell ⟨bx, 0, none⟩ (.slice N nn nc)).setCell ⟨bx, 1, none⟩ (.slice J jn jc)).alloc (.cells #[.slice N nn nc, .slice J jn jc] 36)) c z bx m m S Z m.needs jobs N nn nc J jn jc := hqx.below ((Below.refl _ _).alloc (Nat.le_refl _) _)
              have hb3 : Blk (((w2.setCell ⟨bx, 0, none⟩ (.slice N nn nc)).setCell ⟨bx, 1, none⟩ (.slice J jn jc)).alloc (.cells #[.slice N nn nc, .slice J jn jc] 36)) ba 38 (boxAct30 a) := ((hb2.far (p := ⟨bx, 0, none⟩) hne1 _).far (p := ⟨bx, 1, none⟩) hne1 _).alloc _
              have h53 : Blk (((w2.setCell ⟨bx, 0, none⟩ (.slice N nn nc)).setCell ⟨bx, 1, none⟩ (.slice J jn jc)).alloc (.cells #[.slice N nn nc, .slice J jn jc] 36)) b5 24 (boxRes need) := ((h52.far (p := ⟨bx, 0, none⟩) hne2 _).far (p := ⟨bx, 1, none⟩) hne2 _).alloc _
              clear e0 e1 e2 e3 e4 el
              clear x0 x1 xf xl
              have e0 := hb2.cell 0
              have e1 := hb2.cell 1
              have e2 := hb2.cell 2
              have e3 := hb2.cell 3
              have e4 := hb2.cell 4
              have el := hb2.lt
              simp only [List.getElem?_toArray, List.getElem?_cons_zero, List.getElem?_cons_succ] at e0 e1 e2 e3 e4
              have x0 := hq2.blk.cell 0
              have x1 := hq2.blk.cell 1
              have xf := hq2.blk.frozen
              have xl := hq2.blk.lt
              simp only [List.getElem?_toArray, List.getElem?_cons_zero, List.getElem?_cons_succ] at x0 x1
              have HX := Lib.hid (And.intro hq3 (And.intro hb3 h53))
              clear hqx hq2 hb2 h52 hq3 hb3 h53 hB2
              go_wp2_with fail
              clear e0 e1 e2 e3 e4 el
              clear x0 x1 xf xl
              generalize (((w2.setCell ⟨bx, 0, none⟩ (.slice N nn nc)).setCell ⟨bx, 1, none⟩ (.slice J jn jc)).alloc (.cells #[.slice N nn nc, .slice J jn jc] 36)) = w3 at HX ⊢
              have hcx := cAdd_no (c := c) (w := w3) a.id a.need HRR.out
              obtain ⟨p, hp⟩ : ∃ p : Int, 0 = p := ⟨_, rfl⟩
              have hp3 : max q 0 = p := by have := hqa2.out; omega
              rw [hp] at hcx
              (with_reducible refine hcx.mono ?_)
              clear hcx
              rintro e w4 ⟨rfl, hB4⟩
              have hq4 := HX.out.1.below hB4
              have hb4 := HX.out.2.1.below hB4 HX.out.2.1.lt
              have h54 := HX.out.2.2.below hB4 HX.out.2.2.lt
              have e0 := hb4.cell 0
              have e1 := hb4.cell 1
              have e2 := hb4.cell 2
              have e3 := hb4.cell 3
              have e4 := hb4.cell 4
              have el := hb4.lt
              simp only [List.getElem?_toArray, List.getElem?_cons_zero, List.getElem?_cons_succ] at e0 e1 e2 e3 e4
              have H4 := Lib.hid (And.intro hq4 (And.intro hb4 h54))
              clear hq4 hb4 h54 hB4
              go_wp2_with fail
              clear e0 e1 e2 e3 e4 el
              have hcx := cAdd_no (c := z) (w := w4) a.id a.need HRR.out
              obtain ⟨p', hp'⟩ : ∃ p' : Int, 0 = p' := ⟨_, rfl⟩
              have hp2 : (p' != p) = false := by rw [← hp, ← hp']; rfl
              rw [hp'] at hcx
              clear hp hp'
              (with_reducible refine hcx.mono ?_)
              clear hcx
              rintro e w5 ⟨rfl, hB5⟩
              have H5 := Lib.hid (And.intro (H4.out.1.below hB5) (H4.out.2.2.below hB5 H4.out.2.2.lt))
              clear hB5
              go_wp2
              go_meet
              case rel => exact ⟨S, Z, jobs, N, nn, nc, J, jn, jc, by rw [HS.out]; exact H5.out.1, by rw [HS.out]; exact HRJ.out, by omega, by omega, H5.out.2⟩
        · have t1 : (a.kind == 1) = false := by simp [hk1]
          by_cases hin : a.id ∈ m.jrow
          · as_aux_lemma =>
              have HS := Lib.hid (show stepC m a = m.drop a.id by rw [stepC, if_neg hk1])
              have hcl := HRJ.out.cls a.id
              obtain ⟨kq, hkq, _⟩ := HQ.out.1.c_.ok.at_ a.id hin
              rw [if_pos hin, hkq] at hcl
              have hdi : decide (a.id ∈ m.jrow) = true := decide_eq_true hin
              have hkq0 : (0 : Int) ≤ (kq : Int) := by omega
              have HD := Lib.hid hdi
              have hjn9 : jn ≤ 1000 := by omega
              have hcx := rClass_t (N := N) (nn := nn) (nc := nc) (jc := jc) HQ.out.1.rj hjn9 a.id
              rw [hcl] at hcx
              clear hk1 hin hcl hdi hkq
              go_wp2_with fail
              (with_reducible refine hcx.mono ?_)
              clear hcx
              rintro e w2 ⟨rfl, hB2⟩
              have hq2 := HQ.out.1.below hB2
              have hb2 := HBA.out.below hB2 HBA.out.lt
              have h52 := HQ.out.2.below hB2 HQ.out.2.lt
              clear e0 e1 e2 e3 e4 el
              clear x0 x1 xf xl
              have e0 := hb2.cell 0
              have e1 := hb2.cell 1
              have e2 := hb2.cell 2
              have e3 := hb2.cell 3
              have e4 := hb2.cell 4
              have el := hb2.lt
              simp only [List.getElem?_toArray, List.getElem?_cons_zero, List.getElem?_cons_succ] at e0 e1 e2 e3 e4
              have x0 := hq2.blk.cell 0
              have x1 := hq2.blk.cell 1
              have xf := hq2.blk.frozen
              have xl := hq2.blk.lt
              simp only [List.getElem?_toArray, List.getElem?_cons_zero, List.getElem?_cons_succ] at x0 x1
              have H2 := Lib.hid (And.intro hq2 (And.intro hb2 h52))
              clear hq2 hb2 h52 hB2
              go_wp2_with fail
              have hcx := rDrop_t (N := N) (nn := nn) (nc := nc) (jc := jc) H2.out.1.rj hjn9 a.id
              (with_reducible refine hcx.mono ?_)
              clear hcx
              rintro e w3 ⟨J3, jn3, jc3, rfl, hO3, hjn3, hB3⟩
              have hq3 := H2.out.1.below hB3
              have hb3 := H2.out.2.1.below hB3 H2.out.2.1.lt
              have h53 := H2.out.2.2.below hB3 H2.out.2.2.lt
              have hqx := hq3.setX (nc' := nc) (jc' := jc3) hq3.rn (hO3.rd Member_len) hq3.nS (fun ad ha => by
                have e := hO3.at_base ad ha
                refine ⟨fun hs => ?_, fun hs => ?_, e.2, ?_⟩
                · have := H2.out.1.c_.lt _ hs; omega
                · have := H2.out.1.z_.lt _ hs; omega
                · have := H2.out.1.blk.lt; omega)
              have hne1 : ba ≠ bx := cells_ne hb3.isC hq3.blk.isC (by decide)
              have hne2 : b5 ≠ bx := cells_ne h53.isC hq3.blk.isC (by decide)
              have hbx : Blk ((w3.setCell ⟨bx, 0, none⟩ (.slice N nn nc)).setCell ⟨bx, 1, none⟩ (.slice J3 jn3 jc3)) ba 38 (boxAct30 a) := (hb3.far (p := ⟨bx, 0, none⟩) hne1 _).far (p := ⟨bx, 1, none⟩) hne1 _
              have h5x : Blk ((w3.setCell ⟨bx, 0, none⟩ (.slice N nn nc)).setCell ⟨bx, 1, none⟩ (.slice J3 jn3 jc3)) b5 24 (boxRes need) := (h53.far (p := ⟨bx, 0, none⟩) hne2 _).far (p := ⟨bx, 1, none⟩) hne2 _
              clear e0 e1 e2 e3 e4 el
              clear x0 x1 xf xl
              have e0 := hb3.cell 0
              have e1 := hb3.cell 1
              have e2 := hb3.cell 2
              have e3 := hb3.cell 3
              have e4 := hb3.cell 4
              have el := hb3.lt
              simp only [List.getElem?_toArray, List.getElem?_cons_zero, List.getElem?_cons_succ] at e0 e1 e2 e3 e4
              have x0 := hq3.blk.cell 0
              have x1 := hq3.blk.cell 1
              have xf := hq3.blk.frozen
              have xl := hq3.blk.lt
              simp only [List.getElem?_toArray, List.getElem?_cons_zero, List.getElem?_cons_succ] at x0 x1
              have HX := Lib.hid (And.intro hqx (And.intro hbx h5x))
              clear hq3 hb3 h53 hqx hbx h5x hO3 hB3
              go_wp2_with fail
              clear e0 e1 e2 e3 e4 el
              clear x0 x1 xf xl
              generalize ((w3.setCell ⟨bx, 0, none⟩ (.slice N nn nc)).setCell ⟨bx, 1, none⟩ (.slice J3 jn3 jc3)) = w4 at HX ⊢
              have hcx := oDrop HX.out.1.c_ a.id HW.out.1.2.1
              rw [HD.out] at hcx
              (with_reducible refine hcx.mono ?_)
              clear hcx
              rintro e w5 ⟨rfl, S5, hc5, ht5⟩
              have hq5 := HX.out.1.turnC hc5 ht5
              have hb5 := HX.out.1.keepC ht5 HX.out.2.1 (by decide) (by decide) (by decide)
              have h55 := HX.out.1.keepC ht5 HX.out.2.2 (by decide) (by decide) (by decide)
              have e0 := hb5.cell 0
              have e1 := hb5.cell 1
              have e2 := hb5.cell 2
              have e3 := hb5.cell 3
              have e4 := hb5.cell 4
              have el := hb5.lt
              simp only [List.getElem?_toArray, List.getElem?_cons_zero, List.getElem?_cons_succ] at e0 e1 e2 e3 e4
              have H5 := Lib.hid (And.intro hq5 (And.intro hb5 h55))
              clear hq5 hb5 h55 hc5 ht5
              go_wp2_with fail
              clear e0 e1 e2 e3 e4 el
              have hcx := oDrop H5.out.1.z_ a.id HW.out.1.2.1
              rw [HD.out] at hcx
              (with_reducible refine hcx.mono ?_)
              clear hcx
              rintro e w6 ⟨rfl, Z6, hz6, ht6⟩
              have hq6 := H5.out.1.turnZ hz6 ht6
              have h56 := H5.out.1.keepZ ht6 H5.out.2.2 (by decide) (by decide) (by decide)
              have H6 := Lib.hid (And.intro hq6 h56)
              clear hq6 h56 hz6 ht6
              go_wp2
              go_meet
              case rel => exact ⟨S5, Z6, dropJ jobs a.id, N, nn, nc, J3, jn3, jc3, by rw [HS.out]; exact H6.out.1, by rw [HS.out]; exact HRJ.out.drop a.id, by omega, by omega, H6.out.2⟩
          · as_aux_lemma =>
              have HS := Lib.hid (show stepC m a = m.drop a.id by rw [stepC, if_neg hk1])
              have hcl := HRJ.out.cls a.id
              rw [if_neg hin] at hcl
              have hdi : decide (a.id ∈ m.jrow) = false := decide_eq_false hin
              have HD := Lib.hid hdi
              have hjn9 : jn ≤ 1000 := by omega
              have hcx := rClass_t (N := N) (nn := nn) (nc := nc) (jc := jc) HQ.out.1.rj hjn9 a.id
              rw [hcl] at hcx
              clear hk1 hin hcl hdi
              go_wp2_with fail
              (with_reducible refine hcx.mono ?_)
              clear hcx
              rintro e w2 ⟨rfl, hB2⟩
              have hq2 := HQ.out.1.below hB2
              have hb2 := HBA.out.below hB2 HBA.out.lt
              have h52 := HQ.out.2.below hB2 HQ.out.2.lt
              clear e0 e1 e2 e3 e4 el
              clear x0 x1 xf xl
              have e0 := hb2.cell 0
              have e1 := hb2.cell 1
              have e2 := hb2.cell 2
              have e3 := hb2.cell 3
              have e4 := hb2.cell 4
              have el := hb2.lt
              simp only [List.getElem?_toArray, List.getElem?_cons_zero, List.getElem?_cons_succ] at e0 e1 e2 e3 e4
              have x0 := hq2.blk.cell 0
              have x1 := hq2.blk.cell 1
              have xf := hq2.blk.frozen
              have xl := hq2.blk.lt
              simp only [List.getElem?_toArray, List.getElem?_cons_zero, List.getElem?_cons_succ] at x0 x1
              have H2 := Lib.hid (And.intro hq2 (And.intro hb2 h52))
              clear hq2 hb2 h52 hB2
              go_wp2_with fail
              have hcx := rDrop_t (N := N) (nn := nn) (nc := nc) (jc := jc) H2.out.1.rj hjn9 a.id
              (with_reducible refine hcx.mono ?_)
              clear hcx
              rintro e w3 ⟨J3, jn3, jc3, rfl, hO3, hjn3, hB3⟩
              have hq3 := H2.out.1.below hB3
              have hb3 := H2.out.2.1.below hB3 H2.out.2.1.lt
              have h53 := H2.out.2.2.below hB3 H2.out.2.2.lt
              have hqx := hq3.setX (nc' := nc) (jc' := jc3) hq3.rn (hO3.rd Member_len) hq3.nS (fun ad ha => by
                have e := hO3.at_base ad ha
                refine ⟨fun hs => ?_, fun hs => ?_, e.2, ?_⟩
                · have := H2.out.1.c_.lt _ hs; omega
                · have := H2.out.1.z_.lt _ hs; omega
                · have := H2.out.1.blk.lt; omega)
              have hne1 : ba ≠ bx := cells_ne hb3.isC hq3.blk.isC (by decide)
              have hne2 : b5 ≠ bx := cells_ne h53.isC hq3.blk.isC (by decide)
              have hbx : Blk ((w3.setCell ⟨bx, 0, none⟩ (.slice N nn nc)).setCell ⟨bx, 1, none⟩ (.slice J3 jn3 jc3)) ba 38 (boxAct30 a) := (hb3.far (p := ⟨bx, 0, none⟩) hne1 _).far (p := ⟨bx, 1, none⟩) hne1 _
              have h5x : Blk ((w3.setCell ⟨bx, 0, none⟩ (.slice N nn nc)).setCell ⟨bx, 1, none⟩ (.slice J3 jn3 jc3)) b5 24 (boxRes need) := (h53.far (p := ⟨bx, 0, none⟩) hne2 _).far (p := ⟨bx, 1, none⟩) hne2 _
              clear e0 e1 e2 e3 e4 el
              clear x0 x1 xf xl
              have e0 := hb3.cell 0
              have e1 := hb3.cell 1
              have e2 := hb3.cell 2
              have e3 := hb3.cell 3
              have e4 := hb3.cell 4
              have el := hb3.lt
              simp only [List.getElem?_toArray, List.getElem?_cons_zero, List.getElem?_cons_succ] at e0 e1 e2 e3 e4
              have x0 := hq3.blk.cell 0
              have x1 := hq3.blk.cell 1
              have xf := hq3.blk.frozen
              have xl := hq3.blk.lt
              simp only [List.getElem?_toArray, List.getElem?_cons_zero, List.getElem?_cons_succ] at x0 x1
              have HX := Lib.hid (And.intro hqx (And.intro hbx h5x))
              clear hq3 hb3 h53 hqx hbx h5x hO3 hB3
              go_wp2_with fail
              clear e0 e1 e2 e3 e4 el
              clear x0 x1 xf xl
              generalize ((w3.setCell ⟨bx, 0, none⟩ (.slice N nn nc)).setCell ⟨bx, 1, none⟩ (.slice J3 jn3 jc3)) = w4 at HX ⊢
              have hcx := oDrop HX.out.1.c_ a.id HW.out.1.2.1
              rw [HD.out] at hcx
              (with_reducible refine hcx.mono ?_)
              clear hcx
              rintro e w5 ⟨rfl, S5, hc5, ht5⟩
              have hq5 := HX.out.1.turnC hc5 ht5
              have hb5 := HX.out.1.keepC ht5 HX.out.2.1 (by decide) (by decide) (by decide)
              have h55 := HX.out.1.keepC ht5 HX.out.2.2 (by decide) (by decide) (by decide)
              have e0 := hb5.cell 0
              have e1 := hb5.cell 1
              have e2 := hb5.cell 2
              have e3 := hb5.cell 3
              have e4 := hb5.cell 4
              have el := hb5.lt
              simp only [List.getElem?_toArray, List.getElem?_cons_zero, List.getElem?_cons_succ] at e0 e1 e2 e3 e4
              have H5 := Lib.hid (And.intro hq5 (And.intro hb5 h55))
              clear hq5 hb5 h55 hc5 ht5
              go_wp2_with fail
              clear e0 e1 e2 e3 e4 el
              have hcx := oDrop H5.out.1.z_ a.id HW.out.1.2.1
              rw [HD.out] at hcx
              (with_reducible refine hcx.mono ?_)
              clear hcx
              rintro e w6 ⟨rfl, Z6, hz6, ht6⟩
              have hq6 := H5.out.1.turnZ hz6 ht6
              have h56 := H5.out.1.keepZ ht6 H5.out.2.2 (by decide) (by decide) (by decide)
              have H6 := Lib.hid (And.intro hq6 h56)
              clear hq6 h56 hz6 ht6
              go_wp2
              go_meet
              case rel => exact ⟨S5, Z6, dropJ jobs a.id, N, nn, nc, J3, jn3, jc3, by rw [HS.out]; exact H6.out.1, by rw [HS.out]; exact HRJ.out.drop a.id, by omega, by omega, H6.out.2⟩
      case rest =>
        obtain ⟨S1, Z1, jobs1, N1, nn1, nc1, J1, jn1, jc1, hq, hrj, hnn1, hjn1, h51⟩ := hcut
        clear HQ HRJ HBA
        obtain ⟨m1, hm1⟩ : ∃ m1, stepC m a = m1 := ⟨_, rfl⟩
        rw [hm1] at hq hrj HR
        have H31 := Lib.hid (Q31.mk hq h51)
        have HRJ := Lib.hid hrj
        have HF := Lib.hid (F31.of_ H31.out hrj (by omega) (by omega))
        have HNJ := Lib.hid (And.intro hnn1 hjn1)
        obtain ⟨hmx1, hge1⟩ := max_of m1.needs need
        obtain ⟨hmx2, hge2⟩ := max_cls H31.out.q.c_.ok hrj id
        clear hq hrj h51 hm1 hnn1 hjn1
        obtain ⟨q1, hq1⟩ : ∃ q1, rOfE m1.needs need = q1 := ⟨_, rfl⟩
        obtain ⟨q2, hq2⟩ : ∃ q2, rClassE jobs1 id = q2 := ⟨_, rfl⟩
        obtain ⟨o1, ho1⟩ : ∃ o1, (if need ∈ m1.needs then idxR m1.needs need else 0) = o1 := ⟨_, rfl⟩
        obtain ⟨o2, ho2⟩ : ∃ o2, (if id ∈ m1.jrow then m1.jf id else 0) = o2 := ⟨_, rfl⟩
        obtain ⟨b1, hb1⟩ : ∃ b1, decide (need ∈ m1.needs) = b1 := ⟨_, rfl⟩
        obtain ⟨b2, hb2⟩ : ∃ b2, decide (id ∈ m1.jrow) = b2 := ⟨_, rfl⟩
        rw [hq1, ho1] at hmx1
        rw [hq1, hb1] at hge1
        rw [hq2, ho2] at hmx2
        rw [hq2, hb2] at hge2
        have hcA := oOf H31.out.q.c_ need Hh.out.2.2.2
        rw [ho1, hb1] at hcA
        have HG := Lib.hid (And.intro (And.intro hmx1 hge1) (And.intro hmx2 hge2))
        have HP := Lib.hid (And.intro (And.intro hq1 hq2) (And.intro ho2 hb2))
        clear hmx1 hge1 hmx2 hge2 hq1 hq2 ho1 hb1 ho2 hb2
        obtain ⟨x0, x1, f0, f1, f2⟩ := H31.out.x5
        have xl := H31.out.q.blk.lt
        have fl := H31.out.f.lt
        go_wp2_with fail
        (with_reducible refine hcA.mono ?_)
        clear hcA x0 x1 f0 f1 f2 xl fl
        rintro e w2 ⟨rfl, hB2⟩
        have H2 := Lib.hid (H31.out.below hB2)
        clear hB2
        obtain ⟨x0, x1, f0, f1, f2⟩ := H2.out.x5
        have xl := H2.out.q.blk.lt
        have fl := H2.out.f.lt
        go_wp2_with fail
        have hcx := oClass H2.out.q.c_ id Hh.out.2.2.1
        rw [HP.out.2.1, HP.out.2.2] at hcx
        (with_reducible refine hcx.mono ?_)
        clear hcx
        rintro e w3 ⟨rfl, hw3⟩
        subst hw3
        go_wp2
        go_cut [23, 24] from 45 to 239 (fun v23 v24 wx => v23 = .int .i64 q1 ∧ v24 = .int .i64 q2 ∧ Q31 w wx c z bx b5 m1 S1 Z1 jobs1 N1 nn1 nc1 J1 jn1 jc1 need)
        case first =>
          rename_i Jc Kc hRJ hMK
          refine wp_region_by2 141 [eqV (aggC N1 nn1 nc1 J1 jn1 jc1), eqV (aggRes need), eqV (.int .i64 q1), eqV (aggC N1 nn1 nc1 J1 jn1 jc1), eqV (.int .i64 id), eqV (.int .i64 q2)] [23, 24] [eqV (.int .i64 q1), eqV (.int .i64 q2)] (by kernel_rfl) (by kernel_rfl) rfl (by kernel_rfl) ⟨?_, ?_, ?_, ?_, ?_, ?_, ?_, ?_, trivial⟩ ?fin
          · as_aux_lemma =>
              intro a w hb hoth hdep
              refine step_on (want_none rfl) ?_
              have e9 : a.tmps[9]? = some (.pointer (some ⟨bx, 0, none⟩)) := ev_other hoth 9 (by kernel_rfl) rfl
              obtain ⟨x0, x1, f0, f1, f2⟩ := (H2.out.below hb).x5
              refine step_val (x := aggC N1 nn1 nc1 J1 jn1 jc1) ?_ rfl
              simp [go_sem, e9, x0, x1, aggC]
          · as_aux_lemma =>
              intro a w hb hoth hdep
              refine step_on (want_none rfl) ?_
              have e5 : a.tmps[5]? = some (.pointer (some ⟨b5, 0, none⟩)) := ev_other hoth 5 (by kernel_rfl) rfl
              obtain ⟨x0, x1, f0, f1, f2⟩ := (H2.out.below hb).x5
              refine step_val (x := aggRes need) ?_ rfl
              simp [go_sem, e5, f0, f1, f2, aggRes]
          · as_aux_lemma =>
              intro a w hb hoth hdep
              refine step_on (want_none rfl) ?_
              obtain ⟨v0, e141, hv0⟩ := ev_dep hdep 0 141 (by kernel_rfl) (by kernel_rfl)
              replace hv0 : v0 = aggC N1 nn1 nc1 J1 jn1 jc1 := hv0
              subst hv0
              obtain ⟨v1, e142, hv1⟩ := ev_dep hdep 1 142 (by kernel_rfl) (by kernel_rfl)
              replace hv1 : v1 = aggRes need := hv1
              subst hv1
              refine step_call (f := 16) (args := #[aggC N1 nn1 nc1 J1 jn1 jc1, aggRes need]) ?_ ?_
              · simp [go_sem, e141, e142]
              · have hcx := rOf_t (nc := nc1) (J := J1) (jn := jn1) (jc := jc1) (H2.out.below hb).q.rn HF.out.n9 need
                rw [HP.out.1.1] at hcx
                (with_reducible refine hcx.mono ?_)
                clear hcx
                rintro e w2 ⟨rfl, hB⟩
                exact ⟨_, rfl, rfl, hB⟩
          · as_aux_lemma =>
              intro a w hb hoth hdep
              refine step_on (want_none rfl) ?_
              have e9 : a.tmps[9]? = some (.pointer (some ⟨bx, 0, none⟩)) := ev_other hoth 9 (by kernel_rfl) rfl
              obtain ⟨x0, x1, f0, f1, f2⟩ := (H2.out.below hb).x5
              refine step_val (x := aggC N1 nn1 nc1 J1 jn1 jc1) ?_ rfl
              simp [go_sem, e9, x0, x1, aggC]
          · as_aux_lemma =>
              intro a w hb hoth hdep
              refine step_on (want_none rfl) ?_
              have e1 : a.tmps[1]? = some (.int .i64 id) := ev_other hoth 1 (by kernel_rfl) rfl
              exact step_val ((BigFrame.run_move _ rfl w).trans (by rw [ev_of e1])) rfl
          · as_aux_lemma =>
              intro a w hb hoth hdep
              refine step_on (want_none rfl) ?_
              obtain ⟨v3, e144, hv3⟩ := ev_dep hdep 3 144 (by kernel_rfl) (by kernel_rfl)
              replace hv3 : v3 = aggC N1 nn1 nc1 J1 jn1 jc1 := hv3
              subst hv3
              obtain ⟨v4, e145, hv4⟩ := ev_dep hdep 4 145 (by kernel_rfl) (by kernel_rfl)
              replace hv4 : v4 = .int .i64 id := hv4
              subst hv4
              refine step_call (f := 11) (args := #[aggC N1 nn1 nc1 J1 jn1 jc1, .int .i64 id]) ?_ ?_
              · simp [go_sem, e144, e145]
              · have hcx := rClass_t (N := N1) (nn := nn1) (nc := nc1) (jc := jc1) (H2.out.below hb).q.rj HF.out.j9 id
                rw [HP.out.1.2] at hcx
                (with_reducible refine hcx.mono ?_)
                clear hcx
                rintro e w2 ⟨rfl, hB⟩
                exact ⟨_, rfl, rfl, hB⟩
          · as_aux_lemma =>
              intro a w hb hoth hdep
              refine step_on (want_none rfl) ?_
              obtain ⟨v2, e143, hv2⟩ := ev_dep hdep 2 143 (by kernel_rfl) (by kernel_rfl)
              replace hv2 : v2 = .int .i64 q1 := hv2
              subst hv2
              exact step_val ((BigFrame.run_assign _ rfl w).trans (by rw [ev_of e143])) rfl
          · as_aux_lemma =>
              intro a w hb hoth hdep
              refine step_on (want_none rfl) ?_
              obtain ⟨v5, e146, hv5⟩ := ev_dep hdep 5 146 (by kernel_rfl) (by kernel_rfl)
              replace hv5 : v5 = .int .i64 q2 := hv5
              subst hv5
              exact step_val ((BigFrame.run_assign _ rfl w).trans (by rw [ev_of e146])) rfl
          case fin =>
            intro wz hbz
            rintro _ rfl
            rintro _ rfl
            rintro _ rfl
            rintro _ rfl
            rintro _ rfl
            rintro _ rfl
            refine FinC.nil ?_
            rintro _ rfl
            rintro _ rfl
            refine FinL.nil ?_
            refine hMK _ _ (Met.intro (hRJ _ _ ?_))
            (repeat apply Exists.intro)
            refine ⟨?rel, rfl⟩
            case rel => exact ⟨rfl, rfl, H2.out.below hbz⟩
        case rest =>
          obtain ⟨rfl, rfl, h33⟩ := hcut
          have H33 := Lib.hid h33
          clear h33 x0 x1 f0 f1 f2 xl fl
          obtain ⟨x0, x1⟩ := H33.out.x
          obtain ⟨⟨hmx1, hge1⟩, ⟨hmx2, hge2⟩⟩ := HG.out
          go_wp2
          go_cut [184] from 45 to 183 (fun v184 wx => v184 = .bool false ∧ Q31 w wx c z bx b5 m1 S1 Z1 jobs1 N1 nn1 nc1 J1 jn1 jc1 need)
          case first =>
            rename_i Jc Kc hRJ hMK
            refine wp_region_by 147 [eqV (.int .i64 o1), eqV (.int .i64 q1), eqV (.int .i64 o1), eqV (.bool false), eqV (.bool false), eqV (.bool b1), eqV (.int .i64 q1), eqV (.bool b1), eqV (.bool false), eqV (.bool false), eqV (.bool false), eqV (.int .i64 o2), eqV (.int .i64 q2), eqV (.int .i64 o2), eqV (.bool false), eqV (.bool false), eqV (.bool false), eqV (.bool b2), eqV (.int .i64 q2), eqV (.bool b2), eqV (.bool false), eqV (.bool false), eqV (.bool false), eqV (.pointer (some ⟨c, 0, none⟩)), rdV encI 1 m1.live 1000, eqV (aggC N1 nn1 nc1 J1 jn1 jc1), rdV encI 1 m1.live 1000, eqV (.bool true), eqV (.bool false), eqV (.bool false), eqV (.bool false), eqV (.pointer (some ⟨z, 0, none⟩)), rdV encI 1 m1.live 1000, eqV (aggC N1 nn1 nc1 J1 jn1 jc1), rdV encI 1 m1.live 1000, eqV (.bool true), eqV (.bool false), eqV (.bool false)] (by kernel_rfl) (by kernel_rfl) rfl (by kernel_rfl) ⟨?_, ?_, ?_, ?_, ?_, ?_, ?_, ?_, ?_, ?_, ?_, ?_, ?_, ?_, ?_, ?_, ?_, ?_, ?_, ?_, ?_, ?_, ?_, ?_, ?_, ?_, ?_, ?_, ?_, ?_, ?_, ?_, ?_, ?_, ?_, ?_, ?_, ?_, trivial⟩ ?fin
            · as_aux_lemma =>
                intro a w hb hoth hdep
                refine step_on (want_none rfl) ?_
                have e19 : a.tmps[19]? = some (.int .i64 o1) := ev_other hoth 19 (by kernel_rfl) rfl
                exact step_val ((BigFrame.run_move _ rfl w).trans (by rw [ev_of e19])) rfl
            · as_aux_lemma =>
                intro a w hb hoth hdep
                refine step_on (want_none rfl) ?_
                have e23 : a.tmps[23]? = some (.int .i64 q1) := ev_other hoth 23 (by kernel_rfl) rfl
                exact step_val ((BigFrame.run_move _ rfl w).trans (by rw [ev_of e23])) rfl
            · as_aux_lemma =>
                intro a w hb hoth hdep
                refine step_on (want_none rfl) ?_
                obtain ⟨v1, e148, hv1⟩ := ev_dep hdep 1 148 (by kernel_rfl) (by kernel_rfl)
                replace hv1 : v1 = .int .i64 q1 := hv1
                subst hv1
                refine step_val (x := .int .i64 o1) ?_ rfl
                simp [go_sem, e148, hmx1]
            · as_aux_lemma =>
                intro a w hb hoth hdep
                refine step_on (want_none rfl) ?_
                obtain ⟨v0, e147, hv0⟩ := ev_dep hdep 0 147 (by kernel_rfl) (by kernel_rfl)
                replace hv0 : v0 = .int .i64 o1 := hv0
                subst hv0
                obtain ⟨v2, e149, hv2⟩ := ev_dep hdep 2 149 (by kernel_rfl) (by kernel_rfl)
                replace hv2 : v2 = .int .i64 o1 := hv2
                subst hv2
                refine step_val (x := .bool false) ?_ rfl
                simp [go_sem, e147, e149]
            · as_aux_lemma =>
                intro a w hb hoth hdep
                refine step_on (want_none rfl) ?_
                obtain ⟨v3, e150, hv3⟩ := ev_dep hdep 3 150 (by kernel_rfl) (by kernel_rfl)
                replace hv3 : v3 = .bool false := hv3
                subst hv3
                exact step_val ((BigFrame.run_move _ rfl w).trans (by rw [ev_of e150])) rfl
            · as_aux_lemma =>
                intro a w hb hoth hdep
                refine step_on ((want_dep hdep 4 151 false rfl (by kernel_rfl) (by kernel_rfl) (fun v h => h)).trans rfl) ?_
                have e20 : a.tmps[20]? = some (.bool b1) := ev_other hoth 20 (by kernel_rfl) rfl
                exact step_val ((BigFrame.run_move _ rfl w).trans (by rw [ev_of e20])) rfl
            · as_aux_lemma =>
                intro a w hb hoth hdep
                refine step_on ((want_dep hdep 4 151 false rfl (by kernel_rfl) (by kernel_rfl) (fun v h => h)).trans rfl) ?_
                have e23 : a.tmps[23]? = some (.int .i64 q1) := ev_other hoth 23 (by kernel_rfl) rfl
                exact step_val ((BigFrame.run_move _ rfl w).trans (by rw [ev_of e23])) rfl
            · as_aux_lemma =>
                intro a w hb hoth hdep
                refine step_on ((want_dep hdep 4 151 false rfl (by kernel_rfl) (by kernel_rfl) (fun v h => h)).trans rfl) ?_
                obtain ⟨v6, e153, hv6⟩ := ev_dep hdep 6 153 (by kernel_rfl) (by kernel_rfl)
                replace hv6 : v6 = .int .i64 q1 := hv6
                subst hv6
                refine step_val (x := .bool b1) ?_ rfl
                simp [go_sem, e153, hge1]
            · as_aux_lemma =>
                intro a w hb hoth hdep
                refine step_on ((want_dep hdep 4 151 false rfl (by kernel_rfl) (by kernel_rfl) (fun v h => h)).trans rfl) ?_
                obtain ⟨v5, e152, hv5⟩ := ev_dep hdep 5 152 (by kernel_rfl) (by kernel_rfl)
                replace hv5 : v5 = .bool b1 := hv5
                subst hv5
                obtain ⟨v7, e154, hv7⟩ := ev_dep hdep 7 154 (by kernel_rfl) (by kernel_rfl)
                replace hv7 : v7 = .bool b1 := hv7
                subst hv7
                refine step_val (x := .bool false) ?_ rfl
                simp [go_sem, e152, e154]
            · as_aux_lemma =>
                intro a w hb hoth hdep
                refine step_on (want_none rfl) ?_
                obtain ⟨v4, e151, hv4⟩ := ev_dep hdep 4 151 (by kernel_rfl) (by kernel_rfl)
                replace hv4 : v4 = .bool false := hv4
                subst hv4
                obtain ⟨v8, e155, hv8⟩ := ev_dep hdep 8 155 (by kernel_rfl) (by kernel_rfl)
                replace hv8 : v8 = .bool false := hv8
                subst hv8
                refine step_val (x := .bool false) ?_ rfl
                simp [go_sem, e151, e155]
            · as_aux_lemma =>
                intro a w hb hoth hdep
                refine step_on (want_none rfl) ?_
                obtain ⟨v9, e156, hv9⟩ := ev_dep hdep 9 156 (by kernel_rfl) (by kernel_rfl)
                replace hv9 : v9 = .bool false := hv9
                subst hv9
                exact step_val ((BigFrame.run_move _ rfl w).trans (by rw [ev_of e156])) rfl
            · as_aux_lemma =>
                intro a w hb hoth hdep
                refine step_on ((want_dep hdep 10 157 false rfl (by kernel_rfl) (by kernel_rfl) (fun v h => h)).trans rfl) ?_
                have e21 : a.tmps[21]? = some (.int .i64 o2) := ev_other hoth 21 (by kernel_rfl) rfl
                exact step_val ((BigFrame.run_move _ rfl w).trans (by rw [ev_of e21])) rfl
            · as_aux_lemma =>
                intro a w hb hoth hdep
                refine step_on ((want_dep hdep 10 157 false rfl (by kernel_rfl) (by kernel_rfl) (fun v h => h)).trans rfl) ?_
                have e24 : a.tmps[24]? = some (.int .i64 q2) := ev_other hoth 24 (by kernel_rfl) rfl
                exact step_val ((BigFrame.run_move _ rfl w).trans (by rw [ev_of e24])) rfl
            · as_aux_lemma =>
                intro a w hb hoth hdep
                refine step_on ((want_dep hdep 10 157 false rfl (by kernel_rfl) (by kernel_rfl) (fun v h => h)).trans rfl) ?_
                obtain ⟨v12, e159, hv12⟩ := ev_dep hdep 12 159 (by kernel_rfl) (by kernel_rfl)
                replace hv12 : v12 = .int .i64 q2 := hv12
                subst hv12
                refine step_val (x := .int .i64 o2) ?_ rfl
                simp [go_sem, e159, hmx2]
            · as_aux_lemma =>
                intro a w hb hoth hdep
                refine step_on ((want_dep hdep 10 157 false rfl (by kernel_rfl) (by kernel_rfl) (fun v h => h)).trans rfl) ?_
                obtain ⟨v11, e158, hv11⟩ := ev_dep hdep 11 158 (by kernel_rfl) (by kernel_rfl)
                replace hv11 : v11 = .int .i64 o2 := hv11
                subst hv11
                obtain ⟨v13, e160, hv13⟩ := ev_dep hdep 13 160 (by kernel_rfl) (by kernel_rfl)
                replace hv13 : v13 = .int .i64 o2 := hv13
                subst hv13
                refine step_val (x := .bool false) ?_ rfl
                simp [go_sem, e158, e160]
            · as_aux_lemma =>
                intro a w hb hoth hdep
                refine step_on (want_none rfl) ?_
                obtain ⟨v10, e157, hv10⟩ := ev_dep hdep 10 157 (by kernel_rfl) (by kernel_rfl)
                replace hv10 : v10 = .bool false := hv10
                subst hv10
                obtain ⟨v14, e161, hv14⟩ := ev_dep hdep 14 161 (by kernel_rfl) (by kernel_rfl)
                replace hv14 : v14 = .bool false := hv14
                subst hv14
                refine step_val (x := .bool false) ?_ rfl
                simp [go_sem, e157, e161]
            · as_aux_lemma =>
                intro a w hb hoth hdep
                refine step_on (want_none rfl) ?_
                obtain ⟨v15, e162, hv15⟩ := ev_dep hdep 15 162 (by kernel_rfl) (by kernel_rfl)
                replace hv15 : v15 = .bool false := hv15
                subst hv15
                exact step_val ((BigFrame.run_move _ rfl w).trans (by rw [ev_of e162])) rfl
            · as_aux_lemma =>
                intro a w hb hoth hdep
                refine step_on ((want_dep hdep 16 163 false rfl (by kernel_rfl) (by kernel_rfl) (fun v h => h)).trans rfl) ?_
                have e22 : a.tmps[22]? = some (.bool b2) := ev_other hoth 22 (by kernel_rfl) rfl
                exact step_val ((BigFrame.run_move _ rfl w).trans (by rw [ev_of e22])) rfl
            · as_aux_lemma =>
                intro a w hb hoth hdep
                refine step_on ((want_dep hdep 16 163 false rfl (by kernel_rfl) (by kernel_rfl) (fun v h => h)).trans rfl) ?_
                have e24 : a.tmps[24]? = some (.int .i64 q2) := ev_other hoth 24 (by kernel_rfl) rfl
                exact step_val ((BigFrame.run_move _ rfl w).trans (by rw [ev_of e24])) rfl
            · as_aux_lemma =>
                intro a w hb hoth hdep
                refine step_on ((want_dep hdep 16 163 false rfl (by kernel_rfl) (by kernel_rfl) (fun v h => h)).trans rfl) ?_
                obtain ⟨v18, e165, hv18⟩ := ev_dep hdep 18 165 (by kernel_rfl) (by kernel_rfl)
                replace hv18 : v18 = .int .i64 q2 := hv18
                subst hv18
                refine step_val (x := .bool b2) ?_ rfl
                simp [go_sem, e165, hge2]
            · as_aux_lemma =>
                intro a w hb hoth hdep
                refine step_on ((want_dep hdep 16 163 false rfl (by kernel_rfl) (by kernel_rfl) (fun v h => h)).trans rfl) ?_
                obtain ⟨v17, e164, hv17⟩ := ev_dep hdep 17 164 (by kernel_rfl) (by kernel_rfl)
                replace hv17 : v17 = .bool b2 := hv17
                subst hv17
                obtain ⟨v19, e166, hv19⟩ := ev_dep hdep 19 166 (by kernel_rfl) (by kernel_rfl)
                replace hv19 : v19 = .bool b2 := hv19
                subst hv19
                refine step_val (x := .bool false) ?_ rfl
                simp [go_sem, e164, e166]
            · as_aux_lemma =>
                intro a w hb hoth hdep
                refine step_on (want_none rfl) ?_
                obtain ⟨v16, e163, hv16⟩ := ev_dep hdep 16 163 (by kernel_rfl) (by kernel_rfl)
                replace hv16 : v16 = .bool false := hv16
                subst hv16
                obtain ⟨v20, e167, hv20⟩ := ev_dep hdep 20 167 (by kernel_rfl) (by kernel_rfl)
                replace hv20 : v20 = .bool false := hv20
                subst hv20
                refine step_val (x := .bool false) ?_ rfl
                simp [go_sem, e163, e167]
            · as_aux_lemma =>
                intro a w hb hoth hdep
                refine step_on (want_none rfl) ?_
                obtain ⟨v21, e168, hv21⟩ := ev_dep hdep 21 168 (by kernel_rfl) (by kernel_rfl)
                replace hv21 : v21 = .bool false := hv21
                subst hv21
                exact step_val ((BigFrame.run_move _ rfl w).trans (by rw [ev_of e168])) rfl
            · as_aux_lemma =>
                intro a w hb hoth hdep
                refine step_on ((want_dep hdep 22 169 false rfl (by kernel_rfl) (by kernel_rfl) (fun v h => h)).trans rfl) ?_
                have e7 : a.tmps[7]? = some (.pointer (some ⟨c, 0, none⟩)) := ev_other hoth 7 (by kernel_rfl) rfl
                exact step_val ((BigFrame.run_move _ rfl w).trans (by rw [ev_of e7])) rfl
            · as_aux_lemma =>
                intro a w hb hoth hdep
                refine step_on ((want_dep hdep 22 169 false rfl (by kernel_rfl) (by kernel_rfl) (fun v h => h)).trans rfl) ?_
                obtain ⟨v23, e170, hv23⟩ := ev_dep hdep 23 170 (by kernel_rfl) (by kernel_rfl)
                replace hv23 : v23 = .pointer (some ⟨c, 0, none⟩) := hv23
                subst hv23
                refine step_call (f := 18) (args := #[.pointer (some ⟨c, 0, none⟩)]) ?_ ?_
                · simp [go_sem, e170]
                · have hcx := oLive (H33.out.below hb).q.c_
                  (with_reducible refine hcx.mono ?_)
                  clear hcx
                  rintro e w2 ⟨A, n, c', rfl, hO, hB⟩
                  exact ⟨_, rfl, ⟨A, n, c', rfl, OwnL.rd (enc := encI) (sz := 1) (fun _ => rfl) hO, by have := hO.len; have := HF.out.ll; omega⟩, hB⟩
            · as_aux_lemma =>
                intro a w hb hoth hdep
                refine step_on ((want_dep hdep 22 169 false rfl (by kernel_rfl) (by kernel_rfl) (fun v h => h)).trans rfl) ?_
                have e9 : a.tmps[9]? = some (.pointer (some ⟨bx, 0, none⟩)) := ev_other hoth 9 (by kernel_rfl) rfl
                obtain ⟨x0, x1⟩ := (H33.out.below hb).x
                refine step_val (x := aggC N1 nn1 nc1 J1 jn1 jc1) ?_ rfl
                simp [go_sem, e9, x0, x1, aggC]
            · as_aux_lemma =>
                intro a w hb hoth hdep
                refine step_on ((want_dep hdep 22 169 false rfl (by kernel_rfl) (by kernel_rfl) (fun v h => h)).trans rfl) ?_
                obtain ⟨v25, e172, hv25⟩ := ev_dep hdep 25 172 (by kernel_rfl) (by kernel_rfl)
                replace hv25 : v25 = aggC N1 nn1 nc1 J1 jn1 jc1 := hv25
                subst hv25
                refine step_call (f := 19) (args := #[aggC N1 nn1 nc1 J1 jn1 jc1]) ?_ ?_
                · simp [go_sem, e172]
                · have hcx := rLive_t (N := N1) (nn := nn1) (nc := nc1) (jc := jc1) (H33.out.below hb).q.rj HF.out.j9
                  (with_reducible refine hcx.mono ?_)
                  clear hcx
                  rintro e w2 ⟨A, n, c', rfl, hO, hn, hB⟩
                  rw [HF.out.live] at hO
                  exact ⟨_, rfl, ⟨A, n, c', rfl, hO, hn⟩, hB⟩
            · as_aux_lemma =>
                intro a w hb hoth hdep
                refine step_on ((want_dep hdep 22 169 false rfl (by kernel_rfl) (by kernel_rfl) (fun v h => h)).trans rfl) ?_
                obtain ⟨v24, e171, hv24⟩ := ev_dep hdep 24 171 (by kernel_rfl) (by kernel_rfl)
                obtain ⟨A24, n24, c24, hs24, hr24, hn24⟩ := hv24
                subst hs24
                obtain ⟨v26, e173, hv26⟩ := ev_dep hdep 26 173 (by kernel_rfl) (by kernel_rfl)
                obtain ⟨A26, n26, c26, hs26, hr26, hn26⟩ := hv26
                subst hs26
                refine step_call (f := 17) (args := #[.slice A24 n24 c24, .slice A26 n26 c26]) ?_ ?_
                · simp [go_sem, e171, e173]
                · have hcx := same01_t _ _ _ c24 _ c26 _ w hr24 hr26 (by omega) (by omega)
                  (with_reducible refine hcx.mono ?_)
                  clear hcx
                  rintro e w2 ⟨rfl, q_, rfl⟩
                  exact ⟨_, rfl, rfl, Below.drewN_ (Below.refl _ _) q_⟩
            · as_aux_lemma =>
                intro a w hb hoth hdep
                refine step_on ((want_dep hdep 22 169 false rfl (by kernel_rfl) (by kernel_rfl) (fun v h => h)).trans rfl) ?_
                obtain ⟨v27, e174, hv27⟩ := ev_dep hdep 27 174 (by kernel_rfl) (by kernel_rfl)
                replace hv27 : v27 = .bool true := hv27
                subst hv27
                refine step_val (x := .bool false) ?_ rfl
                simp [go_sem, e174]
            · as_aux_lemma =>
                intro a w hb hoth hdep
                refine step_on (want_none rfl) ?_
                obtain ⟨v22, e169, hv22⟩ := ev_dep hdep 22 169 (by kernel_rfl) (by kernel_rfl)
                replace hv22 : v22 = .bool false := hv22
                subst hv22
                obtain ⟨v28, e175, hv28⟩ := ev_dep hdep 28 175 (by kernel_rfl) (by kernel_rfl)
                replace hv28 : v28 = .bool false := hv28
                subst hv28
                refine step_val (x := .bool false) ?_ rfl
                simp [go_sem, e169, e175]
            · as_aux_lemma =>
                intro a w hb hoth hdep
                refine step_on (want_none rfl) ?_
                obtain ⟨v29, e176, hv29⟩ := ev_dep hdep 29 176 (by kernel_rfl) (by kernel_rfl)
                replace hv29 : v29 = .bool false := hv29
                subst hv29
                exact step_val ((BigFrame.run_move _ rfl w).trans (by rw [ev_of e176])) rfl
            · as_aux_lemma =>
                intro a w hb hoth hdep
                refine step_on ((want_dep hdep 30 177 false rfl (by kernel_rfl) (by kernel_rfl) (fun v h => h)).trans rfl) ?_
                have e8 : a.tmps[8]? = some (.pointer (some ⟨z, 0, none⟩)) := ev_other hoth 8 (by kernel_rfl) rfl
                exact step_val ((BigFrame.run_move _ rfl w).trans (by rw [ev_of e8])) rfl
            · as_aux_lemma =>
                intro a w hb hoth hdep
                refine step_on ((want_dep hdep 30 177 false rfl (by kernel_rfl) (by kernel_rfl) (fun v h => h)).trans rfl) ?_
                obtain ⟨v31, e178, hv31⟩ := ev_dep hdep 31 178 (by kernel_rfl) (by kernel_rfl)
                replace hv31 : v31 = .pointer (some ⟨z, 0, none⟩) := hv31
                subst hv31
                refine step_call (f := 18) (args := #[.pointer (some ⟨z, 0, none⟩)]) ?_ ?_
                · simp [go_sem, e178]
                · have hcx := oLive (H33.out.below hb).q.z_
                  (with_reducible refine hcx.mono ?_)
                  clear hcx
                  rintro e w2 ⟨A, n, c', rfl, hO, hB⟩
                  exact ⟨_, rfl, ⟨A, n, c', rfl, OwnL.rd (enc := encI) (sz := 1) (fun _ => rfl) hO, by have := hO.len; have := HF.out.ll; omega⟩, hB⟩
            · as_aux_lemma =>
                intro a w hb hoth hdep
                refine step_on ((want_dep hdep 30 177 false rfl (by kernel_rfl) (by kernel_rfl) (fun v h => h)).trans rfl) ?_
                have e9 : a.tmps[9]? = some (.pointer (some ⟨bx, 0, none⟩)) := ev_other hoth 9 (by kernel_rfl) rfl
                obtain ⟨x0, x1⟩ := (H33.out.below hb).x
                refine step_val (x := aggC N1 nn1 nc1 J1 jn1 jc1) ?_ rfl
                simp [go_sem, e9, x0, x1, aggC]
            · as_aux_lemma =>
                intro a w hb hoth hdep
                refine step_on ((want_dep hdep 30 177 false rfl (by kernel_rfl) (by kernel_rfl) (fun v h => h)).trans rfl) ?_
                obtain ⟨v33, e180, hv33⟩ := ev_dep hdep 33 180 (by kernel_rfl) (by kernel_rfl)
                replace hv33 : v33 = aggC N1 nn1 nc1 J1 jn1 jc1 := hv33
                subst hv33
                refine step_call (f := 19) (args := #[aggC N1 nn1 nc1 J1 jn1 jc1]) ?_ ?_
                · simp [go_sem, e180]
                · have hcx := rLive_t (N := N1) (nn := nn1) (nc := nc1) (jc := jc1) (H33.out.below hb).q.rj HF.out.j9
                  (with_reducible refine hcx.mono ?_)
                  clear hcx
                  rintro e w2 ⟨A, n, c', rfl, hO, hn, hB⟩
                  rw [HF.out.live] at hO
                  exact ⟨_, rfl, ⟨A, n, c', rfl, hO, hn⟩, hB⟩
            · as_aux_lemma =>
                intro a w hb hoth hdep
                refine step_on ((want_dep hdep 30 177 false rfl (by kernel_rfl) (by kernel_rfl) (fun v h => h)).trans rfl) ?_
                obtain ⟨v32, e179, hv32⟩ := ev_dep hdep 32 179 (by kernel_rfl) (by kernel_rfl)
                obtain ⟨A32, n32, c32, hs32, hr32, hn32⟩ := hv32
                subst hs32
                obtain ⟨v34, e181, hv34⟩ := ev_dep hdep 34 181 (by kernel_rfl) (by kernel_rfl)
                obtain ⟨A34, n34, c34, hs34, hr34, hn34⟩ := hv34
                subst hs34
                refine step_call (f := 17) (args := #[.slice A32 n32 c32, .slice A34 n34 c34]) ?_ ?_
                · simp [go_sem, e179, e181]
                · have hcx := same01_t _ _ _ c32 _ c34 _ w hr32 hr34 (by omega) (by omega)
                  (with_reducible refine hcx.mono ?_)
                  clear hcx
                  rintro e w2 ⟨rfl, q_, rfl⟩
                  exact ⟨_, rfl, rfl, Below.drewN_ (Below.refl _ _) q_⟩
            · as_aux_lemma =>
                intro a w hb hoth hdep
                refine step_on ((want_dep hdep 30 177 false rfl (by kernel_rfl) (by kernel_rfl) (fun v h => h)).trans rfl) ?_
                obtain ⟨v35, e182, hv35⟩ := ev_dep hdep 35 182 (by kernel_rfl) (by kernel_rfl)
                replace hv35 : v35 = .bool true := hv35
                subst hv35
                refine step_val (x := .bool false) ?_ rfl
                simp [go_sem, e182]
            · as_aux_lemma =>
                intro a w hb hoth hdep
                refine step_on (want_none rfl) ?_
                obtain ⟨v30, e177, hv30⟩ := ev_dep hdep 30 177 (by kernel_rfl) (by kernel_rfl)
                replace hv30 : v30 = .bool false := hv30
                subst hv30
                obtain ⟨v36, e183, hv36⟩ := ev_dep hdep 36 183 (by kernel_rfl) (by kernel_rfl)
                replace hv36 : v36 = .bool false := hv36
                subst hv36
                refine step_val (x := .bool false) ?_ rfl
                simp [go_sem, e177, e183]
            case fin =>
              intro wz hbz
              rintro _ rfl
              rintro _ rfl
              rintro _ rfl
              rintro _ rfl
              rintro _ rfl
              rintro _ rfl
              rintro _ rfl
              rintro _ rfl
              rintro _ rfl
              rintro _ rfl
              rintro _ rfl
              rintro _ rfl
              rintro _ rfl
              rintro _ rfl
              rintro _ rfl
              rintro _ rfl
              rintro _ rfl
              rintro _ rfl
              rintro _ rfl
              rintro _ rfl
              rintro _ rfl
              rintro _ rfl
              rintro _ rfl
              rintro _ rfl
              rintro _ ⟨_, _, _, rfl, _, _⟩
              rintro _ rfl
              rintro _ ⟨_, _, _, rfl, _, _⟩
              rintro _ rfl
              rintro _ rfl
              rintro _ rfl
              rintro _ rfl
              rintro _ rfl
              rintro _ ⟨_, _, _, rfl, _, _⟩
              rintro _ rfl
              rintro _ ⟨_, _, _, rfl, _, _⟩
              rintro _ rfl
              rintro _ rfl
              rintro _ rfl
              refine FinC.nil ?_
              refine hMK _ _ (Met.intro (hRJ _ _ ?_))
              (repeat apply Exists.intro)
              refine ⟨?rel, rfl⟩
              case rel => exact ⟨rfl, H33.out.below hbz⟩
          case rest =>
            obtain ⟨rfl, h34⟩ := hcut
            have H34 := Lib.hid h34
            clear h34 x0 x1 hmx1 hge1 hmx2 hge2
            obtain ⟨x0, x1⟩ := H34.out.x
            have xl := H34.out.q.blk.lt
            go_wp2
            clear x0 x1 xl
            go_loopw [25] (fun jv wr => ∃ i : Nat, i ≤ nn1 + 2 ∧ jv = .int .i64 ((i : Int) - 1) ∧ Q31 w wr c z bx b5 m1 S1 Z1 jobs1 N1 nn1 nc1 J1 jn1 jc1 need) (fun jv _ => nn1 + 2 - (intOf jv + 1).toNat)
            case atStart => exact ⟨0, by omega, rfl, H34.out⟩
            case round =>
              obtain ⟨i, hi, rfl, hr⟩ := hrel
              have HR2 := Lib.hid hr
              have hn8 := HF.out.n8
              clear hr
              generalize hj : (i : Int) - 1 = j
              have hjc : j = -1 ∨ ∃ k2 : Nat, j = (k2 : Int) := by by_cases h0 : 0 ≤ j; exact .inr ⟨j.toNat, by omega⟩; exact .inl (by omega)
              rcases hjc with hj1 | ⟨k2, rfl⟩
              · as_aux_lemma =>
                  have hd0 : decide (0 ≤ j) = false := decide_eq_false (by omega)
                  have hd1 : j ≤ (nn1 : Int) := by omega
                  have hd2 : decide (j ≤ (nn1 : Int)) = true := decide_eq_true hd1
                  have hd3 : -1 ≤ j := by omega
                  have HJ := Lib.hid hj1
                  clear hj1
                  have hcx := oNeed_no HR2.out.q.c_ j (.inl (by have := HJ.out; omega))
                  obtain ⟨x0, x1⟩ := HR2.out.x
                  have xl := HR2.out.q.blk.lt
                  go_wp2_with fail
                  (with_reducible refine hcx.mono ?_)
                  clear hcx x0 x1 xl
                  rintro e w3 ⟨rfl, hB3⟩
                  have hB4 : Below w3.heap.size w3 (w3.alloc (.cells #[.int .i64 0, .int .i64 0, .int .i64 0] 24)) := (Below.refl _ _).alloc (Nat.le_refl _) _
                  have H4 := Lib.hid (And.intro ((HR2.out.below hB3).below hB4) (Blk.new w3 24 #[.int .i64 0, .int .i64 0, .int .i64 0]))
                  clear hB3 hB4
                  go_wp2
                  generalize w3.alloc (.cells #[.int .i64 0, .int .i64 0, .int .i64 0] 24) = w4 at H4 ⊢
                  obtain ⟨b26, hb26⟩ : ∃ b26, w3.heap.size = b26 := ⟨_, rfl⟩
                  rw [hb26] at H4
                  try rw [hb26]
                  clear hb26
                  have HK := Lib.hid (show ∀ w', Below w4.heap.size w4 w' → (w'.cell? ⟨bx, 0, none⟩ = some (.slice N1 nn1 nc1) ∧ w'.cell? ⟨bx, 1, none⟩ = some (.slice J1 jn1 jc1) ∧ w'.cell? ⟨b26, 0, none⟩ = some (.int .i64 0) ∧ w'.cell? ⟨b26, 1, none⟩ = some (.int .i64 0) ∧ w'.cell? ⟨b26, 2, none⟩ = some (.int .i64 0)) from fun w' hb => ⟨(Q31.below H4.out.1 hb).x.1, (Q31.below H4.out.1 hb).x.2, (Blk.below H4.out.2 hb H4.out.2.lt).cell 0, (Blk.below H4.out.2 hb H4.out.2.lt).cell 1, (Blk.below H4.out.2 hb H4.out.2.lt).cell 2⟩)
                  obtain ⟨x0, x1, g0, g1, g2⟩ := HK.out _ (Below.refl _ _)
                  have hne : ∀ W : World, (binOp .neq 24 (.agg #[.int .i64 0, .int .i64 0, .int .i64 0]) (.agg #[.int .i64 0, .int .i64 0, .int .i64 0])).run Try.prog W = .ok (.bool false) W := fun W => (neqRes ⟨0, 0, 0⟩ ⟨0, 0, 0⟩ W).trans (by rw [decide_eq_true rfl]; rfl)
                  go_cut [239] from 185 to 238 (fun v239 wx => v239 = .bool false ∧ Q31 w wx c z bx b5 m1 S1 Z1 jobs1 N1 nn1 nc1 J1 jn1 jc1 need)
                  case first =>
                    rename_i Jc Kc hRJ hMK
                    refine wp_region_by 198 [eqV (.bool false), eqV (.int .i64 j), eqV (.bool false), eqV (.bool false), eqV (undef), eqV (undef), eqV (undef), eqV (undef), eqV (undef), eqV (.bool false), eqV (.bool false), eqV (.bool false), eqV (.bool false), eqV (.bool false), eqV (undef), eqV (undef), eqV (undef), eqV (undef), eqV (undef), eqV (undef), eqV (undef), eqV (.bool false), eqV (.bool false), eqV (.bool false), eqV (.bool false), eqV (.bool true), eqV (.bool true), eqV (.agg #[.int .i64 0, .int .i64 0, .int .i64 0]), eqV (.agg #[.int .i64 0, .int .i64 0, .int .i64 0]), eqV (.bool false), eqV (.bool false), eqV (.bool false), eqV (.bool false), eqV (.pointer (some ⟨c, 0, none⟩)), eqV (.int .i64 j), rdV encI 1 (m1.rows j) 1000, eqV (aggC N1 nn1 nc1 J1 jn1 jc1), eqV (.int .i64 j), rdV encI 1 (m1.rows j) 1000, eqV (.bool true), eqV (.bool false), eqV (.bool false)] (by kernel_rfl) (by kernel_rfl) rfl (by kernel_rfl) ⟨?_, ?_, ?_, ?_, ?_, ?_, ?_, ?_, ?_, ?_, ?_, ?_, ?_, ?_, ?_, ?_, ?_, ?_, ?_, ?_, ?_, ?_, ?_, ?_, ?_, ?_, ?_, ?_, ?_, ?_, ?_, ?_, ?_, ?_, ?_, ?_, ?_, ?_, ?_, ?_, ?_, ?_, trivial⟩ ?fin
                    · as_aux_lemma =>
                        intro a w hb hoth hdep
                        refine step_on (want_none rfl) ?_
                        have e27 : a.tmps[27]? = some (.bool false) := ev_other hoth 27 (by kernel_rfl) rfl
                        exact step_val ((BigFrame.run_move _ rfl w).trans (by rw [ev_of e27])) rfl
                    · as_aux_lemma =>
                        intro a w hb hoth hdep
                        refine step_on (want_none rfl) ?_
                        have e25 : a.tmps[25]? = some (.int .i64 j) := ev_other hoth 25 (by kernel_rfl) rfl
                        exact step_val ((BigFrame.run_move _ rfl w).trans (by rw [ev_of e25])) rfl
                    · as_aux_lemma =>
                        intro a w hb hoth hdep
                        refine step_on (want_none rfl) ?_
                        obtain ⟨v1, e199, hv1⟩ := ev_dep hdep 1 199 (by kernel_rfl) (by kernel_rfl)
                        replace hv1 : v1 = .int .i64 j := hv1
                        subst hv1
                        refine step_val (x := .bool false) ?_ rfl
                        simp [go_sem, e199, hd0]
                    · as_aux_lemma =>
                        intro a w hb hoth hdep
                        refine step_on (want_none rfl) ?_
                        obtain ⟨v2, e200, hv2⟩ := ev_dep hdep 2 200 (by kernel_rfl) (by kernel_rfl)
                        replace hv2 : v2 = .bool false := hv2
                        subst hv2
                        exact step_val ((BigFrame.run_move _ rfl w).trans (by rw [ev_of e200])) rfl
                    · as_aux_lemma =>
                        intro a w hb hoth hdep
                        exact step_off ((want_dep hdep 3 201 false rfl (by kernel_rfl) (by kernel_rfl) (fun v h => h)).trans rfl) rfl
                    · as_aux_lemma =>
                        intro a w hb hoth hdep
                        exact step_off ((want_dep hdep 3 201 false rfl (by kernel_rfl) (by kernel_rfl) (fun v h => h)).trans rfl) rfl
                    · as_aux_lemma =>
                        intro a w hb hoth hdep
                        exact step_off ((want_dep hdep 3 201 false rfl (by kernel_rfl) (by kernel_rfl) (fun v h => h)).trans rfl) rfl
                    · as_aux_lemma =>
                        intro a w hb hoth hdep
                        exact step_off ((want_dep hdep 3 201 false rfl (by kernel_rfl) (by kernel_rfl) (fun v h => h)).trans rfl) rfl
                    · as_aux_lemma =>
                        intro a w hb hoth hdep
                        exact step_off ((want_dep hdep 3 201 false rfl (by kernel_rfl) (by kernel_rfl) (fun v h => h)).trans rfl) rfl
                    · as_aux_lemma =>
                        intro a w hb hoth hdep
                        refine step_on (want_none rfl) ?_
                        obtain ⟨v3, e201, hv3⟩ := ev_dep hdep 3 201 (by kernel_rfl) (by kernel_rfl)
                        replace hv3 : v3 = .bool false := hv3
                        subst hv3
                        obtain ⟨v8, e206, hv8⟩ := ev_dep hdep 8 206 (by kernel_rfl) (by kernel_rfl)
                        replace hv8 : v8 = undef := hv8
                        subst hv8
                        refine step_val (x := .bool false) ?_ rfl
                        simp [go_sem, e201, e206]
                    · as_aux_lemma =>
                        intro a w hb hoth hdep
                        refine step_on (want_none rfl) ?_
                        obtain ⟨v0, e198, hv0⟩ := ev_dep hdep 0 198 (by kernel_rfl) (by kernel_rfl)
                        replace hv0 : v0 = .bool false := hv0
                        subst hv0
                        obtain ⟨v9, e207, hv9⟩ := ev_dep hdep 9 207 (by kernel_rfl) (by kernel_rfl)
                        replace hv9 : v9 = .bool false := hv9
                        subst hv9
                        refine step_val (x := .bool false) ?_ rfl
                        simp [go_sem, e198, e207]
                    · as_aux_lemma =>
                        intro a w hb hoth hdep
                        refine step_on (want_none rfl) ?_
                        obtain ⟨v10, e208, hv10⟩ := ev_dep hdep 10 208 (by kernel_rfl) (by kernel_rfl)
                        replace hv10 : v10 = .bool false := hv10
                        subst hv10
                        exact step_val ((BigFrame.run_move _ rfl w).trans (by rw [ev_of e208])) rfl
                    · as_aux_lemma =>
                        intro a w hb hoth hdep
                        refine step_on ((want_dep hdep 11 209 false rfl (by kernel_rfl) (by kernel_rfl) (fun v h => h)).trans rfl) ?_
                        have e27 : a.tmps[27]? = some (.bool false) := ev_other hoth 27 (by kernel_rfl) rfl
                        exact step_val ((BigFrame.run_move _ rfl w).trans (by rw [ev_of e27])) rfl
                    · as_aux_lemma =>
                        intro a w hb hoth hdep
                        refine step_on ((want_dep hdep 11 209 false rfl (by kernel_rfl) (by kernel_rfl) (fun v h => h)).trans rfl) ?_
                        obtain ⟨v12, e210, hv12⟩ := ev_dep hdep 12 210 (by kernel_rfl) (by kernel_rfl)
                        replace hv12 : v12 = .bool false := hv12
                        subst hv12
                        exact step_val ((BigFrame.run_move _ rfl w).trans (by rw [ev_of e210])) rfl
                    · as_aux_lemma =>
                        intro a w hb hoth hdep
                        exact step_off ((want_dep hdep 13 211 false rfl (by kernel_rfl) (by kernel_rfl) (fun v h => h)).trans rfl) rfl
                    · as_aux_lemma =>
                        intro a w hb hoth hdep
                        exact step_off ((want_dep hdep 13 211 false rfl (by kernel_rfl) (by kernel_rfl) (fun v h => h)).trans rfl) rfl
                    · as_aux_lemma =>
                        intro a w hb hoth hdep
                        exact step_off ((want_dep hdep 13 211 false rfl (by kernel_rfl) (by kernel_rfl) (fun v h => h)).trans rfl) rfl
                    · as_aux_lemma =>
                        intro a w hb hoth hdep
                        exact step_off ((want_dep hdep 13 211 false rfl (by kernel_rfl) (by kernel_rfl) (fun v h => h)).trans rfl) rfl
                    · as_aux_lemma =>
                        intro a w hb hoth hdep
                        exact step_off ((want_dep hdep 13 211 false rfl (by kernel_rfl) (by kernel_rfl) (fun v h => h)).trans rfl) rfl
                    · as_aux_lemma =>
                        intro a w hb hoth hdep
                        exact step_off ((want_dep hdep 13 211 false rfl (by kernel_rfl) (by kernel_rfl) (fun v h => h)).trans rfl) rfl
                    · as_aux_lemma =>
                        intro a w hb hoth hdep
                        exact step_off ((want_dep hdep 13 211 false rfl (by kernel_rfl) (by kernel_rfl) (fun v h => h)).trans rfl) rfl
                    · as_aux_lemma =>
                        intro a w hb hoth hdep
                        refine step_on ((want_dep hdep 11 209 false rfl (by kernel_rfl) (by kernel_rfl) (fun v h => h)).trans rfl) ?_
                        obtain ⟨v13, e211, hv13⟩ := ev_dep hdep 13 211 (by kernel_rfl) (by kernel_rfl)
                        replace hv13 : v13 = .bool false := hv13
                        subst hv13
                        obtain ⟨v20, e218, hv20⟩ := ev_dep hdep 20 218 (by kernel_rfl) (by kernel_rfl)
                        replace hv20 : v20 = undef := hv20
                        subst hv20
                        refine step_val (x := .bool false) ?_ rfl
                        simp [go_sem, e211, e218]
                    · as_aux_lemma =>
                        intro a w hb hoth hdep
                        refine step_on (want_none rfl) ?_
                        obtain ⟨v11, e209, hv11⟩ := ev_dep hdep 11 209 (by kernel_rfl) (by kernel_rfl)
                        replace hv11 : v11 = .bool false := hv11
                        subst hv11
                        obtain ⟨v21, e219, hv21⟩ := ev_dep hdep 21 219 (by kernel_rfl) (by kernel_rfl)
                        replace hv21 : v21 = .bool false := hv21
                        subst hv21
                        refine step_val (x := .bool false) ?_ rfl
                        simp [go_sem, e209, e219]
                    · as_aux_lemma =>
                        intro a w hb hoth hdep
                        refine step_on (want_none rfl) ?_
                        obtain ⟨v22, e220, hv22⟩ := ev_dep hdep 22 220 (by kernel_rfl) (by kernel_rfl)
                        replace hv22 : v22 = .bool false := hv22
                        subst hv22
                        exact step_val ((BigFrame.run_move _ rfl w).trans (by rw [ev_of e220])) rfl
                    · as_aux_lemma =>
                        intro a w hb hoth hdep
                        refine step_on ((want_dep hdep 23 221 false rfl (by kernel_rfl) (by kernel_rfl) (fun v h => h)).trans rfl) ?_
                        have e27 : a.tmps[27]? = some (.bool false) := ev_other hoth 27 (by kernel_rfl) rfl
                        exact step_val ((BigFrame.run_move _ rfl w).trans (by rw [ev_of e27])) rfl
                    · as_aux_lemma =>
                        intro a w hb hoth hdep
                        refine step_on ((want_dep hdep 23 221 false rfl (by kernel_rfl) (by kernel_rfl) (fun v h => h)).trans rfl) ?_
                        obtain ⟨v24, e222, hv24⟩ := ev_dep hdep 24 222 (by kernel_rfl) (by kernel_rfl)
                        replace hv24 : v24 = .bool false := hv24
                        subst hv24
                        refine step_val (x := .bool true) ?_ rfl
                        simp [go_sem, e222]
                    · as_aux_lemma =>
                        intro a w hb hoth hdep
                        refine step_on ((want_dep hdep 23 221 false rfl (by kernel_rfl) (by kernel_rfl) (fun v h => h)).trans rfl) ?_
                        obtain ⟨v25, e223, hv25⟩ := ev_dep hdep 25 223 (by kernel_rfl) (by kernel_rfl)
                        replace hv25 : v25 = .bool true := hv25
                        subst hv25
                        exact step_val ((BigFrame.run_move _ rfl w).trans (by rw [ev_of e223])) rfl
                    · as_aux_lemma =>
                        intro a w hb hoth hdep
                        refine step_on ((want_dep hdep 26 224 true rfl (by kernel_rfl) (by kernel_rfl) (fun v h => h)).trans rfl) ?_
                        have e26 : a.tmps[26]? = some (.pointer (some ⟨b26, 0, none⟩)) := ev_other hoth 26 (by kernel_rfl) rfl
                        obtain ⟨x0, x1, g0, g1, g2⟩ := HK.out w hb
                        refine step_val (x := .agg #[.int .i64 0, .int .i64 0, .int .i64 0]) ?_ rfl
                        simp [go_sem, e26, g0, g1, g2]
                    · as_aux_lemma =>
                        intro a w hb hoth hdep
                        refine step_on ((want_dep hdep 26 224 true rfl (by kernel_rfl) (by kernel_rfl) (fun v h => h)).trans rfl) ?_
                        refine step_val (x := .agg #[.int .i64 0, .int .i64 0, .int .i64 0]) ?_ rfl
                        simp [go_sem]
                    · as_aux_lemma =>
                        intro a w hb hoth hdep
                        refine step_on ((want_dep hdep 26 224 true rfl (by kernel_rfl) (by kernel_rfl) (fun v h => h)).trans rfl) ?_
                        obtain ⟨v27, e225, hv27⟩ := ev_dep hdep 27 225 (by kernel_rfl) (by kernel_rfl)
                        replace hv27 : v27 = .agg #[.int .i64 0, .int .i64 0, .int .i64 0] := hv27
                        subst hv27
                        obtain ⟨v28, e226, hv28⟩ := ev_dep hdep 28 226 (by kernel_rfl) (by kernel_rfl)
                        replace hv28 : v28 = .agg #[.int .i64 0, .int .i64 0, .int .i64 0] := hv28
                        subst hv28
                        refine step_val (x := .bool false) ?_ rfl
                        simp [go_sem, e225, e226, hne]
                    · as_aux_lemma =>
                        intro a w hb hoth hdep
                        refine step_on ((want_dep hdep 23 221 false rfl (by kernel_rfl) (by kernel_rfl) (fun v h => h)).trans rfl) ?_
                        obtain ⟨v26, e224, hv26⟩ := ev_dep hdep 26 224 (by kernel_rfl) (by kernel_rfl)
                        replace hv26 : v26 = .bool true := hv26
                        subst hv26
                        obtain ⟨v29, e227, hv29⟩ := ev_dep hdep 29 227 (by kernel_rfl) (by kernel_rfl)
                        replace hv29 : v29 = .bool false := hv29
                        subst hv29
                        refine step_val (x := .bool false) ?_ rfl
                        simp [go_sem, e224, e227]
                    · as_aux_lemma =>
                        intro a w hb hoth hdep
                        refine step_on (want_none rfl) ?_
                        obtain ⟨v23, e221, hv23⟩ := ev_dep hdep 23 221 (by kernel_rfl) (by kernel_rfl)
                        replace hv23 : v23 = .bool false := hv23
                        subst hv23
                        obtain ⟨v30, e228, hv30⟩ := ev_dep hdep 30 228 (by kernel_rfl) (by kernel_rfl)
                        replace hv30 : v30 = .bool false := hv30
                        subst hv30
                        refine step_val (x := .bool false) ?_ rfl
                        simp [go_sem, e221, e228]
                    · as_aux_lemma =>
                        intro a w hb hoth hdep
                        refine step_on (want_none rfl) ?_
                        obtain ⟨v31, e229, hv31⟩ := ev_dep hdep 31 229 (by kernel_rfl) (by kernel_rfl)
                        replace hv31 : v31 = .bool false := hv31
                        subst hv31
                        exact step_val ((BigFrame.run_move _ rfl w).trans (by rw [ev_of e229])) rfl
                    · as_aux_lemma =>
                        intro a w hb hoth hdep
                        refine step_on ((want_dep hdep 32 230 false rfl (by kernel_rfl) (by kernel_rfl) (fun v h => h)).trans rfl) ?_
                        have e7 : a.tmps[7]? = some (.pointer (some ⟨c, 0, none⟩)) := ev_other hoth 7 (by kernel_rfl) rfl
                        exact step_val ((BigFrame.run_move _ rfl w).trans (by rw [ev_of e7])) rfl
                    · as_aux_lemma =>
                        intro a w hb hoth hdep
                        refine step_on ((want_dep hdep 32 230 false rfl (by kernel_rfl) (by kernel_rfl) (fun v h => h)).trans rfl) ?_
                        have e25 : a.tmps[25]? = some (.int .i64 j) := ev_other hoth 25 (by kernel_rfl) rfl
                        exact step_val ((BigFrame.run_move _ rfl w).trans (by rw [ev_of e25])) rfl
                    · as_aux_lemma =>
                        intro a w hb hoth hdep
                        refine step_on ((want_dep hdep 32 230 false rfl (by kernel_rfl) (by kernel_rfl) (fun v h => h)).trans rfl) ?_
                        obtain ⟨v33, e231, hv33⟩ := ev_dep hdep 33 231 (by kernel_rfl) (by kernel_rfl)
                        replace hv33 : v33 = .pointer (some ⟨c, 0, none⟩) := hv33
                        subst hv33
                        obtain ⟨v34, e232, hv34⟩ := ev_dep hdep 34 232 (by kernel_rfl) (by kernel_rfl)
                        replace hv34 : v34 = .int .i64 j := hv34
                        subst hv34
                        refine step_call (f := 21) (args := #[.pointer (some ⟨c, 0, none⟩), .int .i64 j]) ?_ ?_
                        · simp [go_sem, e231, e232]
                        · have hcx := oJobs (H4.out.1.below hb).q.c_ j
                          (with_reducible refine hcx.mono ?_)
                          clear hcx
                          rintro e w2 ⟨A, n, c', rfl, hO, hB⟩
                          exact ⟨_, rfl, ⟨A, n, c', rfl, OwnL.rd (enc := encI) (sz := 1) (fun _ => rfl) hO, by have := hO.len; have := HF.out.rl j; omega⟩, hB⟩
                    · as_aux_lemma =>
                        intro a w hb hoth hdep
                        refine step_on ((want_dep hdep 32 230 false rfl (by kernel_rfl) (by kernel_rfl) (fun v h => h)).trans rfl) ?_
                        have e9 : a.tmps[9]? = some (.pointer (some ⟨bx, 0, none⟩)) := ev_other hoth 9 (by kernel_rfl) rfl
                        obtain ⟨x0, x1, g0, g1, g2⟩ := HK.out w hb
                        refine step_val (x := aggC N1 nn1 nc1 J1 jn1 jc1) ?_ rfl
                        simp [go_sem, e9, x0, x1, aggC]
                    · as_aux_lemma =>
                        intro a w hb hoth hdep
                        refine step_on ((want_dep hdep 32 230 false rfl (by kernel_rfl) (by kernel_rfl) (fun v h => h)).trans rfl) ?_
                        have e25 : a.tmps[25]? = some (.int .i64 j) := ev_other hoth 25 (by kernel_rfl) rfl
                        exact step_val ((BigFrame.run_move _ rfl w).trans (by rw [ev_of e25])) rfl
                    · as_aux_lemma =>
                        intro a w hb hoth hdep
                        refine step_on ((want_dep hdep 32 230 false rfl (by kernel_rfl) (by kernel_rfl) (fun v h => h)).trans rfl) ?_
                        obtain ⟨v36, e234, hv36⟩ := ev_dep hdep 36 234 (by kernel_rfl) (by kernel_rfl)
                        replace hv36 : v36 = aggC N1 nn1 nc1 J1 jn1 jc1 := hv36
                        subst hv36
                        obtain ⟨v37, e235, hv37⟩ := ev_dep hdep 37 235 (by kernel_rfl) (by kernel_rfl)
                        replace hv37 : v37 = .int .i64 j := hv37
                        subst hv37
                        refine step_call (f := 22) (args := #[aggC N1 nn1 nc1 J1 jn1 jc1, .int .i64 j]) ?_ ?_
                        · simp [go_sem, e234, e235]
                        · have hcx := rJobs_t (N := N1) (nn := nn1) (nc := nc1) (jc := jc1) (H4.out.1.below hb).q.rj HF.out.j9 (j)
                          (with_reducible refine hcx.mono ?_)
                          clear hcx
                          rintro e w2 ⟨A, n, c', rfl, hO, hn, hB⟩
                          rw [HF.out.rows] at hO
                          exact ⟨_, rfl, ⟨A, n, c', rfl, hO, hn⟩, hB⟩
                    · as_aux_lemma =>
                        intro a w hb hoth hdep
                        refine step_on ((want_dep hdep 32 230 false rfl (by kernel_rfl) (by kernel_rfl) (fun v h => h)).trans rfl) ?_
                        obtain ⟨v35, e233, hv35⟩ := ev_dep hdep 35 233 (by kernel_rfl) (by kernel_rfl)
                        obtain ⟨A35, n35, c35, hs35, hr35, hn35⟩ := hv35
                        subst hs35
                        obtain ⟨v38, e236, hv38⟩ := ev_dep hdep 38 236 (by kernel_rfl) (by kernel_rfl)
                        obtain ⟨A38, n38, c38, hs38, hr38, hn38⟩ := hv38
                        subst hs38
                        refine step_call (f := 17) (args := #[.slice A35 n35 c35, .slice A38 n38 c38]) ?_ ?_
                        · simp [go_sem, e233, e236]
                        · have hcx := same01_t _ _ _ c35 _ c38 _ w hr35 hr38 (by omega) (by omega)
                          (with_reducible refine hcx.mono ?_)
                          clear hcx
                          rintro e w2 ⟨rfl, q_, rfl⟩
                          exact ⟨_, rfl, rfl, Below.drewN_ (Below.refl _ _) q_⟩
                    · as_aux_lemma =>
                        intro a w hb hoth hdep
                        refine step_on ((want_dep hdep 32 230 false rfl (by kernel_rfl) (by kernel_rfl) (fun v h => h)).trans rfl) ?_
                        obtain ⟨v39, e237, hv39⟩ := ev_dep hdep 39 237 (by kernel_rfl) (by kernel_rfl)
                        replace hv39 : v39 = .bool true := hv39
                        subst hv39
                        refine step_val (x := .bool false) ?_ rfl
                        simp [go_sem, e237]
                    · as_aux_lemma =>
                        intro a w hb hoth hdep
                        refine step_on (want_none rfl) ?_
                        obtain ⟨v32, e230, hv32⟩ := ev_dep hdep 32 230 (by kernel_rfl) (by kernel_rfl)
                        replace hv32 : v32 = .bool false := hv32
                        subst hv32
                        obtain ⟨v40, e238, hv40⟩ := ev_dep hdep 40 238 (by kernel_rfl) (by kernel_rfl)
                        replace hv40 : v40 = .bool false := hv40
                        subst hv40
                        refine step_val (x := .bool false) ?_ rfl
                        simp [go_sem, e230, e238]
                    case fin =>
                      intro wz hbz
                      rintro _ rfl
                      rintro _ rfl
                      rintro _ rfl
                      rintro _ rfl
                      rintro _ rfl
                      rintro _ rfl
                      rintro _ rfl
                      rintro _ rfl
                      rintro _ rfl
                      rintro _ rfl
                      rintro _ rfl
                      rintro _ rfl
                      rintro _ rfl
                      rintro _ rfl
                      rintro _ rfl
                      rintro _ rfl
                      rintro _ rfl
                      rintro _ rfl
                      rintro _ rfl
                      rintro _ rfl
                      rintro _ rfl
                      rintro _ rfl
                      rintro _ rfl
                      rintro _ rfl
                      rintro _ rfl
                      rintro _ rfl
                      rintro _ rfl
                      rintro _ rfl
                      rintro _ rfl
                      rintro _ rfl
                      rintro _ rfl
                      rintro _ rfl
                      rintro _ rfl
                      rintro _ rfl
                      rintro _ rfl
                      rintro _ ⟨_, _, _, rfl, _, _⟩
                      rintro _ rfl
                      rintro _ rfl
                      rintro _ ⟨_, _, _, rfl, _, _⟩
                      rintro _ rfl
                      rintro _ rfl
                      rintro _ rfl
                      refine FinC.nil ?_
                      refine hMK _ _ (Met.intro (hRJ _ _ ?_))
                      (repeat apply Exists.intro)
                      refine ⟨?rel, rfl⟩
                      case rel => exact ⟨rfl, H4.out.1.below hbz⟩
                  case rest =>
                    obtain ⟨rfl, h39⟩ := hcut
                    have H39 := Lib.hid h39
                    clear h39 x0 x1 g0 g1 g2
                    go_wp2
                    go_roundw
                    case rel => have := HJ.out; exact ⟨i + 1, by omega, by first | go_num | (congr 1; omega), H39.out⟩
                    case measure => have := HJ.out; simp [intOf]; omega
              · by_cases hk2 : k2 < nn1
                · as_aux_lemma =>
                    have hk0 : (0 : Int) ≤ (k2 : Int) := by omega
                    have hle : k2 ≤ nn1 := by omega
                    obtain ⟨r, hk2r⟩ : ∃ r, m1.needs[k2]? = some r := ⟨_, List.getElem?_eq_getElem (by have := HF.out.ln; omega)⟩
                    have hcx := oNeed_yes HR2.out.q.c_ k2 r hk2r
                    obtain ⟨x0, x1⟩ := HR2.out.x
                    have xl := HR2.out.q.blk.lt
                    go_wp2_with fail
                    (with_reducible refine hcx.mono ?_)
                    clear hcx x0 x1 xl
                    rintro e w3 ⟨rfl, hB3⟩
                    have hB4 : Below w3.heap.size w3 (w3.alloc (.cells (boxRes r) 24)) := (Below.refl _ _).alloc (Nat.le_refl _) _
                    have H4 := Lib.hid (And.intro ((HR2.out.below hB3).below hB4) (Blk.new w3 24 (boxRes r)))
                    clear hB3 hB4
                    go_wp2
                    generalize w3.alloc (.cells (boxRes r) 24) = w4 at H4 ⊢
                    obtain ⟨b26, hb26⟩ : ∃ b26, w3.heap.size = b26 := ⟨_, rfl⟩
                    rw [hb26] at H4
                    try rw [hb26]
                    clear hb26
                    obtain ⟨ab2, ao2, r2, hN1, hr2, hl2, hcel⟩ := H4.out.1.q.rn.at_ hk2
                    have hrr : r = r2 := by rw [hk2r] at hr2; exact Option.some.inj hr2
                    subst hrr
                    subst hN1
                    have HK := Lib.hid (show ∀ w', Below w4.heap.size w4 w' → (w'.cell? ⟨bx, 0, none⟩ = some (.slice (some ⟨ab2, ao2, none⟩) nn1 nc1) ∧ w'.cell? ⟨bx, 1, none⟩ = some (.slice J1 jn1 jc1) ∧ w'.cell? ⟨b26, 0, none⟩ = some (.int .i64 r.a) ∧ w'.cell? ⟨b26, 1, none⟩ = some (.int .i64 r.b) ∧ w'.cell? ⟨b26, 2, none⟩ = some (.int .i64 r.c) ∧ w'.cell? ⟨ab2, ao2 + k2 * 3, none⟩ = some (.int .i64 r.a) ∧ w'.cell? ⟨ab2, ao2 + k2 * 3 + 1, none⟩ = some (.int .i64 r.b) ∧ w'.cell? ⟨ab2, ao2 + k2 * 3 + 2, none⟩ = some (.int .i64 r.c)) from fun w' hb => ⟨(Q31.below H4.out.1 hb).x.1, (Q31.below H4.out.1 hb).x.2, (Blk.below H4.out.2 hb H4.out.2.lt).cell 0, (Blk.below H4.out.2 hb H4.out.2.lt).cell 1, (Blk.below H4.out.2 hb H4.out.2.lt).cell 2, (hb.cell (p := ⟨ab2, ao2 + k2 * 3, none⟩) hl2).trans (hcel 0 _ rfl), (hb.cell (p := ⟨ab2, ao2 + k2 * 3 + 1, none⟩) hl2).trans (hcel 1 _ rfl), (hb.cell (p := ⟨ab2, ao2 + k2 * 3 + 2, none⟩) hl2).trans (hcel 2 _ rfl)⟩)
                    clear hcel hl2 hr2
                    obtain ⟨x0, x1, g0, g1, g2, h0, h1, h2⟩ := HK.out _ (Below.refl _ _)
                    have hne : ∀ W : World, (binOp .neq 24 (aggRes r) (aggRes r)).run Try.prog W = .ok (.bool false) W := fun W => (neqRes r r W).trans (by rw [decide_eq_true rfl]; rfl)
                    go_cut [239] from 185 to 238 (fun v239 wx => v239 = .bool false ∧ Q31 w wx c z bx b5 m1 S1 Z1 jobs1 (some ⟨ab2, ao2, none⟩) nn1 nc1 J1 jn1 jc1 need)
                    case first =>
                      rename_i Jc Kc hRJ hMK
                      refine wp_region_by 198 [eqV (.bool true), eqV (.int .i64 (k2 : Int)), eqV (.bool true), eqV (.bool true), eqV (.int .i64 (k2 : Int)), eqV (.pointer (some ⟨bx, 0, none⟩)), eqV (.slice (some ⟨ab2, ao2, none⟩) nn1 nc1), eqV (.int .i64 (nn1 : Int)), eqV (.bool true), eqV (.bool true), eqV (.bool false), eqV (.bool false), eqV (.bool true), eqV (.bool true), eqV (aggRes r), eqV (.pointer (some ⟨bx, 0, none⟩)), eqV (.slice (some ⟨ab2, ao2, none⟩) nn1 nc1), eqV (.int .i64 (k2 : Int)), eqV (.pointer (some ⟨ab2, ao2 + k2 * 3, none⟩)), eqV (aggRes r), eqV (.bool false), eqV (.bool false), eqV (.bool false), eqV (.bool false), eqV (.bool true), eqV (.bool false), eqV (.bool false), eqV (undef), eqV (undef), eqV (undef), eqV (.bool false), eqV (.bool false), eqV (.bool false), eqV (.pointer (some ⟨c, 0, none⟩)), eqV (.int .i64 (k2 : Int)), rdV encI 1 (m1.rows (k2 : Int)) 1000, eqV (aggC (some ⟨ab2, ao2, none⟩) nn1 nc1 J1 jn1 jc1), eqV (.int .i64 (k2 : Int)), rdV encI 1 (m1.rows (k2 : Int)) 1000, eqV (.bool true), eqV (.bool false), eqV (.bool false)] (by kernel_rfl) (by kernel_rfl) rfl (by kernel_rfl) ⟨?_, ?_, ?_, ?_, ?_, ?_, ?_, ?_, ?_, ?_, ?_, ?_, ?_, ?_, ?_, ?_, ?_, ?_, ?_, ?_, ?_, ?_, ?_, ?_, ?_, ?_, ?_, ?_, ?_, ?_, ?_, ?_, ?_, ?_, ?_, ?_, ?_, ?_, ?_, ?_, ?_, ?_, trivial⟩ ?fin
                      · as_aux_lemma =>
                          intro a w hb hoth hdep
                          refine step_on (want_none rfl) ?_
                          have e27 : a.tmps[27]? = some (.bool true) := ev_other hoth 27 (by kernel_rfl) rfl
                          exact step_val ((BigFrame.run_move _ rfl w).trans (by rw [ev_of e27])) rfl
                      · as_aux_lemma =>
                          intro a w hb hoth hdep
                          refine step_on (want_none rfl) ?_
                          have e25 : a.tmps[25]? = some (.int .i64 (k2 : Int)) := ev_other hoth 25 (by kernel_rfl) rfl
                          exact step_val ((BigFrame.run_move _ rfl w).trans (by rw [ev_of e25])) rfl
                      · as_aux_lemma =>
                          intro a w hb hoth hdep
                          refine step_on (want_none rfl) ?_
                          obtain ⟨v1, e199, hv1⟩ := ev_dep hdep 1 199 (by kernel_rfl) (by kernel_rfl)
                          replace hv1 : v1 = .int .i64 (k2 : Int) := hv1
                          subst hv1
                          refine step_val (x := .bool true) ?_ rfl
                          simp [go_sem, e199]
                      · as_aux_lemma =>
                          intro a w hb hoth hdep
                          refine step_on (want_none rfl) ?_
                          obtain ⟨v2, e200, hv2⟩ := ev_dep hdep 2 200 (by kernel_rfl) (by kernel_rfl)
                          replace hv2 : v2 = .bool true := hv2
                          subst hv2
                          exact step_val ((BigFrame.run_move _ rfl w).trans (by rw [ev_of e200])) rfl
                      · as_aux_lemma =>
                          intro a w hb hoth hdep
                          refine step_on ((want_dep hdep 3 201 true rfl (by kernel_rfl) (by kernel_rfl) (fun v h => h)).trans rfl) ?_
                          have e25 : a.tmps[25]? = some (.int .i64 (k2 : Int)) := ev_other hoth 25 (by kernel_rfl) rfl
                          exact step_val ((BigFrame.run_move _ rfl w).trans (by rw [ev_of e25])) rfl
                      · as_aux_lemma =>
                          intro a w hb hoth hdep
                          refine step_on ((want_dep hdep 3 201 true rfl (by kernel_rfl) (by kernel_rfl) (fun v h => h)).trans rfl) ?_
                          have e9 : a.tmps[9]? = some (.pointer (some ⟨bx, 0, none⟩)) := ev_other hoth 9 (by kernel_rfl) rfl
                          refine step_val (x := .pointer (some ⟨bx, 0, none⟩)) ?_ rfl
                          simp [go_sem, e9]
                      · as_aux_lemma =>
                          intro a w hb hoth hdep
                          refine step_on ((want_dep hdep 3 201 true rfl (by kernel_rfl) (by kernel_rfl) (fun v h => h)).trans rfl) ?_
                          obtain ⟨v5, e203, hv5⟩ := ev_dep hdep 5 203 (by kernel_rfl) (by kernel_rfl)
                          replace hv5 : v5 = .pointer (some ⟨bx, 0, none⟩) := hv5
                          subst hv5
                          obtain ⟨x0, x1, g0, g1, g2, h0, h1, h2⟩ := HK.out w hb
                          refine step_val (x := .slice (some ⟨ab2, ao2, none⟩) nn1 nc1) ?_ rfl
                          simp [go_sem, e203, x0]
                      · as_aux_lemma =>
                          intro a w hb hoth hdep
                          refine step_on ((want_dep hdep 3 201 true rfl (by kernel_rfl) (by kernel_rfl) (fun v h => h)).trans rfl) ?_
                          obtain ⟨v6, e204, hv6⟩ := ev_dep hdep 6 204 (by kernel_rfl) (by kernel_rfl)
                          replace hv6 : v6 = .slice (some ⟨ab2, ao2, none⟩) nn1 nc1 := hv6
                          subst hv6
                          refine step_val (x := .int .i64 (nn1 : Int)) ?_ rfl
                          simp [go_sem, e204]
                      · as_aux_lemma =>
                          intro a w hb hoth hdep
                          refine step_on ((want_dep hdep 3 201 true rfl (by kernel_rfl) (by kernel_rfl) (fun v h => h)).trans rfl) ?_
                          obtain ⟨v4, e202, hv4⟩ := ev_dep hdep 4 202 (by kernel_rfl) (by kernel_rfl)
                          replace hv4 : v4 = .int .i64 (k2 : Int) := hv4
                          subst hv4
                          obtain ⟨v7, e205, hv7⟩ := ev_dep hdep 7 205 (by kernel_rfl) (by kernel_rfl)
                          replace hv7 : v7 = .int .i64 (nn1 : Int) := hv7
                          subst hv7
                          refine step_val (x := .bool true) ?_ rfl
                          simp [go_sem, e202, e205, hk2]
                      · as_aux_lemma =>
                          intro a w hb hoth hdep
                          refine step_on (want_none rfl) ?_
                          obtain ⟨v3, e201, hv3⟩ := ev_dep hdep 3 201 (by kernel_rfl) (by kernel_rfl)
                          replace hv3 : v3 = .bool true := hv3
                          subst hv3
                          obtain ⟨v8, e206, hv8⟩ := ev_dep hdep 8 206 (by kernel_rfl) (by kernel_rfl)
                          replace hv8 : v8 = .bool true := hv8
                          subst hv8
                          refine step_val (x := .bool true) ?_ rfl
                          simp [go_sem, e201, e206]
                      · as_aux_lemma =>
                          intro a w hb hoth hdep
                          refine step_on (want_none rfl) ?_
                          obtain ⟨v0, e198, hv0⟩ := ev_dep hdep 0 198 (by kernel_rfl) (by kernel_rfl)
                          replace hv0 : v0 = .bool true := hv0
                          subst hv0
                          obtain ⟨v9, e207, hv9⟩ := ev_dep hdep 9 207 (by kernel_rfl) (by kernel_rfl)
                          replace hv9 : v9 = .bool true := hv9
                          subst hv9
                          refine step_val (x := .bool false) ?_ rfl
                          simp [go_sem, e198, e207]
                      · as_aux_lemma =>
                          intro a w hb hoth hdep
                          refine step_on (want_none rfl) ?_
                          obtain ⟨v10, e208, hv10⟩ := ev_dep hdep 10 208 (by kernel_rfl) (by kernel_rfl)
                          replace hv10 : v10 = .bool false := hv10
                          subst hv10
                          exact step_val ((BigFrame.run_move _ rfl w).trans (by rw [ev_of e208])) rfl
                      · as_aux_lemma =>
                          intro a w hb hoth hdep
                          refine step_on ((want_dep hdep 11 209 false rfl (by kernel_rfl) (by kernel_rfl) (fun v h => h)).trans rfl) ?_
                          have e27 : a.tmps[27]? = some (.bool true) := ev_other hoth 27 (by kernel_rfl) rfl
                          exact step_val ((BigFrame.run_move _ rfl w).trans (by rw [ev_of e27])) rfl
                      · as_aux_lemma =>
                          intro a w hb hoth hdep
                          refine step_on ((want_dep hdep 11 209 false rfl (by kernel_rfl) (by kernel_rfl) (fun v h => h)).trans rfl) ?_
                          obtain ⟨v12, e210, hv12⟩ := ev_dep hdep 12 210 (by kernel_rfl) (by kernel_rfl)
                          replace hv12 : v12 = .bool true := hv12
                          subst hv12
                          exact step_val ((BigFrame.run_move _ rfl w).trans (by rw [ev_of e210])) rfl
                      · as_aux_lemma =>
                          intro a w hb hoth hdep
                          refine step_on ((want_dep hdep 13 211 true rfl (by kernel_rfl) (by kernel_rfl) (fun v h => h)).trans rfl) ?_
                          have e26 : a.tmps[26]? = some (.pointer (some ⟨b26, 0, none⟩)) := ev_other hoth 26 (by kernel_rfl) rfl
                          obtain ⟨x0, x1, g0, g1, g2, h0, h1, h2⟩ := HK.out w hb
                          refine step_val (x := aggRes r) ?_ rfl
                          simp [go_sem, e26, g0, g1, g2, aggRes]
                      · as_aux_lemma =>
                          intro a w hb hoth hdep
                          refine step_on ((want_dep hdep 13 211 true rfl (by kernel_rfl) (by kernel_rfl) (fun v h => h)).trans rfl) ?_
                          have e9 : a.tmps[9]? = some (.pointer (some ⟨bx, 0, none⟩)) := ev_other hoth 9 (by kernel_rfl) rfl
                          refine step_val (x := .pointer (some ⟨bx, 0, none⟩)) ?_ rfl
                          simp [go_sem, e9]
                      · as_aux_lemma =>
                          intro a w hb hoth hdep
                          refine step_on ((want_dep hdep 13 211 true rfl (by kernel_rfl) (by kernel_rfl) (fun v h => h)).trans rfl) ?_
                          obtain ⟨v15, e213, hv15⟩ := ev_dep hdep 15 213 (by kernel_rfl) (by kernel_rfl)
                          replace hv15 : v15 = .pointer (some ⟨bx, 0, none⟩) := hv15
                          subst hv15
                          obtain ⟨x0, x1, g0, g1, g2, h0, h1, h2⟩ := HK.out w hb
                          refine step_val (x := .slice (some ⟨ab2, ao2, none⟩) nn1 nc1) ?_ rfl
                          simp [go_sem, e213, x0]
                      · as_aux_lemma =>
                          intro a w hb hoth hdep
                          refine step_on ((want_dep hdep 13 211 true rfl (by kernel_rfl) (by kernel_rfl) (fun v h => h)).trans rfl) ?_
                          have e25 : a.tmps[25]? = some (.int .i64 (k2 : Int)) := ev_other hoth 25 (by kernel_rfl) rfl
                          exact step_val ((BigFrame.run_move _ rfl w).trans (by rw [ev_of e25])) rfl
                      · as_aux_lemma =>
                          intro a w hb hoth hdep
                          refine step_on ((want_dep hdep 13 211 true rfl (by kernel_rfl) (by kernel_rfl) (fun v h => h)).trans rfl) ?_
                          obtain ⟨v16, e214, hv16⟩ := ev_dep hdep 16 214 (by kernel_rfl) (by kernel_rfl)
                          replace hv16 : v16 = .slice (some ⟨ab2, ao2, none⟩) nn1 nc1 := hv16
                          subst hv16
                          obtain ⟨v17, e215, hv17⟩ := ev_dep hdep 17 215 (by kernel_rfl) (by kernel_rfl)
                          replace hv17 : v17 = .int .i64 (k2 : Int) := hv17
                          subst hv17
                          refine step_val (x := .pointer (some ⟨ab2, ao2 + k2 * 3, none⟩)) ?_ rfl
                          simp [go_sem, e214, e215, hk2]
                      · as_aux_lemma =>
                          intro a w hb hoth hdep
                          refine step_on ((want_dep hdep 13 211 true rfl (by kernel_rfl) (by kernel_rfl) (fun v h => h)).trans rfl) ?_
                          obtain ⟨v18, e216, hv18⟩ := ev_dep hdep 18 216 (by kernel_rfl) (by kernel_rfl)
                          replace hv18 : v18 = .pointer (some ⟨ab2, ao2 + k2 * 3, none⟩) := hv18
                          subst hv18
                          obtain ⟨x0, x1, g0, g1, g2, h0, h1, h2⟩ := HK.out w hb
                          refine step_val (x := aggRes r) ?_ rfl
                          simp [go_sem, e216, h0, h1, h2, aggRes]
                      · as_aux_lemma =>
                          intro a w hb hoth hdep
                          refine step_on ((want_dep hdep 13 211 true rfl (by kernel_rfl) (by kernel_rfl) (fun v h => h)).trans rfl) ?_
                          obtain ⟨v14, e212, hv14⟩ := ev_dep hdep 14 212 (by kernel_rfl) (by kernel_rfl)
                          replace hv14 : v14 = aggRes r := hv14
                          subst hv14
                          obtain ⟨v19, e217, hv19⟩ := ev_dep hdep 19 217 (by kernel_rfl) (by kernel_rfl)
                          replace hv19 : v19 = aggRes r := hv19
                          subst hv19
                          refine step_val (x := .bool false) ?_ rfl
                          simp [go_sem, e212, e217, hne]
                      · as_aux_lemma =>
                          intro a w hb hoth hdep
                          refine step_on ((want_dep hdep 11 209 false rfl (by kernel_rfl) (by kernel_rfl) (fun v h => h)).trans rfl) ?_
                          obtain ⟨v13, e211, hv13⟩ := ev_dep hdep 13 211 (by kernel_rfl) (by kernel_rfl)
                          replace hv13 : v13 = .bool true := hv13
                          subst hv13
                          obtain ⟨v20, e218, hv20⟩ := ev_dep hdep 20 218 (by kernel_rfl) (by kernel_rfl)
                          replace hv20 : v20 = .bool false := hv20
                          subst hv20
                          refine step_val (x := .bool false) ?_ rfl
                          simp [go_sem, e211, e218]
                      · as_aux_lemma =>
                          intro a w hb hoth hdep
                          refine step_on (want_none rfl) ?_
                          obtain ⟨v11, e209, hv11⟩ := ev_dep hdep 11 209 (by kernel_rfl) (by kernel_rfl)
                          replace hv11 : v11 = .bool false := hv11
                          subst hv11
                          obtain ⟨v21, e219, hv21⟩ := ev_dep hdep 21 219 (by kernel_rfl) (by kernel_rfl)
                          replace hv21 : v21 = .bool false := hv21
                          subst hv21
                          refine step_val (x := .bool false) ?_ rfl
                          simp [go_sem, e209, e219]
                      · as_aux_lemma =>
                          intro a w hb hoth hdep
                          refine step_on (want_none rfl) ?_
                          obtain ⟨v22, e220, hv22⟩ := ev_dep hdep 22 220 (by kernel_rfl) (by kernel_rfl)
                          replace hv22 : v22 = .bool false := hv22
                          subst hv22
                          exact step_val ((BigFrame.run_move _ rfl w).trans (by rw [ev_of e220])) rfl
                      · as_aux_lemma =>
                          intro a w hb hoth hdep
                          refine step_on ((want_dep hdep 23 221 false rfl (by kernel_rfl) (by kernel_rfl) (fun v h => h)).trans rfl) ?_
                          have e27 : a.tmps[27]? = some (.bool true) := ev_other hoth 27 (by kernel_rfl) rfl
                          exact step_val ((BigFrame.run_move _ rfl w).trans (by rw [ev_of e27])) rfl
                      · as_aux_lemma =>
                          intro a w hb hoth hdep
                          refine step_on ((want_dep hdep 23 221 false rfl (by kernel_rfl) (by kernel_rfl) (fun v h => h)).trans rfl) ?_
                          obtain ⟨v24, e222, hv24⟩ := ev_dep hdep 24 222 (by kernel_rfl) (by kernel_rfl)
                          replace hv24 : v24 = .bool true := hv24
                          subst hv24
                          refine step_val (x := .bool false) ?_ rfl
                          simp [go_sem, e222]
                      · as_aux_lemma =>
                          intro a w hb hoth hdep
                          refine step_on ((want_dep hdep 23 221 false rfl (by kernel_rfl) (by kernel_rfl) (fun v h => h)).trans rfl) ?_
                          obtain ⟨v25, e223, hv25⟩ := ev_dep hdep 25 223 (by kernel_rfl) (by kernel_rfl)
                          replace hv25 : v25 = .bool false := hv25
                          subst hv25
                          exact step_val ((BigFrame.run_move _ rfl w).trans (by rw [ev_of e223])) rfl
                      · as_aux_lemma =>
                          intro a w hb hoth hdep
                          exact step_off ((want_dep hdep 26 224 false rfl (by kernel_rfl) (by kernel_rfl) (fun v h => h)).trans rfl) rfl
                      · as_aux_lemma =>
                          intro a w hb hoth hdep
                          exact step_off ((want_dep hdep 26 224 false rfl (by kernel_rfl) (by kernel_rfl) (fun v h => h)).trans rfl) rfl
                      · as_aux_lemma =>
                          intro a w hb hoth hdep
                          exact step_off ((want_dep hdep 26 224 false rfl (by kernel_rfl) (by kernel_rfl) (fun v h => h)).trans rfl) rfl
                      · as_aux_lemma =>
                          intro a w hb hoth hdep
                          refine step_on ((want_dep hdep 23 221 false rfl (by kernel_rfl) (by kernel_rfl) (fun v h => h)).trans rfl) ?_
                          obtain ⟨v26, e224, hv26⟩ := ev_dep hdep 26 224 (by kernel_rfl) (by kernel_rfl)
                          replace hv26 : v26 = .bool false := hv26
                          subst hv26
                          obtain ⟨v29, e227, hv29⟩ := ev_dep hdep 29 227 (by kernel_rfl) (by kernel_rfl)
                          replace hv29 : v29 = undef := hv29
                          subst hv29
                          refine step_val (x := .bool false) ?_ rfl
                          simp [go_sem, e224, e227]
                      · as_aux_lemma =>
                          intro a w hb hoth hdep
                          refine step_on (want_none rfl) ?_
                          obtain ⟨v23, e221, hv23⟩ := ev_dep hdep 23 221 (by kernel_rfl) (by kernel_rfl)
                          replace hv23 : v23 = .bool false := hv23
                          subst hv23
                          obtain ⟨v30, e228, hv30⟩ := ev_dep hdep 30 228 (by kernel_rfl) (by kernel_rfl)
                          replace hv30 : v30 = .bool false := hv30
                          subst hv30
                          refine step_val (x := .bool false) ?_ rfl
                          simp [go_sem, e221, e228]
                      · as_aux_lemma =>
                          intro a w hb hoth hdep
                          refine step_on (want_none rfl) ?_
                          obtain ⟨v31, e229, hv31⟩ := ev_dep hdep 31 229 (by kernel_rfl) (by kernel_rfl)
                          replace hv31 : v31 = .bool false := hv31
                          subst hv31
                          exact step_val ((BigFrame.run_move _ rfl w).trans (by rw [ev_of e229])) rfl
                      · as_aux_lemma =>
                          intro a w hb hoth hdep
                          refine step_on ((want_dep hdep 32 230 false rfl (by kernel_rfl) (by kernel_rfl) (fun v h => h)).trans rfl) ?_
                          have e7 : a.tmps[7]? = some (.pointer (some ⟨c, 0, none⟩)) := ev_other hoth 7 (by kernel_rfl) rfl
                          exact step_val ((BigFrame.run_move _ rfl w).trans (by rw [ev_of e7])) rfl
                      · as_aux_lemma =>
                          intro a w hb hoth hdep
                          refine step_on ((want_dep hdep 32 230 false rfl (by kernel_rfl) (by kernel_rfl) (fun v h => h)).trans rfl) ?_
                          have e25 : a.tmps[25]? = some (.int .i64 (k2 : Int)) := ev_other hoth 25 (by kernel_rfl) rfl
                          exact step_val ((BigFrame.run_move _ rfl w).trans (by rw [ev_of e25])) rfl
                      · as_aux_lemma =>
                          intro a w hb hoth hdep
                          refine step_on ((want_dep hdep 32 230 false rfl (by kernel_rfl) (by kernel_rfl) (fun v h => h)).trans rfl) ?_
                          obtain ⟨v33, e231, hv33⟩ := ev_dep hdep 33 231 (by kernel_rfl) (by kernel_rfl)
                          replace hv33 : v33 = .pointer (some ⟨c, 0, none⟩) := hv33
                          subst hv33
                          obtain ⟨v34, e232, hv34⟩ := ev_dep hdep 34 232 (by kernel_rfl) (by kernel_rfl)
                          replace hv34 : v34 = .int .i64 (k2 : Int) := hv34
                          subst hv34
                          refine step_call (f := 21) (args := #[.pointer (some ⟨c, 0, none⟩), .int .i64 (k2 : Int)]) ?_ ?_
                          · simp [go_sem, e231, e232]
                          · have hcx := oJobs (H4.out.1.below hb).q.c_ (k2 : Int)
                            (with_reducible refine hcx.mono ?_)
                            clear hcx
                            rintro e w2 ⟨A, n, c', rfl, hO, hB⟩
                            exact ⟨_, rfl, ⟨A, n, c', rfl, OwnL.rd (enc := encI) (sz := 1) (fun _ => rfl) hO, by have := hO.len; have := HF.out.rl (k2 : Int); omega⟩, hB⟩
                      · as_aux_lemma =>
                          intro a w hb hoth hdep
                          refine step_on ((want_dep hdep 32 230 false rfl (by kernel_rfl) (by kernel_rfl) (fun v h => h)).trans rfl) ?_
                          have e9 : a.tmps[9]? = some (.pointer (some ⟨bx, 0, none⟩)) := ev_other hoth 9 (by kernel_rfl) rfl
                          obtain ⟨x0, x1, g0, g1, g2, h0, h1, h2⟩ := HK.out w hb
                          refine step_val (x := aggC (some ⟨ab2, ao2, none⟩) nn1 nc1 J1 jn1 jc1) ?_ rfl
                          simp [go_sem, e9, x0, x1, aggC]
                      · as_aux_lemma =>
                          intro a w hb hoth hdep
                          refine step_on ((want_dep hdep 32 230 false rfl (by kernel_rfl) (by kernel_rfl) (fun v h => h)).trans rfl) ?_
                          have e25 : a.tmps[25]? = some (.int .i64 (k2 : Int)) := ev_other hoth 25 (by kernel_rfl) rfl
                          exact step_val ((BigFrame.run_move _ rfl w).trans (by rw [ev_of e25])) rfl
                      · as_aux_lemma =>
                          intro a w hb hoth hdep
                          refine step_on ((want_dep hdep 32 230 false rfl (by kernel_rfl) (by kernel_rfl) (fun v h => h)).trans rfl) ?_
                          obtain ⟨v36, e234, hv36⟩ := ev_dep hdep 36 234 (by kernel_rfl) (by kernel_rfl)
                          replace hv36 : v36 = aggC (some ⟨ab2, ao2, none⟩) nn1 nc1 J1 jn1 jc1 := hv36
                          subst hv36
                          obtain ⟨v37, e235, hv37⟩ := ev_dep hdep 37 235 (by kernel_rfl) (by kernel_rfl)
                          replace hv37 : v37 = .int .i64 (k2 : Int) := hv37
                          subst hv37
                          refine step_call (f := 22) (args := #[aggC (some ⟨ab2, ao2, none⟩) nn1 nc1 J1 jn1 jc1, .int .i64 (k2 : Int)]) ?_ ?_
                          · simp [go_sem, e234, e235]
                          · have hcx := rJobs_t (N := (some ⟨ab2, ao2, none⟩)) (nn := nn1) (nc := nc1) (jc := jc1) (H4.out.1.below hb).q.rj HF.out.j9 ((k2 : Int))
                            (with_reducible refine hcx.mono ?_)
                            clear hcx
                            rintro e w2 ⟨A, n, c', rfl, hO, hn, hB⟩
                            rw [HF.out.rows] at hO
                            exact ⟨_, rfl, ⟨A, n, c', rfl, hO, hn⟩, hB⟩
                      · as_aux_lemma =>
                          intro a w hb hoth hdep
                          refine step_on ((want_dep hdep 32 230 false rfl (by kernel_rfl) (by kernel_rfl) (fun v h => h)).trans rfl) ?_
                          obtain ⟨v35, e233, hv35⟩ := ev_dep hdep 35 233 (by kernel_rfl) (by kernel_rfl)
                          obtain ⟨A35, n35, c35, hs35, hr35, hn35⟩ := hv35
                          subst hs35
                          obtain ⟨v38, e236, hv38⟩ := ev_dep hdep 38 236 (by kernel_rfl) (by kernel_rfl)
                          obtain ⟨A38, n38, c38, hs38, hr38, hn38⟩ := hv38
                          subst hs38
                          refine step_call (f := 17) (args := #[.slice A35 n35 c35, .slice A38 n38 c38]) ?_ ?_
                          · simp [go_sem, e233, e236]
                          · have hcx := same01_t _ _ _ c35 _ c38 _ w hr35 hr38 (by omega) (by omega)
                            (with_reducible refine hcx.mono ?_)
                            clear hcx
                            rintro e w2 ⟨rfl, q_, rfl⟩
                            exact ⟨_, rfl, rfl, Below.drewN_ (Below.refl _ _) q_⟩
                      · as_aux_lemma =>
                          intro a w hb hoth hdep
                          refine step_on ((want_dep hdep 32 230 false rfl (by kernel_rfl) (by kernel_rfl) (fun v h => h)).trans rfl) ?_
                          obtain ⟨v39, e237, hv39⟩ := ev_dep hdep 39 237 (by kernel_rfl) (by kernel_rfl)
                          replace hv39 : v39 = .bool true := hv39
                          subst hv39
                          refine step_val (x := .bool false) ?_ rfl
                          simp [go_sem, e237]
                      · as_aux_lemma =>
                          intro a w hb hoth hdep
                          refine step_on (want_none rfl) ?_
                          obtain ⟨v32, e230, hv32⟩ := ev_dep hdep 32 230 (by kernel_rfl) (by kernel_rfl)
                          replace hv32 : v32 = .bool false := hv32
                          subst hv32
                          obtain ⟨v40, e238, hv40⟩ := ev_dep hdep 40 238 (by kernel_rfl) (by kernel_rfl)
                          replace hv40 : v40 = .bool false := hv40
                          subst hv40
                          refine step_val (x := .bool false) ?_ rfl
                          simp [go_sem, e230, e238]
                      case fin =>
                        intro wz hbz
                        rintro _ rfl
                        rintro _ rfl
                        rintro _ rfl
                        rintro _ rfl
                        rintro _ rfl
                        rintro _ rfl
                        rintro _ rfl
                        rintro _ rfl
                        rintro _ rfl
                        rintro _ rfl
                        rintro _ rfl
                        rintro _ rfl
                        rintro _ rfl
                        rintro _ rfl
                        rintro _ rfl
                        rintro _ rfl
                        rintro _ rfl
                        rintro _ rfl
                        rintro _ rfl
                        rintro _ rfl
                        rintro _ rfl
                        rintro _ rfl
                        rintro _ rfl
                        rintro _ rfl
                        rintro _ rfl
                        rintro _ rfl
                        rintro _ rfl
                        rintro _ rfl
                        rintro _ rfl
                        rintro _ rfl
                        rintro _ rfl
                        rintro _ rfl
                        rintro _ rfl
                        rintro _ rfl
                        rintro _ rfl
                        rintro _ ⟨_, _, _, rfl, _, _⟩
                        rintro _ rfl
                        rintro _ rfl
                        rintro _ ⟨_, _, _, rfl, _, _⟩
                        rintro _ rfl
                        rintro _ rfl
                        rintro _ rfl
                        refine FinC.nil ?_
                        refine hMK _ _ (Met.intro (hRJ _ _ ?_))
                        (repeat apply Exists.intro)
                        refine ⟨?rel, rfl⟩
                        case rel => exact ⟨rfl, H4.out.1.below hbz⟩
                    case rest =>
                      obtain ⟨rfl, h39⟩ := hcut
                      have H39 := Lib.hid h39
                      clear h39 x0 x1 g0 g1 g2 h0 h1 h2
                      go_wp2
                      go_roundw
                      case rel => exact ⟨i + 1, by omega, by first | go_num | (congr 1; omega), H39.out⟩
                      case measure => simp [intOf]; omega
                · by_cases hle : k2 ≤ nn1
                  · as_aux_lemma =>
                      have hk0 : (0 : Int) ≤ (k2 : Int) := by omega
                      have hcx := oNeed_no HR2.out.q.c_ k2 (.inr (by have := HF.out.ln; omega))
                      obtain ⟨x0, x1⟩ := HR2.out.x
                      have xl := HR2.out.q.blk.lt
                      go_wp2_with fail
                      (with_reducible refine hcx.mono ?_)
                      clear hcx x0 x1 xl
                      rintro e w3 ⟨rfl, hB3⟩
                      have hB4 : Below w3.heap.size w3 (w3.alloc (.cells #[.int .i64 0, .int .i64 0, .int .i64 0] 24)) := (Below.refl _ _).alloc (Nat.le_refl _) _
                      have H4 := Lib.hid (And.intro ((HR2.out.below hB3).below hB4) (Blk.new w3 24 #[.int .i64 0, .int .i64 0, .int .i64 0]))
                      clear hB3 hB4
                      go_wp2
                      generalize w3.alloc (.cells #[.int .i64 0, .int .i64 0, .int .i64 0] 24) = w4 at H4 ⊢
                      obtain ⟨b26, hb26⟩ : ∃ b26, w3.heap.size = b26 := ⟨_, rfl⟩
                      rw [hb26] at H4
                      try rw [hb26]
                      clear hb26
                      have HK := Lib.hid (show ∀ w', Below w4.heap.size w4 w' → (w'.cell? ⟨bx, 0, none⟩ = some (.slice N1 nn1 nc1) ∧ w'.cell? ⟨bx, 1, none⟩ = some (.slice J1 jn1 jc1) ∧ w'.cell? ⟨b26, 0, none⟩ = some (.int .i64 0) ∧ w'.cell? ⟨b26, 1, none⟩ = some (.int .i64 0) ∧ w'.cell? ⟨b26, 2, none⟩ = some (.int .i64 0)) from fun w' hb => ⟨(Q31.below H4.out.1 hb).x.1, (Q31.below H4.out.1 hb).x.2, (Blk.below H4.out.2 hb H4.out.2.lt).cell 0, (Blk.below H4.out.2 hb H4.out.2.lt).cell 1, (Blk.below H4.out.2 hb H4.out.2.lt).cell 2⟩)
                      obtain ⟨x0, x1, g0, g1, g2⟩ := HK.out _ (Below.refl _ _)
                      have hne : ∀ W : World, (binOp .neq 24 (.agg #[.int .i64 0, .int .i64 0, .int .i64 0]) (.agg #[.int .i64 0, .int .i64 0, .int .i64 0])).run Try.prog W = .ok (.bool false) W := fun W => (neqRes ⟨0, 0, 0⟩ ⟨0, 0, 0⟩ W).trans (by rw [decide_eq_true rfl]; rfl)
                      go_cut [239] from 185 to 238 (fun v239 wx => v239 = .bool false ∧ Q31 w wx c z bx b5 m1 S1 Z1 jobs1 N1 nn1 nc1 J1 jn1 jc1 need)
                      case first =>
                        rename_i Jc Kc hRJ hMK
                        refine wp_region_by 198 [eqV (.bool false), eqV (.int .i64 (k2 : Int)), eqV (.bool true), eqV (.bool true), eqV (.int .i64 (k2 : Int)), eqV (.pointer (some ⟨bx, 0, none⟩)), eqV (.slice N1 nn1 nc1), eqV (.int .i64 (nn1 : Int)), eqV (.bool false), eqV (.bool false), eqV (.bool false), eqV (.bool false), eqV (.bool false), eqV (.bool false), eqV (undef), eqV (undef), eqV (undef), eqV (undef), eqV (undef), eqV (undef), eqV (undef), eqV (.bool false), eqV (.bool false), eqV (.bool false), eqV (.bool false), eqV (.bool true), eqV (.bool true), eqV (.agg #[.int .i64 0, .int .i64 0, .int .i64 0]), eqV (.agg #[.int .i64 0, .int .i64 0, .int .i64 0]), eqV (.bool false), eqV (.bool false), eqV (.bool false), eqV (.bool false), eqV (.pointer (some ⟨c, 0, none⟩)), eqV (.int .i64 (k2 : Int)), rdV encI 1 (m1.rows (k2 : Int)) 1000, eqV (aggC N1 nn1 nc1 J1 jn1 jc1), eqV (.int .i64 (k2 : Int)), rdV encI 1 (m1.rows (k2 : Int)) 1000, eqV (.bool true), eqV (.bool false), eqV (.bool false)] (by kernel_rfl) (by kernel_rfl) rfl (by kernel_rfl) ⟨?_, ?_, ?_, ?_, ?_, ?_, ?_, ?_, ?_, ?_, ?_, ?_, ?_, ?_, ?_, ?_, ?_, ?_, ?_, ?_, ?_, ?_, ?_, ?_, ?_, ?_, ?_, ?_, ?_, ?_, ?_, ?_, ?_, ?_, ?_, ?_, ?_, ?_, ?_, ?_, ?_, ?_, trivial⟩ ?fin
                        · as_aux_lemma =>
                            intro a w hb hoth hdep
                            refine step_on (want_none rfl) ?_
                            have e27 : a.tmps[27]? = some (.bool false) := ev_other hoth 27 (by kernel_rfl) rfl
                            exact step_val ((BigFrame.run_move _ rfl w).trans (by rw [ev_of e27])) rfl
                        · as_aux_lemma =>
                            intro a w hb hoth hdep
                            refine step_on (want_none rfl) ?_
                            have e25 : a.tmps[25]? = some (.int .i64 (k2 : Int)) := ev_other hoth 25 (by kernel_rfl) rfl
                            exact step_val ((BigFrame.run_move _ rfl w).trans (by rw [ev_of e25])) rfl
                        · as_aux_lemma =>
                            intro a w hb hoth hdep
                            refine step_on (want_none rfl) ?_
                            obtain ⟨v1, e199, hv1⟩ := ev_dep hdep 1 199 (by kernel_rfl) (by kernel_rfl)
                            replace hv1 : v1 = .int .i64 (k2 : Int) := hv1
                            subst hv1
                            refine step_val (x := .bool true) ?_ rfl
                            simp [go_sem, e199]
                        · as_aux_lemma =>
                            intro a w hb hoth hdep
                            refine step_on (want_none rfl) ?_
                            obtain ⟨v2, e200, hv2⟩ := ev_dep hdep 2 200 (by kernel_rfl) (by kernel_rfl)
                            replace hv2 : v2 = .bool true := hv2
                            subst hv2
                            exact step_val ((BigFrame.run_move _ rfl w).trans (by rw [ev_of e200])) rfl
                        · as_aux_lemma =>
                            intro a w hb hoth hdep
                            refine step_on ((want_dep hdep 3 201 true rfl (by kernel_rfl) (by kernel_rfl) (fun v h => h)).trans rfl) ?_
                            have e25 : a.tmps[25]? = some (.int .i64 (k2 : Int)) := ev_other hoth 25 (by kernel_rfl) rfl
                            exact step_val ((BigFrame.run_move _ rfl w).trans (by rw [ev_of e25])) rfl
                        · as_aux_lemma =>
                            intro a w hb hoth hdep
                            refine step_on ((want_dep hdep 3 201 true rfl (by kernel_rfl) (by kernel_rfl) (fun v h => h)).trans rfl) ?_
                            have e9 : a.tmps[9]? = some (.pointer (some ⟨bx, 0, none⟩)) := ev_other hoth 9 (by kernel_rfl) rfl
                            refine step_val (x := .pointer (some ⟨bx, 0, none⟩)) ?_ rfl
                            simp [go_sem, e9]
                        · as_aux_lemma =>
                            intro a w hb hoth hdep
                            refine step_on ((want_dep hdep 3 201 true rfl (by kernel_rfl) (by kernel_rfl) (fun v h => h)).trans rfl) ?_
                            obtain ⟨v5, e203, hv5⟩ := ev_dep hdep 5 203 (by kernel_rfl) (by kernel_rfl)
                            replace hv5 : v5 = .pointer (some ⟨bx, 0, none⟩) := hv5
                            subst hv5
                            obtain ⟨x0, x1, g0, g1, g2⟩ := HK.out w hb
                            refine step_val (x := .slice N1 nn1 nc1) ?_ rfl
                            simp [go_sem, e203, x0]
                        · as_aux_lemma =>
                            intro a w hb hoth hdep
                            refine step_on ((want_dep hdep 3 201 true rfl (by kernel_rfl) (by kernel_rfl) (fun v h => h)).trans rfl) ?_
                            obtain ⟨v6, e204, hv6⟩ := ev_dep hdep 6 204 (by kernel_rfl) (by kernel_rfl)
                            replace hv6 : v6 = .slice N1 nn1 nc1 := hv6
                            subst hv6
                            refine step_val (x := .int .i64 (nn1 : Int)) ?_ rfl
                            simp [go_sem, e204]
                        · as_aux_lemma =>
                            intro a w hb hoth hdep
                            refine step_on ((want_dep hdep 3 201 true rfl (by kernel_rfl) (by kernel_rfl) (fun v h => h)).trans rfl) ?_
                            obtain ⟨v4, e202, hv4⟩ := ev_dep hdep 4 202 (by kernel_rfl) (by kernel_rfl)
                            replace hv4 : v4 = .int .i64 (k2 : Int) := hv4
                            subst hv4
                            obtain ⟨v7, e205, hv7⟩ := ev_dep hdep 7 205 (by kernel_rfl) (by kernel_rfl)
                            replace hv7 : v7 = .int .i64 (nn1 : Int) := hv7
                            subst hv7
                            refine step_val (x := .bool false) ?_ rfl
                            simp [go_sem, e202, e205, hk2]
                        · as_aux_lemma =>
                            intro a w hb hoth hdep
                            refine step_on (want_none rfl) ?_
                            obtain ⟨v3, e201, hv3⟩ := ev_dep hdep 3 201 (by kernel_rfl) (by kernel_rfl)
                            replace hv3 : v3 = .bool true := hv3
                            subst hv3
                            obtain ⟨v8, e206, hv8⟩ := ev_dep hdep 8 206 (by kernel_rfl) (by kernel_rfl)
                            replace hv8 : v8 = .bool false := hv8
                            subst hv8
                            refine step_val (x := .bool false) ?_ rfl
                            simp [go_sem, e201, e206]
                        · as_aux_lemma =>
                            intro a w hb hoth hdep
                            refine step_on (want_none rfl) ?_
                            obtain ⟨v0, e198, hv0⟩ := ev_dep hdep 0 198 (by kernel_rfl) (by kernel_rfl)
                            replace hv0 : v0 = .bool false := hv0
                            subst hv0
                            obtain ⟨v9, e207, hv9⟩ := ev_dep hdep 9 207 (by kernel_rfl) (by kernel_rfl)
                            replace hv9 : v9 = .bool false := hv9
                            subst hv9
                            refine step_val (x := .bool false) ?_ rfl
                            simp [go_sem, e198, e207]
                        · as_aux_lemma =>
                            intro a w hb hoth hdep
                            refine step_on (want_none rfl) ?_
                            obtain ⟨v10, e208, hv10⟩ := ev_dep hdep 10 208 (by kernel_rfl) (by kernel_rfl)
                            replace hv10 : v10 = .bool false := hv10
                            subst hv10
                            exact step_val ((BigFrame.run_move _ rfl w).trans (by rw [ev_of e208])) rfl
                        · as_aux_lemma =>
                            intro a w hb hoth hdep
                            refine step_on ((want_dep hdep 11 209 false rfl (by kernel_rfl) (by kernel_rfl) (fun v h => h)).trans rfl) ?_
                            have e27 : a.tmps[27]? = some (.bool false) := ev_other hoth 27 (by kernel_rfl) rfl
                            exact step_val ((BigFrame.run_move _ rfl w).trans (by rw [ev_of e27])) rfl
                        · as_aux_lemma =>
                            intro a w hb hoth hdep
                            refine step_on ((want_dep hdep 11 209 false rfl (by kernel_rfl) (by kernel_rfl) (fun v h => h)).trans rfl) ?_
                            obtain ⟨v12, e210, hv12⟩ := ev_dep hdep 12 210 (by kernel_rfl) (by kernel_rfl)
                            replace hv12 : v12 = .bool false := hv12
                            subst hv12
                            exact step_val ((BigFrame.run_move _ rfl w).trans (by rw [ev_of e210])) rfl
                        · as_aux_lemma =>
                            intro a w hb hoth hdep
                            exact step_off ((want_dep hdep 13 211 false rfl (by kernel_rfl) (by kernel_rfl) (fun v h => h)).trans rfl) rfl
                        · as_aux_lemma =>
                            intro a w hb hoth hdep
                            exact step_off ((want_dep hdep 13 211 false rfl (by kernel_rfl) (by kernel_rfl) (fun v h => h)).trans rfl) rfl
                        · as_aux_lemma =>
                            intro a w hb hoth hdep
                            exact step_off ((want_dep hdep 13 211 false rfl (by kernel_rfl) (by kernel_rfl) (fun v h => h)).trans rfl) rfl
                        · as_aux_lemma =>
                            intro a w hb hoth hdep
                            exact step_off ((want_dep hdep 13 211 false rfl (by kernel_rfl) (by kernel_rfl) (fun v h => h)).trans rfl) rfl
                        · as_aux_lemma =>
                            intro a w hb hoth hdep
                            exact step_off ((want_dep hdep 13 211 false rfl (by kernel_rfl) (by kernel_rfl) (fun v h => h)).trans rfl) rfl
                        · as_aux_lemma =>
                            intro a w hb hoth hdep
                            exact step_off ((want_dep hdep 13 211 false rfl (by kernel_rfl) (by kernel_rfl) (fun v h => h)).trans rfl) rfl
                        · as_aux_lemma =>
                            intro a w hb hoth hdep
                            exact step_off ((want_dep hdep 13 211 false rfl (by kernel_rfl) (by kernel_rfl) (fun v h => h)).trans rfl) rfl
                        · as_aux_lemma =>
                            intro a w hb hoth hdep
                            refine step_on ((want_dep hdep 11 209 false rfl (by kernel_rfl) (by kernel_rfl) (fun v h => h)).trans rfl) ?_
                            obtain ⟨v13, e211, hv13⟩ := ev_dep hdep 13 211 (by kernel_rfl) (by kernel_rfl)
                            replace hv13 : v13 = .bool false := hv13
                            subst hv13
                            obtain ⟨v20, e218, hv20⟩ := ev_dep hdep 20 218 (by kernel_rfl) (by kernel_rfl)
                            replace hv20 : v20 = undef := hv20
                            subst hv20
                            refine step_val (x := .bool false) ?_ rfl
                            simp [go_sem, e211, e218]
                        · as_aux_lemma =>
                            intro a w hb hoth hdep
                            refine step_on (want_none rfl) ?_
                            obtain ⟨v11, e209, hv11⟩ := ev_dep hdep 11 209 (by kernel_rfl) (by kernel_rfl)
                            replace hv11 : v11 = .bool false := hv11
                            subst hv11
                            obtain ⟨v21, e219, hv21⟩ := ev_dep hdep 21 219 (by kernel_rfl) (by kernel_rfl)
                            replace hv21 : v21 = .bool false := hv21
                            subst hv21
                            refine step_val (x := .bool false) ?_ rfl
                            simp [go_sem, e209, e219]
                        · as_aux_lemma =>
                            intro a w hb hoth hdep
                            refine step_on (want_none rfl) ?_
                            obtain ⟨v22, e220, hv22⟩ := ev_dep hdep 22 220 (by kernel_rfl) (by kernel_rfl)
                            replace hv22 : v22 = .bool false := hv22
                            subst hv22
                            exact step_val ((BigFrame.run_move _ rfl w).trans (by rw [ev_of e220])) rfl
                        · as_aux_lemma =>
                            intro a w hb hoth hdep
                            refine step_on ((want_dep hdep 23 221 false rfl (by kernel_rfl) (by kernel_rfl) (fun v h => h)).trans rfl) ?_
                            have e27 : a.tmps[27]? = some (.bool false) := ev_other hoth 27 (by kernel_rfl) rfl
                            exact step_val ((BigFrame.run_move _ rfl w).trans (by rw [ev_of e27])) rfl
                        · as_aux_lemma =>
                            intro a w hb hoth hdep
                            refine step_on ((want_dep hdep 23 221 false rfl (by kernel_rfl) (by kernel_rfl) (fun v h => h)).trans rfl) ?_
                            obtain ⟨v24, e222, hv24⟩ := ev_dep hdep 24 222 (by kernel_rfl) (by kernel_rfl)
                            replace hv24 : v24 = .bool false := hv24
                            subst hv24
                            refine step_val (x := .bool true) ?_ rfl
                            simp [go_sem, e222]
                        · as_aux_lemma =>
                            intro a w hb hoth hdep
                            refine step_on ((want_dep hdep 23 221 false rfl (by kernel_rfl) (by kernel_rfl) (fun v h => h)).trans rfl) ?_
                            obtain ⟨v25, e223, hv25⟩ := ev_dep hdep 25 223 (by kernel_rfl) (by kernel_rfl)
                            replace hv25 : v25 = .bool true := hv25
                            subst hv25
                            exact step_val ((BigFrame.run_move _ rfl w).trans (by rw [ev_of e223])) rfl
                        · as_aux_lemma =>
                            intro a w hb hoth hdep
                            refine step_on ((want_dep hdep 26 224 true rfl (by kernel_rfl) (by kernel_rfl) (fun v h => h)).trans rfl) ?_
                            have e26 : a.tmps[26]? = some (.pointer (some ⟨b26, 0, none⟩)) := ev_other hoth 26 (by kernel_rfl) rfl
                            obtain ⟨x0, x1, g0, g1, g2⟩ := HK.out w hb
                            refine step_val (x := .agg #[.int .i64 0, .int .i64 0, .int .i64 0]) ?_ rfl
                            simp [go_sem, e26, g0, g1, g2]
                        · as_aux_lemma =>
                            intro a w hb hoth hdep
                            refine step_on ((want_dep hdep 26 224 true rfl (by kernel_rfl) (by kernel_rfl) (fun v h => h)).trans rfl) ?_
                            refine step_val (x := .agg #[.int .i64 0, .int .i64 0, .int .i64 0]) ?_ rfl
                            simp [go_sem]
                        · as_aux_lemma =>
                            intro a w hb hoth hdep
                            refine step_on ((want_dep hdep 26 224 true rfl (by kernel_rfl) (by kernel_rfl) (fun v h => h)).trans rfl) ?_
                            obtain ⟨v27, e225, hv27⟩ := ev_dep hdep 27 225 (by kernel_rfl) (by kernel_rfl)
                            replace hv27 : v27 = .agg #[.int .i64 0, .int .i64 0, .int .i64 0] := hv27
                            subst hv27
                            obtain ⟨v28, e226, hv28⟩ := ev_dep hdep 28 226 (by kernel_rfl) (by kernel_rfl)
                            replace hv28 : v28 = .agg #[.int .i64 0, .int .i64 0, .int .i64 0] := hv28
                            subst hv28
                            refine step_val (x := .bool false) ?_ rfl
                            simp [go_sem, e225, e226, hne]
                        · as_aux_lemma =>
                            intro a w hb hoth hdep
                            refine step_on ((want_dep hdep 23 221 false rfl (by kernel_rfl) (by kernel_rfl) (fun v h => h)).trans rfl) ?_
                            obtain ⟨v26, e224, hv26⟩ := ev_dep hdep 26 224 (by kernel_rfl) (by kernel_rfl)
                            replace hv26 : v26 = .bool true := hv26
                            subst hv26
                            obtain ⟨v29, e227, hv29⟩ := ev_dep hdep 29 227 (by kernel_rfl) (by kernel_rfl)
                            replace hv29 : v29 = .bool false := hv29
                            subst hv29
                            refine step_val (x := .bool false) ?_ rfl
                            simp [go_sem, e224, e227]
                        · as_aux_lemma =>
                            intro a w hb hoth hdep
                            refine step_on (want_none rfl) ?_
                            obtain ⟨v23, e221, hv23⟩ := ev_dep hdep 23 221 (by kernel_rfl) (by kernel_rfl)
                            replace hv23 : v23 = .bool false := hv23
                            subst hv23
                            obtain ⟨v30, e228, hv30⟩ := ev_dep hdep 30 228 (by kernel_rfl) (by kernel_rfl)
                            replace hv30 : v30 = .bool false := hv30
                            subst hv30
                            refine step_val (x := .bool false) ?_ rfl
                            simp [go_sem, e221, e228]
                        · as_aux_lemma =>
                            intro a w hb hoth hdep
                            refine step_on (want_none rfl) ?_
                            obtain ⟨v31, e229, hv31⟩ := ev_dep hdep 31 229 (by kernel_rfl) (by kernel_rfl)
                            replace hv31 : v31 = .bool false := hv31
                            subst hv31
                            exact step_val ((BigFrame.run_move _ rfl w).trans (by rw [ev_of e229])) rfl
                        · as_aux_lemma =>
                            intro a w hb hoth hdep
                            refine step_on ((want_dep hdep 32 230 false rfl (by kernel_rfl) (by kernel_rfl) (fun v h => h)).trans rfl) ?_
                            have e7 : a.tmps[7]? = some (.pointer (some ⟨c, 0, none⟩)) := ev_other hoth 7 (by kernel_rfl) rfl
                            exact step_val ((BigFrame.run_move _ rfl w).trans (by rw [ev_of e7])) rfl
                        · as_aux_lemma =>
                            intro a w hb hoth hdep
                            refine step_on ((want_dep hdep 32 230 false rfl (by kernel_rfl) (by kernel_rfl) (fun v h => h)).trans rfl) ?_
                            have e25 : a.tmps[25]? = some (.int .i64 (k2 : Int)) := ev_other hoth 25 (by kernel_rfl) rfl
                            exact step_val ((BigFrame.run_move _ rfl w).trans (by rw [ev_of e25])) rfl
                        · as_aux_lemma =>
                            intro a w hb hoth hdep
                            refine step_on ((want_dep hdep 32 230 false rfl (by kernel_rfl) (by kernel_rfl) (fun v h => h)).trans rfl) ?_
                            obtain ⟨v33, e231, hv33⟩ := ev_dep hdep 33 231 (by kernel_rfl) (by kernel_rfl)
                            replace hv33 : v33 = .pointer (some ⟨c, 0, none⟩) := hv33
                            subst hv33
                            obtain ⟨v34, e232, hv34⟩ := ev_dep hdep 34 232 (by kernel_rfl) (by kernel_rfl)
                            replace hv34 : v34 = .int .i64 (k2 : Int) := hv34
                            subst hv34
                            refine step_call (f := 21) (args := #[.pointer (some ⟨c, 0, none⟩), .int .i64 (k2 : Int)]) ?_ ?_
                            · simp [go_sem, e231, e232]
                            · have hcx := oJobs (H4.out.1.below hb).q.c_ (k2 : Int)
                              (with_reducible refine hcx.mono ?_)
                              clear hcx
                              rintro e w2 ⟨A, n, c', rfl, hO, hB⟩
                              exact ⟨_, rfl, ⟨A, n, c', rfl, OwnL.rd (enc := encI) (sz := 1) (fun _ => rfl) hO, by have := hO.len; have := HF.out.rl (k2 : Int); omega⟩, hB⟩
                        · as_aux_lemma =>
                            intro a w hb hoth hdep
                            refine step_on ((want_dep hdep 32 230 false rfl (by kernel_rfl) (by kernel_rfl) (fun v h => h)).trans rfl) ?_
                            have e9 : a.tmps[9]? = some (.pointer (some ⟨bx, 0, none⟩)) := ev_other hoth 9 (by kernel_rfl) rfl
                            obtain ⟨x0, x1, g0, g1, g2⟩ := HK.out w hb
                            refine step_val (x := aggC N1 nn1 nc1 J1 jn1 jc1) ?_ rfl
                            simp [go_sem, e9, x0, x1, aggC]
                        · as_aux_lemma =>
                            intro a w hb hoth hdep
                            refine step_on ((want_dep hdep 32 230 false rfl (by kernel_rfl) (by kernel_rfl) (fun v h => h)).trans rfl) ?_
                            have e25 : a.tmps[25]? = some (.int .i64 (k2 : Int)) := ev_other hoth 25 (by kernel_rfl) rfl
                            exact step_val ((BigFrame.run_move _ rfl w).trans (by rw [ev_of e25])) rfl
                        · as_aux_lemma =>
                            intro a w hb hoth hdep
                            refine step_on ((want_dep hdep 32 230 false rfl (by kernel_rfl) (by kernel_rfl) (fun v h => h)).trans rfl) ?_
                            obtain ⟨v36, e234, hv36⟩ := ev_dep hdep 36 234 (by kernel_rfl) (by kernel_rfl)
                            replace hv36 : v36 = aggC N1 nn1 nc1 J1 jn1 jc1 := hv36
                            subst hv36
                            obtain ⟨v37, e235, hv37⟩ := ev_dep hdep 37 235 (by kernel_rfl) (by kernel_rfl)
                            replace hv37 : v37 = .int .i64 (k2 : Int) := hv37
                            subst hv37
                            refine step_call (f := 22) (args := #[aggC N1 nn1 nc1 J1 jn1 jc1, .int .i64 (k2 : Int)]) ?_ ?_
                            · simp [go_sem, e234, e235]
                            · have hcx := rJobs_t (N := N1) (nn := nn1) (nc := nc1) (jc := jc1) (H4.out.1.below hb).q.rj HF.out.j9 ((k2 : Int))
                              (with_reducible refine hcx.mono ?_)
                              clear hcx
                              rintro e w2 ⟨A, n, c', rfl, hO, hn, hB⟩
                              rw [HF.out.rows] at hO
                              exact ⟨_, rfl, ⟨A, n, c', rfl, hO, hn⟩, hB⟩
                        · as_aux_lemma =>
                            intro a w hb hoth hdep
                            refine step_on ((want_dep hdep 32 230 false rfl (by kernel_rfl) (by kernel_rfl) (fun v h => h)).trans rfl) ?_
                            obtain ⟨v35, e233, hv35⟩ := ev_dep hdep 35 233 (by kernel_rfl) (by kernel_rfl)
                            obtain ⟨A35, n35, c35, hs35, hr35, hn35⟩ := hv35
                            subst hs35
                            obtain ⟨v38, e236, hv38⟩ := ev_dep hdep 38 236 (by kernel_rfl) (by kernel_rfl)
                            obtain ⟨A38, n38, c38, hs38, hr38, hn38⟩ := hv38
                            subst hs38
                            refine step_call (f := 17) (args := #[.slice A35 n35 c35, .slice A38 n38 c38]) ?_ ?_
                            · simp [go_sem, e233, e236]
                            · have hcx := same01_t _ _ _ c35 _ c38 _ w hr35 hr38 (by omega) (by omega)
                              (with_reducible refine hcx.mono ?_)
                              clear hcx
                              rintro e w2 ⟨rfl, q_, rfl⟩
                              exact ⟨_, rfl, rfl, Below.drewN_ (Below.refl _ _) q_⟩
                        · as_aux_lemma =>
                            intro a w hb hoth hdep
                            refine step_on ((want_dep hdep 32 230 false rfl (by kernel_rfl) (by kernel_rfl) (fun v h => h)).trans rfl) ?_
                            obtain ⟨v39, e237, hv39⟩ := ev_dep hdep 39 237 (by kernel_rfl) (by kernel_rfl)
                            replace hv39 : v39 = .bool true := hv39
                            subst hv39
                            refine step_val (x := .bool false) ?_ rfl
                            simp [go_sem, e237]
                        · as_aux_lemma =>
                            intro a w hb hoth hdep
                            refine step_on (want_none rfl) ?_
                            obtain ⟨v32, e230, hv32⟩ := ev_dep hdep 32 230 (by kernel_rfl) (by kernel_rfl)
                            replace hv32 : v32 = .bool false := hv32
                            subst hv32
                            obtain ⟨v40, e238, hv40⟩ := ev_dep hdep 40 238 (by kernel_rfl) (by kernel_rfl)
                            replace hv40 : v40 = .bool false := hv40
                            subst hv40
                            refine step_val (x := .bool false) ?_ rfl
                            simp [go_sem, e230, e238]
                        case fin =>
                          intro wz hbz
                          rintro _ rfl
                          rintro _ rfl
                          rintro _ rfl
                          rintro _ rfl
                          rintro _ rfl
                          rintro _ rfl
                          rintro _ rfl
                          rintro _ rfl
                          rintro _ rfl
                          rintro _ rfl
                          rintro _ rfl
                          rintro _ rfl
                          rintro _ rfl
                          rintro _ rfl
                          rintro _ rfl
                          rintro _ rfl
                          rintro _ rfl
                          rintro _ rfl
                          rintro _ rfl
                          rintro _ rfl
                          rintro _ rfl
                          rintro _ rfl
                          rintro _ rfl
                          rintro _ rfl
                          rintro _ rfl
                          rintro _ rfl
                          rintro _ rfl
                          rintro _ rfl
                          rintro _ rfl
                          rintro _ rfl
                          rintro _ rfl
                          rintro _ rfl
                          rintro _ rfl
                          rintro _ rfl
                          rintro _ rfl
                          rintro _ ⟨_, _, _, rfl, _, _⟩
                          rintro _ rfl
                          rintro _ rfl
                          rintro _ ⟨_, _, _, rfl, _, _⟩
                          rintro _ rfl
                          rintro _ rfl
                          rintro _ rfl
                          refine FinC.nil ?_
                          refine hMK _ _ (Met.intro (hRJ _ _ ?_))
                          (repeat apply Exists.intro)
                          refine ⟨?rel, rfl⟩
                          case rel => exact ⟨rfl, H4.out.1.below hbz⟩
                      case rest =>
                        obtain ⟨rfl, h39⟩ := hcut
                        have H39 := Lib.hid h39
                        clear h39 x0 x1 g0 g1 g2
                        go_wp2
                        go_roundw
                        case rel => exact ⟨i + 1, by omega, by first | go_num | (congr 1; omega), H39.out⟩
                        case measure => simp [intOf]; omega
                  · as_aux_lemma =>
                      obtain ⟨x0, x1⟩ := HR2.out.x
                      have xl := HR2.out.q.blk.lt
                      go_wp2
                      go_roundw
                      case rel => exact ⟨k + 1, by omega, by go_num, S1, Z1, jobs1, N1, nn1, nc1, J1, jn1, jc1, by rw [HR.out]; exact HR2.out.q, by rw [HR.out]; exact HRJ.out, HNJ.out.1, HNJ.out.2, HR2.out.f⟩
                      case measure => simp [intOf]; omega
    · as_aux_lemma =>
        have HX := Lib.hid (And.intro hQ.bel h5r)
        clear hQ hRJ h5r hnn hjn
        have f0 := HX.out.2.cell 0
        have f1 := HX.out.2.cell 1
        have f2 := HX.out.2.cell 2
        have fl := HX.out.2.lt
        simp only [List.getElem?_toArray, List.getElem?_cons_zero, List.getElem?_cons_succ] at f0 f1 f2
        go_wp2_with fail
        (with_reducible refine (cAdd_nil _ _ _).mono ?_)
        clear f0 f1 f2 fl
        rintro e w2 ⟨rfl, hB2⟩
        have H2 := Lib.hid (And.intro (Below.next HX.out.1 hB2) (HX.out.2.below hB2 HX.out.2.lt))
        clear hB2
        have f0 := H2.out.2.cell 0
        have f1 := H2.out.2.cell 1
        have f2 := H2.out.2.cell 2
        have fl := H2.out.2.lt
        simp only [List.getElem?_toArray, List.getElem?_cons_zero, List.getElem?_cons_succ] at f0 f1 f2
        go_wp2_with fail
        (with_reducible refine (cOf_nil _ _).mono ?_)
        clear f0 f1 f2 fl
        rintro e w3 ⟨rfl, hB3⟩
        have H3 := Lib.hid (Below.next H2.out.1 hB3)
        clear hB3
        go_wp2_with fail
        (with_reducible refine (cNeed_nil _ _).mono ?_)
        rintro e w4 ⟨rfl, hB4⟩
        have H4 := Lib.hid (Below.next (Below.next H3.out hB4) ((Below.refl _ _).alloc (Nat.le_refl _) (.cells #[.int .i64 0, .int .i64 0, .int .i64 0] 24)))
        clear hB4
        go_wp2_with fail
        (with_reducible refine (cClass_nil _ _).mono ?_)
        rintro e w5 ⟨rfl, hw5⟩
        subst hw5
        generalize w4.alloc (.cells #[.int .i64 0, .int .i64 0, .int .i64 0] 24) = w5 at H4 ⊢
        go_wp2_with (first
            | (go_at_call 13; with_reducible refine (cDrop_nil _ _).mono ?_; rintro e w6 ⟨rfl, rfl⟩)
            | (go_at_call 21; with_reducible refine (cJobs_nil _ _).mono ?_; rintro e w6 ⟨rfl, rfl⟩)
            | (go_at_call 18; with_reducible refine (cLive_nil _).mono ?_; rintro e w6 ⟨rfl, rfl⟩)
            | (go_at_call 7; with_reducible refine (awake30 _).mono ?_; rintro e w7 ⟨rfl, hB7⟩; have H7 := Lib.hid (Below.next H4.out hB7); clear hB7))
        go_ret
        exact ⟨rfl, H7.out⟩

end Go.Proofs.Ythhnocnkicoimaa
