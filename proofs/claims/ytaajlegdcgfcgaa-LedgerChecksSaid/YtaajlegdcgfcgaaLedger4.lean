/-
  LAYER 45 (ledger): Check.
-/
import Derived.Test.YtaajlegdcgfcgaaLedger3
set_option linter.unusedVariables false
set_option linter.unusedSimpArgs false
namespace Go.Proofs.Ytaajlegdcgfcgaa
open Go.RowKit Go.Maps

theorem askS_len (k : Nat) (s : LSt) (r : LRow) : (askS k s r).hr.length ≤ s.hr.length + 1 ∧ (askS k s r).dr.length ≤ s.dr.length + 1 := by
  match k with
  | 0 => exact ⟨Nat.le_succ _, Nat.le_succ _⟩
  | 1 => exact ⟨Nat.le_succ _, Nat.le_succ _⟩
  | 2 =>
    refine ⟨?_, Nat.le_succ _⟩
    show (epochsR s.hr r).length ≤ _
    unfold epochsR
    split
    · rw [length_putR]; split <;> omega
    · omega
  | k + 3 =>
    refine ⟨Nat.le_succ _, ?_⟩
    show (holdsR s.dr r).length ≤ _
    unfold holdsR
    split
    · rw [length_putR]; split <;> omega
    · split
      · have := List.length_filter_le (· != r.job) s.dr
        omega
      · omega
theorem asksE_step {m k : Nat} {s : LSt} {r : LRow} (h : askE k s r = 0) : asksE (m + 1) k s r = asksE m (k + 1) (askS k s r) r := by simp only [asksE, if_pos h]
theorem asksE_stop {m k : Nat} {s : LSt} {r : LRow} (h : askE k s r ≠ 0) : asksE (m + 1) k s r = askE k s r := by simp only [asksE, if_neg h]
theorem Rd.drop_cons {α : Type} {l : List α} {k : Nat} {x : α} (h : l[k]? = some x) : l.drop k = x :: l.drop (k + 1) := by
  obtain ⟨hlt, rfl⟩ := List.getElem?_eq_some_iff.1 h
  exact List.drop_eq_getElem_cons hlt
/-- What one rule's call leaves as it was. -/
theorem kept_all {w0 wr w2 : World} {b : LB} {g rb : Nat} {t1 t2 : TypeId} {fs cs : Array Value} (hk : Kept b.has wr w2) (hG : w0.heap.size ≤ g ∧ ∀ i, b.has i → w0.heap.size ≤ i ∧ i < g) (hg : Blk wr g t1 fs) (hrb : Blk wr rb t2 cs) (hl : g < rb) (hB : Below w0.heap.size w0 wr) :
    Blk w2 g t1 fs ∧ Blk w2 rb t2 cs ∧ Below w0.heap.size w0 w2 :=
  ⟨hg.kept hk (fun h => by have := hG.2 _ h; omega), hrb.kept hk (fun h => by have := hG.2 _ h; omega), hB.trans (hk.below hB.size (fun i hi h => by have := hG.2 _ h; omega))⟩

set_option maxRecDepth 100000 in
set_option maxHeartbeats 400000 in
theorem check1 (A : Option Addr) (n c : Nat) (l : List LRow) (w : World) (h : Rd encR 7 w A n l) (hw : ∀ r ∈ l, wfR r) (hn : n ≤ 100000) :
    Calls Try.prog 46 #[.slice A n c] w fun e w' => e = .returned (.tuple #[.int .i64 ((checkL 0 LSt.zero l).1 : Int), .int .i64 (checkL 0 LSt.zero l).2]) ∧ Below w.heap.size w w' := by
  have HW := Lib.hid hw
  clear hw
  go_enter Try.func46, Try.ntmps46
  go_wp2_with fail
  with_reducible refine (kinds0 _).mono ?_
  rintro e w' ⟨rfl, rfl⟩
  go_wp2_with fail
  with_reducible refine (ticks0 _).mono ?_
  rintro e w1 ⟨b1, b2, rfl, p1, p2, q1, q2, q12, hB1⟩
  go_wp2_with fail
  with_reducible refine (epochs0 _).mono ?_
  rintro e w2 ⟨b3, m1, b4, rfl, p3, p4, pm1, q3, qm1, q4, q34, hB2⟩
  go_wp2_with fail
  with_reducible refine (holds0 _).mono ?_
  rintro e w3 ⟨m2, b5, rfl, p5, pm2, qm2, q5, hB3⟩
  go_wp2
  have hw4 : LInv (w3.alloc (.cells #[.func (.func 107) #[] #[], .func (.func 108) #[] #[.pointer (some ⟨b2, 0, none⟩), .pointer (some ⟨b1, 0, none⟩)],
      .func (.func 109) #[] #[.pointer (some ⟨b3, 0, none⟩), .pointer (some ⟨b4, 0, none⟩)], .func (.func 110) #[] #[.pointer (some ⟨b5, 0, none⟩)]] 150)) ⟨b1, b2, b3, m1, b4, m2, b5⟩ LSt.zero := by
    have hs1 := hB1.size
    have hs2 := hB2.size
    have hs3 := hB3.size
    have l1 := p1.lt
    have l2 := p2.lt
    have l3 := p3.lt
    have l4 := p4.lt
    have lm := pm1.lt _ rfl
    refine LInv.alloc ⟨(p1.below hB2 (by omega)).below hB3 (by omega), (p2.below hB2 (by omega)).below hB3 (by omega), p3.below hB3 (by omega), p4.below hB3 (by omega), p5, pm1.below hB3, pm2, ?_⟩ _
    exact ⟨q12, (by omega : b1 ≠ b3), (by omega : b2 ≠ b3), (by omega : b1 ≠ b4), (by omega : b2 ≠ b4), q34, (by omega : b1 ≠ b5), (by omega : b2 ≠ b5), (by omega : b3 ≠ b5), (by omega : b4 ≠ b5), (by omega : m1 ≠ m2)⟩
  have hg4 : Blk (w3.alloc (.cells #[.func (.func 107) #[] #[], .func (.func 108) #[] #[.pointer (some ⟨b2, 0, none⟩), .pointer (some ⟨b1, 0, none⟩)],
      .func (.func 109) #[] #[.pointer (some ⟨b3, 0, none⟩), .pointer (some ⟨b4, 0, none⟩)], .func (.func 110) #[] #[.pointer (some ⟨b5, 0, none⟩)]] 150)) w3.heap.size 150 _ := Blk.new w3 _ _
  have hB4 : Below w'.heap.size w' (w3.alloc (.cells #[.func (.func 107) #[] #[], .func (.func 108) #[] #[.pointer (some ⟨b2, 0, none⟩), .pointer (some ⟨b1, 0, none⟩)],
      .func (.func 109) #[] #[.pointer (some ⟨b3, 0, none⟩), .pointer (some ⟨b4, 0, none⟩)], .func (.func 110) #[] #[.pointer (some ⟨b5, 0, none⟩)]] 150)) := by
    have hs1 := hB1.size
    have hs2 := hB2.size
    have hs3 := hB3.size
    exact ((hB1.trans (hB2.mono hs1)).trans (hB3.mono (by omega))).alloc (by omega) _
  have hG : w'.heap.size ≤ w3.heap.size ∧ (∀ i, (LB.mk b1 b2 b3 m1 b4 m2 b5).has i → w'.heap.size ≤ i ∧ i < w3.heap.size) := by
    have hs1 := hB1.size
    have hs2 := hB2.size
    have hs3 := hB3.size
    have l1 := p1.lt
    have l2 := p2.lt
    have l3 := p3.lt
    have l4 := p4.lt
    have lm := pm1.lt _ rfl
    have lm2 := pm2.lt _ rfl
    refine ⟨by omega, ?_⟩
    intro i hi
    have hi' : i = b1 ∨ i = b2 ∨ i = b3 ∨ i = m1 ∨ i = m2 := hi
    omega
  have Hh := Lib.hid h
  clear p1 p2 q1 q2 q12 hB1 p3 p4 pm1 q3 qm1 q4 q34 hB2 p5 pm2 qm2 q5 hB3
  generalize w3.alloc _ = w4 at hw4 hg4 hB4 ⊢
  generalize w3.heap.size = g at hg4 hG ⊢
  have HG := Lib.hid hG
  clear hG h
  go_loopw [17] (fun i wr => ∃ (k : Nat) (s : LSt), k ≤ n ∧ i = .int .i64 k ∧ Hid (checkL 0 LSt.zero l = checkL k s (l.drop k) ∧ s.hr.length ≤ 4 * k ∧ s.dr.length ≤ 4 * k) ∧ LInv wr ⟨b1, b2, b3, m1, b4, m2, b5⟩ s ∧
    Blk wr g 150 #[.func (.func 107) #[] #[], .func (.func 108) #[] #[.pointer (some ⟨b2, 0, none⟩), .pointer (some ⟨b1, 0, none⟩)],
      .func (.func 109) #[] #[.pointer (some ⟨b3, 0, none⟩), .pointer (some ⟨b4, 0, none⟩)], .func (.func 110) #[] #[.pointer (some ⟨b5, 0, none⟩)]] ∧
    Below w'.heap.size w' wr) (fun i _ => n - (intOf i).toNat)
  case atStart => exact ⟨0, LSt.zero, Nat.zero_le _, rfl, Lib.hid ⟨rfl, Nat.le_refl _, Nat.le_refl _⟩, hw4, hg4, hB4⟩
  case round =>
    clear hw4 hg4 hB4
    obtain ⟨k, s, hk, rfl, HS, hI, hg, hB⟩ := hrel
    by_cases hlt : k < n
    · obtain ⟨ab, ao, r, rfl, hrr, hal, hcells⟩ := (Hh.out.below hB).at_ hlt
      have hc0 : wr.cell? ⟨ab, ao + k * 7, none⟩ = some (.int .i64 r.tick) := hcells 0 _ rfl
      have hc1 : wr.cell? ⟨ab, ao + k * 7 + 1, none⟩ = some (.int .i64 r.kind) := hcells 1 _ rfl
      have hc2 : wr.cell? ⟨ab, ao + k * 7 + 2, none⟩ = some (.int .i64 r.place) := hcells 2 _ rfl
      have hc3 : wr.cell? ⟨ab, ao + k * 7 + 3, none⟩ = some (.int .i64 r.epoch) := hcells 3 _ rfl
      have hc4 : wr.cell? ⟨ab, ao + k * 7 + 4, none⟩ = some (.int .i64 r.inc) := hcells 4 _ rfl
      have hc5 : wr.cell? ⟨ab, ao + k * 7 + 5, none⟩ = some (.int .i64 r.job) := hcells 5 _ rfl
      have hc6 : wr.cell? ⟨ab, ao + k * 7 + 6, none⟩ = some (.int .i64 r.code) := hcells 6 _ rfl
      clear hcells
      have hwr := HW.out r (List.mem_of_getElem? hrr)
      have HR := Lib.hid (And.intro hwr (Rd.drop_cons hrr))
      clear hwr hrr
      go_wp2
      clear hc0 hc1 hc2 hc3 hc4 hc5 hc6
      have hI0 := hI.alloc (boxR r)
      have hg0 := hg.alloc (boxR r)
      have hB0 := hB.alloc hB.size (boxR r)
      have hrb := Blk.new wr 146 #[.int .i64 r.tick, .int .i64 r.kind, .int .i64 r.place, .int .i64 r.epoch, .int .i64 r.inc, .int .i64 r.job, .int .i64 r.code]
      have hgl := hg.lt
      clear hI hg hB hal
      generalize wr.alloc _ = wa at hI0 hg0 hB0 hrb ⊢
      generalize wr.heap.size = rb at hrb hgl ⊢
      go_loopw [24] (fun i wb => ∃ (j : Nat) (s' : LSt), j ≤ 4 ∧ i = .int .i64 j ∧ Hid (asksE 4 0 s r = asksE (4 - j) j s' r ∧ asksS 4 0 s r = asksS (4 - j) j s' r ∧ s'.hr.length ≤ 4 * k + j ∧ s'.dr.length ≤ 4 * k + j) ∧ LInv wb ⟨b1, b2, b3, m1, b4, m2, b5⟩ s' ∧
        Blk wb g 150 #[.func (.func 107) #[] #[], .func (.func 108) #[] #[.pointer (some ⟨b2, 0, none⟩), .pointer (some ⟨b1, 0, none⟩)],
      .func (.func 109) #[] #[.pointer (some ⟨b3, 0, none⟩), .pointer (some ⟨b4, 0, none⟩)], .func (.func 110) #[] #[.pointer (some ⟨b5, 0, none⟩)]] ∧
        Blk wb rb 146 #[.int .i64 r.tick, .int .i64 r.kind, .int .i64 r.place, .int .i64 r.epoch, .int .i64 r.inc, .int .i64 r.job, .int .i64 r.code] ∧ Below w'.heap.size w' wb) (fun i _ => 4 - (intOf i).toNat)
      case atStart => exact ⟨0, s, Nat.zero_le _, rfl, Lib.hid ⟨rfl, rfl, by have := HS.out.2.1; omega, by have := HS.out.2.2; omega⟩, hI0, hg0, hrb, hB0⟩
      case round =>
        clear hI0 hg0 hrb hB0
        obtain ⟨j, s', hj, rfl, HT, hI, hg, hrb, hB⟩ := hrel
        have hf0 := hg.cell 0
        have hf1 := hg.cell 1
        have hf2 := hg.cell 2
        have hf3 := hg.cell 3
        have hr0 := hrb.cell 0
        have hr1 := hrb.cell 1
        have hr2 := hrb.cell 2
        have hr3 := hrb.cell 3
        have hr4 := hrb.cell 4
        have hr5 := hrb.cell 5
        have hr6 := hrb.cell 6
        rcases (show j = 0 ∨ j = 1 ∨ j = 2 ∨ j = 3 ∨ j = 4 by omega) with rfl | rfl | rfl | rfl | rfl
        · go_wp2_with fail
          have hcx := ask0 hI r
          with_reducible refine hcx.mono ?_
          clear hcx
          rintro e w2 ⟨rfl, hok, hk2⟩
          obtain ⟨hg2, hrb2, hB2⟩ := kept_all hk2 HG.out hg hrb hgl hB
          clear hI hg hrb hB hk2 hf0 hf1 hf2 hf3 hr0 hr1 hr2 hr3 hr4 hr5 hr6
          by_cases hz : askE 0 s' r = 0
          · have hz' : (askE 0 s' r != 0) = false := by simp [hz]
            have hI2 := hok hz
            have HZ := Lib.hid hz
            clear hok hz
            go_wp2
            go_roundw
            case rel => exact ⟨1, askS 0 s' r, by omega, by go_num, Lib.hid ⟨HT.out.1.trans (asksE_step HZ.out), HT.out.2.1, by have := HT.out.2.2.1; have := (askS_len 0 s' r).1; omega, by have := HT.out.2.2.2; have := (askS_len 0 s' r).2; omega⟩, hI2, hg2, hrb2, hB2⟩
            case measure => simp [intOf]
          · have hz' : (askE 0 s' r != 0) = true := by simp [hz]
            have HE : Hid (checkL 0 LSt.zero l = (k, askE 0 s' r)) := Lib.hid (by
              have h1 := HS.out.1
              have h2 : asksE 4 0 s r = askE 0 s' r := HT.out.1.trans (asksE_stop (m := 3) hz)
              rw [HR.out.2] at h1
              rw [h1]
              simp only [checkL, h2, if_neg hz])
            clear hok hz
            go_wp2
            go_ret2
            rw [HE.out]
            exact ⟨rfl, hB2⟩
        · go_wp2_with fail
          have hcx := ask1 hI r
          with_reducible refine hcx.mono ?_
          clear hcx
          rintro e w2 ⟨rfl, hok, hk2⟩
          obtain ⟨hg2, hrb2, hB2⟩ := kept_all hk2 HG.out hg hrb hgl hB
          clear hI hg hrb hB hk2 hf0 hf1 hf2 hf3 hr0 hr1 hr2 hr3 hr4 hr5 hr6
          by_cases hz : askE 1 s' r = 0
          · have hz' : (askE 1 s' r != 0) = false := by simp [hz]
            have hI2 := hok hz
            have HZ := Lib.hid hz
            clear hok hz
            go_wp2
            go_roundw
            case rel => exact ⟨2, askS 1 s' r, by omega, by go_num, Lib.hid ⟨HT.out.1.trans (asksE_step HZ.out), HT.out.2.1, by have := HT.out.2.2.1; have := (askS_len 1 s' r).1; omega, by have := HT.out.2.2.2; have := (askS_len 1 s' r).2; omega⟩, hI2, hg2, hrb2, hB2⟩
            case measure => simp [intOf]
          · have hz' : (askE 1 s' r != 0) = true := by simp [hz]
            have HE : Hid (checkL 0 LSt.zero l = (k, askE 1 s' r)) := Lib.hid (by
              have h1 := HS.out.1
              have h2 : asksE 4 0 s r = askE 1 s' r := HT.out.1.trans (asksE_stop (m := 2) hz)
              rw [HR.out.2] at h1
              rw [h1]
              simp only [checkL, h2, if_neg hz])
            clear hok hz
            go_wp2
            go_ret2
            rw [HE.out]
            exact ⟨rfl, hB2⟩
        · go_wp2_with fail
          have hcx := ask2 hI r HR.out.1 (by have := HT.out.2.2.1; omega)
          with_reducible refine hcx.mono ?_
          clear hcx
          rintro e w2 ⟨rfl, hok, hk2⟩
          obtain ⟨hg2, hrb2, hB2⟩ := kept_all hk2 HG.out hg hrb hgl hB
          clear hI hg hrb hB hk2 hf0 hf1 hf2 hf3 hr0 hr1 hr2 hr3 hr4 hr5 hr6
          by_cases hz : askE 2 s' r = 0
          · have hz' : (askE 2 s' r != 0) = false := by simp [hz]
            have hI2 := hok hz
            have HZ := Lib.hid hz
            clear hok hz
            go_wp2
            go_roundw
            case rel => exact ⟨3, askS 2 s' r, by omega, by go_num, Lib.hid ⟨HT.out.1.trans (asksE_step HZ.out), HT.out.2.1, by have := HT.out.2.2.1; have := (askS_len 2 s' r).1; omega, by have := HT.out.2.2.2; have := (askS_len 2 s' r).2; omega⟩, hI2, hg2, hrb2, hB2⟩
            case measure => simp [intOf]
          · have hz' : (askE 2 s' r != 0) = true := by simp [hz]
            have HE : Hid (checkL 0 LSt.zero l = (k, askE 2 s' r)) := Lib.hid (by
              have h1 := HS.out.1
              have h2 : asksE 4 0 s r = askE 2 s' r := HT.out.1.trans (asksE_stop (m := 1) hz)
              rw [HR.out.2] at h1
              rw [h1]
              simp only [checkL, h2, if_neg hz])
            clear hok hz
            go_wp2
            go_ret2
            rw [HE.out]
            exact ⟨rfl, hB2⟩
        · go_wp2_with fail
          have hcx := ask3 hI r HR.out.1 (by have := HT.out.2.2.2; omega)
          with_reducible refine hcx.mono ?_
          clear hcx
          rintro e w2 ⟨rfl, hok, hk2⟩
          obtain ⟨hg2, hrb2, hB2⟩ := kept_all hk2 HG.out hg hrb hgl hB
          clear hI hg hrb hB hk2 hf0 hf1 hf2 hf3 hr0 hr1 hr2 hr3 hr4 hr5 hr6
          by_cases hz : askE 3 s' r = 0
          · have hz' : (askE 3 s' r != 0) = false := by simp [hz]
            have hI2 := hok hz
            have HZ := Lib.hid hz
            clear hok hz
            go_wp2
            go_roundw
            case rel => exact ⟨4, askS 3 s' r, by omega, by go_num, Lib.hid ⟨HT.out.1.trans (asksE_step HZ.out), HT.out.2.1, by have := HT.out.2.2.1; have := (askS_len 3 s' r).1; omega, by have := HT.out.2.2.2; have := (askS_len 3 s' r).2; omega⟩, hI2, hg2, hrb2, hB2⟩
            case measure => simp [intOf]
          · have hz' : (askE 3 s' r != 0) = true := by simp [hz]
            have HE : Hid (checkL 0 LSt.zero l = (k, askE 3 s' r)) := Lib.hid (by
              have h1 := HS.out.1
              have h2 : asksE 4 0 s r = askE 3 s' r := HT.out.1.trans (asksE_stop (m := 0) hz)
              rw [HR.out.2] at h1
              rw [h1]
              simp only [checkL, h2, if_neg hz])
            clear hok hz
            go_wp2
            go_ret2
            rw [HE.out]
            exact ⟨rfl, hB2⟩
        · clear hf0 hf1 hf2 hf3 hr0 hr1 hr2 hr3 hr4 hr5 hr6
          go_wp2
          go_roundw
          case rel =>
            refine ⟨k + 1, s', by omega, by go_num, Lib.hid ⟨?_, by have := HT.out.2.2.1; omega, by have := HT.out.2.2.2; omega⟩, hI, hg, hB⟩
            have h1 := HS.out.1
            have h2 : asksE 4 0 s r = 0 := HT.out.1
            have h3 : asksS 4 0 s r = s' := HT.out.2.1
            rw [HR.out.2] at h1
            rw [h1]
            simp only [checkL, h2, if_pos, h3]
          case measure => simp [intOf]; omega
    · have hkn : k = n := by omega
      have HE : Hid (checkL 0 LSt.zero l = (0, 0)) := Lib.hid (by
        have := HS.out.1
        rw [List.drop_of_length_le (by have := Hh.out.len; omega)] at this
        exact this)
      go_wp2
      go_ret2
      rw [HE.out]
      exact ⟨rfl, hB⟩

end Go.Proofs.Ytaajlegdcgfcgaa
