/-
 LAYER 39 (worker): the law WorkerPlays, walked.
-/
import Derived.Test.YthhnocnkicoimaaDoorR39i
set_option linter.unusedVariables false
set_option linter.unusedSimpArgs false
namespace Go.Proofs.YthhnocnkicoimaaDoor
open Go.RowKit Go.Maps

theorem actMsgP (a : LAct39) : ∀ (j : Nat) (v : Value), (encMsg a.msg)[j]? = some v → (boxAct39 a)[3 + j]? = some v := by
 intro j v h
 have hj : j < 12 := by
  have := (List.getElem?_eq_some_iff.1 h).1
  simpa [encMsg] using this
 obtain rfl | rfl | rfl | rfl | rfl | rfl | rfl | rfl | rfl | rfl | rfl | rfl : j = 0 ∨ j = 1 ∨ j = 2 ∨ j = 3 ∨ j = 4 ∨ j = 5 ∨ j = 6 ∨ j = 7 ∨ j = 8 ∨ j = 9 ∨ j = 10 ∨ j = 11 := by omega
 all_goals exact h
theorem loadMsgP {ops : Array Oper} {rest : List Oper} {op : Oper} {a : Act} {w : World} {Q : Exit → Act → World → Prop} (hgd : op.guard = none) (x : Operand) (ho : op.op = .load 38 x) (b o : Nat) (hx : a.eval x = .pointer (some ⟨b, o, none⟩)) (m : LMsg) (hc : ∀ j v, (encMsg m)[j]? = some v → w.cell? ⟨b, o + j, none⟩ = some v) (h : wpList Tryd.prog ops Q rest (a.put op.dst (.agg (boxMsg m))) w) : wpList Tryd.prog ops Q (op :: rest) a w :=
 wpList_load_mid hgd 38 x ho b o hx (encMsg m) _ (fun j v hv => hc j v hv) Tryd.underlying38 rfl (by kernel_rfl) h
theorem wfAct39_P {a : LAct39} (h : wfAct39 a) : wf64 a.now ∧ wf64 a.n ∧ wf64 a.msg.job := ⟨h.2.1, h.2.2.1, h.2.2.2.1.2.2.2.2.2.1⟩
theorem tickT_len {s : WS} {k : Nat} (h : SB s k) (hk : k ≤ 900) (now n : Int) : (s.tickT now n).2.length ≤ 5 * (k + 2) := by
 unfold WS.tickT
 split
 ·show ((s.tick now).out now (min n 5).toNat).length ≤ _
  have hd : (s.tick now).done.length ≤ k := Nat.le_trans (tick_done s now) h.dl
  have ho : ∀ q, ((s.tick now).out now q).length ≤ q * (k + 1) := by
   intro q
   induction q with
   | zero => simp [WS.out]
   | succ q ih =>
    rw [WS.out_succ, List.length_append, Nat.add_mul, Nat.one_mul]
    have h2 : ((s.tick now).says now q).length ≤ k + 1 := by
     unfold WS.says
     rw [List.length_cons, List.length_map]
     exact Nat.succ_le_succ (Nat.le_trans (List.length_filter_le _ _) hd)
    omega
  refine Nat.le_trans (ho _) (Nat.mul_le_mul (by omega) (by omega))
 ·simp
theorem hear_zero {s : WS} {k : Nat} (h : SB s k) (hs : ¬ 0 < s.span) (now : Int) (m : LMsg) : (s.hear now m).1 = s := by
 have hu : ¬ s.up = true := fun e => hs (h.us e)
 unfold WS.hear
 rw [if_neg (fun e => hu e.1)]
set_option maxRecDepth 100000 in
set_option maxHeartbeats 25600000 in
theorem plays39 (A : Option Addr) (n c0 : Nat) (l : List LAct39) (first : LAct39) (w : World) (h : Rd encAct39 18 w A n l) (hw : ∀ a ∈ l, wfAct39 a) (hw1 : wfAct39 first) (hwy : WaysAt w) :
  Calls Tryd.prog 6 #[.slice A n c0, aggAct39 first] w fun e w' => e = .returned (.bool true) ∧ Below w.heap.size w w' := by
 by_cases hb1 : 100 < n
 ·go_enter Tryd.func6, Tryd.ntmps6
  have hwy2 : WaysAt (w.alloc (.cells (boxAct39 first) 62)) := hwy.below ((Below.refl _ _).alloc (Nat.le_refl _) _)
  have hB1 : Below w.heap.size w (w.alloc (.cells (boxAct39 first) 62)) := (Below.refl _ _).alloc (Nat.le_refl _) _
  have HB1 := Lib.hid hB1
  clear hB1
  go_wp2_with (go_at_call 22; with_reducible refine (awake39 _ hwy2).mono ?_; rintro e w' ⟨rfl, hb⟩)
  go_ret
  exact ⟨rfl, HB1.out.trans (hb.mono HB1.out.size)⟩
 have hn : n ≤ 100 := by omega
 have Hh := Lib.hid (And.intro h (And.intro hw hwy))
 have HW1 := Lib.hid hw1
 clear hb1 h hw hwy hw1
 go_enter Tryd.func6, Tryd.ntmps6
 go_upto_region 1 with fail
 have hb1 := Blk.new w 62 (boxAct39 first)
 have hB1 : Below w.heap.size w (w.alloc (.cells (boxAct39 first) 62)) := (Below.refl _ _).alloc (Nat.le_refl _) _
 have H0 := Lib.hid (And.intro hb1 hB1)
 clear hb1 hB1
 obtain ⟨bf, hbf⟩ : ∃ bf, w.heap.size = bf := ⟨_, rfl⟩
 have HF1 : Hid (Blk (w.alloc (.cells (boxAct39 first) 62)) bf 62 (boxAct39 first)) := Lib.hid (by rw [← hbf]; exact H0.out.1)
 have HB1 := Lib.hid H0.out.2
 clear H0
 generalize (w.alloc (.cells (boxAct39 first) 62)) = w1 at HF1 HB1 ⊢
 try rw [hbf]
 clear hbf
 have f1 : w1.cell? ⟨bf, 1, none⟩ = some (.int .i64 first.now) := (HF1.out.cell 1).trans rfl
 have f2 : w1.cell? ⟨bf, 2, none⟩ = some (.int .i64 first.n) := (HF1.out.cell 2).trans rfl
 have f15 : w1.cell? ⟨bf, 15, none⟩ = some (.int .i64 first.res.a) := (HF1.out.cell 15).trans rfl
 have f16 : w1.cell? ⟨bf, 16, none⟩ = some (.int .i64 first.res.b) := (HF1.out.cell 16).trans rfl
 have f17 : w1.cell? ⟨bf, 17, none⟩ = some (.int .i64 first.res.c) := (HF1.out.cell 17).trans rfl
 have fl := HF1.out.lt
 have hcx := uNew first.n first.now first.res w1
 go_wp2_with fail
 (with_reducible refine hcx.mono ?_)
 clear hcx fl f1 f2 f15 f16 f17
 rintro e w2 ⟨q, S, rfl, how, hq, hb2⟩
 have HF2 := Lib.hid (HF1.out.below hb2 HF1.out.lt)
 have HQ12 := Lib.hid hb2.size
 have HB12 := Lib.hid hb2
 have HB2 := Lib.hid (HB1.out.trans (hb2.mono HB1.out.size))
 have HO2 := Lib.hid how
 have HQN := Lib.hid hq
 have HGE := Lib.hid (show w.heap.size ≤ w1.heap.size from HB1.out.size)
 clear how hq hb2 HF1
 have f1 : w2.cell? ⟨bf, 1, none⟩ = some (.int .i64 first.now) := (HF2.out.cell 1).trans rfl
 have f2 : w2.cell? ⟨bf, 2, none⟩ = some (.int .i64 first.n) := (HF2.out.cell 2).trans rfl
 have f15 : w2.cell? ⟨bf, 15, none⟩ = some (.int .i64 first.res.a) := (HF2.out.cell 15).trans rfl
 have f16 : w2.cell? ⟨bf, 16, none⟩ = some (.int .i64 first.res.b) := (HF2.out.cell 16).trans rfl
 have f17 : w2.cell? ⟨bf, 17, none⟩ = some (.int .i64 first.res.c) := (HF2.out.cell 17).trans rfl
 have fl := HF2.out.lt
 have hcx := rNew first.n first.now first.res w2
 go_upto_region 5 with (first | (go_at_call 34; (with_reducible refine hcx.mono ?_); rintro e w3 ⟨rfl, hb3⟩) | (refine storeR rfl rfl (.tmp 7) (.tmp 47) rfl rfl (s := (newS first.n first.now first.res)) (v := RV.zero) rfl (Blk.new _ _ _) rfl ?_; intro w4 hbn hkn hsn))
 clear hcx fl f1 f2 f15 f16 f17
 have hb34 : Below w3.heap.size w3 w4 := ((Below.refl _ _).alloc (Nat.le_refl _) _).trans (hkn.below (by simp) (fun i hi e => by omega))
 have hb24 : Below w2.heap.size w2 w4 := hb3.trans (hb34.mono hb3.size)
 obtain ⟨bx, hbx⟩ : ∃ bx, w3.heap.size = bx := ⟨_, rfl⟩
 rw [hbx] at hbn
 try rw [hbx]
 have hgx : w2.heap.size ≤ bx := by rw [← hbx]; exact hb3.size
 have hli : LI w1 w4 q (newS first.n first.now first.res) S bx (newS first.n first.now first.res) RV.zero := ⟨HO2.out.below hb24, hbn, RdR.new _ _ _ _, fun h => absurd h (Nat.lt_irrefl 0), fun h => absurd h (Nat.lt_irrefl 0), fun h => absurd h (Nat.lt_irrefl 0), Nat.le_trans HQ12.out hgx, HB12.out.trans (hb24.mono HB12.out.size)⟩
 have HI4 := Lib.hid hli
 have HF4 := Lib.hid (HF2.out.below hb24 HF2.out.lt)
 clear hli hb34 hb24 hb3 hbn hkn hsn hbx hgx HO2 HF2 HB2
 obtain ⟨e0, he0⟩ : ∃ e0, (newE first.n first.now first.res) = e0 := ⟨_, rfl⟩
 have HE0 := Lib.hid he0
 rw [he0]
 clear he0
 have tee : (e0 != e0) = false := by simp
 have hgo : ∀ (P : Prop), (∀ c, q = some ⟨c, 0, none⟩ → e0 = 0 → P) → (q = none → e0 = 1 → P) → P := by
  intro P hA hB
  rcases HQN.out with ⟨hn1, c, hc⟩ | ⟨hn1, hc⟩
  ·exact hA c hc (by rw [← HE0.out]; unfold newE; rw [if_pos hn1])
  ·exact hB hc (by rw [← HE0.out]; unfold newE; rw [if_neg (by rw [hn1]; decide)])
 go_cut [58] from 49 to 57 (fun v58 wx => v58 = .bool false ∧ wx = w4)
 case first =>
  rcases HQN.out with ⟨hn1, c, rfl⟩ | ⟨hn1, rfl⟩
  ·obtain rfl : e0 = 0 := by rw [← HE0.out]; unfold newE; rw [if_pos hn1]
   clear hn1 hgo
   go_wp2_with fail
   go_meet
   exact ⟨rfl, rfl⟩
  ·obtain rfl : e0 = 1 := by rw [← HE0.out]; unfold newE; rw [if_neg (by rw [hn1]; decide)]
   clear hn1 hgo
   go_wp2_with fail
   go_meet
   exact ⟨rfl, rfl⟩
 case rest =>
  obtain ⟨rfl, hwx⟩ := hcut
  replace hwx := hwx.symm
  subst hwx
  clear hgo tee
  go_wp2
  go_loopw [9] (fun i wr => ∃ (k : Nat) (s : WS) (S2 : Nat → Prop) (v : RV), k ≤ n ∧ i = .int .i64 k ∧ LI w1 wr q s S2 bx s v ∧ SB s k ∧ Blk wr bf 62 (boxAct39 first)) (fun i _ => n - (intOf i).toNat)
  case atStart => exact ⟨0, _, S, RV.zero, Nat.zero_le _, rfl, HI4.out, SB.new _ _ _, HF4.out⟩
  case round =>
   clear HI4 HF4
   obtain ⟨k, s, S2, v, hk, rfl, hI, hS, hF⟩ := hrel
   by_cases hlt : k < n
   ·obtain ⟨ab, ao, a, rfl, haa, hal, hcells⟩ := (Hh.out.1.below (HB1.out.trans (hI.bel.mono HB1.out.size))).at_ hlt
    have hwa := wfAct39_P (Hh.out.2.1 a (List.mem_of_getElem? haa))
    have hba := Blk.new wr 62 (boxAct39 a)
    have hBA : Below wr.heap.size wr (wr.alloc (.cells (boxAct39 a) 62)) := (Below.refl _ _).alloc (Nat.le_refl _) _
    have H3 := Lib.hid (hI.below hBA)
    have HA3 := Lib.hid (And.intro hba (hF.below hBA hF.lt))
    have HS := Lib.hid hS
    have HW := Lib.hid hwa
    have hk9 : k ≤ 900 := by omega
    clear haa hwa hba hBA hI hS hF
    go_upto_region 11 with (first | (refine load39 rfl (.tmp 67) rfl ab (ao + k * 18) rfl a hcells ?_) | (refine store39 rfl rfl (.tmp 10) (.tmp 68) rfl _ a rfl rfl rfl ?_))
    generalize (wr.alloc (.cells (boxAct39 a) 62)) = w3 at H3 HA3 ⊢
    obtain ⟨ba, hba⟩ : ∃ ba, wr.heap.size = ba := ⟨_, rfl⟩
    rw [hba] at HA3
    try rw [hba]
    clear hba hal hcells
    have e0_ : w3.cell? ⟨ba, 0, none⟩ = some (.int .i64 a.kind) := (HA3.out.1.cell 0).trans rfl
    have el := HA3.out.1.lt
    go_upto_block 2 with fail
    clear e0_ el
    go_cut [11, 12, 13, 14, 15, 16, 17, 18, 19, 20, 21, 22, 23] from 59 to 193 (fun _ _ _ _ _ _ _ _ _ _ _ _ _ wx => ∃ (s2 : WS) (S3 : Nat → Prop) (v2 : RV), LI w1 wx q s2 S3 bx s2 v2 ∧ SB s2 (k + 1) ∧ Blk wx ba 62 (boxAct39 a) ∧ Blk wx bf 62 (boxAct39 first))
    case first =>
     by_cases hk1 : a.kind = 1
     ·have t1 : (a.kind == 1) = true := by simp [hk1]
      clear hk1
      as_aux_lemma =>
       have e1 : w3.cell? ⟨ba, 1, none⟩ = some (.int .i64 a.now) := (HA3.out.1.cell 1).trans rfl
       have e2 : w3.cell? ⟨ba, 2, none⟩ = some (.int .i64 a.n) := (HA3.out.1.cell 2).trans rfl
       have el := HA3.out.1.lt
       have hcx := rTick H3.out.rd HS.out hk9 a.now a.n
       go_upto_region 18 with (first | (refine loadR rfl (.tmp 7) rfl rfl (s := s) (v := v) H3.out.x ?_) | (go_at_call 35; (with_reducible refine hcx.mono ?_); rintro e w4 ⟨v4, A4, n4, c4, rfl, hl4, hu, hb4⟩) | (refine storeR rfl rfl (.tmp 11) (.tmp 90) rfl rfl (s := (s.tickT a.now a.n).1) (v := v4) rfl (Blk.new _ _ _) rfl ?_; intro w5 hbn hkn hsn))
       clear hcx e1 e2 el
       have hb45 : Below w4.heap.size w4 w5 := ((Below.refl _ _).alloc (Nat.le_refl _) _).trans (hkn.below (by simp) (fun i hi e => by omega))
       have hb35 : Below w3.heap.size w3 w5 := hb4.trans (hb45.mono hb4.size)
       have hu5 : UR w3 w5 v v4 (s.tickT a.now a.n).1 := ⟨hu.1.below hb45, hu.2.mono (Nat.le_refl _) hb45.size⟩
       have H5 := Lib.hid (And.intro (H3.out.below hb35) (And.intro hbn (And.intro hb35 hu5)))
       have HA5 := Lib.hid (And.intro (HA3.out.1.below hb35 HA3.out.1.lt) (HA3.out.2.below hb35 HA3.out.2.lt))
       have hl5 : OwnL encMsg 38 12 w5 w3.heap.size A4 n4 c4 (s.tickT a.now a.n).2 := hl4.below hb45
       have HL5 := Lib.hid hl5
       clear hl4 hl5
       obtain ⟨b5, hb5⟩ : ∃ b5, w4.heap.size = b5 := ⟨_, rfl⟩
       have HN5 := Lib.hid (hb5 ▸ H5.out.2.1)
       try rw [hb5]
       clear hb5 hb45 hb35 hu5 hbn hkn hsn hb4 hu
       go_upto_region 19 with (first | (refine loadR rfl (.tmp 11) rfl rfl (s := (s.tickT a.now a.n).1) (v := v4) HN5.out ?_) | (refine storeR rfl rfl (.tmp 7) (.tmp 92) rfl rfl (s := (s.tickT a.now a.n).1) (v := v4) rfl H5.out.1.x rfl ?_; intro w6 hb6 hk6 hs6))
       have H6 : Hid (LI w1 w6 q s S2 bx (s.tickT a.now a.n).1 v4) := Lib.hid (H3.out.xset H5.out.2.2.1 H5.out.2.2.2 hb6 hk6)
       have HA6 := Lib.hid (And.intro (Blk.keepX H5.out.1.x hk6 HA5.out.1 (by decide)) (Blk.keepX H5.out.1.x hk6 HA5.out.2 (by decide)))
       have hl6 : OwnL encMsg 38 12 w6 w3.heap.size A4 n4 c4 (s.tickT a.now a.n).2 := HL5.out.kept hk6 (fun ad hA e => by obtain ⟨cs, hb⟩ := HL5.out.blkw hA; exact Blk.ne_ty hb H5.out.1.x (by decide) e)
       have HL6 := Lib.hid hl6
       clear hl6 HL5
       clear hb6 hk6 hs6 H5 HA5 HN5 H3 HA3
       have e1 : w6.cell? ⟨ba, 1, none⟩ = some (.int .i64 a.now) := (HA6.out.1.cell 1).trans rfl
       have e2 : w6.cell? ⟨ba, 2, none⟩ = some (.int .i64 a.n) := (HA6.out.1.cell 2).trans rfl
       have el := HA6.out.1.lt
       have hcx := uTick H6.out.ow H6.out.bel.size HS.out hk9 a.now a.n
       go_wp2_with fail
       (with_reducible refine hcx.mono ?_)
       clear hcx e1 e2 el
       rintro e w7 ⟨A7, n7, c7, rfl, hl7, S7, ho7, ht7⟩
       have H7 : Hid (LI w1 w7 q (s.tickT a.now a.n).1 S7 bx (s.tickT a.now a.n).1 v4) := Lib.hid (H6.out.turn ho7 ht7)
       have HA7 := Lib.hid (And.intro (H6.out.keepW ht7 HA6.out.1 (by decide)) (H6.out.keepW ht7 HA6.out.2 (by decide)))
       have hcx := sameM_t A7 A4 n7 c7 n4 c4 _ w7 (hl7.rd (enc := encMsg) (sz := 12) (fun _ => rfl)) ((H6.out.ownW ht7 HL6.out).rd (enc := encMsg) (sz := 12) (fun _ => rfl)) (by have h1 := hl7.len; have h2 := tickT_len HS.out hk9 a.now a.n; omega)
       clear ho7 ht7 hl7 HL6 H6 HA6
       go_wp2_with fail
       (with_reducible refine hcx.mono ?_)
       clear hcx
       rintro e w8 ⟨rfl, hb8⟩
       have H8 := Lib.hid (H7.out.below hb8)
       have HA8 := Lib.hid (And.intro (HA7.out.1.below hb8 HA7.out.1.lt) (HA7.out.2.below hb8 HA7.out.2.lt))
       clear hb8 H7 HA7
       go_wp2_with fail
       go_meet
       exact ⟨(s.tickT a.now a.n).1, _, v4, H8.out, HS.out.tick a.now a.n, HA8.out.1, HA8.out.2⟩
     ·have t1 : (a.kind == 1) = false := by simp [hk1]
      clear hk1
      by_cases hk2 : a.kind = 2
      ·have t2 : (a.kind == 2) = true := by simp [hk2]
       clear hk2
       as_aux_lemma =>
        have e1 : w3.cell? ⟨ba, 1, none⟩ = some (.int .i64 a.now) := (HA3.out.1.cell 1).trans rfl
        have el := HA3.out.1.lt
        have hcx := rHear H3.out.rd HS.out hk9 a.now a.msg
        go_upto_region 23 with (first | (refine loadR rfl (.tmp 7) rfl rfl (s := s) (v := v) H3.out.x ?_) | (refine loadMsgP rfl (.tmp 108) rfl ba 3 rfl a.msg (fun j u hu => (HA3.out.1.cell (3 + j)).trans (actMsgP a j u hu)) ?_) | (go_at_call 37; (with_reducible refine hcx.mono ?_); rintro e w4 ⟨v4, rfl, hu, hb4⟩) | (refine storeR rfl rfl (.tmp 13) (.tmp 111) rfl rfl (s := (s.hear a.now a.msg).1) (v := v4) rfl (Blk.new _ _ _) rfl ?_; intro w5 hbn hkn hsn))
        clear hcx e1 el
        have hb45 : Below w4.heap.size w4 w5 := ((Below.refl _ _).alloc (Nat.le_refl _) _).trans (hkn.below (by simp) (fun i hi e => by omega))
        have hb35 : Below w3.heap.size w3 w5 := hb4.trans (hb45.mono hb4.size)
        have hu5 : UR w3 w5 v v4 (s.hear a.now a.msg).1 := ⟨hu.1.below hb45, hu.2.mono (Nat.le_refl _) hb45.size⟩
        have H5 := Lib.hid (And.intro (H3.out.below hb35) (And.intro hbn (And.intro hb35 hu5)))
        have HA5 := Lib.hid (And.intro (HA3.out.1.below hb35 HA3.out.1.lt) (HA3.out.2.below hb35 HA3.out.2.lt))
        obtain ⟨b5, hb5⟩ : ∃ b5, w4.heap.size = b5 := ⟨_, rfl⟩
        have HN5 := Lib.hid (hb5 ▸ H5.out.2.1)
        try rw [hb5]
        clear hb5 hb45 hb35 hu5 hbn hkn hsn hb4 hu
        have x1 : w5.cell? ⟨bx, 1, none⟩ = some (.int .i64 s.span) := (H5.out.1.x.cell 1).trans rfl
        have xl := H5.out.1.x.lt
        go_upto_if 115 with (fail)
        clear x1 xl
        go_cut [] from 113 to 116 (fun wx => ∃ v6, LI w1 wx q s S2 bx (s.hear a.now a.msg).1 v6 ∧ Blk wx ba 62 (boxAct39 a) ∧ Blk wx bf 62 (boxAct39 first))
        case first =>
         by_cases hsp : 0 < s.span
         ·have t1 : decide (0 < s.span) = true := decide_eq_true hsp
          go_upto_region 24 with fail
          go_wp2_with (first | (refine loadR rfl (.tmp 13) rfl rfl (s := (s.hear a.now a.msg).1) (v := v4) HN5.out ?_) | (refine storeR rfl rfl (.tmp 7) (.tmp 116) rfl rfl (s := (s.hear a.now a.msg).1) (v := v4) rfl H5.out.1.x rfl ?_; intro w6 hb6 hk6 hs6))
          have HF6 : Hid (LI w1 w6 q s S2 bx (s.hear a.now a.msg).1 v4 ∧ Blk w6 ba 62 (boxAct39 a) ∧ Blk w6 bf 62 (boxAct39 first)) := Lib.hid ⟨H3.out.xset H5.out.2.2.1 H5.out.2.2.2 hb6 hk6, Blk.keepX H5.out.1.x hk6 HA5.out.1 (by decide), Blk.keepX H5.out.1.x hk6 HA5.out.2 (by decide)⟩
          clear hb6 hk6 hs6
          try go_wp2_with fail
          go_meet
          exact ⟨v4, HF6.out⟩
         ·have t1 : decide (0 < s.span) = false := decide_eq_false hsp
          have hz : (s.hear a.now a.msg).1 = s := hear_zero HS.out hsp a.now a.msg
          have HF6 : Hid (LI w1 w5 q s S2 bx (s.hear a.now a.msg).1 v ∧ Blk w5 ba 62 (boxAct39 a) ∧ Blk w5 bf 62 (boxAct39 first)) := Lib.hid (by rw [hz]; exact ⟨H5.out.1, HA5.out⟩)
          have hle : s.span ≤ 0 := by omega
          clear hz
          go_wp2_with fail
          go_meet
          exact ⟨v, HF6.out⟩
        case rest =>
         obtain ⟨v6, h6a, h6b⟩ := hcut
         have H6 := Lib.hid h6a
         have HA6 := Lib.hid h6b
         clear h6a h6b H5 HA5 HN5 H3 HA3
         obtain ⟨hb9, hhb9⟩ : ∃ hb9, (s.hear a.now a.msg).2 = hb9 := ⟨_, rfl⟩
         have HHB := Lib.hid hhb9
         rw [hhb9]
         clear hhb9
         have e1 : wc.cell? ⟨ba, 1, none⟩ = some (.int .i64 a.now) := (HA6.out.1.cell 1).trans rfl
         have el := HA6.out.1.lt
         have hcx := uHear H6.out.ow H6.out.bel.size (Hh.out.2.2.below (HB1.out.trans (H6.out.bel.mono HB1.out.size))) HS.out hk9 a.now a.msg HW.out.2.2 HW.out.1
         rw [HHB.out] at hcx
         go_wp2_with (refine loadMsgP rfl (.tmp 120) rfl ba 3 rfl a.msg (fun j u hu => (HA6.out.1.cell (3 + j)).trans (actMsgP a j u hu)) ?_)
         (with_reducible refine hcx.mono ?_)
         clear hcx e1 el
         rintro e w7 ⟨rfl, S7, ho7, ht7⟩
         have H7 : Hid (LI w1 w7 q (s.hear a.now a.msg).1 S7 bx (s.hear a.now a.msg).1 v6) := Lib.hid (H6.out.turn ho7 ht7)
         have HA7 := Lib.hid (And.intro (H6.out.keepW ht7 HA6.out.1 (by decide)) (H6.out.keepW ht7 HA6.out.2 (by decide)))
         clear ho7 ht7 H6 HA6
         have tbb : (hb9 != hb9) = false := by simp
         go_wp2_with fail
         go_meet
         exact ⟨(s.hear a.now a.msg).1, _, v6, H7.out, HS.out.hear a.now a.msg, HA7.out.1, HA7.out.2⟩
      ·have t2 : (a.kind == 2) = false := by simp [hk2]
       clear hk2
       by_cases hk3 : a.kind = 3
       ·have t3 : (a.kind == 3) = true := by simp [hk3]
        clear hk3
        as_aux_lemma =>
         have e1 : w3.cell? ⟨ba, 1, none⟩ = some (.int .i64 a.now) := (HA3.out.1.cell 1).trans rfl
         have e2 : w3.cell? ⟨ba, 2, none⟩ = some (.int .i64 a.n) := (HA3.out.1.cell 2).trans rfl
         have el := HA3.out.1.lt
         have hcx := rFinish H3.out.rd HS.out hk9 a.now a.n
         go_upto_region 29 with (first | (refine loadR rfl (.tmp 7) rfl rfl (s := s) (v := v) H3.out.x ?_) | (go_at_call 38; (with_reducible refine hcx.mono ?_); rintro e w4 ⟨v4, rfl, hu, hb4⟩) | (refine storeR rfl rfl (.tmp 15) (.tmp 134) rfl rfl (s := (s.finT a.now a.n).1) (v := v4) rfl (Blk.new _ _ _) rfl ?_; intro w5 hbn hkn hsn))
         clear hcx e1 e2 el
         have hb45 : Below w4.heap.size w4 w5 := ((Below.refl _ _).alloc (Nat.le_refl _) _).trans (hkn.below (by simp) (fun i hi e => by omega))
         have hb35 : Below w3.heap.size w3 w5 := hb4.trans (hb45.mono hb4.size)
         have hu5 : UR w3 w5 v v4 (s.finT a.now a.n).1 := ⟨hu.1.below hb45, hu.2.mono (Nat.le_refl _) hb45.size⟩
         have H5 := Lib.hid (And.intro (H3.out.below hb35) (And.intro hbn (And.intro hb35 hu5)))
         have HA5 := Lib.hid (And.intro (HA3.out.1.below hb35 HA3.out.1.lt) (HA3.out.2.below hb35 HA3.out.2.lt))
         obtain ⟨b5, hb5⟩ : ∃ b5, w4.heap.size = b5 := ⟨_, rfl⟩
         have HN5 := Lib.hid (hb5 ▸ H5.out.2.1)
         try rw [hb5]
         clear hb5 hb45 hb35 hu5 hbn hkn hsn hb4 hu
         go_upto_region 30 with (first | (refine loadR rfl (.tmp 15) rfl rfl (s := (s.finT a.now a.n).1) (v := v4) HN5.out ?_) | (refine storeR rfl rfl (.tmp 7) (.tmp 136) rfl rfl (s := (s.finT a.now a.n).1) (v := v4) rfl H5.out.1.x rfl ?_; intro w6 hb6 hk6 hs6))
         have H6 : Hid (LI w1 w6 q s S2 bx (s.finT a.now a.n).1 v4) := Lib.hid (H3.out.xset H5.out.2.2.1 H5.out.2.2.2 hb6 hk6)
         have HA6 := Lib.hid (And.intro (Blk.keepX H5.out.1.x hk6 HA5.out.1 (by decide)) (Blk.keepX H5.out.1.x hk6 HA5.out.2 (by decide)))
         clear hb6 hk6 hs6 H5 HA5 HN5 H3 HA3
         obtain ⟨bb, hbb⟩ : ∃ bb, (s.finT a.now a.n).2 = bb := ⟨_, rfl⟩
         have HBB := Lib.hid hbb
         rw [hbb]
         clear hbb
         have e1 : w6.cell? ⟨ba, 1, none⟩ = some (.int .i64 a.now) := (HA6.out.1.cell 1).trans rfl
         have e2 : w6.cell? ⟨ba, 2, none⟩ = some (.int .i64 a.n) := (HA6.out.1.cell 2).trans rfl
         have el := HA6.out.1.lt
         have hcx := uFinish H6.out.ow H6.out.bel.size HS.out hk9 a.now a.n HW.out.2.1 HW.out.1
         rw [HBB.out] at hcx
         go_wp2_with fail
         (with_reducible refine hcx.mono ?_)
         clear hcx e1 e2 el
         rintro e w7 ⟨rfl, S7, ho7, ht7⟩
         have H7 : Hid (LI w1 w7 q (s.finT a.now a.n).1 S7 bx (s.finT a.now a.n).1 v4) := Lib.hid (H6.out.turn ho7 ht7)
         have HA7 := Lib.hid (And.intro (H6.out.keepW ht7 HA6.out.1 (by decide)) (H6.out.keepW ht7 HA6.out.2 (by decide)))
         clear ho7 ht7 H6 HA6
         have tbb : (bb != bb) = false := by simp
         go_wp2_with fail
         go_meet
         exact ⟨(s.finT a.now a.n).1, _, v4, H7.out, HS.out.fin a.now a.n, HA7.out.1, HA7.out.2⟩
       ·have t3 : (a.kind == 3) = false := by simp [hk3]
        clear hk3
        by_cases hk4 : a.kind = 4
        ·have t4 : (a.kind == 4) = true := by simp [hk4]
         clear hk4
         as_aux_lemma =>
          by_cases h0 : s.span = 0
          ·have hT : s.sizeT a.res = (s, 7) := by unfold WS.sizeT; rw [if_pos h0]
           obtain ⟨h9, hh9⟩ : ∃ h9, newE 0 1 a.res = h9 := ⟨_, rfl⟩
           have HE9 : Hid (newE 0 1 a.res = h9) := Lib.hid hh9
           clear hh9
           have HSB : Hid (SB s (k + 1)) := Lib.hid (by have h9 := HS.out.size a.res; rw [hT] at h9; exact h9)
           have HSP : Hid (s.span = 0) := Lib.hid h0
           clear h0
           have e15 : w3.cell? ⟨ba, 15, none⟩ = some (.int .i64 a.res.a) := (HA3.out.1.cell 15).trans rfl
           have e16 : w3.cell? ⟨ba, 16, none⟩ = some (.int .i64 a.res.b) := (HA3.out.1.cell 16).trans rfl
           have e17 : w3.cell? ⟨ba, 17, none⟩ = some (.int .i64 a.res.c) := (HA3.out.1.cell 17).trans rfl
           have el := HA3.out.1.lt
           have hcx := uResize H3.out.ow H3.out.bel.size a.res
           rw [hT] at hcx
           dsimp only at hcx
           go_wp2_with fail
           (with_reducible refine hcx.mono ?_)
           clear hcx hT e15 e16 e17 el
           rintro e w4 ⟨rfl, S4, ho4, ht4⟩
           have H4 : Hid (LI w1 w4 q s S4 bx s v) := Lib.hid (H3.out.turn ho4 ht4)
           have HA4 := Lib.hid (And.intro (H3.out.keepW ht4 HA3.out.1 (by decide)) (H3.out.keepW ht4 HA3.out.2 (by decide)))
           clear ho4 ht4 H3 HA3
           have e15 : w4.cell? ⟨ba, 15, none⟩ = some (.int .i64 a.res.a) := (HA4.out.1.cell 15).trans rfl
           have e16 : w4.cell? ⟨ba, 16, none⟩ = some (.int .i64 a.res.b) := (HA4.out.1.cell 16).trans rfl
           have e17 : w4.cell? ⟨ba, 17, none⟩ = some (.int .i64 a.res.c) := (HA4.out.1.cell 17).trans rfl
           have el := HA4.out.1.lt
           have x1 : w4.cell? ⟨bx, 1, none⟩ = some (.int .i64 0) := ((H4.out.x.cell 1).trans rfl).trans (by show some (Value.int .i64 s.span) = _; rw [HSP.out])
           have xl := H4.out.x.lt
           have hcx := rNew 0 1 a.res w4
           rw [HE9.out] at hcx
           go_upto_region 37 with (first | (go_at_call 34; (with_reducible refine hcx.mono ?_); rintro e w5 ⟨rfl, hb5⟩) | (refine storeR rfl rfl (.tmp 18) (.tmp 162) rfl rfl (s := (newS 0 1 a.res)) (v := RV.zero) rfl (Blk.new _ _ _) rfl ?_; intro w6 hbn hkn hsn))
           clear hcx x1 xl e15 e16 e17 el
           have hb56 : Below w5.heap.size w5 w6 := ((Below.refl _ _).alloc (Nat.le_refl _) _).trans (hkn.below (by simp) (fun i hi e => by omega))
           have hb46 : Below w4.heap.size w4 w6 := hb5.trans (hb56.mono hb5.size)
           have H6 := Lib.hid (H4.out.below hb46)
           have HA6 := Lib.hid (And.intro (HA4.out.1.below hb46 HA4.out.1.lt) (HA4.out.2.below hb46 HA4.out.2.lt))
           obtain ⟨b6, hb6⟩ : ∃ b6, w5.heap.size = b6 := ⟨_, rfl⟩
           rw [hb6] at hbn
           try rw [hb6]
           have HN6 := Lib.hid hbn
           clear hbn hkn hsn hb5 hb56 hb46 hb6 H4 HA4
           have x1 : w6.cell? ⟨bx, 1, none⟩ = some (.int .i64 0) := ((H6.out.x.cell 1).trans rfl).trans (by show some (Value.int .i64 s.span) = _; rw [HSP.out])
           have xl := H6.out.x.lt
           go_wp2_with fail
           clear x1 xl
           go_meet
           exact ⟨s, S4, v, H6.out, HSB.out, HA6.out.1, HA6.out.2⟩
          ·rcases Bool.eq_false_or_eq_true (rightR a.res) with hr | hr
           ·have hT : s.sizeT a.res = (s.size_ a.res, 0) := by unfold WS.sizeT; rw [if_neg h0, if_pos hr]
            have HE9 : Hid (newE 0 1 a.res = 0) := Lib.hid (by rw [newE_resize, if_pos hr])
            have HR9 := Lib.hid hr
            have HSB : Hid (SB (s.size_ a.res) (k + 1)) := Lib.hid (by have h9 := HS.out.size a.res; rw [hT] at h9; exact h9)
            have hspp : 0 < s.span := by have := HS.out.span; omega
            have hs0 : (s.span == 0) = false := by simp; omega
            clear h0 hr
            have e15 : w3.cell? ⟨ba, 15, none⟩ = some (.int .i64 a.res.a) := (HA3.out.1.cell 15).trans rfl
            have e16 : w3.cell? ⟨ba, 16, none⟩ = some (.int .i64 a.res.b) := (HA3.out.1.cell 16).trans rfl
            have e17 : w3.cell? ⟨ba, 17, none⟩ = some (.int .i64 a.res.c) := (HA3.out.1.cell 17).trans rfl
            have el := HA3.out.1.lt
            have hcx := uResize H3.out.ow H3.out.bel.size a.res
            rw [hT] at hcx
            dsimp only at hcx
            go_wp2_with fail
            (with_reducible refine hcx.mono ?_)
            clear hcx hT e15 e16 e17 el
            rintro e w4 ⟨rfl, S4, ho4, ht4⟩
            have H4 : Hid (LI w1 w4 q (s.size_ a.res) S4 bx s v) := Lib.hid (H3.out.turn ho4 ht4)
            have HA4 := Lib.hid (And.intro (H3.out.keepW ht4 HA3.out.1 (by decide)) (H3.out.keepW ht4 HA3.out.2 (by decide)))
            clear ho4 ht4 H3 HA3
            have e15 : w4.cell? ⟨ba, 15, none⟩ = some (.int .i64 a.res.a) := (HA4.out.1.cell 15).trans rfl
            have e16 : w4.cell? ⟨ba, 16, none⟩ = some (.int .i64 a.res.b) := (HA4.out.1.cell 16).trans rfl
            have e17 : w4.cell? ⟨ba, 17, none⟩ = some (.int .i64 a.res.c) := (HA4.out.1.cell 17).trans rfl
            have el := HA4.out.1.lt
            have x1 : w4.cell? ⟨bx, 1, none⟩ = some (.int .i64 s.span) := (H4.out.x.cell 1).trans rfl
            have xl := H4.out.x.lt
            have hcx := rNew 0 1 a.res w4
            rw [HE9.out] at hcx
            go_upto_region 37 with (first | (go_at_call 34; (with_reducible refine hcx.mono ?_); rintro e w5 ⟨rfl, hb5⟩) | (refine storeR rfl rfl (.tmp 18) (.tmp 162) rfl rfl (s := (newS 0 1 a.res)) (v := RV.zero) rfl (Blk.new _ _ _) rfl ?_; intro w6 hbn hkn hsn))
            clear hcx x1 xl e15 e16 e17 el
            have hb56 : Below w5.heap.size w5 w6 := ((Below.refl _ _).alloc (Nat.le_refl _) _).trans (hkn.below (by simp) (fun i hi e => by omega))
            have hb46 : Below w4.heap.size w4 w6 := hb5.trans (hb56.mono hb5.size)
            have H6 := Lib.hid (H4.out.below hb46)
            have HA6 := Lib.hid (And.intro (HA4.out.1.below hb46 HA4.out.1.lt) (HA4.out.2.below hb46 HA4.out.2.lt))
            obtain ⟨b6, hb6⟩ : ∃ b6, w5.heap.size = b6 := ⟨_, rfl⟩
            rw [hb6] at hbn
            try rw [hb6]
            have HN6 := Lib.hid hbn
            clear hbn hkn hsn hb5 hb56 hb46 hb6 H4 HA4
            have x1 : w6.cell? ⟨bx, 1, none⟩ = some (.int .i64 s.span) := (H6.out.x.cell 1).trans rfl
            have xl := H6.out.x.lt
            go_upto_region 40 with fail
            have y5 : w6.cell? ⟨b6, 5, none⟩ = some (.int .i64 a.res.a) := ((HN6.out.cell 5).trans rfl).trans (by rw [newS_cap HR9.out]; rfl)
            have y6 : w6.cell? ⟨b6, 6, none⟩ = some (.int .i64 a.res.b) := ((HN6.out.cell 6).trans rfl).trans (by rw [newS_cap HR9.out]; rfl)
            have y7 : w6.cell? ⟨b6, 7, none⟩ = some (.int .i64 a.res.c) := ((HN6.out.cell 7).trans rfl).trans (by rw [newS_cap HR9.out]; rfl)
            have yl := HN6.out.lt
            have xf := H6.out.x.frozen
            have x5 : w6.cell? ⟨bx, 5, none⟩ = some (.int .i64 s.cap.a) := (H6.out.x.cell 5).trans rfl
            have x6 : w6.cell? ⟨bx, 6, none⟩ = some (.int .i64 s.cap.b) := (H6.out.x.cell 6).trans rfl
            have x7 : w6.cell? ⟨bx, 7, none⟩ = some (.int .i64 s.cap.c) := (H6.out.x.cell 7).trans rfl
            go_wp2_with fail
            clear x1 xl y5 y6 y7 yl xf x5 x6 x7
            have hx : Blk (((w6.setCell ⟨bx, 5, none⟩ (.int .i64 a.res.a)).setCell ⟨bx, 6, none⟩ (.int .i64 a.res.b)).setCell ⟨bx, 7, none⟩ (.int .i64 a.res.c)) bx 74 (boxR (s.size_ a.res) v) := by
             have h2 := ((H6.out.x.set_ 5 (.int .i64 a.res.a)).set_ 6 (.int .i64 a.res.b)).set_ 7 (.int .i64 a.res.c)
             simp only [List.setIfInBounds_toArray, List.set_cons_zero, List.set_cons_succ] at h2
             exact h2
            have hk : Kept (fun k => k = bx) w6 (((w6.setCell ⟨bx, 5, none⟩ (.int .i64 a.res.a)).setCell ⟨bx, 6, none⟩ (.int .i64 a.res.b)).setCell ⟨bx, 7, none⟩ (.int .i64 a.res.c)) := Kept.setCell (F := fun k => k = bx) (Kept.setCell (F := fun k => k = bx) (Kept.setCell (F := fun k => k = bx) (Kept.refl _ w6) (p := ⟨bx, 5, none⟩) (fun _ => rfl) (.int .i64 a.res.a)) (p := ⟨bx, 6, none⟩) (fun _ => rfl) (.int .i64 a.res.b)) (p := ⟨bx, 7, none⟩) (fun _ => rfl) (.int .i64 a.res.c)
            have hrd := H6.out.rd
            have H7 := Lib.hid (H6.out.xset (Below.refl _ _) (s' := s.size_ a.res) (v' := v) ⟨⟨hrd.h, hrd.d, hrd.t, hrd.hc, hrd.dc, hrd.tc⟩, .refl _ _ _⟩ hx hk)
            have HA7 := Lib.hid (And.intro (Blk.keepX H6.out.x hk HA6.out.1 (by decide)) (Blk.keepX H6.out.x hk HA6.out.2 (by decide)))
            clear hx hk hrd H6 HA6 HN6
            go_meet
            exact ⟨s.size_ a.res, S4, v, H7.out, HSB.out, HA7.out.1, HA7.out.2⟩
           ·have hT : s.sizeT a.res = (s, 1) := by unfold WS.sizeT; rw [if_neg h0, if_neg (by rw [hr]; decide)]
            have HE9 : Hid (newE 0 1 a.res = 1) := Lib.hid (by rw [newE_resize, if_neg (by rw [hr]; decide)])
            have HSB : Hid (SB s (k + 1)) := Lib.hid (by have h9 := HS.out.size a.res; rw [hT] at h9; exact h9)
            have hspp : 0 < s.span := by have := HS.out.span; omega
            have hs0 : (s.span == 0) = false := by simp; omega
            clear h0 hr
            have e15 : w3.cell? ⟨ba, 15, none⟩ = some (.int .i64 a.res.a) := (HA3.out.1.cell 15).trans rfl
            have e16 : w3.cell? ⟨ba, 16, none⟩ = some (.int .i64 a.res.b) := (HA3.out.1.cell 16).trans rfl
            have e17 : w3.cell? ⟨ba, 17, none⟩ = some (.int .i64 a.res.c) := (HA3.out.1.cell 17).trans rfl
            have el := HA3.out.1.lt
            have hcx := uResize H3.out.ow H3.out.bel.size a.res
            rw [hT] at hcx
            dsimp only at hcx
            go_wp2_with fail
            (with_reducible refine hcx.mono ?_)
            clear hcx hT e15 e16 e17 el
            rintro e w4 ⟨rfl, S4, ho4, ht4⟩
            have H4 : Hid (LI w1 w4 q s S4 bx s v) := Lib.hid (H3.out.turn ho4 ht4)
            have HA4 := Lib.hid (And.intro (H3.out.keepW ht4 HA3.out.1 (by decide)) (H3.out.keepW ht4 HA3.out.2 (by decide)))
            clear ho4 ht4 H3 HA3
            have e15 : w4.cell? ⟨ba, 15, none⟩ = some (.int .i64 a.res.a) := (HA4.out.1.cell 15).trans rfl
            have e16 : w4.cell? ⟨ba, 16, none⟩ = some (.int .i64 a.res.b) := (HA4.out.1.cell 16).trans rfl
            have e17 : w4.cell? ⟨ba, 17, none⟩ = some (.int .i64 a.res.c) := (HA4.out.1.cell 17).trans rfl
            have el := HA4.out.1.lt
            have x1 : w4.cell? ⟨bx, 1, none⟩ = some (.int .i64 s.span) := (H4.out.x.cell 1).trans rfl
            have xl := H4.out.x.lt
            have hcx := rNew 0 1 a.res w4
            rw [HE9.out] at hcx
            go_upto_region 37 with (first | (go_at_call 34; (with_reducible refine hcx.mono ?_); rintro e w5 ⟨rfl, hb5⟩) | (refine storeR rfl rfl (.tmp 18) (.tmp 162) rfl rfl (s := (newS 0 1 a.res)) (v := RV.zero) rfl (Blk.new _ _ _) rfl ?_; intro w6 hbn hkn hsn))
            clear hcx x1 xl e15 e16 e17 el
            have hb56 : Below w5.heap.size w5 w6 := ((Below.refl _ _).alloc (Nat.le_refl _) _).trans (hkn.below (by simp) (fun i hi e => by omega))
            have hb46 : Below w4.heap.size w4 w6 := hb5.trans (hb56.mono hb5.size)
            have H6 := Lib.hid (H4.out.below hb46)
            have HA6 := Lib.hid (And.intro (HA4.out.1.below hb46 HA4.out.1.lt) (HA4.out.2.below hb46 HA4.out.2.lt))
            obtain ⟨b6, hb6⟩ : ∃ b6, w5.heap.size = b6 := ⟨_, rfl⟩
            rw [hb6] at hbn
            try rw [hb6]
            have HN6 := Lib.hid hbn
            clear hbn hkn hsn hb5 hb56 hb46 hb6 H4 HA4
            have x1 : w6.cell? ⟨bx, 1, none⟩ = some (.int .i64 s.span) := (H6.out.x.cell 1).trans rfl
            have xl := H6.out.x.lt
            go_wp2_with fail
            clear x1 xl
            go_meet
            exact ⟨s, S4, v, H6.out, HSB.out, HA6.out.1, HA6.out.2⟩
        ·have t4 : (a.kind == 4) = false := by simp [hk4]
         clear hk4
         by_cases hk5 : a.kind = 5
         ·have t5 : (a.kind == 5) = true := by simp [hk5]
          clear hk5
          as_aux_lemma =>
           have el := HA3.out.1.lt
           have hcx := rCrash H3.out.rd
           go_upto_region 43 with (first | (refine loadR rfl (.tmp 7) rfl rfl (s := s) (v := v) H3.out.x ?_) | (go_at_call 40; (with_reducible refine hcx.mono ?_); rintro e w4 ⟨v4, rfl, hu, hb4⟩) | (refine storeR rfl rfl (.tmp 20) (.tmp 187) rfl rfl (s := s.crashT.1) (v := v4) rfl (Blk.new _ _ _) rfl ?_; intro w5 hbn hkn hsn))
           clear hcx  el
           have hb45 : Below w4.heap.size w4 w5 := ((Below.refl _ _).alloc (Nat.le_refl _) _).trans (hkn.below (by simp) (fun i hi e => by omega))
           have hb35 : Below w3.heap.size w3 w5 := hb4.trans (hb45.mono hb4.size)
           have hu5 : UR w3 w5 v v4 s.crashT.1 := ⟨hu.1.below hb45, hu.2.mono (Nat.le_refl _) hb45.size⟩
           have H5 := Lib.hid (And.intro (H3.out.below hb35) (And.intro hbn (And.intro hb35 hu5)))
           have HA5 := Lib.hid (And.intro (HA3.out.1.below hb35 HA3.out.1.lt) (HA3.out.2.below hb35 HA3.out.2.lt))
           obtain ⟨b5, hb5⟩ : ∃ b5, w4.heap.size = b5 := ⟨_, rfl⟩
           have HN5 := Lib.hid (hb5 ▸ H5.out.2.1)
           try rw [hb5]
           clear hb5 hb45 hb35 hu5 hbn hkn hsn hb4 hu
           go_upto_region 44 with (first | (refine loadR rfl (.tmp 20) rfl rfl (s := s.crashT.1) (v := v4) HN5.out ?_) | (refine storeR rfl rfl (.tmp 7) (.tmp 189) rfl rfl (s := s.crashT.1) (v := v4) rfl H5.out.1.x rfl ?_; intro w6 hb6 hk6 hs6))
           have H6 : Hid (LI w1 w6 q s S2 bx s.crashT.1 v4) := Lib.hid (H3.out.xset H5.out.2.2.1 H5.out.2.2.2 hb6 hk6)
           have HA6 := Lib.hid (And.intro (Blk.keepX H5.out.1.x hk6 HA5.out.1 (by decide)) (Blk.keepX H5.out.1.x hk6 HA5.out.2 (by decide)))
           clear hb6 hk6 hs6 H5 HA5 HN5 H3 HA3
           obtain ⟨bb, hbb⟩ : ∃ bb, s.crashT.2 = bb := ⟨_, rfl⟩
           have HBB := Lib.hid hbb
           rw [hbb]
           clear hbb
           have hcx := uCrash H6.out.ow H6.out.bel.size
           rw [HBB.out] at hcx
           go_wp2_with fail
           (with_reducible refine hcx.mono ?_)
           clear hcx
           rintro e w7 ⟨rfl, S7, ho7, ht7⟩
           have H7 : Hid (LI w1 w7 q s.crashT.1 S7 bx s.crashT.1 v4) := Lib.hid (H6.out.turn ho7 ht7)
           have HA7 := Lib.hid (And.intro (H6.out.keepW ht7 HA6.out.1 (by decide)) (H6.out.keepW ht7 HA6.out.2 (by decide)))
           clear ho7 ht7 H6 HA6
           have tbb : (bb != bb) = false := by simp
           go_wp2_with fail
           go_meet
           exact ⟨s.crashT.1, _, v4, H7.out, HS.out.crash, HA7.out.1, HA7.out.2⟩
         ·have t5 : (a.kind == 5) = false := by simp [hk5]
          clear hk5
          as_aux_lemma =>
           have el := HA3.out.1.lt
           have hcx := rBoot H3.out.rd HS.out
           go_upto_region 13 with (first | (refine loadR rfl (.tmp 7) rfl rfl (s := s) (v := v) H3.out.x ?_) | (go_at_call 41; (with_reducible refine hcx.mono ?_); rintro e w4 ⟨v4, rfl, hu, hb4⟩) | (refine storeR rfl rfl (.tmp 22) (.tmp 74) rfl rfl (s := s.bootT.1) (v := v4) rfl (Blk.new _ _ _) rfl ?_; intro w5 hbn hkn hsn))
           clear hcx  el
           have hb45 : Below w4.heap.size w4 w5 := ((Below.refl _ _).alloc (Nat.le_refl _) _).trans (hkn.below (by simp) (fun i hi e => by omega))
           have hb35 : Below w3.heap.size w3 w5 := hb4.trans (hb45.mono hb4.size)
           have hu5 : UR w3 w5 v v4 s.bootT.1 := ⟨hu.1.below hb45, hu.2.mono (Nat.le_refl _) hb45.size⟩
           have H5 := Lib.hid (And.intro (H3.out.below hb35) (And.intro hbn (And.intro hb35 hu5)))
           have HA5 := Lib.hid (And.intro (HA3.out.1.below hb35 HA3.out.1.lt) (HA3.out.2.below hb35 HA3.out.2.lt))
           obtain ⟨b5, hb5⟩ : ∃ b5, w4.heap.size = b5 := ⟨_, rfl⟩
           have HN5 := Lib.hid (hb5 ▸ H5.out.2.1)
           try rw [hb5]
           clear hb5 hb45 hb35 hu5 hbn hkn hsn hb4 hu
           go_upto_region 14 with (first | (refine loadR rfl (.tmp 22) rfl rfl (s := s.bootT.1) (v := v4) HN5.out ?_) | (refine storeR rfl rfl (.tmp 7) (.tmp 76) rfl rfl (s := s.bootT.1) (v := v4) rfl H5.out.1.x rfl ?_; intro w6 hb6 hk6 hs6))
           have H6 : Hid (LI w1 w6 q s S2 bx s.bootT.1 v4) := Lib.hid (H3.out.xset H5.out.2.2.1 H5.out.2.2.2 hb6 hk6)
           have HA6 := Lib.hid (And.intro (Blk.keepX H5.out.1.x hk6 HA5.out.1 (by decide)) (Blk.keepX H5.out.1.x hk6 HA5.out.2 (by decide)))
           clear hb6 hk6 hs6 H5 HA5 HN5 H3 HA3
           obtain ⟨bb, hbb⟩ : ∃ bb, s.bootT.2 = bb := ⟨_, rfl⟩
           have HBB := Lib.hid hbb
           rw [hbb]
           clear hbb
           have hcx := uBoot H6.out.ow H6.out.bel.size HS.out
           rw [HBB.out] at hcx
           go_wp2_with fail
           (with_reducible refine hcx.mono ?_)
           clear hcx
           rintro e w7 ⟨rfl, S7, ho7, ht7⟩
           have H7 : Hid (LI w1 w7 q s.bootT.1 S7 bx s.bootT.1 v4) := Lib.hid (H6.out.turn ho7 ht7)
           have HA7 := Lib.hid (And.intro (H6.out.keepW ht7 HA6.out.1 (by decide)) (H6.out.keepW ht7 HA6.out.2 (by decide)))
           clear ho7 ht7 H6 HA6
           have tbb : (bb != bb) = false := by simp
           go_wp2_with fail
           go_meet
           exact ⟨s.bootT.1, _, v4, H7.out, HS.out.boot, HA7.out.1, HA7.out.2⟩
    case rest =>
     as_aux_lemma =>
      obtain ⟨s2, S3, v2, h5a, h5b, h5c, h5d⟩ := hcut
      have H5 := Lib.hid h5a
      have HS5 := Lib.hid h5b
      have HA5 := Lib.hid h5c
      have HF5 := Lib.hid h5d
      clear h5a h5b h5c h5d HS HW H3 HA3
      have e1 : wc.cell? ⟨ba, 1, none⟩ = some (.int .i64 a.now) := (HA5.out.cell 1).trans rfl
      have el := HA5.out.lt
      have hcx := same_t q s2 v2 a.now wc (H5.out.ow.pw HS5.out (by omega)) H5.out.rd (by have := HS5.out.hl; have := HS5.out.dl; omega)
      go_wp2_with (refine loadR rfl (.tmp 7) rfl rfl (s := s2) (v := v2) H5.out.x ?_)
      (with_reducible refine hcx.mono ?_)
      clear hcx e1 el
      rintro e w8 ⟨rfl, hb8⟩
      have H8 := Lib.hid (And.intro (H5.out.below hb8) (HF5.out.below hb8 HF5.out.lt))
      clear hb8 H5 HA5 HF5
      go_wp2_with fail
      go_roundw
      case rel => exact ⟨k + 1, s2, S3, v2, by omega, by go_num, H8.out.1, HS5.out, H8.out.2⟩
      case measure => simp [intOf]; omega
   ·as_aux_lemma =>
     have hkn : k = n := by omega
     subst hkn
     have HE0 := Lib.hid hI.bel
     have HFx := Lib.hid hF
     clear hI hS hF
     go_upto_region 49 with fail
     have hz := Blk.new wr 94 #[.int .i64 0, .int .i64 0, .int .i64 0, .int .i64 0, .int .i64 0, .int .i64 0, .int .i64 0, .int .i64 0, .int .i64 0, .int .i64 0, .int .i64 0, .bool false, .map none, .map none, .map none]
     have hBz : Below wr.heap.size wr (wr.alloc (.cells #[.int .i64 0, .int .i64 0, .int .i64 0, .int .i64 0, .int .i64 0, .int .i64 0, .int .i64 0, .int .i64 0, .int .i64 0, .int .i64 0, .int .i64 0, .bool false, .map none, .map none, .map none] 94)) := (Below.refl _ _).alloc (Nat.le_refl _) _
     obtain ⟨bz, hbz⟩ : ∃ bz, wr.heap.size = bz := ⟨_, rfl⟩
     rw [hbz] at hz
     have HZ := Lib.hid hz
     have HBz := Lib.hid (HE0.out.trans (hBz.mono HE0.out.size))
     have HFz := Lib.hid (HFx.out.below hBz HFx.out.lt)
     clear hz hBz HE0 HFx
     have HDz : Hid (Dead (wr.alloc (.cells #[.int .i64 0, .int .i64 0, .int .i64 0, .int .i64 0, .int .i64 0, .int .i64 0, .int .i64 0, .int .i64 0, .int .i64 0, .int .i64 0, .int .i64 0, .bool false, .map none, .map none, .map none] 94)) (.pointer (some ⟨bz, 0, none⟩))) := Lib.hid (Dead.zero (show Blk _ bz 94 (wkBox0 WS.zero) from HZ.out))
     try rw [hbz]
     generalize (wr.alloc (.cells #[.int .i64 0, .int .i64 0, .int .i64 0, .int .i64 0, .int .i64 0, .int .i64 0, .int .i64 0, .int .i64 0, .int .i64 0, .int .i64 0, .int .i64 0, .bool false, .map none, .map none, .map none] 94)) = wz at HDz HBz HFz HZ ⊢
     clear hbz HZ
     have hcx := deadTick HDz.out 1 3
     go_wp2_with fail
     (with_reducible refine hcx.mono ?_)
     clear hcx
     rintro e wq ⟨rfl, hw⟩
     replace hw := hw.symm
     subst hw
     obtain ⟨m0, m1, m2, m3, m4, m5, m6, m7, m8, m9, m10, m11⟩ : wz.cell? ⟨bf, 3, none⟩ = some (.int .i64 first.msg.kind) ∧ wz.cell? ⟨bf, 4, none⟩ = some (.int .i64 first.msg.frm) ∧ wz.cell? ⟨bf, 5, none⟩ = some (.int .i64 first.msg.to_) ∧ wz.cell? ⟨bf, 6, none⟩ = some (.int .i64 first.msg.epoch) ∧ wz.cell? ⟨bf, 7, none⟩ = some (.int .i64 first.msg.inc) ∧ wz.cell? ⟨bf, 8, none⟩ = some (.int .i64 first.msg.job) ∧ wz.cell? ⟨bf, 9, none⟩ = some (.int .i64 first.msg.tick) ∧ wz.cell? ⟨bf, 10, none⟩ = some (.int .i64 first.msg.prio) ∧ wz.cell? ⟨bf, 11, none⟩ = some (.int .i64 first.msg.code) ∧ wz.cell? ⟨bf, 12, none⟩ = some (.int .i64 first.msg.res.a) ∧ wz.cell? ⟨bf, 13, none⟩ = some (.int .i64 first.msg.res.b) ∧ wz.cell? ⟨bf, 14, none⟩ = some (.int .i64 first.msg.res.c) := ⟨(HFz.out.cell 3).trans rfl, (HFz.out.cell 4).trans rfl, (HFz.out.cell 5).trans rfl, (HFz.out.cell 6).trans rfl, (HFz.out.cell 7).trans rfl, (HFz.out.cell 8).trans rfl, (HFz.out.cell 9).trans rfl, (HFz.out.cell 10).trans rfl, (HFz.out.cell 11).trans rfl, (HFz.out.cell 12).trans rfl, (HFz.out.cell 13).trans rfl, (HFz.out.cell 14).trans rfl⟩
     have ml := HFz.out.lt
     have hcx := deadHear HDz.out 0 first.msg
     go_wp2_with fail
     (with_reducible refine hcx.mono ?_)
     clear hcx ml m0 m1 m2 m3 m4 m5 m6 m7 m8 m9 m10 m11
     rintro e w8 ⟨rfl, hb8⟩
     have HD8 := Lib.hid (HDz.out.below hb8)
     have HB8 := Lib.hid (HBz.out.trans (hb8.mono HBz.out.size))
     clear hb8 HDz HBz HFz
     have hcx := deadFinish HD8.out 0 1
     go_wp2_with fail
     (with_reducible refine hcx.mono ?_)
     clear hcx
     rintro e wq ⟨rfl, hw⟩
     replace hw := hw.symm
     subst hw
     have hcx := deadResize HD8.out ⟨0, 0, 0⟩
     go_wp2_with fail
     (with_reducible refine hcx.mono ?_)
     clear hcx
     rintro e w9 ⟨rfl, hb9⟩
     have HD9 := Lib.hid (HD8.out.below hb9)
     have HB9 := Lib.hid (HB8.out.trans (hb9.mono HB8.out.size))
     clear hb9 HD8 HB8
     have hcx := deadCrash HD9.out
     go_wp2_with fail
     (with_reducible refine hcx.mono ?_)
     clear hcx
     rintro e wq ⟨rfl, hw⟩
     replace hw := hw.symm
     subst hw
     have hcx := deadBoot HD9.out
     go_wp2_with fail
     (with_reducible refine hcx.mono ?_)
     clear hcx
     rintro e wq ⟨rfl, hw⟩
     replace hw := hw.symm
     subst hw
     have hcx := same_t (some ⟨bz, 0, none⟩) WS.zero RV.zero 0 w9 (PW.of_dead HD9.out) (RdR.nil w9 RV.zero WS.zero rfl rfl rfl) ⟨by decide, by decide⟩
     change Calls Tryd.prog 42 #[.pointer (some ⟨bz, 0, none⟩), .agg #[.int .i64 0, .int .i64 0, .int .i64 0, .int .i64 0, .int .i64 0, .int .i64 0, .int .i64 0, .int .i64 0, .bool false, .int .i64 0, .int .i64 0, .int .i64 0, .slice none 0 0, .slice none 0 0, .slice none 0 0], .int .i64 0] w9 _ at hcx
     go_wp2_with fail
     (with_reducible refine hcx.mono ?_)
     clear hcx
     rintro e wa ⟨rfl, hba⟩
     have HBa := Lib.hid (HB1.out.trans ((HB9.out.trans (hba.mono HB9.out.size)).mono HB1.out.size))
     clear hba HB9 HD9
     go_wp2_with fail
     (with_reducible refine (awake39 _ (Hh.out.2.2.below HBa.out)).mono ?_)
     rintro e wb ⟨rfl, hbb⟩
     have HE := Lib.hid (HBa.out.trans (hbb.mono HBa.out.size))
     clear hbb
     go_wp2
     go_ret
     exact ⟨rfl, HE.out⟩
end Go.Proofs.YthhnocnkicoimaaDoor
