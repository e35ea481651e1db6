/-
  LAYER 39 (worker): the law WorkerFenced, walked.
-/
import Derived.Test.YthhnocnkicoimaaDoorWk13
import Derived.Deep.CutRange
import Derived.BigQuiet
import Derived.Test.YthhnocnkicoimaaDoorLd39
import Derived.Deep.CutBlock
set_option linter.unusedVariables false
set_option linter.unusedSimpArgs false
namespace Go.Proofs.YthhnocnkicoimaaDoor
open Go.RowKit Go.Maps

structure WF (w0 wr : World) (c : Nat) (v : WV) (s : WS) (A : Option Addr) (an ac : Nat) (told : List Int) (B : Option Addr) (bn bc : Nat) (was : List Int) : Prop where
  ob : WkAt wr c v s
  sb : ∀ k, wkS c v k → w0.heap.size ≤ k
  oa : OwnL encI 3 1 wr w0.heap.size A an ac told
  obb : OwnL encI 3 1 wr w0.heap.size B bn bc was
  nab : ∀ ad ad', A = some ad → B = some ad' → ad.block ≠ ad'.block
  bel : Below w0.heap.size w0 wr
section
variable {w0 wr w' : World} {c : Nat} {v v' : WV} {s s' : WS} {A A' : Option Addr} {an ac an' ac' : Nat} {told l' : List Int} {B : Option Addr} {bn bc : Nat} {was : List Int}
theorem WF.below (h : WF w0 wr c v s A an ac told B bn bc was) (hb : Below wr.heap.size wr w') : WF w0 w' c v s A an ac told B bn bc was :=
  ⟨h.ob.below hb, h.sb, h.oa.below hb, h.obb.below hb, h.nab, h.bel.trans (hb.mono h.bel.size)⟩
theorem own_not {w : World} {base n ca : Nat} {B : Option Addr} {l : List Int} (h : WkAt w c v s) (ho : OwnL encI 3 1 w base B n ca l) : ∀ ad, B = some ad → ¬ wkS c v ad.block := fun ad ha => by
  obtain ⟨cs, hb⟩ := ho.blkw ha
  exact h.not_blk hb (by decide)
theorem WF.turn (h : WF w0 wr c v s A an ac told B bn bc was) (h1 : WkAt w' c v' s') (ht : Turned (wkS c v) (wkS c v') wr w') : WF w0 w' c v' s' A an ac told B bn bc was :=
  ⟨h1, ht.ge h.bel.size h.sb, h.oa.kept ht.kept (own_not h.ob h.oa), h.obb.kept ht.kept (own_not h.ob h.obb), h.nab, h.bel.trans (ht.below h.bel.size h.sb)⟩
theorem WF.app (h : WF w0 wr c v s A an ac told B bn bc was) (ho : OwnL encI 3 1 w' w0.heap.size A' an' ac' l') (hg : wr.grownBy w' (Value.slice A an ac).ownBlock) (hp : ∀ ad, A' = some ad → A = some ad ∨ ad.block = wr.heap.size) : WF w0 w' c v s A' an' ac' l' B bn bc was := by
  have hk : Kept (fun k => ∃ ad, A = some ad ∧ ad.block = k) wr w' := Kept.of_grown hg (fun k hk _ => own_at_ hk)
  refine ⟨h.ob.kept hk (fun k hk2 ⟨ad, ha, e⟩ => own_not h.ob h.oa ad ha (e ▸ hk2)), h.sb, ho, h.obb.kept hk (fun ad hb ⟨ad', ha, e⟩ => h.nab ad' ad ha hb e), fun ad ad' ha hb e => ?_, h.bel.trans (hk.below h.bel.size (fun b hb ⟨ad, ha, e⟩ => by have := (h.oa.at_base ad ha).1; omega))⟩
  rcases hp ad ha with e2 | e2
  · exact h.nab ad ad' e2 hb e
  · have := (h.obb.at_base ad' hb).2; omega
theorem WF.keep (h : WF w0 wr c v s A an ac told B bn bc was) {S' : Nat → Prop} (ht : Turned (wkS c v) S' wr w') {b : Nat} {t : TypeId} {cs : Array Value} (hb : Blk wr b t cs) (h1 : t ≠ 94) : Blk w' b t cs :=
  hb.kept ht.kept (h.ob.not_blk hb h1)
/-- Another row has been made. -/
theorem WF.wasB (h : WF w0 wr c v s A an ac told B bn bc was) {B' : Option Addr} {bn' bc' : Nat} {was' : List Int} (hb : Below wr.heap.size wr w') (ho : OwnL encI 3 1 w' wr.heap.size B' bn' bc' was') : WF w0 w' c v s A an ac told B' bn' bc' was' :=
  ⟨h.ob.below hb, h.sb, h.oa.below hb, ho.lower h.bel.size, fun ad ad' ha hb' e => by have := (h.oa.at_base ad ha).2; have := (ho.at_base ad' hb').1; omega, h.bel.trans (hb.mono h.bel.size)⟩
theorem WF.nilA (h : WF w0 wr c v s A an ac told B bn bc was) : WF w0 wr c v s none 0 0 [] B bn bc was := ⟨h.ob, h.sb, OwnL.nil _ _, h.obb, fun _ _ h => (by cases h), h.bel⟩
theorem WF.noB (h : WF w0 wr c v s A an ac told B bn bc was) : WF w0 wr c v s A an ac told none 0 0 [] := ⟨h.ob, h.sb, h.oa, OwnL.nil _ _, fun _ _ _ h => (by cases h), h.bel⟩
end
theorem RdI.at_lt {w : World} {kb ko n : Nat} {l : List Int} (h : RdI w (some ⟨kb, ko, none⟩) n l) {j : Nat} (hj : j < n) : kb < w.heap.size := by
  obtain ⟨b, o, x, e, hx, hlt, hc⟩ := Rd.at_ h hj
  cases e
  exact hlt
theorem take_mem_succ {l : List Int} {i : Nat} {z : Int} (hz : l[i]? = some z) (y : Int) : decide (y ∈ l.take (i + 1)) = (decide (y ∈ l.take i) || (z == y)) := by
  rw [List.take_add_one, hz, Bool.eq_iff_iff]
  simp only [decide_eq_true_eq, Bool.or_eq_true, beq_iff_eq, Option.toList_some, List.mem_append, List.mem_singleton]
  exact ⟨fun h => h.imp id Eq.symm, fun h => h.imp id Eq.symm⟩
theorem wfAct39_job {a : LAct39} (h : wfAct39 a) : wf64 a.msg.job ∧ wf64 a.n := ⟨h.2.2.2.1.2.2.2.2.2.1, h.2.2.1⟩
theorem and1 (x : Int) : 0 ≤ bits .and .i64 x 1 ∧ bits .and .i64 x 1 ≤ 1 := by
  have hd : bits .and .i64 x 1 = IntKind.i64.wrap ((BitVec.ofInt 64 x &&& BitVec.ofInt 64 1).toNat : Int) := rfl
  have h : (BitVec.ofInt 64 x &&& BitVec.ofInt 64 1).toNat ≤ 1 := by
    rw [BitVec.toNat_and]
    exact Nat.le_trans Nat.and_le_right (by decide)
  rw [hd, IntWalk.i64_in _ (by omega)]
  omega
theorem FN.start : FN (WS.made 2 6 ⟨9, 9, 9⟩) 0 0 [] 0 := ⟨rfl, rfl, ⟨by decide, by decide⟩, by decide, ⟨by decide, by decide⟩, by decide, ⟨by decide, by decide⟩, by decide, fun _ => rfl, by decide, by decide, by decide, by decide, by decide⟩
set_option maxRecDepth 100000 in
set_option maxHeartbeats 12800000 in
theorem fenced39 (A : Option Addr) (n c0 : Nat) (l : List LAct39) (w : World) (h : Rd encAct39 18 w A n l) (hw : ∀ a ∈ l, wfAct39 a) (hwy : WaysAt w) :
    Calls Tryd.prog 5 #[.slice A n c0] w fun e w' => e = .returned (.bool true) ∧ Below w.heap.size w w' := by
  by_cases hb1 : 120 < n
  · go_enter Tryd.func5, Tryd.ntmps5
    go_wp2_with (go_at_call 22; with_reducible refine (awake39 _ hwy).mono ?_; rintro e w' ⟨rfl, hb⟩)
    go_ret
    exact ⟨rfl, hb⟩
  have hn : n ≤ 120 := by omega
  have Hh := Lib.hid (And.intro h (And.intro hw hwy))
  clear hb1 h hw hwy
  go_enter Tryd.func5, Tryd.ntmps5
  go_wp2_with fail
  have hcx := wkNew (w := w) 2 6 ⟨9, 9, 9⟩ (by decide) (by decide) (by decide)
  (with_reducible refine hcx.mono ?_)
  clear hcx
  rintro e w1 ⟨c, v, rfl, hw1, hs, hb⟩
  have HQ0 : Hid (WF w w1 c v (WS.made 2 6 ⟨9, 9, 9⟩) none 0 0 [] none 0 0 []) := Lib.hid ⟨hw1, hs, OwnL.nil _ _, OwnL.nil _ _, fun _ _ h => (by cases h), hb⟩
  clear hw1 hs hb
  go_wp2
  go_loopw [5, 6, 7, 8] (fun x5 x6 x7 i wr => ∃ (k : Nat) (s : WS) (v : WV) (now last : Int) (A : Option Addr) (an ac : Nat) (told : List Int), k ≤ n ∧ i = .int .i64 k ∧ x5 = .int .i64 now ∧ x6 = .int .i64 last ∧ x7 = .slice A an ac ∧ WF w wr c v s A an ac told none 0 0 [] ∧ FN s now last told k) (fun _ _ _ i _ => n - (intOf i).toNat)
  case atStart => exact ⟨0, _, v, 0, 0, none, 0, 0, [], Nat.zero_le _, rfl, rfl, rfl, rfl, HQ0.out, FN.start⟩
  case round =>
    clear HQ0
    obtain ⟨k, s, v, now, last, A, an, ac, told, hk, rfl, rfl, rfl, rfl, hQ, hN⟩ := hrel
    by_cases hlt : k < n
    · obtain ⟨ab, ao, a, rfl, haa, hal, hcells⟩ := (Hh.out.1.below hQ.bel).at_ hlt
      have hwa := wfAct39_job (Hh.out.2.1 a (List.mem_of_getElem? haa))
      have hba := Blk.new wr 62 (boxAct39 a)
      have hBA : Below wr.heap.size wr (wr.alloc (.cells (boxAct39 a) 62)) := (Below.refl _ _).alloc (Nat.le_refl _) _
      have HQ := Lib.hid (And.intro (hQ.below hBA) hN)
      have HBA := Lib.hid hba
      have HW := Lib.hid hwa
      have hk9 : k ≤ 900 := by omega
      clear haa hwa hba hBA hQ hN
      go_upto_region 12 with (first | (refine load39 rfl (.tmp 47) rfl ab (ao + k * 18) rfl a hcells ?_) | (refine store39 rfl rfl (.tmp 9) (.tmp 48) rfl _ a rfl rfl rfl ?_))
      generalize (wr.alloc (.cells (boxAct39 a) 62)) = wA at HQ HBA ⊢
      obtain ⟨ba, hba⟩ : ∃ ba, wr.heap.size = ba := ⟨_, rfl⟩
      rw [hba] at HBA
      try rw [hba]
      clear hba hal hcells
      have hcx := wkInfo HQ.out.1.ob (by rw [HQ.out.2.span]; decide)
      go_wp2_with fail
      (with_reducible refine hcx.mono ?_)
      clear hcx
      rintro e w2 ⟨rfl, hb2⟩
      have H2 := Lib.hid (And.intro (HQ.out.1.below hb2) (HBA.out.below hb2 HBA.out.lt))
      have HN := Lib.hid HQ.out.2
      clear hb2 HQ HBA
      have hcx := wkDone H2.out.1.ob (by have := HN.out.dl; omega)
      go_wp2_with fail
      (with_reducible refine hcx.mono ?_)
      clear hcx
      rintro e w3 ⟨B, bn, bc, rfl, ho3, hb3⟩
      have H3 := Lib.hid (And.intro (H2.out.1.wasB hb3 ho3) (H2.out.2.below hb3 H2.out.2.lt))
      clear ho3 hb3 H2
      have e0 : w3.cell? ⟨ba, 0, none⟩ = some (.int .i64 a.kind) := (H3.out.2.cell 0).trans rfl
      have el := H3.out.2.lt
      go_upto_block 2 with fail
      clear e0 el
      go_cut [5, 6, 7, 14] from 39 to 222 (fun x5 x6 x7 x14 wx => ∃ (s2 : WS) (v2 : WV) (now2 last2 : Int) (A2 : Option Addr) (an2 ac2 : Nat) (told2 : List Int), x5 = .int .i64 now2 ∧ x6 = .int .i64 last2 ∧ x7 = .slice A2 an2 ac2 ∧ WF w wx c v2 s2 A2 an2 ac2 told2 B bn bc s.done ∧ FS s s2 now2 last2 told2 k)
      case first =>
        by_cases hk1 : a.kind = 1
        · have t1 : (a.kind == 1) = true := by simp [hk1]
          clear hk1
          as_aux_lemma =>
            obtain ⟨hd0, hd1⟩ := and1 a.n
            have hnw0 := HN.out.nw
            have e2 : w3.cell? ⟨ba, 2, none⟩ = some (.int .i64 a.n) := (H3.out.2.cell 2).trans rfl
            have el := H3.out.2.lt
            go_upto_region 17 with fail
            clear e2 el
            generalize bits BinOp.and IntKind.i64 a.n 1 = d at *
            obtain ⟨nw, hnw⟩ : ∃ nw, now + 1 + d = nw := ⟨_, rfl⟩
            have hnb : 0 ≤ nw ∧ nw ≤ 2 * ((k : Int) + 1) := by omega
            rw [hnw]
            clear hnw hd0 hd1 hnw0
            rcases Bool.eq_false_or_eq_true s.up with hu | hu
            · have hcx := wkTick H3.out.1.ob nw 2 hu (by have := HN.out.inc; omega) (by have := HN.out.un; have := HN.out.fi; have := HN.out.span; omega) (by have := HN.out.node; omega) (by have := HN.out.dl; omega)
              go_wp2_with fail
              (with_reducible refine hcx.mono ?_)
              clear hcx
              rintro e w5 ⟨⟨A5, n5, c5, rfl, _⟩, v5, hw5, ht5⟩
              have H5 := Lib.hid (H3.out.1.turn hw5 ht5)
              clear hw5 ht5
              by_cases h1 : 0 < s.until_
              · have t2 : decide (0 < s.until_) = true := decide_eq_true h1
                by_cases h2 : s.until_ ≤ nw
                · have t3 : decide (s.until_ ≤ nw) = true := decide_eq_true h2
                  have hlv : (s.tick nw).live nw = false := (tick_dead h1 h2).1
                  have hhd : (s.tick nw).held = [] := (tick_dead h1 h2).2
                  have hcx := wkLive H5.out.ob nw
                  rw [hlv] at hcx
                  clear h1 h2 hlv
                  go_wp2_with fail
                  (with_reducible refine hcx.mono ?_)
                  clear hcx
                  rintro e w6 ⟨rfl, hw6⟩
                  subst hw6
                  have hcx := wkHeld H5.out.ob (by rw [hhd]; decide)
                  rw [hhd] at hcx
                  go_wp2_with fail
                  (with_reducible refine hcx.mono ?_)
                  clear hcx hhd
                  rintro e w7 ⟨A7, n7, c7, rfl, ho7, hb7⟩
                  obtain rfl : n7 = 0 := by have := ho7.len; simpa using this.symm
                  have HF := Lib.hid (H5.out.below hb7)
                  clear ho7 hb7
                  go_wp2_with fail
                  go_meet
                  exact ⟨s.tick nw, v5, nw, last, A, an, ac, told, rfl, rfl, rfl, HF.out, HN.out.tick hk9 hnb⟩
                · have t3 : decide (s.until_ ≤ nw) = false := decide_eq_false h2
                  have HF := H5
                  clear h1 h2
                  go_wp2_with fail
                  go_meet
                  exact ⟨s.tick nw, v5, nw, last, A, an, ac, told, rfl, rfl, rfl, HF.out, HN.out.tick hk9 hnb⟩
              · have t2 : decide (0 < s.until_) = false := decide_eq_false h1
                have HF := H5
                clear h1
                go_wp2_with fail
                go_meet
                exact ⟨s.tick nw, v5, nw, last, A, an, ac, told, rfl, rfl, rfl, HF.out, HN.out.tick hk9 hnb⟩
            · have hcx := wkTick_down H3.out.1.ob nw 2 hu
              go_wp2_with fail
              (with_reducible refine hcx.mono ?_)
              clear hcx
              rintro e w5 ⟨rfl, hw5⟩
              have H5 := Lib.hid H3.out.1
              rw [← hw5] at H5
              clear hw5
              by_cases h1 : 0 < s.until_
              · have t2 : decide (0 < s.until_) = true := decide_eq_true h1
                by_cases h2 : s.until_ ≤ nw
                · have t3 : decide (s.until_ ≤ nw) = true := decide_eq_true h2
                  have hlv : (s).live nw = false := by unfold WS.live; rw [hu]; rfl
                  have hhd : (s).held = [] := HN.out.down hu
                  have hcx := wkLive H5.out.ob nw
                  rw [hlv] at hcx
                  clear h1 h2 hlv
                  go_wp2_with fail
                  (with_reducible refine hcx.mono ?_)
                  clear hcx
                  rintro e w6 ⟨rfl, hw6⟩
                  subst hw6
                  have hcx := wkHeld H5.out.ob (by rw [hhd]; decide)
                  rw [hhd] at hcx
                  go_wp2_with fail
                  (with_reducible refine hcx.mono ?_)
                  clear hcx hhd
                  rintro e w7 ⟨A7, n7, c7, rfl, ho7, hb7⟩
                  obtain rfl : n7 = 0 := by have := ho7.len; simpa using this.symm
                  have HF := Lib.hid (H5.out.below hb7)
                  clear ho7 hb7
                  go_wp2_with fail
                  go_meet
                  exact ⟨s, v, nw, last, A, an, ac, told, rfl, rfl, rfl, HF.out, HN.out.same hnb⟩
                · have t3 : decide (s.until_ ≤ nw) = false := decide_eq_false h2
                  have HF := H5
                  clear h1 h2
                  go_wp2_with fail
                  go_meet
                  exact ⟨s, v, nw, last, A, an, ac, told, rfl, rfl, rfl, HF.out, HN.out.same hnb⟩
              · have t2 : decide (0 < s.until_) = false := decide_eq_false h1
                have HF := H5
                clear h1
                go_wp2_with fail
                go_meet
                exact ⟨s, v, nw, last, A, an, ac, told, rfl, rfl, rfl, HF.out, HN.out.same hnb⟩
        · have t1 : (a.kind == 1) = false := by simp [hk1]
          clear hk1
          by_cases hk2 : a.kind = 2
          · have t2 : (a.kind == 2) = true := by simp [hk2]
            clear hk2
            as_aux_lemma =>
              obtain ⟨M, hM⟩ : ∃ M : LMsg, (⟨a.msg.kind, a.msg.frm, 102, a.msg.epoch, a.msg.inc, a.msg.job, a.msg.tick, a.msg.prio, a.msg.code, a.msg.res⟩ : LMsg) = M := ⟨_, rfl⟩
              have hMj : wf64 M.job := by rw [← hM]; exact HW.out.1
              have e3 : w3.cell? ⟨ba, 3, none⟩ = some (.int .i64 a.msg.kind) := (H3.out.2.cell 3).trans rfl
              have e4 : w3.cell? ⟨ba, 4, none⟩ = some (.int .i64 a.msg.frm) := (H3.out.2.cell 4).trans rfl
              have e5 : w3.cell? ⟨ba, 5, none⟩ = some (.int .i64 a.msg.to_) := (H3.out.2.cell 5).trans rfl
              have e6 : w3.cell? ⟨ba, 6, none⟩ = some (.int .i64 a.msg.epoch) := (H3.out.2.cell 6).trans rfl
              have e7 : w3.cell? ⟨ba, 7, none⟩ = some (.int .i64 a.msg.inc) := (H3.out.2.cell 7).trans rfl
              have e8 : w3.cell? ⟨ba, 8, none⟩ = some (.int .i64 a.msg.job) := (H3.out.2.cell 8).trans rfl
              have e9 : w3.cell? ⟨ba, 9, none⟩ = some (.int .i64 a.msg.tick) := (H3.out.2.cell 9).trans rfl
              have e10 : w3.cell? ⟨ba, 10, none⟩ = some (.int .i64 a.msg.prio) := (H3.out.2.cell 10).trans rfl
              have e11 : w3.cell? ⟨ba, 11, none⟩ = some (.int .i64 a.msg.code) := (H3.out.2.cell 11).trans rfl
              have e12 : w3.cell? ⟨ba, 12, none⟩ = some (.int .i64 a.msg.res.a) := (H3.out.2.cell 12).trans rfl
              have e13 : w3.cell? ⟨ba, 13, none⟩ = some (.int .i64 a.msg.res.b) := (H3.out.2.cell 13).trans rfl
              have e14 : w3.cell? ⟨ba, 14, none⟩ = some (.int .i64 a.msg.res.c) := (H3.out.2.cell 14).trans rfl
              have el := H3.out.2.lt
              go_upto_region 23 with fail
              clear e3 e4 e5 e6 e7 e8 e9 e10 e11 e12 e13 e14 el
              have hbm := Blk.new w3 38 (boxMsg M)
              have hB4 : Below w3.heap.size w3 (w3.alloc (.cells (boxMsg M) 38)) := (Below.refl _ _).alloc (Nat.le_refl _) _
              have H4 := Lib.hid (And.intro (H3.out.1.below hB4) hbm)
              clear hbm hB4
              rw [show (w3.alloc (.cells #[.int .i64 a.msg.kind, .int .i64 a.msg.frm, .int .i64 102, .int .i64 a.msg.epoch, .int .i64 a.msg.inc, .int .i64 a.msg.job, .int .i64 a.msg.tick, .int .i64 a.msg.prio, .int .i64 a.msg.code, .int .i64 a.msg.res.a, .int .i64 a.msg.res.b, .int .i64 a.msg.res.c] 38)) = (w3.alloc (.cells (boxMsg M) 38)) by rw [← hM]]
              clear hM
              generalize (w3.alloc (.cells (boxMsg M) 38)) = w4 at H4 ⊢
              obtain ⟨bm, hbm⟩ : ∃ bm, w3.heap.size = bm := ⟨_, rfl⟩
              rw [hbm] at H4
              try rw [hbm]
              clear hbm
              obtain ⟨m0, m1, m2, m3, m4, m5, m6, m7, m8, m9, m10, m11⟩ := msgCells H4.out.2
              have ml := H4.out.2.lt
              have hcx := wkHear H4.out.1.ob (Hh.out.2.2.below H4.out.1.bel) (by have := HN.out.node; omega) now M hMj (wf64_mk (by have := HN.out.nw; omega)) (by have := HN.out.hl; omega) (by have := HN.out.tl; omega)
              rcases Bool.eq_false_or_eq_true (s.hear now M).2 with hb | hb
              · as_aux_lemma =>
                  have HB := Lib.hid hb
                  rw [hb] at hcx
                  clear hb
                  go_wp2_with fail
                  (with_reducible refine hcx.mono ?_)
                  clear hcx ml m0 m1 m2 m3 m4 m5 m6 m7 m8 m9 m10 m11
                  rintro e w5 ⟨rfl, v5, hw5, ht5⟩
                  have H5 := Lib.hid (And.intro (H4.out.1.turn hw5 ht5) (H4.out.1.keep ht5 H4.out.2 (by decide)))
                  clear hw5 ht5
                  obtain ⟨m0, m1, m2, m3, m4, m5, m6, m7, m8, m9, m10, m11⟩ := msgCells H5.out.2
                  have ml := H5.out.2.lt
                  obtain ⟨hle, hinc, hack, hfs⟩ := HN.out.hear_yes M HB.out
                  have HFS := Lib.hid hfs
                  clear hfs
                  have t1 : decide (M.epoch < last) = false := decide_eq_false (by omega)
                  have t2 : (M.inc != s.inc) = false := by simp [hinc]
                  by_cases hk2 : M.kind = 2
                  · have t3 : (M.kind == 2) = true := by simp [hk2]
                    have t5 : decide (now < M.tick) = false := decide_eq_false (by have := hack hk2; omega)
                    have hk3 : ¬ M.kind = 3 := by omega
                    have t4 : (M.kind == 3) = false := by simp [hk3]
                    rw [if_neg hk3] at HFS
                    have HF := Lib.hid H5.out.1
                    clear hk2 hk3 hack hle hinc
                    go_wp2_with fail
                    go_meet
                    exact ⟨_, v5, now, M.epoch, A, an, ac, told, rfl, rfl, rfl, HF.out, HFS.out⟩
                  · have t3 : (M.kind == 2) = false := by simp [hk2]
                    clear hk2 hack hle hinc
                    by_cases hk3 : M.kind = 3
                    · as_aux_lemma =>
                        have t4 : (M.kind == 3) = true := by simp [hk3]
                        rw [if_pos hk3] at HFS
                        have hlen := H5.out.1.oa.len
                        have hml := HN.out.ml
                        clear hk3
                        go_wp2_with (at_builtin; refine wp_app (enc := encI) (fun _ => rfl) (by simp [encI, Value.oneCell']) rfl (.tmp 123) (.tmp 126) 29 rfl 3 (.int .i64 0) 8 Tryd.underlying29 Tryd.infoInt rfl (by decide) w.heap.size A an ac told rfl (H5.out.1.oa.alloc _) _ 1 _ [M.job] rfl (Rd.new1 _ M.job _ _ _ rfl) (an + 1) rfl _ rfl (by omega) (by omega) (by have := H5.out.1.bel.size; simp; omega) ?_; intro A6 c6 w6 ho6 hg6 hp6; have HF := Lib.hid (WF.app (H5.out.1.below ((Below.refl _ _).alloc (Nat.le_refl _) (.cells #[.int .i64 M.job] 3))) ho6 hg6 hp6); clear ho6 hg6 hp6)
                        go_meet
                        exact ⟨_, v5, now, M.epoch, A6, an + 1, c6, told ++ [M.job], rfl, rfl, rfl, HF.out, HFS.out⟩
                    · as_aux_lemma =>
                        have t4 : (M.kind == 3) = false := by simp [hk3]
                        rw [if_neg hk3] at HFS
                        have HF := Lib.hid H5.out.1
                        clear hk3
                        go_wp2_with fail
                        go_meet
                        exact ⟨_, v5, now, M.epoch, A, an, ac, told, rfl, rfl, rfl, HF.out, HFS.out⟩
              · as_aux_lemma =>
                  rw [hb] at hcx
                  go_wp2_with fail
                  (with_reducible refine hcx.mono ?_)
                  clear hcx ml m0 m1 m2 m3 m4 m5 m6 m7 m8 m9 m10 m11
                  rintro e w5 ⟨rfl, v5, hw5, ht5⟩
                  have HF := Lib.hid (H4.out.1.turn hw5 ht5)
                  clear hw5 ht5
                  go_wp2_with fail
                  go_meet
                  exact ⟨_, v5, now, last, A, an, ac, told, rfl, rfl, rfl, HF.out, HN.out.hear_no M hb⟩
          · have t2 : (a.kind == 2) = false := by simp [hk2]
            clear hk2
            by_cases hk3 : a.kind = 3
            · have t3 : (a.kind == 3) = true := by simp [hk3]
              clear hk3
              as_aux_lemma =>
                have e2 : w3.cell? ⟨ba, 2, none⟩ = some (.int .i64 a.n) := (H3.out.2.cell 2).trans rfl
                have el := H3.out.2.lt
                rcases Bool.eq_false_or_eq_true (s.live now) with hl | hl
                · by_cases hin : a.n ∈ s.held
                  · have hcx := wkFinish_yes H3.out.1.ob now a.n hl HW.out.2 (wf64_mk (by have := HN.out.nw; omega)) hin (by have := HN.out.dl; omega)
                    go_wp2_with fail
                    (with_reducible refine hcx.mono ?_)
                    clear hcx e2 el
                    rintro e w5 ⟨rfl, v5, hw5, ht5⟩
                    have HF := Lib.hid (H3.out.1.turn hw5 ht5)
                    clear hw5 ht5
                    go_wp2_with fail
                    go_meet
                    exact ⟨s.fin a.n, v5, now, last, A, an, ac, told, rfl, rfl, rfl, HF.out, HN.out.fin a.n (by unfold WS.live at hl; simp at hl; exact hl.1)⟩
                  · have hcx := wkFinish_no H3.out.1.ob now a.n hl HW.out.2 hin
                    go_wp2_with fail
                    (with_reducible refine hcx.mono ?_)
                    clear hcx e2 el
                    rintro e w5 ⟨rfl, hw5⟩
                    have HF := Lib.hid H3.out.1
                    rw [← hw5] at HF
                    clear hw5
                    go_wp2_with fail
                    go_meet
                    exact ⟨s, v, now, last, A, an, ac, told, rfl, rfl, rfl, HF.out, HN.out.same HN.out.nowup⟩
                · have hcx := wkFinish_dead H3.out.1.ob now a.n hl
                  go_wp2_with fail
                  (with_reducible refine hcx.mono ?_)
                  clear hcx e2 el
                  rintro e w5 ⟨rfl, hw5⟩
                  have HF := Lib.hid H3.out.1
                  rw [← hw5] at HF
                  clear hw5
                  go_wp2_with fail
                  go_meet
                  exact ⟨s, v, now, last, A, an, ac, told, rfl, rfl, rfl, HF.out, HN.out.same HN.out.nowup⟩
            · have t3 : (a.kind == 3) = false := by simp [hk3]
              clear hk3
              by_cases hk5 : a.kind = 5
              · have t5 : (a.kind == 5) = true := by simp [hk5]
                clear hk5
                as_aux_lemma =>
                  have hcx := wkCrash H3.out.1.ob
                  rcases Bool.eq_false_or_eq_true s.up with hu | hu
                  · rw [hu] at hcx
                    go_wp2_with fail
                    (with_reducible refine hcx.mono ?_)
                    clear hcx
                    rintro e w5 ⟨rfl, v5, hw5, ht5⟩
                    simp only [Bool.false_eq_true, if_true, if_false] at hw5
                    have HF := Lib.hid (H3.out.1.turn hw5 ht5)
                    clear hw5 ht5
                    go_wp2_with fail
                    go_meet
                    exact ⟨s.crash, v5, now, last, A, an, ac, told, rfl, rfl, rfl, HF.out, HN.out.crash⟩
                  · rw [hu] at hcx
                    go_wp2_with fail
                    (with_reducible refine hcx.mono ?_)
                    clear hcx
                    rintro e w5 ⟨rfl, v5, hw5, ht5⟩
                    simp only [Bool.false_eq_true, if_true, if_false] at hw5
                    have HF := Lib.hid (H3.out.1.turn hw5 ht5)
                    clear hw5 ht5
                    go_wp2_with fail
                    go_meet
                    exact ⟨s, v5, now, last, A, an, ac, told, rfl, rfl, rfl, HF.out, HN.out.same HN.out.nowup⟩
              · have t5 : (a.kind == 5) = false := by simp [hk5]
                clear hk5
                by_cases hk6 : a.kind = 6
                · have t6 : (a.kind == 6) = true := by simp [hk6]
                  clear hk6
                  as_aux_lemma =>
                    have hcx := wkBoot H3.out.1.ob (by rw [HN.out.span]; decide) (by have := HN.out.inc; omega)
                    rcases Bool.eq_false_or_eq_true s.up with hu | hu
                    · rw [hu] at hcx
                      go_wp2_with fail
                      (with_reducible refine hcx.mono ?_)
                      clear hcx
                      rintro e w5 ⟨rfl, v5, hw5, ht5⟩
                      simp only [Bool.false_eq_true, if_true, if_false] at hw5
                      have HF := Lib.hid (H3.out.1.turn hw5 ht5)
                      clear hw5 ht5
                      go_wp2_with fail
                      go_meet
                      exact ⟨s, v5, now, last, A, an, ac, told, rfl, rfl, rfl, HF.out, HN.out.same HN.out.nowup⟩
                    · rw [hu] at hcx
                      go_wp2_with fail
                      (with_reducible refine hcx.mono ?_)
                      clear hcx
                      rintro e w5 ⟨rfl, v5, hw5, ht5⟩
                      simp only [Bool.false_eq_true, if_true, if_false] at hw5
                      have HF := Lib.hid (H3.out.1.turn hw5 ht5)
                      clear hw5 ht5
                      go_wp2_with fail
                      go_meet
                      exact ⟨s.boot, v5, now, last, A, an, ac, told, rfl, rfl, rfl, HF.out, HN.out.boot hk9⟩
                · have t6 : (a.kind == 6) = false := by simp [hk6]
                  clear hk6
                  as_aux_lemma =>
                    have HF := Lib.hid H3.out.1
                    go_wp2_with fail
                    go_meet
                    exact ⟨s, v, now, last, A, an, ac, told, rfl, rfl, rfl, HF.out, HN.out.same HN.out.nowup⟩
      case rest =>
        as_aux_lemma =>
          obtain ⟨s2, v2, now2, last2, A2, an2, ac2, told2, rfl, rfl, rfl, hq, hfs⟩ := hcut
          have HQ2 := Lib.hid hq
          have HFS := Lib.hid hfs
          have HND := HN.out.dl
          clear hq hfs HN HW H3
          have hcx := wkInfo HQ2.out.ob (by rw [HFS.out.fn.span]; decide)
          go_wp2_with fail
          (with_reducible refine hcx.mono ?_)
          clear hcx
          rintro e w4 ⟨rfl, hb4⟩
          have H4 := Lib.hid (HQ2.out.below hb4)
          clear hb4 HQ2
          have t1 : decide (s2.inc < s.inc) = false := decide_eq_false (by have := HFS.out.inc; omega)
          have t2 : decide (s2.epoch < last2) = false := decide_eq_false (by have := HFS.out.fn.la; omega)
          go_upto_region 38 with fail
          clear t1 t2
          go_cut [164] from 157 to 163 (fun v164 wx => v164 = .bool (decide (s2.inc ≠ s.inc ∨ s2.up = false)) ∧ wx = w4)
          case first =>
            by_cases hi : s2.inc = s.inc
            · have t1 : (s2.inc != s.inc) = false := by simp [hi]
              have hcx := wkUp H4.out.ob
              clear hi
              go_wp2_with fail
              (with_reducible refine hcx.mono ?_)
              clear hcx
              rintro e w5 ⟨rfl, hw5⟩
              subst hw5
              go_wp2_with fail
              go_meet
              exact ⟨congrArg Value.bool (by cases hu : s2.up <;> simp_all), rfl⟩
            · have t1 : (s2.inc != s.inc) = true := by simp [hi]
              clear hi
              go_wp2_with fail
              go_meet
              exact ⟨congrArg Value.bool (by simp_all), rfl⟩
          case rest =>
            obtain ⟨rfl, rfl⟩ := hcut
            go_upto_if 164 with (fail)
            go_cut [7] from 157 to 164 (fun v7 wx => ∃ (A3 : Option Addr) (n3 c3 : Nat) (told3 : List Int), v7 = .slice A3 n3 c3 ∧ WF w wx c v2 s2 A3 n3 c3 told3 B bn bc s.done ∧ FN s2 now2 last2 told3 (k + 1))
            case first =>
              have hfn := HFS.out.reset
              by_cases hr : s2.inc ≠ s.inc ∨ s2.up = false
              · rw [decide_eq_true hr]
                rw [if_pos hr] at hfn
                have HF := Lib.hid (And.intro H4.out.nilA hfn)
                clear hr hfn
                go_wp2_with fail
                go_meet
                exact ⟨none, 0, 0, [], rfl, HF.out⟩
              · rw [decide_eq_false hr]
                rw [if_neg hr] at hfn
                have HF := Lib.hid (And.intro H4.out hfn)
                clear hr hfn
                go_wp2_with fail
                go_meet
                exact ⟨A2, an2, ac2, told2, rfl, HF.out⟩
            case rest =>
              obtain ⟨A3, n3, c3, told3, rfl, hq, hfn⟩ := hcut
              have hcx := wkHeld hq.ob (by have := hfn.hl; omega)
              have HQ := Lib.hid (And.intro hq hfn)
              clear hq hfn H4
              go_wp2_with fail
              (with_reducible refine hcx.mono ?_)
              clear hcx
              rintro e w6 ⟨AH, nh, ch, rfl, ho6, hb6⟩
              have HQ6 := Lib.hid (And.intro (HQ.out.1.below hb6) HQ.out.2)
              have HHd := Lib.hid (ho6.rd (enc := encI) (sz := 1) (fun _ => rfl))
              have HT := Lib.hid (HQ6.out.1.oa.rd (enc := encI) (sz := 1) (fun _ => rfl))
              have HD := Lib.hid (HQ6.out.1.obb.rd (enc := encI) (sz := 1) (fun _ => rfl))
              have hnh : nh ≤ 1000 := by have h1 := HHd.out.len; have h2 := HQ.out.2.hl; omega
              have hn3 : n3 ≤ 1000 := by have h1 := HT.out.len; have h2 := HQ.out.2.ml; omega
              have hbn : bn ≤ 1000 := by have h1 := HD.out.len; have h2 := HND; omega
              clear ho6 hb6 HQ HND
              go_wp2_with fail
              go_loopw [19] (fun i wx => ∃ j : Nat, j ≤ nh ∧ i = .int .i64 j ∧ Below w6.heap.size w6 wx) (fun i _ => nh - (intOf i).toNat)
              case atStart => exact ⟨0, Nat.zero_le _, rfl, Below.refl _ _⟩
              case round =>
                obtain ⟨j, hj, rfl, hbj⟩ := hrel
                have HBJ := Lib.hid hbj
                clear hbj
                by_cases hjn : j < nh
                · obtain ⟨hb0, ho0, y, hAH, hy, hcy0⟩ := RdI.at_ HHd.out hjn
                  have hyp := HHd
                  rw [hAH] at hyp
                  have hyl := RdI.at_lt hyp.out hjn
                  have hmem := List.mem_of_getElem? hy
                  have HY := Lib.hid (And.intro hyl (And.intro hcy0 (And.intro (HQ6.out.2.sub y hmem) (fun e : s2.inc = s.inc => HFS.out.over e y hmem))))
                  clear hyp hyl hmem hy hcy0
                  rw [hAH]
                  go_wp2_with fail
                  go_loopw [20, 22] (fun xf xi wx => ∃ i : Nat, i ≤ n3 ∧ xi = .int .i64 i ∧ xf = .bool (decide (y ∈ told3.take i)) ∧ Below w6.heap.size w6 wx) (fun _ xi _ => n3 - (intOf xi).toNat)
                  case atStart => exact ⟨0, Nat.zero_le _, rfl, by simp, HBJ.out⟩
                  case round =>
                    obtain ⟨i, hi, rfl, rfl, hbi⟩ := hrel
                    by_cases hin : i < n3
                    · obtain ⟨tb, tof, z, hAe, hz, hcz⟩ := RdI.at_ HT.out hin
                      have hyp := HT
                      rw [hAe] at hyp
                      have htp := hbi.cell (p := ⟨tb, tof + i, none⟩) (RdI.at_lt hyp.out hin)
                      have hcz2 := htp.trans hcz
                      have hltz := Nat.lt_of_lt_of_le (RdI.at_lt hyp.out hin) hbi.size
                      clear hyp htp hcz
                      have hcy := (hbi.cell (p := ⟨hb0, ho0 + j, none⟩) HY.out.1).trans HY.out.2.1
                      have hlty := Nat.lt_of_lt_of_le HY.out.1 hbi.size
                      have hst := take_mem_succ hz y
                      have HB := Lib.hid (And.intro hbi hst)
                      rw [hAe]
                      clear hbi hst hz
                      rcases Bool.eq_false_or_eq_true (decide (y ∈ told3.take i)) with hd | hd
                      · have HD1 := Lib.hid hd
                        rw [hd]
                        clear hd
                        go_wp2_with fail
                        go_quiet (fail)
                        have HB2 := Lib.hid (HB.out.1.trans (below_dN nq))
                        have hst := HB.out.2
                        rw [HD1.out] at hst
                        clear hcz2 hcy HB HD1
                        go_wp2_with fail
                        go_roundw
                        case rel => exact ⟨i + 1, by omega, by go_num, by rw [hst]; rfl, HB2.out⟩
                        case measure => simp [intOf]; omega
                      · have HD1 := Lib.hid hd
                        rw [hd]
                        clear hd
                        go_wp2_with fail
                        go_quiet (fail)
                        have HB2 := Lib.hid (HB.out.1.trans (below_dN nq))
                        have hst := HB.out.2
                        rw [HD1.out] at hst
                        clear hcz2 hcy HB HD1
                        go_wp2_with fail
                        go_roundw
                        case rel => exact ⟨i + 1, by omega, by go_num, by rw [hst]; rfl, HB2.out⟩
                        case measure => simp [intOf]; omega
                    · obtain rfl : i = n3 := by omega
                      have hall : decide (y ∈ told3.take i) = true := decide_eq_true (by rw [List.take_of_length_le (by have := HT.out.len; omega)]; exact HY.out.2.2.1)
                      rw [hall]
                      have HE3 := Lib.hid hbi
                      clear hall hbi hin
                      go_wp2_with fail
                      go_loopw [21, 23] (fun xf xi wx => ∃ i : Nat, i ≤ bn ∧ xi = .int .i64 i ∧ xf = .bool (decide (y ∈ s.done.take i)) ∧ (i = 0 ∨ s2.inc = s.inc) ∧ Below w6.heap.size w6 wx) (fun _ xi _ => bn - (intOf xi).toNat)
                      case atStart => exact ⟨0, Nat.zero_le _, rfl, by simp, Or.inl rfl, HE3.out⟩
                      case round =>
                        obtain ⟨i, hi, rfl, rfl, hor, hbi⟩ := hrel
                        by_cases hin : i < bn
                        · by_cases hinc : s2.inc = s.inc
                          · have tinc : (s2.inc == s.inc) = true := by simp [hinc]
                            have hor2 : i + 1 = 0 ∨ s2.inc = s.inc := Or.inr hinc
                            clear hinc hor
                            obtain ⟨tb, tof, z, hAe, hz, hcz⟩ := RdI.at_ HD.out hin
                            have hyp := HD
                            rw [hAe] at hyp
                            have htp := hbi.cell (p := ⟨tb, tof + i, none⟩) (RdI.at_lt hyp.out hin)
                            have hcz2 := htp.trans hcz
                            have hltz := Nat.lt_of_lt_of_le (RdI.at_lt hyp.out hin) hbi.size
                            clear hyp htp hcz
                            have hcy := (hbi.cell (p := ⟨hb0, ho0 + j, none⟩) HY.out.1).trans HY.out.2.1
                            have hlty := Nat.lt_of_lt_of_le HY.out.1 hbi.size
                            have hst := take_mem_succ hz y
                            have HB := Lib.hid (And.intro hbi hst)
                            rw [hAe]
                            clear hbi hst hz
                            rcases Bool.eq_false_or_eq_true (decide (y ∈ s.done.take i)) with hd | hd
                            · have HD1 := Lib.hid hd
                              rw [hd]
                              clear hd
                              go_wp2_with fail
                              go_quiet (fail)
                              have HB2 := Lib.hid (HB.out.1.trans (below_dN nq))
                              have hst := HB.out.2
                              rw [HD1.out] at hst
                              clear hcz2 hcy HB HD1
                              go_wp2_with fail
                              go_roundw
                              case rel => exact ⟨i + 1, by omega, by go_num, by rw [hst]; rfl, hor2, HB2.out⟩
                              case measure => simp [intOf]; omega
                            · have HD1 := Lib.hid hd
                              rw [hd]
                              clear hd
                              go_wp2_with fail
                              go_quiet (fail)
                              have HB2 := Lib.hid (HB.out.1.trans (below_dN nq))
                              have hst := HB.out.2
                              rw [HD1.out] at hst
                              clear hcz2 hcy HB HD1
                              go_wp2_with fail
                              go_roundw
                              case rel => exact ⟨i + 1, by omega, by go_num, by rw [hst]; rfl, hor2, HB2.out⟩
                              case measure => simp [intOf]; omega
                          · have tinc : (s2.inc == s.inc) = false := by simp [hinc]
                            obtain rfl : i = 0 := hor.elim id (fun e => (hinc e).elim)
                            have hov : decide (y ∈ s.done.take 0) = false := rfl
                            rw [hov]
                            have HE4 := Lib.hid hbi
                            clear hinc hor hov hbi
                            go_wp2_with fail
                            go_roundw
                            case rel => exact ⟨j + 1, by omega, by go_num, HE4.out⟩
                            case measure => simp [intOf]; omega
                        · have hov : decide (y ∈ s.done.take i) = false := decide_eq_false (fun hm => by exact hor.elim (fun e => by subst e; simp at hm) (fun e => HY.out.2.2.2 e (List.mem_of_mem_take hm)))
                          rw [hov]
                          have HE4 := Lib.hid hbi
                          clear hov hor hbi
                          go_wp2_with fail
                          go_roundw
                          case rel => exact ⟨j + 1, by omega, by go_num, HE4.out⟩
                          case measure => simp [intOf]; omega
                · have hjn2 : j = nh := by omega
                  have HF := Lib.hid ((HQ6.out.1.below HBJ.out).noB)
                  go_wp2_with fail
                  go_roundw
                  case rel => exact ⟨k + 1, s2, v2, now2, last2, A3, n3, c3, told3, by omega, by go_num, rfl, rfl, rfl, HF.out, HQ6.out.2⟩
                  case measure => simp [intOf]; omega
    · as_aux_lemma =>
        have hkn : k = n := by omega
        subst hkn
        have HF := Lib.hid hQ.bel
        clear hQ hN
        go_wp2_with fail
        (with_reducible refine (awake39 _ (Hh.out.2.2.below HF.out)).mono ?_)
        rintro e w6 ⟨rfl, hb6⟩
        have HE := Lib.hid (HF.out.trans (hb6.mono HF.out.size))
        clear hb6
        go_wp2
        go_ret
        exact ⟨rfl, HE.out⟩
end Go.Proofs.YthhnocnkicoimaaDoor
