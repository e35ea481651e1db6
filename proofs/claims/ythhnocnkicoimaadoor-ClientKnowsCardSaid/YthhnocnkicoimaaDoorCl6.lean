/-
  LAYER 41 (client): ask, where it is heard.
-/
import Derived.Test.YthhnocnkicoimaaDoorCl5
import Derived.Deep.RegionLaw
import Derived.Deep.AppendLies
import Derived.Deep.RegionHeld3
import Derived.BigQuiet
set_option linter.unusedVariables false
set_option linter.unusedSimpArgs false
namespace Go.Proofs.YthhnocnkicoimaaDoor
open Go.RowKit Go.Maps

theorem lay12c {wr : World} {b : Nat} {t : TypeId} {z0 z1 z2 z3 z4 z5 z6 z7 z8 z9 z10 z11 : Value} (h : Blk wr b t #[z0, z1, z2, z3, z4, z5, z6, z7, z8, z9, z10, z11]) (v0 v1 v2 v3 v4 v5 v6 v7 v8 v9 v10 v11 : Value) : Blk ((((((((((((wr.setCell ⟨b, 0, none⟩ v0).setCell ⟨b, 1, none⟩ v1).setCell ⟨b, 2, none⟩ v2).setCell ⟨b, 3, none⟩ v3).setCell ⟨b, 4, none⟩ v4).setCell ⟨b, 5, none⟩ v5).setCell ⟨b, 6, none⟩ v6).setCell ⟨b, 7, none⟩ v7).setCell ⟨b, 8, none⟩ v8).setCell ⟨b, 9, none⟩ v9).setCell ⟨b, 10, none⟩ v10).setCell ⟨b, 11, none⟩ v11) b t #[v0, v1, v2, v3, v4, v5, v6, v7, v8, v9, v10, v11] := by
  have h2 := ((((((((((((h.set_ 0 v0).set_ 1 v1).set_ 2 v2).set_ 3 v3).set_ 4 v4).set_ 5 v5).set_ 6 v6).set_ 7 v7).set_ 8 v8).set_ 9 v9).set_ 10 v10).set_ 11 v11)
  simp only [List.setIfInBounds_toArray, List.set_cons_zero, List.set_cons_succ] at h2
  exact h2
theorem turned_res {S S' : Nat → Prop} {w0 w w' : World} {b : Nat} (h : Turned S S' w0 w) (hk : Kept (fun k => k = b) w w') (h0 : w0.heap.size ≤ b) (hn : ¬ S' b) : Turned S S' w0 w' :=
  ⟨h.kept.trans hk (fun i hi e => by have e' : i = b := e; omega), h.new⟩
theorem putR_of_mem {row : List Int} (h : Rising row) {x : Int} (hx : x ∈ row) : putR row x = row := by
  have h1 := rising_putR h x
  have h2 : ∀ y, y ∈ putR row x ↔ y ∈ row := fun y => by rw [mem_putR]; constructor; · rintro (rfl | h); exact hx; exact h
                                                         · exact fun h => .inr h
  have q1 : (putR row x).Pairwise (· ≤ ·) := h1.imp (fun h => by omega)
  have q2 : row.Pairwise (· ≤ ·) := h.imp (fun h => by omega)
  exact ((List.perm_ext_iff_of_nodup (rising_nodup h1) (rising_nodup h)).2 h2).eq_of_pairwise (fun a b _ _ h1 h2 => by omega) q1 q2
/-- While ask goes on: the object, the message's box, the result's box. -/
structure AI (w0 wr : World) (c b1 : Nat) (v0 v : ClV) (row opens : List Int) (reps : List LReply) (m : LMsg) : Prop where
  cl : ClAt wr c v row opens reps
  msg : Blk wr b1 38 (boxMsg m)
  res : Blk wr (b1 + 1) 38 #[.int .i64 0, .int .i64 0, .int .i64 0, .int .i64 0, .int .i64 0, .int .i64 0, .int .i64 0, .int .i64 0, .int .i64 0, .int .i64 0, .int .i64 0, .int .i64 0]
  n1 : ¬ clS c v b1
  n2 : ¬ clS c v (b1 + 1)
  n0 : w0.heap.size ≤ b1 + 1
  tu : Turned (clS c v0) (clS c v) w0 wr
section
variable {w0 wr w' : World} {c b1 : Nat} {v0 v v' : ClV} {row opens row' opens' : List Int} {reps : List LReply} {m : LMsg}
theorem AI.below (h : AI w0 wr c b1 v0 v row opens reps m) (hb : Below wr.heap.size wr w') : AI w0 w' c b1 v0 v row opens reps m :=
  ⟨h.cl.below hb, h.msg.below hb h.msg.lt, h.res.below hb h.res.lt, h.n1, h.n2, h.n0, h.tu.then_below hb⟩
theorem AI.turn (h : AI w0 wr c b1 v0 v row opens reps m) (hc : ClAt w' c v' row' opens' reps) (ht : Turned (clS c v) (clS c v') wr w') : AI w0 w' c b1 v0 v' row' opens' reps m :=
  ⟨hc, h.msg.kept ht.kept h.n1, h.res.kept ht.kept h.n2, fun e => (ht.new _ e).elim h.n1 (fun hg => by have := h.msg.lt; omega), fun e => (ht.new _ e).elim h.n2 (fun hg => by have := h.res.lt; omega), h.n0, h.tu.trans ht⟩
end
set_option maxRecDepth 100000 in
set_option maxHeartbeats 6400000 in
/-- Region 5 to 8 behind us or not: what ask comes to. -/
theorem ask_yes (c : Nat) (v : ClV) (row opens : List Int) (reps : List LReply) (m : LMsg) (w : World) (h : ClAt w c v row opens reps) (hw : WaysAt w) (hk : checkM m = 0) (hwf : wf64 m.job) (hrow : row.length ≤ 1000) (hon : v.on ≤ 1000) (hri : Rising opens) :
    Calls Tryd.prog 45 #[.pointer (some ⟨c, 0, none⟩), aggMsg m] w fun e w' => e = .returned (.tuple #[aggMsg m, .int .i64 0]) ∧ ∃ v', ClAt w' c v' (putR row m.job) (putR opens m.job) reps ∧ Turned (clS c v) (clS c v') w w' := by
  have HW := Lib.hid hw
  have HC := Lib.hid hk
  have HH := Lib.hid (And.intro h (And.intro hwf (And.intro hrow (And.intro hon hri))))
  clear hw hk h hwf hrow hon hri
  have hs1 : (w.alloc (.cells (boxMsg m) 38)).heap.size = w.heap.size + 1 := by simp
  have h1 := (Blk.new w 38 (boxMsg m)).alloc (.cells #[.int .i64 0, .int .i64 0, .int .i64 0, .int .i64 0, .int .i64 0, .int .i64 0, .int .i64 0, .int .i64 0, .int .i64 0, .int .i64 0, .int .i64 0, .int .i64 0] 38)
  have h2 := Blk.new (w.alloc (.cells (boxMsg m) 38)) 38 #[.int .i64 0, .int .i64 0, .int .i64 0, .int .i64 0, .int .i64 0, .int .i64 0, .int .i64 0, .int .i64 0, .int .i64 0, .int .i64 0, .int .i64 0, .int .i64 0]
  rw [hs1] at h2
  have hB : Below w.heap.size w ((w.alloc (.cells (boxMsg m) 38)).alloc (.cells #[.int .i64 0, .int .i64 0, .int .i64 0, .int .i64 0, .int .i64 0, .int .i64 0, .int .i64 0, .int .i64 0, .int .i64 0, .int .i64 0, .int .i64 0, .int .i64 0] 38)) := ((Below.refl _ _).alloc (Nat.le_refl _) _).alloc (by simp) _
  have H0 := Lib.hid (And.intro h1 (And.intro h2 hB))
  clear hs1 h1 h2 hB
  go_enter Tryd.func45, Tryd.ntmps45
  go_upto_region 3 with fail
  have hAI : AI w ((w.alloc (.cells (boxMsg m) 38)).alloc (.cells #[.int .i64 0, .int .i64 0, .int .i64 0, .int .i64 0, .int .i64 0, .int .i64 0, .int .i64 0, .int .i64 0, .int .i64 0, .int .i64 0, .int .i64 0, .int .i64 0] 38)) c w.heap.size v v row opens reps m :=
    ⟨(HH.out.1.below ((Below.refl _ _).alloc (Nat.le_refl _) _)).below ((Below.refl _ _).alloc (Nat.le_refl _) _), H0.out.1, H0.out.2.1, fun e => by have := HH.out.1.lt _ e; omega, fun e => by have := HH.out.1.lt _ e; omega, by omega, Turned.of_below H0.out.2.2⟩
  have HAI := Lib.hid hAI
  have HWW := Lib.hid (HW.out.below H0.out.2.2)
  clear hAI HW H0
  generalize (w.alloc (.cells (boxMsg m) 38)).alloc (.cells #[.int .i64 0, .int .i64 0, .int .i64 0, .int .i64 0, .int .i64 0, .int .i64 0, .int .i64 0, .int .i64 0, .int .i64 0, .int .i64 0, .int .i64 0, .int .i64 0] 38) = w1 at HAI HWW ⊢
  obtain ⟨b1, hb1⟩ : ∃ b1, w.heap.size = b1 := ⟨_, rfl⟩
  rw [hb1] at HAI
  try simp only [hb1]
  clear hb1
  obtain ⟨c0, c1, c2, c3, c4, c5, c6, c7, c8, c9, c10, c11⟩ := msgCells HAI.out.msg
  have hcx := msgCheck_t m w1 HWW.out
  rw [HC.out] at hcx
  have l1 := HAI.out.msg.lt
  go_wp2_with fail
  (with_reducible refine hcx.mono ?_)
  clear hcx l1 c0 c1 c2 c3 c4 c5 c6 c7 c8 c9 c10 c11
  rintro e w2 ⟨rfl, hB2⟩
  have H2 := Lib.hid (HAI.out.below hB2)
  clear hB2 HWW HAI
  have g5 : w2.cell? ⟨b1, 5, none⟩ = some (.int .i64 m.job) := (H2.out.msg.cell 5).trans rfl
  have l1 := H2.out.msg.lt
  have lc := H2.out.cl.blk.lt
  go_wp2_with fail
  have hbm : Below w2.heap.size w2 (w2.alloc (.cells #[.int .i64 m.job] 3)).drew := ((Below.refl _ _).alloc (Nat.le_refl _) _).drew
  have HM := Lib.hid (And.intro (H2.out.below hbm) (show RdI (w2.alloc (.cells #[.int .i64 m.job] 3)).drew (some ⟨w2.heap.size, 0, none⟩) 1 [m.job] from (Rd.new1 (enc := encI) (sz := 1) w2 m.job #[.int .i64 m.job] 3 (0, 0) rfl).drew))
  clear hbm
  have g5m : (w2.alloc (.cells #[.int .i64 m.job] 3)).drew.cell? ⟨b1, 5, none⟩ = some (.int .i64 m.job) := (HM.out.1.msg.cell 5).trans rfl
  have HG5 := Lib.hid g5m
  clear g5m
  go_region_held3 (fun w' => w'.cell? ⟨b1, 5, none⟩ = some (.int .i64 m.job)) (first | exact g5 | exact HG5.out | exact h35)
    ((go_at_call 52; (with_reducible refine (dMark c 0 _ _ v.mv row _ 1 1 [m.job] _ HM.out.1.cl.blk rfl HM.out.1.cl.set HM.out.2 (by intro x hx; rw [List.mem_singleton.1 hx]; exact HH.out.2.1) (by have := HH.out.2.2.1; omega)).mono ?_); rintro e w3 ⟨rfl, ht3⟩; have H3 := Lib.hid (HM.out.1.cl.marked ht3); have h35 : w3.cell? ⟨b1, 5, none⟩ = some (.int .i64 m.job) := (HM.out.1.msg.kept ht3.kept (fun e => HM.out.1.n1 (e.elim .inl (fun e => .inr (.inl e))))).cell 5; clear ht3))
  all_goals
    obtain ⟨mv3, hc3, ht3⟩ := H3.out
    have hA3 := HM.out.1.turn hc3 ht3
    rw [show markAll row [m.job] = putR row m.job from rfl] at hA3
    have HA3 := Lib.hid hA3
    clear hc3 ht3 hA3 H3 HM HG5 g5 l1 lc H2
    obtain ⟨v3, hv3⟩ : ∃ v3 : ClV, { v with mv := mv3 } = v3 := ⟨_, rfl⟩
    rw [hv3] at HA3
    have hon3 : v3.on = v.on ∧ v3.oa = v.oa ∧ v3.oc = v.oc := by rw [← hv3]; exact ⟨rfl, rfl, rfl⟩
    have HN3 := Lib.hid (show v3.on ≤ 1000 by rw [hon3.1]; exact HH.out.2.2.2.1)
    clear hv3 hon3
    obtain ⟨x1, xl, g5, gl⟩ : w3.cell? ⟨c, 1, none⟩ = some (.slice v3.oa v3.on v3.oc) ∧ c < w3.heap.size ∧ w3.cell? ⟨b1, 5, none⟩ = some (.int .i64 m.job) ∧ b1 < w3.heap.size := ⟨(HA3.out.cl.blk.cell 1).trans rfl, HA3.out.cl.blk.lt, (HA3.out.msg.cell 5).trans rfl, HA3.out.msg.lt⟩
    have HQ : Hid (∀ q, Calls Tryd.prog 80 #[.slice v3.oa v3.on v3.oc, .int .i64 m.job] (w3.drewN q) fun e w' => e = .returned (.bool (decide (m.job ∈ opens))) ∧ w' = w3.drewN q) := Lib.hid (fun q => containsI_t v3.oa v3.on v3.oc opens m.job _ ((HA3.out.cl.own.rd (enc := encI) (sz := 1) (fun _ => rfl)).drewN q) (by have := HN3.out; omega))
    by_cases hin : m.job ∈ opens
    · have HQ2 := Lib.hid (show ∀ q, Calls Tryd.prog 80 #[.slice v3.oa v3.on v3.oc, .int .i64 m.job] (w3.drewN q) fun e w' => e = .returned (.bool true) ∧ w' = w3.drewN q from fun q => by have := HQ.out q; rwa [decide_eq_true hin] at this)
      have HIN := Lib.hid hin
      clear HQ hin
      go_wp2_with fail
      go_quiet (first
        | (go_at_call 80; exact (HQ2.out _).mono (fun _ _ h => ⟨h.1, _, h.2⟩)))
      have HA4 := Lib.hid (HA3.out.below (w' := w3.drewN nq) ⟨rfl, rfl, rfl, Nat.le_refl _, fun _ _ => rfl⟩)
      clear x1 xl g5 gl HQ2 HA3 HN3
      generalize w3.drewN nq = w4 at HA4 ⊢
      have hpe : putR opens m.job = opens := putR_of_mem HH.out.2.2.2.2 HIN.out
      have HP := Lib.hid hpe
      clear hpe
      have z2 := HA4.out.res.frozen
      have l2 := HA4.out.res.lt
      have l1 := HA4.out.msg.lt
      have y0 := HA4.out.res.cell 0
      have c0 : w4.cell? ⟨b1, 0, none⟩ = some (.int .i64 m.kind) := (HA4.out.msg.cell 0).trans rfl
      have y1 := HA4.out.res.cell 1
      have c1 : w4.cell? ⟨b1, 1, none⟩ = some (.int .i64 m.frm) := (HA4.out.msg.cell 1).trans rfl
      have y2 := HA4.out.res.cell 2
      have c2 : w4.cell? ⟨b1, 2, none⟩ = some (.int .i64 m.to_) := (HA4.out.msg.cell 2).trans rfl
      have y3 := HA4.out.res.cell 3
      have c3 : w4.cell? ⟨b1, 3, none⟩ = some (.int .i64 m.epoch) := (HA4.out.msg.cell 3).trans rfl
      have y4 := HA4.out.res.cell 4
      have c4 : w4.cell? ⟨b1, 4, none⟩ = some (.int .i64 m.inc) := (HA4.out.msg.cell 4).trans rfl
      have y5 := HA4.out.res.cell 5
      have c5 : w4.cell? ⟨b1, 5, none⟩ = some (.int .i64 m.job) := (HA4.out.msg.cell 5).trans rfl
      have y6 := HA4.out.res.cell 6
      have c6 : w4.cell? ⟨b1, 6, none⟩ = some (.int .i64 m.tick) := (HA4.out.msg.cell 6).trans rfl
      have y7 := HA4.out.res.cell 7
      have c7 : w4.cell? ⟨b1, 7, none⟩ = some (.int .i64 m.prio) := (HA4.out.msg.cell 7).trans rfl
      have y8 := HA4.out.res.cell 8
      have c8 : w4.cell? ⟨b1, 8, none⟩ = some (.int .i64 m.code) := (HA4.out.msg.cell 8).trans rfl
      have y9 := HA4.out.res.cell 9
      have c9 : w4.cell? ⟨b1, 9, none⟩ = some (.int .i64 m.res.a) := (HA4.out.msg.cell 9).trans rfl
      have y10 := HA4.out.res.cell 10
      have c10 : w4.cell? ⟨b1, 10, none⟩ = some (.int .i64 m.res.b) := (HA4.out.msg.cell 10).trans rfl
      have y11 := HA4.out.res.cell 11
      have c11 : w4.cell? ⟨b1, 11, none⟩ = some (.int .i64 m.res.c) := (HA4.out.msg.cell 11).trans rfl
      simp only [List.getElem?_toArray, List.getElem?_cons_zero, List.getElem?_cons_succ] at y0 y1 y2 y3 y4 y5 y6 y7 y8 y9 y10 y11
      go_wp2_with fail
      have hke : Kept (fun k => k = b1 + 1) w4 ((((((((((((w4.setCell ⟨b1 + 1, 0, none⟩ (.int .i64 m.kind)).setCell ⟨b1 + 1, 1, none⟩ (.int .i64 m.frm)).setCell ⟨b1 + 1, 2, none⟩ (.int .i64 m.to_)).setCell ⟨b1 + 1, 3, none⟩ (.int .i64 m.epoch)).setCell ⟨b1 + 1, 4, none⟩ (.int .i64 m.inc)).setCell ⟨b1 + 1, 5, none⟩ (.int .i64 m.job)).setCell ⟨b1 + 1, 6, none⟩ (.int .i64 m.tick)).setCell ⟨b1 + 1, 7, none⟩ (.int .i64 m.prio)).setCell ⟨b1 + 1, 8, none⟩ (.int .i64 m.code)).setCell ⟨b1 + 1, 9, none⟩ (.int .i64 m.res.a)).setCell ⟨b1 + 1, 10, none⟩ (.int .i64 m.res.b)).setCell ⟨b1 + 1, 11, none⟩ (.int .i64 m.res.c)) := (Kept.setCell (F := fun k => k = b1 + 1) (Kept.setCell (F := fun k => k = b1 + 1) (Kept.setCell (F := fun k => k = b1 + 1) (Kept.setCell (F := fun k => k = b1 + 1) (Kept.setCell (F := fun k => k = b1 + 1) (Kept.setCell (F := fun k => k = b1 + 1) (Kept.setCell (F := fun k => k = b1 + 1) (Kept.setCell (F := fun k => k = b1 + 1) (Kept.setCell (F := fun k => k = b1 + 1) (Kept.setCell (F := fun k => k = b1 + 1) (Kept.setCell (F := fun k => k = b1 + 1) (Kept.setCell (F := fun k => k = b1 + 1) (Kept.refl (fun k => k = b1 + 1) w4) (p := ⟨b1 + 1, 0, none⟩) (fun _ => rfl) (.int .i64 m.kind)) (p := ⟨b1 + 1, 1, none⟩) (fun _ => rfl) (.int .i64 m.frm)) (p := ⟨b1 + 1, 2, none⟩) (fun _ => rfl) (.int .i64 m.to_)) (p := ⟨b1 + 1, 3, none⟩) (fun _ => rfl) (.int .i64 m.epoch)) (p := ⟨b1 + 1, 4, none⟩) (fun _ => rfl) (.int .i64 m.inc)) (p := ⟨b1 + 1, 5, none⟩) (fun _ => rfl) (.int .i64 m.job)) (p := ⟨b1 + 1, 6, none⟩) (fun _ => rfl) (.int .i64 m.tick)) (p := ⟨b1 + 1, 7, none⟩) (fun _ => rfl) (.int .i64 m.prio)) (p := ⟨b1 + 1, 8, none⟩) (fun _ => rfl) (.int .i64 m.code)) (p := ⟨b1 + 1, 9, none⟩) (fun _ => rfl) (.int .i64 m.res.a)) (p := ⟨b1 + 1, 10, none⟩) (fun _ => rfl) (.int .i64 m.res.b)) (p := ⟨b1 + 1, 11, none⟩) (fun _ => rfl) (.int .i64 m.res.c))
      have hbz := lay12c HA4.out.res (.int .i64 m.kind) (.int .i64 m.frm) (.int .i64 m.to_) (.int .i64 m.epoch) (.int .i64 m.inc) (.int .i64 m.job) (.int .i64 m.tick) (.int .i64 m.prio) (.int .i64 m.code) (.int .i64 m.res.a) (.int .i64 m.res.b) (.int .i64 m.res.c)
      clear z2 l2 l1 y0 c0 y1 c1 y2 c2 y3 c3 y4 c4 y5 c5 y6 c6 y7 c7 y8 c8 y9 c9 y10 c10 y11 c11
      generalize ((((((((((((w4.setCell ⟨b1 + 1, 0, none⟩ (.int .i64 m.kind)).setCell ⟨b1 + 1, 1, none⟩ (.int .i64 m.frm)).setCell ⟨b1 + 1, 2, none⟩ (.int .i64 m.to_)).setCell ⟨b1 + 1, 3, none⟩ (.int .i64 m.epoch)).setCell ⟨b1 + 1, 4, none⟩ (.int .i64 m.inc)).setCell ⟨b1 + 1, 5, none⟩ (.int .i64 m.job)).setCell ⟨b1 + 1, 6, none⟩ (.int .i64 m.tick)).setCell ⟨b1 + 1, 7, none⟩ (.int .i64 m.prio)).setCell ⟨b1 + 1, 8, none⟩ (.int .i64 m.code)).setCell ⟨b1 + 1, 9, none⟩ (.int .i64 m.res.a)).setCell ⟨b1 + 1, 10, none⟩ (.int .i64 m.res.b)).setCell ⟨b1 + 1, 11, none⟩ (.int .i64 m.res.c)) = wz at hke hbz ⊢
      have hcz := HA4.out.cl.kept hke (fun k hs e => HA4.out.n2 (e ▸ hs))
      have HF := Lib.hid (And.intro hcz (turned_res HA4.out.tu hke HA4.out.n0 HA4.out.n2 : Turned (clS c v) (clS c _) w wz))
      clear hcz hke
      have d0 := hbz.cell 0
      have d1 := hbz.cell 1
      have d2 := hbz.cell 2
      have d3 := hbz.cell 3
      have d4 := hbz.cell 4
      have d5 := hbz.cell 5
      have d6 := hbz.cell 6
      have d7 := hbz.cell 7
      have d8 := hbz.cell 8
      have d9 := hbz.cell 9
      have d10 := hbz.cell 10
      have d11 := hbz.cell 11
      simp only [List.getElem?_toArray, List.getElem?_cons_zero, List.getElem?_cons_succ] at d0 d1 d2 d3 d4 d5 d6 d7 d8 d9 d10 d11
      try go_wp2_with fail
      refine bodyPost_ret (v := .tuple #[aggMsg m, .int .i64 0]) (by simp [results, Tryd.results45, go_sem, d0, d1, d2, d3, d4, d5, d6, d7, d8, d9, d10, d11]) rfl ⟨rfl, v3, by rw [HP.out]; exact HF.out.1, HF.out.2⟩
    · have HQ2 := Lib.hid (show ∀ q, Calls Tryd.prog 80 #[.slice v3.oa v3.on v3.oc, .int .i64 m.job] (w3.drewN q) fun e w' => e = .returned (.bool false) ∧ w' = w3.drewN q from fun q => by have := HQ.out q; rwa [decide_eq_false hin] at this)
      have HIN := Lib.hid hin
      clear HQ hin
      go_wp2_with fail
      go_quiet (first
        | (go_at_call 80; exact (HQ2.out _).mono (fun _ _ h => ⟨h.1, _, h.2⟩)))
      have HA4 := Lib.hid (HA3.out.below (w' := w3.drewN nq) ⟨rfl, rfl, rfl, Nat.le_refl _, fun _ _ => rfl⟩)
      clear x1 xl g5 gl HQ2 HA3
      generalize w3.drewN nq = w4 at HA4 ⊢
      obtain ⟨i0, hi0, hz0, hz1, hz2⟩ : ∃ i0, Tryd.prog.info? 3 = some i0 ∧ i0.zero = some (.int .i64 0) ∧ i0.size = 1 ∧ i0.bytes = 8 := by
        obtain ⟨i, hi, hz⟩ := Option.map_eq_some_iff.1 Tryd.infoInt
        simp only [Prod.mk.injEq] at hz
        exact ⟨i, hi, hz.1, hz.2.1, hz.2.2⟩
      obtain ⟨x1, xl, g5, gl⟩ : w4.cell? ⟨c, 1, none⟩ = some (.slice v3.oa v3.on v3.oc) ∧ c < w4.heap.size ∧ w4.cell? ⟨b1, 5, none⟩ = some (.int .i64 m.job) ∧ b1 < w4.heap.size := ⟨(HA4.out.cl.blk.cell 1).trans rfl, HA4.out.cl.blk.lt, (HA4.out.msg.cell 5).trans rfl, HA4.out.msg.lt⟩
      have f1 := HA4.out.cl.blk.frozen 1
      have hon3 := HN3.out
      have hnc : (Value.slice v3.oa v3.on v3.oc).ownBlock ≠ some c := fun e => by
        cases ho : v3.oa with
        | none => rw [ho] at e; simp [Value.ownBlock] at e
        | some ad => rw [ho] at e; exact HA4.out.cl.oc_ne ad ho (by simpa [Value.ownBlock] using e)
      have HNC := Lib.hid hnc
      clear hnc
      go_wp2_with fail
      go_region_law
        ((refine step_append_lies _ (by rfl) _ _ _ (by rfl) 0 3 i0 _ 1 8 Tryd.underlying29 hi0 hz0 hz1 hz2 rfl (by omega) (.slice v3.oa v3.on v3.oc) v3.on (opens.flatMap encI) (by rfl) ((HA4.out.cl.own.own.alloc _).drew)
            ⟨w4.heap.size, 0, none⟩ 1 1 (encI m.job) (by rfl) (by rfl) (World.news_of_block (cs := #[.int .i64 m.job]) (t := 3) (fr := (0, 0)) (heap_alloc_new w4 _)) (by simp [encI, Value.oneCell'])
            (by omega) (by simp only [maxLen]; omega) (by omega) (Nat.zero_le _) (w4.heap.size + 1) (by simp) ?_; intro gg cap w5 hown5 hgrow hat hlt5; have c5 : w5.cell? ⟨c, 1, none⟩ = some (.slice v3.oa v3.on v3.oc) := (hgrow.cell_far ⟨c, 1, none⟩ (by show c < _; simp; omega) (Ne.symm HNC.out)).trans ((HA4.out.cl.blk.alloc _).cell 1); have f5 : w5.frozen? ⟨c, 1, none⟩ = false := (hgrow.frozen_far ⟨c, 1, none⟩ (by show c < _; simp; omega) (Ne.symm HNC.out)).trans ((HA4.out.cl.blk.alloc _).frozen 1)))
      all_goals (
        have hA5 : ClAt ((w4.alloc (.cells #[.int .i64 m.job] 3)).drew) c v3 (putR row m.job) opens reps := HA4.out.cl.below ((Below.refl _ _).alloc (Nat.le_refl _) _).drew
        have hgc : gg ≠ c := by
          rintro rfl
          rcases hat with h | h
          · exact HNC.out h
          · omega
        have hb5 : Blk w5 c 32 #[v3.mv, .slice v3.oa v3.on v3.oc, .slice v3.ra v3.rn v3.rc] := hA5.blk.grown hgrow (Ne.symm HNC.out)
        have hb6 : Blk (w5.setCell ⟨c, 1, none⟩ (.slice (some ⟨gg, 0, none⟩) (v3.on + 1) cap)) c 32 #[v3.mv, .slice (some ⟨gg, 0, none⟩) (v3.on + 1) cap, .slice v3.ra v3.rn v3.rc] := hb5.set_ 1 _
        have ho5 : OwnL encI 3 1 w5 0 (some ⟨gg, 0, none⟩) (v3.on + 1) cap (opens ++ [m.job]) := ⟨by rw [List.flatMap_append]; simpa using hown5, by rw [List.length_append, HA4.out.cl.own.len]; rfl⟩
        have ho6 : OwnL encI 3 1 (w5.setCell ⟨c, 1, none⟩ (.slice (some ⟨gg, 0, none⟩) (v3.on + 1) cap)) 0 (some ⟨gg, 0, none⟩) (v3.on + 1) cap (opens ++ [m.job]) := ho5.step fun ad ha _ _ => by cases ha; exact Below.heap_setCell w5 _ _ gg hgc
        have hk6 : Kept (fun k => k = c ∨ ∃ ad, v3.oa = some ad ∧ ad.block = k) w4 (w5.setCell ⟨c, 1, none⟩ (.slice (some ⟨gg, 0, none⟩) (v3.on + 1) cap)) :=
          ((((Kept.refl _ w4).alloc _).drew).trans (Kept.of_grown (F := fun k => k = c ∨ ∃ ad, v3.oa = some ad ∧ ad.block = k) hgrow (fun k e _ => by
            cases ho : v3.oa with
            | none => rw [ho] at e; simp [Value.ownBlock] at e
            | some ad => rw [ho] at e; exact .inr ⟨ad, rfl, by simpa [Value.ownBlock] using e⟩)) (fun _ _ h => h)).setCell (fun _ => .inl rfl) _
        obtain ⟨hc6, ht6⟩ := HA4.out.cl.opened ho6 hb6 hk6 (fun ad ha => by
          cases ha
          rcases hat with h | h
          · left
            cases ho : v3.oa with
            | none => rw [ho] at h; simp [Value.ownBlock] at h
            | some ad => rw [ho] at h; have h1 : ad.block = gg := by simpa [Value.ownBlock] using h
                         obtain ⟨cs, hcs⟩ := HA4.out.cl.own.blk_ ho
                         rcases HA4.out.cl.own.own.2 with ⟨hv, _⟩ | ⟨g, cp, cur, hv, _⟩
                         · rw [ho] at hv; cases hv
                         · rw [ho] at hv; cases hv; simp only at h1; rw [← h1]
          · exact .inr (by show w4.heap.size ≤ gg; omega))
        have HA6 := Lib.hid (HA4.out.turn hc6 ht6)
        clear hA5 hb5 hb6 ho5 ho6 hk6 hc6 ht6 hgc hat hgrow hown5 c5 f5 x1 xl g5 gl f1
        generalize w5.setCell ⟨c, 1, none⟩ (.slice (some ⟨gg, 0, none⟩) (v3.on + 1) cap) = w6 at HA6 ⊢
        have x1 : w6.cell? ⟨c, 1, none⟩ = some (.slice (some ⟨gg, 0, none⟩) (v3.on + 1) cap) := (HA6.out.cl.blk.cell 1).trans rfl
        have xl := HA6.out.cl.blk.lt
        have hcx := sort_own 0 (some ⟨gg, 0, none⟩) (v3.on + 1) cap (opens ++ [m.job]) w6 HA6.out.cl.own (by omega)
        go_wp2_with fail
        (with_reducible refine hcx.mono ?_)
        clear hcx x1 xl
        rintro e w7 ⟨rfl, ho7, hg7⟩
        have hsp : sortI (opens ++ [m.job]) = putR opens m.job := sortI_of_rising (rising_putR HH.out.2.2.2.2 _) (List.nodup_append.2 ⟨rising_nodup HH.out.2.2.2.2, by simp, fun a ha b hb => by rw [List.mem_singleton.1 hb]; exact fun e => HIN.out (e ▸ ha)⟩) (fun x => by rw [mem_putR, List.mem_append, List.mem_singleton]; exact or_comm)
        rw [hsp] at ho7
        have hgc6 : gg ≠ c := HA6.out.cl.oc_ne ⟨gg, 0, none⟩ rfl
        obtain ⟨hc7, ht7⟩ := HA6.out.cl.opened ho7 (HA6.out.cl.blk.grown hg7 (by simpa [Value.ownBlock] using fun e : c = gg => hgc6 e.symm)) (Kept.of_grown (F := fun k => k = c ∨ ∃ ad, (some (⟨gg, 0, none⟩ : Addr)) = some ad ∧ ad.block = k) hg7 (fun k e _ => .inr ⟨_, rfl, by simpa [Value.ownBlock] using e⟩)) (fun ad ha => .inl ha)
        have HA7 := Lib.hid (HA6.out.turn hc7 ht7)
        clear ho7 hg7 hsp hgc6 hc7 ht7 HA6 HA4
        have z2 := HA7.out.res.frozen
        have l2 := HA7.out.res.lt
        have l1 := HA7.out.msg.lt
        have y0 := HA7.out.res.cell 0
        have c0 : w7.cell? ⟨b1, 0, none⟩ = some (.int .i64 m.kind) := (HA7.out.msg.cell 0).trans rfl
        have y1 := HA7.out.res.cell 1
        have c1 : w7.cell? ⟨b1, 1, none⟩ = some (.int .i64 m.frm) := (HA7.out.msg.cell 1).trans rfl
        have y2 := HA7.out.res.cell 2
        have c2 : w7.cell? ⟨b1, 2, none⟩ = some (.int .i64 m.to_) := (HA7.out.msg.cell 2).trans rfl
        have y3 := HA7.out.res.cell 3
        have c3 : w7.cell? ⟨b1, 3, none⟩ = some (.int .i64 m.epoch) := (HA7.out.msg.cell 3).trans rfl
        have y4 := HA7.out.res.cell 4
        have c4 : w7.cell? ⟨b1, 4, none⟩ = some (.int .i64 m.inc) := (HA7.out.msg.cell 4).trans rfl
        have y5 := HA7.out.res.cell 5
        have c5 : w7.cell? ⟨b1, 5, none⟩ = some (.int .i64 m.job) := (HA7.out.msg.cell 5).trans rfl
        have y6 := HA7.out.res.cell 6
        have c6 : w7.cell? ⟨b1, 6, none⟩ = some (.int .i64 m.tick) := (HA7.out.msg.cell 6).trans rfl
        have y7 := HA7.out.res.cell 7
        have c7 : w7.cell? ⟨b1, 7, none⟩ = some (.int .i64 m.prio) := (HA7.out.msg.cell 7).trans rfl
        have y8 := HA7.out.res.cell 8
        have c8 : w7.cell? ⟨b1, 8, none⟩ = some (.int .i64 m.code) := (HA7.out.msg.cell 8).trans rfl
        have y9 := HA7.out.res.cell 9
        have c9 : w7.cell? ⟨b1, 9, none⟩ = some (.int .i64 m.res.a) := (HA7.out.msg.cell 9).trans rfl
        have y10 := HA7.out.res.cell 10
        have c10 : w7.cell? ⟨b1, 10, none⟩ = some (.int .i64 m.res.b) := (HA7.out.msg.cell 10).trans rfl
        have y11 := HA7.out.res.cell 11
        have c11 : w7.cell? ⟨b1, 11, none⟩ = some (.int .i64 m.res.c) := (HA7.out.msg.cell 11).trans rfl
        simp only [List.getElem?_toArray, List.getElem?_cons_zero, List.getElem?_cons_succ] at y0 y1 y2 y3 y4 y5 y6 y7 y8 y9 y10 y11
        go_wp2_with fail
        have hke : Kept (fun k => k = b1 + 1) w7 ((((((((((((w7.setCell ⟨b1 + 1, 0, none⟩ (.int .i64 m.kind)).setCell ⟨b1 + 1, 1, none⟩ (.int .i64 m.frm)).setCell ⟨b1 + 1, 2, none⟩ (.int .i64 m.to_)).setCell ⟨b1 + 1, 3, none⟩ (.int .i64 m.epoch)).setCell ⟨b1 + 1, 4, none⟩ (.int .i64 m.inc)).setCell ⟨b1 + 1, 5, none⟩ (.int .i64 m.job)).setCell ⟨b1 + 1, 6, none⟩ (.int .i64 m.tick)).setCell ⟨b1 + 1, 7, none⟩ (.int .i64 m.prio)).setCell ⟨b1 + 1, 8, none⟩ (.int .i64 m.code)).setCell ⟨b1 + 1, 9, none⟩ (.int .i64 m.res.a)).setCell ⟨b1 + 1, 10, none⟩ (.int .i64 m.res.b)).setCell ⟨b1 + 1, 11, none⟩ (.int .i64 m.res.c)) := (Kept.setCell (F := fun k => k = b1 + 1) (Kept.setCell (F := fun k => k = b1 + 1) (Kept.setCell (F := fun k => k = b1 + 1) (Kept.setCell (F := fun k => k = b1 + 1) (Kept.setCell (F := fun k => k = b1 + 1) (Kept.setCell (F := fun k => k = b1 + 1) (Kept.setCell (F := fun k => k = b1 + 1) (Kept.setCell (F := fun k => k = b1 + 1) (Kept.setCell (F := fun k => k = b1 + 1) (Kept.setCell (F := fun k => k = b1 + 1) (Kept.setCell (F := fun k => k = b1 + 1) (Kept.setCell (F := fun k => k = b1 + 1) (Kept.refl (fun k => k = b1 + 1) w7) (p := ⟨b1 + 1, 0, none⟩) (fun _ => rfl) (.int .i64 m.kind)) (p := ⟨b1 + 1, 1, none⟩) (fun _ => rfl) (.int .i64 m.frm)) (p := ⟨b1 + 1, 2, none⟩) (fun _ => rfl) (.int .i64 m.to_)) (p := ⟨b1 + 1, 3, none⟩) (fun _ => rfl) (.int .i64 m.epoch)) (p := ⟨b1 + 1, 4, none⟩) (fun _ => rfl) (.int .i64 m.inc)) (p := ⟨b1 + 1, 5, none⟩) (fun _ => rfl) (.int .i64 m.job)) (p := ⟨b1 + 1, 6, none⟩) (fun _ => rfl) (.int .i64 m.tick)) (p := ⟨b1 + 1, 7, none⟩) (fun _ => rfl) (.int .i64 m.prio)) (p := ⟨b1 + 1, 8, none⟩) (fun _ => rfl) (.int .i64 m.code)) (p := ⟨b1 + 1, 9, none⟩) (fun _ => rfl) (.int .i64 m.res.a)) (p := ⟨b1 + 1, 10, none⟩) (fun _ => rfl) (.int .i64 m.res.b)) (p := ⟨b1 + 1, 11, none⟩) (fun _ => rfl) (.int .i64 m.res.c))
        have hbz := lay12c HA7.out.res (.int .i64 m.kind) (.int .i64 m.frm) (.int .i64 m.to_) (.int .i64 m.epoch) (.int .i64 m.inc) (.int .i64 m.job) (.int .i64 m.tick) (.int .i64 m.prio) (.int .i64 m.code) (.int .i64 m.res.a) (.int .i64 m.res.b) (.int .i64 m.res.c)
        clear z2 l2 l1 y0 c0 y1 c1 y2 c2 y3 c3 y4 c4 y5 c5 y6 c6 y7 c7 y8 c8 y9 c9 y10 c10 y11 c11
        generalize ((((((((((((w7.setCell ⟨b1 + 1, 0, none⟩ (.int .i64 m.kind)).setCell ⟨b1 + 1, 1, none⟩ (.int .i64 m.frm)).setCell ⟨b1 + 1, 2, none⟩ (.int .i64 m.to_)).setCell ⟨b1 + 1, 3, none⟩ (.int .i64 m.epoch)).setCell ⟨b1 + 1, 4, none⟩ (.int .i64 m.inc)).setCell ⟨b1 + 1, 5, none⟩ (.int .i64 m.job)).setCell ⟨b1 + 1, 6, none⟩ (.int .i64 m.tick)).setCell ⟨b1 + 1, 7, none⟩ (.int .i64 m.prio)).setCell ⟨b1 + 1, 8, none⟩ (.int .i64 m.code)).setCell ⟨b1 + 1, 9, none⟩ (.int .i64 m.res.a)).setCell ⟨b1 + 1, 10, none⟩ (.int .i64 m.res.b)).setCell ⟨b1 + 1, 11, none⟩ (.int .i64 m.res.c)) = wz at hke hbz ⊢
        have hcz := HA7.out.cl.kept hke (fun k hs e => HA7.out.n2 (e ▸ hs))
        have HF := Lib.hid (And.intro hcz (turned_res HA7.out.tu hke HA7.out.n0 HA7.out.n2 : Turned (clS c v) (clS c _) w wz))
        clear hcz hke
        have d0 := hbz.cell 0
        have d1 := hbz.cell 1
        have d2 := hbz.cell 2
        have d3 := hbz.cell 3
        have d4 := hbz.cell 4
        have d5 := hbz.cell 5
        have d6 := hbz.cell 6
        have d7 := hbz.cell 7
        have d8 := hbz.cell 8
        have d9 := hbz.cell 9
        have d10 := hbz.cell 10
        have d11 := hbz.cell 11
        simp only [List.getElem?_toArray, List.getElem?_cons_zero, List.getElem?_cons_succ] at d0 d1 d2 d3 d4 d5 d6 d7 d8 d9 d10 d11
        try go_wp2_with fail
        refine bodyPost_ret (v := .tuple #[aggMsg m, .int .i64 0]) (by simp [results, Tryd.results45, go_sem, d0, d1, d2, d3, d4, d5, d6, d7, d8, d9, d10, d11]) rfl ⟨rfl, _, HF.out.1, HF.out.2⟩
        )
end Go.Proofs.YthhnocnkicoimaaDoor
