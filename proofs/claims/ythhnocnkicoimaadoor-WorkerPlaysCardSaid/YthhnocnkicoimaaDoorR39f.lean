/-
 LAYER 39 (worker): the document's worker: the numbers and the fence that it asks; Hear.
 LAYER 39 (worker): the document's worker: Hear where the message is for it.
 LAYER 39 (worker): the document's worker: Tick.
-/
import Derived.Test.YthhnocnkicoimaaDoorR39c
import Derived.Test.YthhnocnkicoimaaDoorMsgK
import Derived.Test.YthhnocnkicoimaaDoorAnySeg
import Derived.Deep.CutRange
set_option linter.unusedVariables false
set_option linter.unusedSimpArgs false
namespace Go.Proofs.YthhnocnkicoimaaDoor
open Go.RowKit Go.Maps

theorem rSpan_t (n lo hi : Int) (w : World) : Calls Tryd.prog 70 #[.int .i64 n, .int .i64 lo, .int .i64 hi] w fun e w' => e = .returned (.int .i64 (spanI n lo hi)) ∧ w' = w := by
 by_cases h1 : hi < n
 ·have t1 : decide (hi < n) = true := decide_eq_true h1
  by_cases h2 : hi < lo
  ·have t2 : decide (hi < lo) = true := decide_eq_true h2
   have HS : Hid (spanI n lo hi = lo) := Lib.hid (by unfold spanI; omega)
   clear h1 h2
   go_enter Tryd.func70, Tryd.ntmps70
   go_wp2_with fail
   go_ret
   exact ⟨by rw [HS.out]; rfl, rfl⟩
  ·have t2 : decide (hi < lo) = false := decide_eq_false h2
   have HS : Hid (spanI n lo hi = hi) := Lib.hid (by unfold spanI; omega)
   clear h1 h2
   go_enter Tryd.func70, Tryd.ntmps70
   go_wp2_with fail
   go_ret
   exact ⟨by rw [HS.out]; rfl, rfl⟩
 ·have t1 : decide (hi < n) = false := decide_eq_false h1
  by_cases h2 : n < lo
  ·have t2 : decide (n < lo) = true := decide_eq_true h2
   have HS : Hid (spanI n lo hi = lo) := Lib.hid (by unfold spanI; omega)
   clear h1 h2
   go_enter Tryd.func70, Tryd.ntmps70
   go_wp2_with fail
   go_ret
   exact ⟨by rw [HS.out]; rfl, rfl⟩
  ·have t2 : decide (n < lo) = false := decide_eq_false h2
   have HS : Hid (spanI n lo hi = n) := Lib.hid (by unfold spanI; omega)
   clear h1 h2
   go_enter Tryd.func70, Tryd.ntmps70
   go_wp2_with fail
   go_ret
   exact ⟨by rw [HS.out]; rfl, rfl⟩
theorem rLater_t (n m : Int) (w : World) : Calls Tryd.prog 72 #[.int .i64 n, .int .i64 m] w fun e w' => e = .returned (.int .i64 (laterI n m)) ∧ w' = w := by
 have hw : IntKind.i64.wrap (spanI n 0 1099511627776 + spanI m 0 1099511627776) = spanI n 0 1099511627776 + spanI m 0 1099511627776 := IntWalk.i64_in _ (by unfold spanI; omega)
 go_enter Tryd.func72, Tryd.ntmps72
 go_wp2_with (go_at_call 70; with_reducible refine (rSpan_t _ _ _ _).mono ?_; rintro e w' ⟨rfl, hw'⟩; subst hw')
 go_ret
 exact ⟨rfl, rfl⟩
set_option maxRecDepth 100000 in
set_option maxHeartbeats 1600000 in
theorem rPass_t (p y n e : Int) (w : World) (pb : Bool) (e1 : Int) (hp1 : passB p e = pb) (hp2 : (if pb then e else p) = e1) : Calls Tryd.prog 71 #[.agg #[.int .i64 p, .int .i64 y, .int .i64 n], .int .i64 e] w fun r w' => ∃ y' n', r = .returned (.tuple #[.agg #[.int .i64 e1, .int .i64 y', .int .i64 n'], .bool pb]) ∧ Below w.heap.size w w' := by
 have hB : Below w.heap.size w ((w.alloc (.cells #[.int .i64 p, .int .i64 y, .int .i64 n] 72)).alloc (.cells #[.int .i64 0, .int .i64 0, .int .i64 0] 72)) := ((Below.refl _ _).alloc (Nat.le_refl _) _).alloc (by simp) _
 by_cases h1 : e < 1
 ·have t1 : decide (e < 1) = true := decide_eq_true (by omega)
  have HPB : passB p e = false := by unfold passB inM; simp; omega
  obtain rfl : pb = false := hp1.symm.trans HPB
  have he9 : p = e1 := hp2
  subst he9
  clear HPB hp1
  have HB : Hid (Below w.heap.size w ((w.alloc (.cells #[.int .i64 p, .int .i64 y, .int .i64 (wrap64 (n + 1))] 72)).alloc (.cells #[.int .i64 p, .int .i64 y, .int .i64 (wrap64 (n + 1))] 72))) := Lib.hid (((Below.refl _ _).alloc (Nat.le_refl _) _).alloc (by simp) _)
  clear hB h1
  go_enter Tryd.func71, Tryd.ntmps71
  go_wp2_with fail
  refine bodyPost_ret (v := .tuple #[.agg #[.int .i64 p, .int .i64 y, .int .i64 (wrap64 (n + 1))], .bool false]) (by simp [results, Tryd.results71, go_sem]) rfl (by first | exact ⟨y, (wrap64 (n + 1)), rfl, HB.out⟩ | exact ⟨⟨y, (wrap64 (n + 1)), rfl⟩, HB.out⟩)
 ·have t1 : decide (e < 1) = false := decide_eq_false (by omega)
  by_cases h2 : 4294967295 < e
  ·have t2 : decide (4294967295 < e) = true := decide_eq_true (by omega)
   have HPB : passB p e = false := by unfold passB inM; simp; omega
   obtain rfl : pb = false := hp1.symm.trans HPB
   have he9 : p = e1 := hp2
   subst he9
   clear HPB hp1
   have HB : Hid (Below w.heap.size w ((w.alloc (.cells #[.int .i64 p, .int .i64 y, .int .i64 (wrap64 (n + 1))] 72)).alloc (.cells #[.int .i64 p, .int .i64 y, .int .i64 (wrap64 (n + 1))] 72))) := Lib.hid (((Below.refl _ _).alloc (Nat.le_refl _) _).alloc (by simp) _)
   clear hB h1 h2
   go_enter Tryd.func71, Tryd.ntmps71
   go_wp2_with fail
   refine bodyPost_ret (v := .tuple #[.agg #[.int .i64 p, .int .i64 y, .int .i64 (wrap64 (n + 1))], .bool false]) (by simp [results, Tryd.results71, go_sem]) rfl (by first | exact ⟨y, (wrap64 (n + 1)), rfl, HB.out⟩ | exact ⟨⟨y, (wrap64 (n + 1)), rfl⟩, HB.out⟩)
  ·have t2 : decide (4294967295 < e) = false := decide_eq_false (by omega)
   by_cases h3 : e < p
   ·have t3 : decide (e < p) = true := decide_eq_true (by omega)
    have HPB : passB p e = false := by unfold passB inM; simp; omega
    obtain rfl : pb = false := hp1.symm.trans HPB
    have he9 : p = e1 := hp2
    subst he9
    clear HPB hp1
    have HB : Hid (Below w.heap.size w ((w.alloc (.cells #[.int .i64 p, .int .i64 y, .int .i64 (wrap64 (n + 1))] 72)).alloc (.cells #[.int .i64 p, .int .i64 y, .int .i64 (wrap64 (n + 1))] 72))) := Lib.hid (((Below.refl _ _).alloc (Nat.le_refl _) _).alloc (by simp) _)
    clear hB h1 h2 h3
    go_enter Tryd.func71, Tryd.ntmps71
    go_wp2_with fail
    refine bodyPost_ret (v := .tuple #[.agg #[.int .i64 p, .int .i64 y, .int .i64 (wrap64 (n + 1))], .bool false]) (by simp [results, Tryd.results71, go_sem]) rfl (by first | exact ⟨y, (wrap64 (n + 1)), rfl, HB.out⟩ | exact ⟨⟨y, (wrap64 (n + 1)), rfl⟩, HB.out⟩)
   ·have t3 : decide (e < p) = false := decide_eq_false (by omega)
    have HPB : passB p e = true := by unfold passB inM; simp; omega
    obtain rfl : pb = true := hp1.symm.trans HPB
    have he9 : e = e1 := hp2
    subst he9
    clear HPB hp1
    have HB : Hid (Below w.heap.size w ((w.alloc (.cells #[.int .i64 e, .int .i64 (wrap64 (y + 1)), .int .i64 n] 72)).alloc (.cells #[.int .i64 e, .int .i64 (wrap64 (y + 1)), .int .i64 n] 72))) := Lib.hid (((Below.refl _ _).alloc (Nat.le_refl _) _).alloc (by simp) _)
    clear hB h1 h2 h3
    go_enter Tryd.func71, Tryd.ntmps71
    go_wp2_with fail
    refine bodyPost_ret (v := .tuple #[.agg #[.int .i64 e, .int .i64 (wrap64 (y + 1)), .int .i64 n], .bool true]) (by simp [results, Tryd.results71, go_sem]) rfl (by first | exact ⟨(wrap64 (y + 1)), n, rfl, HB.out⟩ | exact ⟨⟨(wrap64 (y + 1)), n, rfl⟩, HB.out⟩)
/-- The three boxes of Hear: the value, the message, the result. -/
structure RM (w0 w : World) (b : Nat) (s : WS) (v : RV) (m : LMsg) : Prop where
 x : Blk w b 74 (boxR s v)
 g : Blk w (b + 1) 38 (boxMsg m)
 r : Blk w (b + 2) 74 zboxR
 ge : w0.heap.size ≤ b
 bel : Below w0.heap.size w0 w
theorem RM.start (s : WS) (v : RV) (m : LMsg) (w : World) : RM w (((w.alloc (.cells (boxR s v) 74)).alloc (.cells (boxMsg m) 38)).alloc (.cells zboxR 74)) w.heap.size s v m := by
 have h1 := Blk.new (w.alloc (.cells (boxR s v) 74)) 38 (boxMsg m)
 have h2 := Blk.new ((w.alloc (.cells (boxR s v) 74)).alloc (.cells (boxMsg m) 38)) 74 zboxR
 have s1 : (w.alloc (.cells (boxR s v) 74)).heap.size = w.heap.size + 1 := by simp
 have s2 : ((w.alloc (.cells (boxR s v) 74)).alloc (.cells (boxMsg m) 38)).heap.size = w.heap.size + 2 := by simp
 rw [s1] at h1
 rw [s2] at h2
 exact ⟨((Blk.new w 74 (boxR s v)).alloc _).alloc _, h1.alloc _, h2, Nat.le_refl _, (((Below.refl _ _).alloc (Nat.le_refl _) _).alloc (by simp) _).alloc (by simp; omega) _⟩
theorem RM.below {w0 w w' : World} {b : Nat} {s : WS} {v : RV} {m : LMsg} (h : RM w0 w b s v m) (hb : Below w.heap.size w w') : RM w0 w' b s v m :=
 ⟨h.x.below hb h.x.lt, h.g.below hb h.g.lt, h.r.below hb h.r.lt, h.ge, h.bel.trans (hb.mono h.bel.size)⟩
theorem RM.laid {w0 w w' : World} {b : Nat} {s s' : WS} {v v' : RV} {m : LMsg} (h : RM w0 w b s v m) (hb : Blk w' b 74 (boxR s' v')) (hk : Kept (fun k => k = b) w w') : RM w0 w' b s' v' m :=
 ⟨hb, h.g.kept hk (by omega), h.r.kept hk (by omega), h.ge, h.bel.trans (hk.below h.bel.size (fun i hi e => by have := h.ge; omega))⟩
theorem RM.done {w0 w w' : World} {b : Nat} {s : WS} {v : RV} {m : LMsg} (h : RM w0 w b s v m) (hk : Kept (fun k => k = b + 2) w w') : Below w0.heap.size w0 w' :=
 h.bel.trans (hk.below h.bel.size (fun i hi e => by have := h.ge; omega))
set_option maxRecDepth 100000 in
set_option maxHeartbeats 3200000 in
theorem rHear_down (s : WS) (v : RV) (now : Int) (m : LMsg) (w : World) (hR : RdR w v s) (hu : s.up = false) : Calls Tryd.prog 37 #[aggR s v, .int .i64 now, aggMsg m] w fun e w' => ∃ v', e = .returned (.tuple #[aggR (s.hear now m).1 v', .bool (s.hear now m).2]) ∧ RdR w' v' (s.hear now m).1 ∧ RT w w' v v' ∧ Below w.heap.size w w' := by
 have HRR := Lib.hid hR
 have HH : Hid (s.hear now m = (s, false)) := Lib.hid (by unfold WS.hear; rw [if_neg (by rw [hu]; simp)])
 clear hR
 have HU := Lib.hid hu
 clear hu
 go_enter Tryd.func37, Tryd.ntmps37
 go_upto_region 1 with fail
 have HI := Lib.hid (RM.start s v m w)
 obtain ⟨b, hb0⟩ : ∃ b, w.heap.size = b := ⟨_, rfl⟩
 generalize (((w.alloc (.cells (boxR s v) 74)).alloc (.cells (boxMsg m) 38)).alloc (.cells zboxR 74)) = w1 at HI ⊢
 rw [hb0] at HI
 try rw [hb0]
 clear hb0
 have HS : Hid (b + 2 < w1.heap.size ∧ w.heap.size ≤ b ∧ w.heap.size ≤ w1.heap.size) := Lib.hid ⟨HI.out.r.lt, HI.out.ge, HI.out.bel.size⟩
 have hu := HU.out
 have x8 : w1.cell? ⟨b, 8, none⟩ = some (.bool s.up) := (HI.out.x.cell 8).trans rfl
 rw [hu] at x8
 have xl := HI.out.x.lt
 have ml := HI.out.g.lt
 go_upto_region 2 with fail
 clear x8 xl ml
 have HQ : Hid (RdR w1 v s ∧ RT w1 w1 v v) := Lib.hid ⟨HRR.out.below HI.out.bel, .refl _ _ _⟩
 go_wp2_with (first | (refine loadR rfl (.tmp 3) rfl rfl (s := s) (v := v) HI.out.x ?_) | (refine storeR rfl rfl (.tmp 6) (.tmp 42) rfl rfl (s := s) (v := v) rfl HI.out.r rfl ?_; intro w9 hb9 hk9 hs9))
 have HE := Lib.hid (HI.out.done hk9)
 have hz2 : (RdR w9 v s) ∧ RT w w9 v v := ⟨HQ.out.1.box HRR.out HQ.out.2 hk9 (by have := HS.out; omega) HS.out.1, HQ.out.2.mono HS.out.2.2 (by omega)⟩
 have HQ2 := Lib.hid hz2
 clear hz2
 obtain ⟨x0, x1, x2, x3, x4, x5, x6, x7, x8, x9, x10, x11, x12, x13, x14⟩ := rCells hb9
 clear hk9 hs9 hb9
 refine bodyPost_ret (v := .tuple #[aggR s v, .bool false]) (by simp [results, Tryd.results37, go_sem, x0, x1, x2, x3, x4, x5, x6, x7, x8, x9, x10, x11, x12, x13, x14]) rfl ?_
 rw [HH.out]
 exact ⟨_, rfl, HQ2.out.1, HQ2.out.2, HE.out⟩
set_option maxRecDepth 100000 in
set_option maxHeartbeats 3200000 in
theorem rHear_bad (s : WS) (v : RV) (now : Int) (m : LMsg) (w : World) (hR : RdR w v s) (hu : s.up = true) (hc : checkM m ≠ 0) : Calls Tryd.prog 37 #[aggR s v, .int .i64 now, aggMsg m] w fun e w' => ∃ v', e = .returned (.tuple #[aggR (s.hear now m).1 v', .bool (s.hear now m).2]) ∧ RdR w' v' (s.hear now m).1 ∧ RT w w' v v' ∧ Below w.heap.size w w' := by
 have HRR := Lib.hid hR
 have HH : Hid (s.hear now m = (s, false)) := Lib.hid (by unfold WS.hear; rw [if_neg (fun h => hc h.2.1)])
 clear hR
 have HU := Lib.hid hu
 clear hu
 have hcn : (checkM m != 0) = true := by simp [hc]
 obtain ⟨ck, hck⟩ : ∃ ck, checkM m = ck := ⟨_, rfl⟩
 rw [hck] at hcn
 have HCK := Lib.hid hck
 clear hc hck
 go_enter Tryd.func37, Tryd.ntmps37
 go_upto_region 1 with fail
 have HI := Lib.hid (RM.start s v m w)
 obtain ⟨b, hb0⟩ : ∃ b, w.heap.size = b := ⟨_, rfl⟩
 generalize (((w.alloc (.cells (boxR s v) 74)).alloc (.cells (boxMsg m) 38)).alloc (.cells zboxR 74)) = w1 at HI ⊢
 rw [hb0] at HI
 try rw [hb0]
 clear hb0
 have HS : Hid (b + 2 < w1.heap.size ∧ w.heap.size ≤ b ∧ w.heap.size ≤ w1.heap.size) := Lib.hid ⟨HI.out.r.lt, HI.out.ge, HI.out.bel.size⟩
 have hu := HU.out
 obtain ⟨m0, m1, m2, m3, m4, m5, m6, m7, m8, m9, m10, m11⟩ := msgCells HI.out.g
 have x8 : w1.cell? ⟨b, 8, none⟩ = some (.bool s.up) := (HI.out.x.cell 8).trans rfl
 rw [hu] at x8
 have xl := HI.out.x.lt
 have ml := HI.out.g.lt
 have hcx := refCheck_t m w1
 rw [HCK.out] at hcx
 go_wp2_with fail
 (with_reducible refine hcx.mono ?_)
 clear hcx xl ml x8 hu m0 m1 m2 m3 m4 m5 m6 m7 m8 m9 m10 m11
 rintro e w2 ⟨rfl, hb2⟩
 have H2 := Lib.hid (HI.out.below hb2)
 have HQ : Hid (RdR w2 v s ∧ RT w1 w2 v v) := Lib.hid ⟨HRR.out.below H2.out.bel, .refl _ _ _⟩
 clear hb2 HI
 go_upto_region 2 with fail
 clear hcn
 go_wp2_with (first | (refine loadR rfl (.tmp 3) rfl rfl (s := s) (v := v) H2.out.x ?_) | (refine storeR rfl rfl (.tmp 6) (.tmp 42) rfl rfl (s := s) (v := v) rfl H2.out.r rfl ?_; intro w9 hb9 hk9 hs9))
 have HE := Lib.hid (H2.out.done hk9)
 have hz2 : (RdR w9 v s) ∧ RT w w9 v v := ⟨HQ.out.1.box HRR.out HQ.out.2 hk9 (by have := HS.out; omega) HS.out.1, HQ.out.2.mono HS.out.2.2 (by omega)⟩
 have HQ2 := Lib.hid hz2
 clear hz2
 obtain ⟨x0, x1, x2, x3, x4, x5, x6, x7, x8, x9, x10, x11, x12, x13, x14⟩ := rCells hb9
 clear hk9 hs9 hb9
 refine bodyPost_ret (v := .tuple #[aggR s v, .bool false]) (by simp [results, Tryd.results37, go_sem, x0, x1, x2, x3, x4, x5, x6, x7, x8, x9, x10, x11, x12, x13, x14]) rfl ?_
 rw [HH.out]
 exact ⟨_, rfl, HQ2.out.1, HQ2.out.2, HE.out⟩
set_option maxRecDepth 100000 in
set_option maxHeartbeats 3200000 in
theorem rHear_far (s : WS) (v : RV) (now : Int) (m : LMsg) (w : World) (hR : RdR w v s) (hnd : 0 ≤ s.node ∧ s.node ≤ 15) (hu : s.up = true) (hc : checkM m = 0) (ht : m.to_ ≠ 100 + s.node) : Calls Tryd.prog 37 #[aggR s v, .int .i64 now, aggMsg m] w fun e w' => ∃ v', e = .returned (.tuple #[aggR (s.hear now m).1 v', .bool (s.hear now m).2]) ∧ RdR w' v' (s.hear now m).1 ∧ RT w w' v v' ∧ Below w.heap.size w w' := by
 have HRR := Lib.hid hR
 have HH : Hid (s.hear now m = (s, false)) := Lib.hid (by unfold WS.hear; rw [if_neg (fun h => ht h.2.2.1)])
 clear hR
 have HU := Lib.hid hu
 clear hu
 have HC0 := Lib.hid hc
 clear hc
 have tne : (m.to_ != 100 + s.node) = true := by simp [ht]
 clear ht
 go_enter Tryd.func37, Tryd.ntmps37
 go_upto_region 1 with fail
 have HI := Lib.hid (RM.start s v m w)
 obtain ⟨b, hb0⟩ : ∃ b, w.heap.size = b := ⟨_, rfl⟩
 generalize (((w.alloc (.cells (boxR s v) 74)).alloc (.cells (boxMsg m) 38)).alloc (.cells zboxR 74)) = w1 at HI ⊢
 rw [hb0] at HI
 try rw [hb0]
 clear hb0
 have HS : Hid (b + 2 < w1.heap.size ∧ w.heap.size ≤ b ∧ w.heap.size ≤ w1.heap.size) := Lib.hid ⟨HI.out.r.lt, HI.out.ge, HI.out.bel.size⟩
 have hu := HU.out
 obtain ⟨m0, m1, m2, m3, m4, m5, m6, m7, m8, m9, m10, m11⟩ := msgCells HI.out.g
 have x8 : w1.cell? ⟨b, 8, none⟩ = some (.bool s.up) := (HI.out.x.cell 8).trans rfl
 rw [hu] at x8
 have xl := HI.out.x.lt
 have ml := HI.out.g.lt
 have hcx := refCheck_t m w1
 rw [HC0.out] at hcx
 go_wp2_with fail
 (with_reducible refine hcx.mono ?_)
 clear hcx xl ml x8 hu m0 m1 m2 m3 m4 m5 m6 m7 m8 m9 m10 m11
 rintro e w2 ⟨rfl, hb2⟩
 have H2 := Lib.hid (HI.out.below hb2)
 have HQ : Hid (RdR w2 v s ∧ RT w1 w2 v v) := Lib.hid ⟨HRR.out.below H2.out.bel, .refl _ _ _⟩
 clear hb2 HI
 have m2 : w2.cell? ⟨b + 1, 2, none⟩ = some (.int .i64 m.to_) := (H2.out.g.cell 2).trans rfl
 have m0 : w2.cell? ⟨b + 1, 0, none⟩ = some (.int .i64 m.kind) := (H2.out.g.cell 0).trans rfl
 have x0 : w2.cell? ⟨b, 0, none⟩ = some (.int .i64 s.node) := (H2.out.x.cell 0).trans rfl
 have xl := H2.out.x.lt
 have ml := H2.out.g.lt
 have twr : IntKind.i64.wrap (100 + s.node) = 100 + s.node := IntWalk.i64_in _ (by omega)
 go_upto_region 2 with fail
 clear m2 m0 x0 xl ml twr tne
 go_wp2_with (first | (refine loadR rfl (.tmp 3) rfl rfl (s := s) (v := v) H2.out.x ?_) | (refine storeR rfl rfl (.tmp 6) (.tmp 42) rfl rfl (s := s) (v := v) rfl H2.out.r rfl ?_; intro w9 hb9 hk9 hs9))
 have HE := Lib.hid (H2.out.done hk9)
 have hz2 : (RdR w9 v s) ∧ RT w w9 v v := ⟨HQ.out.1.box HRR.out HQ.out.2 hk9 (by have := HS.out; omega) HS.out.1, HQ.out.2.mono HS.out.2.2 (by omega)⟩
 have HQ2 := Lib.hid hz2
 clear hz2
 obtain ⟨x0, x1, x2, x3, x4, x5, x6, x7, x8, x9, x10, x11, x12, x13, x14⟩ := rCells hb9
 clear hk9 hs9 hb9
 refine bodyPost_ret (v := .tuple #[aggR s v, .bool false]) (by simp [results, Tryd.results37, go_sem, x0, x1, x2, x3, x4, x5, x6, x7, x8, x9, x10, x11, x12, x13, x14]) rfl ?_
 rw [HH.out]
 exact ⟨_, rfl, HQ2.out.1, HQ2.out.2, HE.out⟩
set_option maxRecDepth 100000 in
set_option maxHeartbeats 3200000 in
theorem rHear_other (s : WS) (v : RV) (now : Int) (m : LMsg) (w : World) (hR : RdR w v s) (hnd : 0 ≤ s.node ∧ s.node ≤ 15) (hu : s.up = true) (hc : checkM m = 0) (ht : m.to_ = 100 + s.node) (hk : ¬ (m.kind = 2 ∨ m.kind = 3 ∨ m.kind = 4)) : Calls Tryd.prog 37 #[aggR s v, .int .i64 now, aggMsg m] w fun e w' => ∃ v', e = .returned (.tuple #[aggR (s.hear now m).1 v', .bool (s.hear now m).2]) ∧ RdR w' v' (s.hear now m).1 ∧ RT w w' v v' ∧ Below w.heap.size w w' := by
 have HRR := Lib.hid hR
 have HH : Hid (s.hear now m = (s, false)) := Lib.hid (by unfold WS.hear; rw [if_neg (fun h => hk h.2.2.2)])
 clear hR
 have HU := Lib.hid hu
 clear hu
 have HC0 := Lib.hid hc
 clear hc
 have tne : (m.to_ != 100 + s.node) = false := by simp [ht]
 have k2 : (m.kind != 2) = true := by simp; omega
 have k3 : (m.kind != 3) = true := by simp; omega
 have k4 : (m.kind != 4) = true := by simp; omega
 clear ht hk
 go_enter Tryd.func37, Tryd.ntmps37
 go_upto_region 1 with fail
 have HI := Lib.hid (RM.start s v m w)
 obtain ⟨b, hb0⟩ : ∃ b, w.heap.size = b := ⟨_, rfl⟩
 generalize (((w.alloc (.cells (boxR s v) 74)).alloc (.cells (boxMsg m) 38)).alloc (.cells zboxR 74)) = w1 at HI ⊢
 rw [hb0] at HI
 try rw [hb0]
 clear hb0
 have HS : Hid (b + 2 < w1.heap.size ∧ w.heap.size ≤ b ∧ w.heap.size ≤ w1.heap.size) := Lib.hid ⟨HI.out.r.lt, HI.out.ge, HI.out.bel.size⟩
 have hu := HU.out
 obtain ⟨m0, m1, m2, m3, m4, m5, m6, m7, m8, m9, m10, m11⟩ := msgCells HI.out.g
 have x8 : w1.cell? ⟨b, 8, none⟩ = some (.bool s.up) := (HI.out.x.cell 8).trans rfl
 rw [hu] at x8
 have xl := HI.out.x.lt
 have ml := HI.out.g.lt
 have hcx := refCheck_t m w1
 rw [HC0.out] at hcx
 go_wp2_with fail
 (with_reducible refine hcx.mono ?_)
 clear hcx xl ml x8 hu m0 m1 m2 m3 m4 m5 m6 m7 m8 m9 m10 m11
 rintro e w2 ⟨rfl, hb2⟩
 have H2 := Lib.hid (HI.out.below hb2)
 have HQ : Hid (RdR w2 v s ∧ RT w1 w2 v v) := Lib.hid ⟨HRR.out.below H2.out.bel, .refl _ _ _⟩
 clear hb2 HI
 have m2 : w2.cell? ⟨b + 1, 2, none⟩ = some (.int .i64 m.to_) := (H2.out.g.cell 2).trans rfl
 have m0 : w2.cell? ⟨b + 1, 0, none⟩ = some (.int .i64 m.kind) := (H2.out.g.cell 0).trans rfl
 have x0 : w2.cell? ⟨b, 0, none⟩ = some (.int .i64 s.node) := (H2.out.x.cell 0).trans rfl
 have xl := H2.out.x.lt
 have ml := H2.out.g.lt
 have twr : IntKind.i64.wrap (100 + s.node) = 100 + s.node := IntWalk.i64_in _ (by omega)
 go_upto_region 2 with fail
 clear m2 m0 x0 xl ml twr tne k2 k3 k4
 go_wp2_with (first | (refine loadR rfl (.tmp 3) rfl rfl (s := s) (v := v) H2.out.x ?_) | (refine storeR rfl rfl (.tmp 6) (.tmp 42) rfl rfl (s := s) (v := v) rfl H2.out.r rfl ?_; intro w9 hb9 hk9 hs9))
 have HE := Lib.hid (H2.out.done hk9)
 have hz2 : (RdR w9 v s) ∧ RT w w9 v v := ⟨HQ.out.1.box HRR.out HQ.out.2 hk9 (by have := HS.out; omega) HS.out.1, HQ.out.2.mono HS.out.2.2 (by omega)⟩
 have HQ2 := Lib.hid hz2
 clear hz2
 obtain ⟨x0, x1, x2, x3, x4, x5, x6, x7, x8, x9, x10, x11, x12, x13, x14⟩ := rCells hb9
 clear hk9 hs9 hb9
 refine bodyPost_ret (v := .tuple #[aggR s v, .bool false]) (by simp [results, Tryd.results37, go_sem, x0, x1, x2, x3, x4, x5, x6, x7, x8, x9, x10, x11, x12, x13, x14]) rfl ?_
 rw [HH.out]
 exact ⟨_, rfl, HQ2.out.1, HQ2.out.2, HE.out⟩
end Go.Proofs.YthhnocnkicoimaaDoor
namespace Go.Proofs.YthhnocnkicoimaaDoor
open Go.RowKit Go.Maps

theorem From.trans {w1 w6 w7 : World} {A A' A'' : Option Addr} {n n' n'' : Nat} (h : From w1 w6 A n A' n') (k : From w6 w7 A' n' A'' n'') (h1 : w1.heap.size ≤ w6.heap.size) (h2 : w6.heap.size ≤ w7.heap.size) : From w1 w7 A n A'' n'' := by
 rcases k with ⟨rfl, rfl⟩ | k
 ·exact h.grow h2
 ·exact .inr (fun ad ha => ⟨Nat.le_trans h1 (k ad ha).1, (k ad ha).2⟩)
structure RQ (w0 w1 w : World) (v V : RV) (S : WS) : Prop where
 rd : RdR w V S
 rt : RT w1 w v V
 sz : w1.heap.size ≤ w.heap.size
theorem RQ.below {w0 w1 w w' : World} {v V : RV} {S : WS} (h : RQ w0 w1 w v V S) (hb : Below w.heap.size w w') : RQ w0 w1 w' v V S := ⟨h.rd.below hb, h.rt.mono (Nat.le_refl _) hb.size, Nat.le_trans h.sz hb.size⟩
theorem RQ.box {w0 w1 w w' : World} {v V : RV} {S s : WS} {q : Nat} (h : RQ w0 w1 w v V S) (hR : RdR w0 v s) (hk : Kept (fun k => k = q) w w') (h1 : w0.heap.size ≤ q) (h2 : q < w1.heap.size) : RQ w0 w1 w' v V S := ⟨h.rd.box hR h.rt hk h1 h2, h.rt.mono (Nat.le_refl _) hk.size, Nat.le_trans h.sz hk.size⟩
theorem RQ.held {w0 w1 w w' : World} {v V : RV} {S : WS} (h : RQ w0 w1 w v V S) (hb : Below w.heap.size w w') {A : Option Addr} {n c : Nat} {l : List Int} (hr : RdI w' A n l) (hc : n ≤ c) (hp : From w w' V.ha V.hn A n) : RQ w0 w1 w' v ⟨V.y, V.n, A, n, c, V.da, V.dn, V.dc, V.ta, V.tn, V.tc⟩ { S with held := l } :=
 ⟨⟨hr, h.rd.d.below hb, h.rd.t.below hb, hc, h.rd.dc, h.rd.tc⟩, ⟨h.rt.h.trans hp h.sz hb.size, h.rt.d.grow hb.size, h.rt.t.grow hb.size⟩, Nat.le_trans h.sz hb.size⟩
theorem RQ.told {w0 w1 w w' : World} {v V : RV} {S : WS} (h : RQ w0 w1 w v V S) (hb : Below w.heap.size w w') {A : Option Addr} {n c : Nat} {l : List Int} (hr : RdI w' A n l) (hc : n ≤ c) (hp : From w w' V.ta V.tn A n) : RQ w0 w1 w' v ⟨V.y, V.n, V.ha, V.hn, V.hc, V.da, V.dn, V.dc, A, n, c⟩ { S with told := l } :=
 ⟨⟨h.rd.h.below hb, h.rd.d.below hb, hr, h.rd.hc, h.rd.dc, hc⟩, ⟨h.rt.h.grow hb.size, h.rt.d.grow hb.size, h.rt.t.trans hp h.sz hb.size⟩, Nat.le_trans h.sz hb.size⟩
set_option maxRecDepth 100000 in
set_option maxHeartbeats 12800000 in
theorem rHear_k2 (s : WS) (v : RV) (now : Int) (m : LMsg) (w : World) (hR : RdR w v s) (hnd : 0 ≤ s.node ∧ s.node ≤ 15) (hl : s.held.length ≤ 1000000 ∧ s.done.length ≤ 1000000 ∧ s.told.length ≤ 1000000) (hu : s.up = true) (hc : checkM m = 0) (ht : m.to_ = 100 + s.node) (hk : m.kind = 2) : Calls Tryd.prog 37 #[aggR s v, .int .i64 now, aggMsg m] w fun e w' => ∃ v', e = .returned (.tuple #[aggR (s.hear now m).1 v', .bool (s.hear now m).2]) ∧ RdR w' v' (s.hear now m).1 ∧ RT w w' v v' ∧ Below w.heap.size w w' := by
 have HRR := Lib.hid hR
 have HL := Lib.hid hl
 have HHE : Hid (s.hear now m = (if passB s.epoch m.epoch = true ∧ m.inc = (s.pass m.epoch).inc then (s.pass m.epoch).heed now m else (s.pass m.epoch, false))) := Lib.hid (by unfold WS.hear; rw [if_pos ⟨hu, hc, ht, by omega⟩])
 clear hR hl
 have HU := Lib.hid hu
 clear hu
 have HC0 := Lib.hid hc
 clear hc
 have tne : (m.to_ != 100 + s.node) = false := by simp [ht]
 have k2 : (m.kind != 2) = false := by simp [hk]
 have k3 : (m.kind != 3) = true := by simp [hk]
 have k4 : (m.kind != 4) = true := by simp [hk]
 have HKK := Lib.hid hk
 clear ht hk
 go_enter Tryd.func37, Tryd.ntmps37
 go_upto_region 1 with fail
 have HI := Lib.hid (RM.start s v m w)
 obtain ⟨b, hb0⟩ : ∃ b, w.heap.size = b := ⟨_, rfl⟩
 generalize (((w.alloc (.cells (boxR s v) 74)).alloc (.cells (boxMsg m) 38)).alloc (.cells zboxR 74)) = w1 at HI ⊢
 rw [hb0] at HI
 try rw [hb0]
 clear hb0
 have HS : Hid (b + 2 < w1.heap.size ∧ w.heap.size ≤ b ∧ w.heap.size ≤ w1.heap.size) := Lib.hid ⟨HI.out.r.lt, HI.out.ge, HI.out.bel.size⟩
 have hu := HU.out
 obtain ⟨m0, m1, m2, m3, m4, m5, m6, m7, m8, m9, m10, m11⟩ := msgCells HI.out.g
 have x8 : w1.cell? ⟨b, 8, none⟩ = some (.bool s.up) := (HI.out.x.cell 8).trans rfl
 rw [hu] at x8
 have xl := HI.out.x.lt
 have ml := HI.out.g.lt
 have hcx := refCheck_t m w1
 rw [HC0.out] at hcx
 go_wp2_with fail
 (with_reducible refine hcx.mono ?_)
 clear hcx xl ml x8 hu m0 m1 m2 m3 m4 m5 m6 m7 m8 m9 m10 m11
 rintro e w2 ⟨rfl, hb2⟩
 have H2 := Lib.hid (HI.out.below hb2)
 have HQ : Hid (RdR w2 v s ∧ RT w1 w2 v v) := Lib.hid ⟨HRR.out.below H2.out.bel, .refl _ _ _⟩
 have HSZ : Hid (w1.heap.size ≤ w2.heap.size) := Lib.hid hb2.size; clear hb2 HI
 have m2 : w2.cell? ⟨b + 1, 2, none⟩ = some (.int .i64 m.to_) := (H2.out.g.cell 2).trans rfl
 have m0 : w2.cell? ⟨b + 1, 0, none⟩ = some (.int .i64 m.kind) := (H2.out.g.cell 0).trans rfl
 have x0 : w2.cell? ⟨b, 0, none⟩ = some (.int .i64 s.node) := (H2.out.x.cell 0).trans rfl
 have xl := H2.out.x.lt
 have ml := H2.out.g.lt
 have twr : IntKind.i64.wrap (100 + s.node) = 100 + s.node := IntWalk.i64_in _ (by omega)
 have HQS : Hid (w1.heap.size ≤ w2.heap.size) := Lib.hid HSZ.out
 go_upto_region 3 with fail
 clear m2 m0 x0 twr tne k2 k3 k4
 have x9 : w2.cell? ⟨b, 9, none⟩ = some (.int .i64 s.epoch) := (H2.out.x.cell 9).trans rfl
 have x10 : w2.cell? ⟨b, 10, none⟩ = some (.int .i64 v.y) := (H2.out.x.cell 10).trans rfl
 have x11 : w2.cell? ⟨b, 11, none⟩ = some (.int .i64 v.n) := (H2.out.x.cell 11).trans rfl
 have m3 : w2.cell? ⟨b + 1, 3, none⟩ = some (.int .i64 m.epoch) := (H2.out.g.cell 3).trans rfl
 obtain ⟨pb, hpb⟩ : ∃ pb, passB s.epoch m.epoch = pb := ⟨_, rfl⟩
 obtain ⟨e1, he1⟩ : ∃ e1, (if pb then m.epoch else s.epoch) = e1 := ⟨_, rfl⟩
 have hcx := rPass_t s.epoch v.y v.n m.epoch w2 pb e1 hpb he1
 have HPS : Hid (passB s.epoch m.epoch = pb ∧ s.pass m.epoch = ({ s with epoch := e1 } : WS)) := Lib.hid ⟨hpb, by unfold WS.pass; rw [hpb, ← he1]; cases pb <;> rfl⟩
 clear hpb he1
 go_wp2_with fail
 (with_reducible refine hcx.mono ?_)
 clear hcx x9 x10 x11 m3 xl ml
 rintro e w3 ⟨y1, n1, rfl, hb3⟩
 have H3 := Lib.hid (H2.out.below hb3)
 have HQ3 : Hid (RQ w w1 w3 v (⟨y1, n1, v.ha, v.hn, v.hc, v.da, v.dn, v.dc, v.ta, v.tn, v.tc⟩ : RV) ({ s with epoch := e1 } : WS)) := Lib.hid ⟨⟨(HQ.out.1.below hb3).h, (HQ.out.1.below hb3).d, (HQ.out.1.below hb3).t, HRR.out.hc, HRR.out.dc, HRR.out.tc⟩, ⟨.refl _ _ _ _, .refl _ _ _ _, .refl _ _ _ _⟩, Nat.le_trans HQS.out hb3.size⟩
 clear hb3 H2 HQ
 have x9 : w3.cell? ⟨b, 9, none⟩ = some (.int .i64 s.epoch) := (H3.out.x.cell 9).trans rfl
 have x10 : w3.cell? ⟨b, 10, none⟩ = some (.int .i64 v.y) := (H3.out.x.cell 10).trans rfl
 have x11 : w3.cell? ⟨b, 11, none⟩ = some (.int .i64 v.n) := (H3.out.x.cell 11).trans rfl
 have xl := H3.out.x.lt
 have xf := H3.out.x.frozen
 go_upto_region 5 with fail
 clear x9 x10 x11 xl xf
 have hx : Blk ((((w3.setCell ⟨b, 9, none⟩ (.int .i64 e1)).setCell ⟨b, 10, none⟩ (.int .i64 y1)).setCell ⟨b, 11, none⟩ (.int .i64 n1)).alloc (.cells #[.int .i64 e1, .int .i64 y1, .int .i64 n1] 72)) b 74 (boxR ({ s with epoch := e1 } : WS) (⟨y1, n1, v.ha, v.hn, v.hc, v.da, v.dn, v.dc, v.ta, v.tn, v.tc⟩ : RV)) := by
  have h2 := (((H3.out.x.set_ 9 (.int .i64 e1)).set_ 10 (.int .i64 y1)).set_ 11 (.int .i64 n1)).alloc (.cells #[.int .i64 e1, .int .i64 y1, .int .i64 n1] 72)
  simp only [List.setIfInBounds_toArray, List.set_cons_zero, List.set_cons_succ] at h2
  exact h2
 have hk : Kept (fun k => k = b) w3 ((((w3.setCell ⟨b, 9, none⟩ (.int .i64 e1)).setCell ⟨b, 10, none⟩ (.int .i64 y1)).setCell ⟨b, 11, none⟩ (.int .i64 n1)).alloc (.cells #[.int .i64 e1, .int .i64 y1, .int .i64 n1] 72)) := Kept.alloc (Kept.setCell (F := fun k => k = b) (Kept.setCell (F := fun k => k = b) (Kept.setCell (F := fun k => k = b) (Kept.refl _ w3) (p := ⟨b, 9, none⟩) (fun _ => rfl) (.int .i64 e1)) (p := ⟨b, 10, none⟩) (fun _ => rfl) (.int .i64 y1)) (p := ⟨b, 11, none⟩) (fun _ => rfl) (.int .i64 n1)) _
 have H5 := Lib.hid (H3.out.laid hx hk)
 have HQ5 := Lib.hid (HQ3.out.box HRR.out hk (by have := HS.out; omega) (by have := HS.out; omega))
 clear hx hk H3 HQ3
 generalize ((((w3.setCell ⟨b, 9, none⟩ (.int .i64 e1)).setCell ⟨b, 10, none⟩ (.int .i64 y1)).setCell ⟨b, 11, none⟩ (.int .i64 n1)).alloc (.cells #[.int .i64 e1, .int .i64 y1, .int .i64 n1] 72)) = w5 at H5 HQ5 ⊢
 cases pb
 ·have HH : Hid (s.hear now m = (({ s with epoch := e1 } : WS), false)) := Lib.hid (by rw [HHE.out, HPS.out.2, HPS.out.1, if_neg (by simp)])
  go_upto_region 6 with fail
  go_wp2_with (first | (refine loadR rfl (.tmp 3) rfl rfl (s := ({ s with epoch := e1 } : WS)) (v := (⟨y1, n1, v.ha, v.hn, v.hc, v.da, v.dn, v.dc, v.ta, v.tn, v.tc⟩ : RV)) H5.out.x ?_) | (refine storeR rfl rfl (.tmp 6) (.tmp 62) rfl rfl (s := ({ s with epoch := e1 } : WS)) (v := (⟨y1, n1, v.ha, v.hn, v.hc, v.da, v.dn, v.dc, v.ta, v.tn, v.tc⟩ : RV)) rfl H5.out.r rfl ?_; intro w9 hb9 hk9 hs9))
  have HE := Lib.hid (H5.out.done hk9)
  have HQ2 := Lib.hid (HQ5.out.box HRR.out hk9 (by have := HS.out; omega) HS.out.1)
  obtain ⟨x0, x1, x2, x3, x4, x5, x6, x7, x8, x9, x10, x11, x12, x13, x14⟩ := rCells hb9
  clear hk9 hs9 hb9
  refine bodyPost_ret (v := .tuple #[aggR ({ s with epoch := e1 } : WS) (⟨y1, n1, v.ha, v.hn, v.hc, v.da, v.dn, v.dc, v.ta, v.tn, v.tc⟩ : RV), .bool false]) (by simp [results, Tryd.results37, go_sem, x0, x1, x2, x3, x4, x5, x6, x7, x8, x9, x10, x11, x12, x13, x14]) rfl ?_
  rw [HH.out]
  exact ⟨_, rfl, HQ2.out.rd, HQ2.out.rt.mono HS.out.2.2 (Nat.le_refl _), HE.out⟩
 ·have x2 : w5.cell? ⟨b, 2, none⟩ = some (.int .i64 s.inc) := (H5.out.x.cell 2).trans rfl
  have m4 : w5.cell? ⟨b + 1, 4, none⟩ = some (.int .i64 m.inc) := (H5.out.g.cell 4).trans rfl
  have xl := H5.out.x.lt
  have ml := H5.out.g.lt
  by_cases hi : m.inc = s.inc
  ·have ti : (m.inc != s.inc) = false := by simp [hi]
   have HH0 : Hid (s.hear now m = ({ s with epoch := e1 } : WS).heed now m) := Lib.hid (by rw [HHE.out, HPS.out.2, HPS.out.1, if_pos ⟨rfl, hi⟩])
   clear hi
   have m0 : w5.cell? ⟨b + 1, 0, none⟩ = some (.int .i64 m.kind) := (H5.out.g.cell 0).trans rfl
   have q2 : (m.kind == 2) = true := by simp [HKK.out]
   have q3 : (m.kind == 3) = false := by simp [HKK.out]
   go_upto_region 14 with fail
   clear x2 m4 m0 ti
   have m6 : w5.cell? ⟨b + 1, 6, none⟩ = some (.int .i64 m.tick) := (H5.out.g.cell 6).trans rfl
   have x1 : w5.cell? ⟨b, 1, none⟩ = some (.int .i64 s.span) := (H5.out.x.cell 1).trans rfl
   go_upto_region 15 with (go_at_call 72; (with_reducible refine (rLater_t _ _ _).mono ?_); rintro e w6 ⟨rfl, hw⟩; replace hw := hw.symm; subst hw)
   obtain ⟨lt, hlt⟩ : ∃ lt, laterI m.tick s.span = lt := ⟨_, rfl⟩
   rw [hlt]
   have HLT := Lib.hid hlt
   clear hlt x1
   by_cases h1 : now < m.tick
   ·have t1 : decide (now < m.tick) = true := decide_eq_true h1
    have HH : Hid (s.hear now m = (({ s with epoch := e1 } : WS), false)) := Lib.hid (by rw [HH0.out]; unfold WS.heed; rw [if_pos HKK.out]; have hb : ({ s with epoch := e1 } : WS).ackB now m = false := (by unfold WS.ackB; show (decide (m.tick ≤ now) && decide (now < laterI m.tick s.span)) = false; rw [HLT.out]; simp; omega); rw [hb]; rfl)
    clear h1
    go_upto_region 16 with fail
    clear m6 xl ml t1
    go_wp2_with (first | (refine loadR rfl (.tmp 3) rfl rfl (s := ({ s with epoch := e1 } : WS)) (v := (⟨y1, n1, v.ha, v.hn, v.hc, v.da, v.dn, v.dc, v.ta, v.tn, v.tc⟩ : RV)) H5.out.x ?_) | (refine storeR rfl rfl (.tmp 6) (.tmp 113) rfl rfl (s := ({ s with epoch := e1 } : WS)) (v := (⟨y1, n1, v.ha, v.hn, v.hc, v.da, v.dn, v.dc, v.ta, v.tn, v.tc⟩ : RV)) rfl H5.out.r rfl ?_; intro w9 hb9 hk9 hs9))
    have HE := Lib.hid (H5.out.done hk9)
    have HQ2 := Lib.hid (HQ5.out.box HRR.out hk9 (by have := HS.out; omega) HS.out.1)
    obtain ⟨x0, x1, x2, x3, x4, x5, x6, x7, x8, x9, x10, x11, x12, x13, x14⟩ := rCells hb9
    clear hk9 hs9 hb9
    refine bodyPost_ret (v := .tuple #[aggR ({ s with epoch := e1 } : WS) (⟨y1, n1, v.ha, v.hn, v.hc, v.da, v.dn, v.dc, v.ta, v.tn, v.tc⟩ : RV), .bool false]) (by simp [results, Tryd.results37, go_sem, x0, x1, x2, x3, x4, x5, x6, x7, x8, x9, x10, x11, x12, x13, x14]) rfl ?_
    rw [HH.out]
    exact ⟨_, rfl, HQ2.out.rd, HQ2.out.rt.mono HS.out.2.2 (Nat.le_refl _), HE.out⟩
   ·have t1 : decide (now < m.tick) = false := decide_eq_false h1
    by_cases h2 : lt ≤ now
    ·have t2 : decide (lt ≤ now) = true := decide_eq_true h2
     have HH : Hid (s.hear now m = (({ s with epoch := e1 } : WS), false)) := Lib.hid (by rw [HH0.out]; unfold WS.heed; rw [if_pos HKK.out]; have hb : ({ s with epoch := e1 } : WS).ackB now m = false := (by unfold WS.ackB; show (decide (m.tick ≤ now) && decide (now < laterI m.tick s.span)) = false; rw [HLT.out]; simp; omega); rw [hb]; rfl)
     clear h1 h2
     go_upto_region 16 with fail
     clear m6 xl ml t1 t2
     go_wp2_with (first | (refine loadR rfl (.tmp 3) rfl rfl (s := ({ s with epoch := e1 } : WS)) (v := (⟨y1, n1, v.ha, v.hn, v.hc, v.da, v.dn, v.dc, v.ta, v.tn, v.tc⟩ : RV)) H5.out.x ?_) | (refine storeR rfl rfl (.tmp 6) (.tmp 113) rfl rfl (s := ({ s with epoch := e1 } : WS)) (v := (⟨y1, n1, v.ha, v.hn, v.hc, v.da, v.dn, v.dc, v.ta, v.tn, v.tc⟩ : RV)) rfl H5.out.r rfl ?_; intro w9 hb9 hk9 hs9))
     have HE := Lib.hid (H5.out.done hk9)
     have HQ2 := Lib.hid (HQ5.out.box HRR.out hk9 (by have := HS.out; omega) HS.out.1)
     obtain ⟨x0, x1, x2, x3, x4, x5, x6, x7, x8, x9, x10, x11, x12, x13, x14⟩ := rCells hb9
     clear hk9 hs9 hb9
     refine bodyPost_ret (v := .tuple #[aggR ({ s with epoch := e1 } : WS) (⟨y1, n1, v.ha, v.hn, v.hc, v.da, v.dn, v.dc, v.ta, v.tn, v.tc⟩ : RV), .bool false]) (by simp [results, Tryd.results37, go_sem, x0, x1, x2, x3, x4, x5, x6, x7, x8, x9, x10, x11, x12, x13, x14]) rfl ?_
     rw [HH.out]
     exact ⟨_, rfl, HQ2.out.rd, HQ2.out.rt.mono HS.out.2.2 (Nat.le_refl _), HE.out⟩
    ·have t2 : decide (lt ≤ now) = false := decide_eq_false h2
     have HH : Hid (s.hear now m = (({ s with epoch := e1 } : WS).ack m, true)) := Lib.hid (by rw [HH0.out]; unfold WS.heed; rw [if_pos HKK.out]; have hb : ({ s with epoch := e1 } : WS).ackB now m = true := (by unfold WS.ackB; show (decide (m.tick ≤ now) && decide (now < laterI m.tick s.span)) = true; rw [HLT.out]; simp; omega); rw [hb]; rfl)
     clear h1 h2
     have x3 : w5.cell? ⟨b, 3, none⟩ = some (.int .i64 s.until_) := (H5.out.x.cell 3).trans rfl
     have xf := H5.out.x.frozen
     go_upto_region 22 with fail
     clear m6 xl ml t1 t2 x3 xf
     have hm : ({ s with epoch := e1 } : WS).ack m = ({ s with epoch := e1, until_ := max s.until_ lt } : WS) := by unfold WS.ack; rw [HLT.out]
     rw [hm] at HH
     clear hm
     have hx : Blk (w5.setCell ⟨b, 3, none⟩ (.int .i64 (max s.until_ lt))) b 74 (boxR ({ s with epoch := e1, until_ := max s.until_ lt } : WS) (⟨y1, n1, v.ha, v.hn, v.hc, v.da, v.dn, v.dc, v.ta, v.tn, v.tc⟩ : RV)) := by
      have h2 := (H5.out.x.set_ 3 (.int .i64 (max s.until_ lt)))
      simp only [List.setIfInBounds_toArray, List.set_cons_zero, List.set_cons_succ] at h2
      exact h2
     have hk : Kept (fun k => k = b) w5 (w5.setCell ⟨b, 3, none⟩ (.int .i64 (max s.until_ lt))) := (Kept.setCell (F := fun k => k = b) (Kept.refl _ w5) (p := ⟨b, 3, none⟩) (fun _ => rfl) (.int .i64 (max s.until_ lt)))
     have H6 := Lib.hid (H5.out.laid hx hk)
     have HQ6 := Lib.hid (HQ5.out.box HRR.out hk (by have := HS.out; omega) (by have := HS.out; omega))
     clear hx hk
     generalize (w5.setCell ⟨b, 3, none⟩ (.int .i64 (max s.until_ lt))) = w6 at H6 HQ6 ⊢
     have HQ7 : Hid (RQ w w1 w6 v (⟨y1, n1, v.ha, v.hn, v.hc, v.da, v.dn, v.dc, v.ta, v.tn, v.tc⟩ : RV) ({ s with epoch := e1, until_ := max s.until_ lt } : WS)) := Lib.hid ⟨⟨HQ6.out.rd.h, HQ6.out.rd.d, HQ6.out.rd.t, HQ6.out.rd.hc, HQ6.out.rd.dc, HQ6.out.rd.tc⟩, HQ6.out.rt, HQ6.out.sz⟩
     clear HQ6
     go_wp2_with (first | (refine loadR rfl (.tmp 3) rfl rfl (s := ({ s with epoch := e1, until_ := max s.until_ lt } : WS)) (v := (⟨y1, n1, v.ha, v.hn, v.hc, v.da, v.dn, v.dc, v.ta, v.tn, v.tc⟩ : RV)) H6.out.x ?_) | (refine storeR rfl rfl (.tmp 6) (.tmp 139) rfl rfl (s := ({ s with epoch := e1, until_ := max s.until_ lt } : WS)) (v := (⟨y1, n1, v.ha, v.hn, v.hc, v.da, v.dn, v.dc, v.ta, v.tn, v.tc⟩ : RV)) rfl H6.out.r rfl ?_; intro w9 hb9 hk9 hs9))
     have HE := Lib.hid (H6.out.done hk9)
     have HQ2 := Lib.hid (HQ7.out.box HRR.out hk9 (by have := HS.out; omega) HS.out.1)
     obtain ⟨x0, x1, x2, x3, x4, x5, x6, x7, x8, x9, x10, x11, x12, x13, x14⟩ := rCells hb9
     clear hk9 hs9 hb9
     refine bodyPost_ret (v := .tuple #[aggR ({ s with epoch := e1, until_ := max s.until_ lt } : WS) (⟨y1, n1, v.ha, v.hn, v.hc, v.da, v.dn, v.dc, v.ta, v.tn, v.tc⟩ : RV), .bool true]) (by simp [results, Tryd.results37, go_sem, x0, x1, x2, x3, x4, x5, x6, x7, x8, x9, x10, x11, x12, x13, x14]) rfl ?_
     rw [HH.out]
     exact ⟨_, rfl, HQ2.out.rd, HQ2.out.rt.mono HS.out.2.2 (Nat.le_refl _), HE.out⟩
  ·have ti : (m.inc != s.inc) = true := by simp [hi]
   have HH : Hid (s.hear now m = (({ s with epoch := e1 } : WS), false)) := Lib.hid (by rw [HHE.out, HPS.out.2, if_neg (fun h => hi h.2)])
   clear hi
   go_upto_region 6 with fail
   clear x2 m4 xl ml ti
   go_wp2_with (first | (refine loadR rfl (.tmp 3) rfl rfl (s := ({ s with epoch := e1 } : WS)) (v := (⟨y1, n1, v.ha, v.hn, v.hc, v.da, v.dn, v.dc, v.ta, v.tn, v.tc⟩ : RV)) H5.out.x ?_) | (refine storeR rfl rfl (.tmp 6) (.tmp 62) rfl rfl (s := ({ s with epoch := e1 } : WS)) (v := (⟨y1, n1, v.ha, v.hn, v.hc, v.da, v.dn, v.dc, v.ta, v.tn, v.tc⟩ : RV)) rfl H5.out.r rfl ?_; intro w9 hb9 hk9 hs9))
   have HE := Lib.hid (H5.out.done hk9)
   have HQ2 := Lib.hid (HQ5.out.box HRR.out hk9 (by have := HS.out; omega) HS.out.1)
   obtain ⟨x0, x1, x2, x3, x4, x5, x6, x7, x8, x9, x10, x11, x12, x13, x14⟩ := rCells hb9
   clear hk9 hs9 hb9
   refine bodyPost_ret (v := .tuple #[aggR ({ s with epoch := e1 } : WS) (⟨y1, n1, v.ha, v.hn, v.hc, v.da, v.dn, v.dc, v.ta, v.tn, v.tc⟩ : RV), .bool false]) (by simp [results, Tryd.results37, go_sem, x0, x1, x2, x3, x4, x5, x6, x7, x8, x9, x10, x11, x12, x13, x14]) rfl ?_
   rw [HH.out]
   exact ⟨_, rfl, HQ2.out.rd, HQ2.out.rt.mono HS.out.2.2 (Nat.le_refl _), HE.out⟩
set_option maxRecDepth 100000 in
set_option maxHeartbeats 12800000 in
theorem rHear_k3 (s : WS) (v : RV) (now : Int) (m : LMsg) (w : World) (hR : RdR w v s) (hnd : 0 ≤ s.node ∧ s.node ≤ 15) (hl : s.held.length ≤ 1000000 ∧ s.done.length ≤ 1000000 ∧ s.told.length ≤ 1000000) (hu : s.up = true) (hc : checkM m = 0) (ht : m.to_ = 100 + s.node) (hk : m.kind = 3) : Calls Tryd.prog 37 #[aggR s v, .int .i64 now, aggMsg m] w fun e w' => ∃ v', e = .returned (.tuple #[aggR (s.hear now m).1 v', .bool (s.hear now m).2]) ∧ RdR w' v' (s.hear now m).1 ∧ RT w w' v v' ∧ Below w.heap.size w w' := by
 have HRR := Lib.hid hR
 have HL := Lib.hid hl
 have HHE : Hid (s.hear now m = (if passB s.epoch m.epoch = true ∧ m.inc = (s.pass m.epoch).inc then (s.pass m.epoch).heed now m else (s.pass m.epoch, false))) := Lib.hid (by unfold WS.hear; rw [if_pos ⟨hu, hc, ht, by omega⟩])
 clear hR hl
 have HU := Lib.hid hu
 clear hu
 have HC0 := Lib.hid hc
 clear hc
 have tne : (m.to_ != 100 + s.node) = false := by simp [ht]
 have k2 : (m.kind != 2) = true := by simp [hk]
 have k3 : (m.kind != 3) = false := by simp [hk]
 have k4 : (m.kind != 4) = true := by simp [hk]
 have HKK := Lib.hid hk
 clear ht hk
 go_enter Tryd.func37, Tryd.ntmps37
 go_upto_region 1 with fail
 have HI := Lib.hid (RM.start s v m w)
 obtain ⟨b, hb0⟩ : ∃ b, w.heap.size = b := ⟨_, rfl⟩
 generalize (((w.alloc (.cells (boxR s v) 74)).alloc (.cells (boxMsg m) 38)).alloc (.cells zboxR 74)) = w1 at HI ⊢
 rw [hb0] at HI
 try rw [hb0]
 clear hb0
 have HS : Hid (b + 2 < w1.heap.size ∧ w.heap.size ≤ b ∧ w.heap.size ≤ w1.heap.size) := Lib.hid ⟨HI.out.r.lt, HI.out.ge, HI.out.bel.size⟩
 have hu := HU.out
 obtain ⟨m0, m1, m2, m3, m4, m5, m6, m7, m8, m9, m10, m11⟩ := msgCells HI.out.g
 have x8 : w1.cell? ⟨b, 8, none⟩ = some (.bool s.up) := (HI.out.x.cell 8).trans rfl
 rw [hu] at x8
 have xl := HI.out.x.lt
 have ml := HI.out.g.lt
 have hcx := refCheck_t m w1
 rw [HC0.out] at hcx
 go_wp2_with fail
 (with_reducible refine hcx.mono ?_)
 clear hcx xl ml x8 hu m0 m1 m2 m3 m4 m5 m6 m7 m8 m9 m10 m11
 rintro e w2 ⟨rfl, hb2⟩
 have H2 := Lib.hid (HI.out.below hb2)
 have HQ : Hid (RdR w2 v s ∧ RT w1 w2 v v) := Lib.hid ⟨HRR.out.below H2.out.bel, .refl _ _ _⟩
 have HSZ : Hid (w1.heap.size ≤ w2.heap.size) := Lib.hid hb2.size; clear hb2 HI
 have m2 : w2.cell? ⟨b + 1, 2, none⟩ = some (.int .i64 m.to_) := (H2.out.g.cell 2).trans rfl
 have m0 : w2.cell? ⟨b + 1, 0, none⟩ = some (.int .i64 m.kind) := (H2.out.g.cell 0).trans rfl
 have x0 : w2.cell? ⟨b, 0, none⟩ = some (.int .i64 s.node) := (H2.out.x.cell 0).trans rfl
 have xl := H2.out.x.lt
 have ml := H2.out.g.lt
 have twr : IntKind.i64.wrap (100 + s.node) = 100 + s.node := IntWalk.i64_in _ (by omega)
 have HQS : Hid (w1.heap.size ≤ w2.heap.size) := Lib.hid HSZ.out
 go_upto_region 3 with fail
 clear m2 m0 x0 twr tne k2 k3 k4
 have x9 : w2.cell? ⟨b, 9, none⟩ = some (.int .i64 s.epoch) := (H2.out.x.cell 9).trans rfl
 have x10 : w2.cell? ⟨b, 10, none⟩ = some (.int .i64 v.y) := (H2.out.x.cell 10).trans rfl
 have x11 : w2.cell? ⟨b, 11, none⟩ = some (.int .i64 v.n) := (H2.out.x.cell 11).trans rfl
 have m3 : w2.cell? ⟨b + 1, 3, none⟩ = some (.int .i64 m.epoch) := (H2.out.g.cell 3).trans rfl
 obtain ⟨pb, hpb⟩ : ∃ pb, passB s.epoch m.epoch = pb := ⟨_, rfl⟩
 obtain ⟨e1, he1⟩ : ∃ e1, (if pb then m.epoch else s.epoch) = e1 := ⟨_, rfl⟩
 have hcx := rPass_t s.epoch v.y v.n m.epoch w2 pb e1 hpb he1
 have HPS : Hid (passB s.epoch m.epoch = pb ∧ s.pass m.epoch = ({ s with epoch := e1 } : WS)) := Lib.hid ⟨hpb, by unfold WS.pass; rw [hpb, ← he1]; cases pb <;> rfl⟩
 clear hpb he1
 go_wp2_with fail
 (with_reducible refine hcx.mono ?_)
 clear hcx x9 x10 x11 m3 xl ml
 rintro e w3 ⟨y1, n1, rfl, hb3⟩
 have H3 := Lib.hid (H2.out.below hb3)
 have HQ3 : Hid (RQ w w1 w3 v (⟨y1, n1, v.ha, v.hn, v.hc, v.da, v.dn, v.dc, v.ta, v.tn, v.tc⟩ : RV) ({ s with epoch := e1 } : WS)) := Lib.hid ⟨⟨(HQ.out.1.below hb3).h, (HQ.out.1.below hb3).d, (HQ.out.1.below hb3).t, HRR.out.hc, HRR.out.dc, HRR.out.tc⟩, ⟨.refl _ _ _ _, .refl _ _ _ _, .refl _ _ _ _⟩, Nat.le_trans HQS.out hb3.size⟩
 clear hb3 H2 HQ
 have x9 : w3.cell? ⟨b, 9, none⟩ = some (.int .i64 s.epoch) := (H3.out.x.cell 9).trans rfl
 have x10 : w3.cell? ⟨b, 10, none⟩ = some (.int .i64 v.y) := (H3.out.x.cell 10).trans rfl
 have x11 : w3.cell? ⟨b, 11, none⟩ = some (.int .i64 v.n) := (H3.out.x.cell 11).trans rfl
 have xl := H3.out.x.lt
 have xf := H3.out.x.frozen
 go_upto_region 5 with fail
 clear x9 x10 x11 xl xf
 have hx : Blk ((((w3.setCell ⟨b, 9, none⟩ (.int .i64 e1)).setCell ⟨b, 10, none⟩ (.int .i64 y1)).setCell ⟨b, 11, none⟩ (.int .i64 n1)).alloc (.cells #[.int .i64 e1, .int .i64 y1, .int .i64 n1] 72)) b 74 (boxR ({ s with epoch := e1 } : WS) (⟨y1, n1, v.ha, v.hn, v.hc, v.da, v.dn, v.dc, v.ta, v.tn, v.tc⟩ : RV)) := by
  have h2 := (((H3.out.x.set_ 9 (.int .i64 e1)).set_ 10 (.int .i64 y1)).set_ 11 (.int .i64 n1)).alloc (.cells #[.int .i64 e1, .int .i64 y1, .int .i64 n1] 72)
  simp only [List.setIfInBounds_toArray, List.set_cons_zero, List.set_cons_succ] at h2
  exact h2
 have hk : Kept (fun k => k = b) w3 ((((w3.setCell ⟨b, 9, none⟩ (.int .i64 e1)).setCell ⟨b, 10, none⟩ (.int .i64 y1)).setCell ⟨b, 11, none⟩ (.int .i64 n1)).alloc (.cells #[.int .i64 e1, .int .i64 y1, .int .i64 n1] 72)) := Kept.alloc (Kept.setCell (F := fun k => k = b) (Kept.setCell (F := fun k => k = b) (Kept.setCell (F := fun k => k = b) (Kept.refl _ w3) (p := ⟨b, 9, none⟩) (fun _ => rfl) (.int .i64 e1)) (p := ⟨b, 10, none⟩) (fun _ => rfl) (.int .i64 y1)) (p := ⟨b, 11, none⟩) (fun _ => rfl) (.int .i64 n1)) _
 have H5 := Lib.hid (H3.out.laid hx hk)
 have HQ5 := Lib.hid (HQ3.out.box HRR.out hk (by have := HS.out; omega) (by have := HS.out; omega))
 clear hx hk H3 HQ3
 generalize ((((w3.setCell ⟨b, 9, none⟩ (.int .i64 e1)).setCell ⟨b, 10, none⟩ (.int .i64 y1)).setCell ⟨b, 11, none⟩ (.int .i64 n1)).alloc (.cells #[.int .i64 e1, .int .i64 y1, .int .i64 n1] 72)) = w5 at H5 HQ5 ⊢
 cases pb
 ·have HH : Hid (s.hear now m = (({ s with epoch := e1 } : WS), false)) := Lib.hid (by rw [HHE.out, HPS.out.2, HPS.out.1, if_neg (by simp)])
  go_upto_region 6 with fail
  go_wp2_with (first | (refine loadR rfl (.tmp 3) rfl rfl (s := ({ s with epoch := e1 } : WS)) (v := (⟨y1, n1, v.ha, v.hn, v.hc, v.da, v.dn, v.dc, v.ta, v.tn, v.tc⟩ : RV)) H5.out.x ?_) | (refine storeR rfl rfl (.tmp 6) (.tmp 62) rfl rfl (s := ({ s with epoch := e1 } : WS)) (v := (⟨y1, n1, v.ha, v.hn, v.hc, v.da, v.dn, v.dc, v.ta, v.tn, v.tc⟩ : RV)) rfl H5.out.r rfl ?_; intro w9 hb9 hk9 hs9))
  have HE := Lib.hid (H5.out.done hk9)
  have HQ2 := Lib.hid (HQ5.out.box HRR.out hk9 (by have := HS.out; omega) HS.out.1)
  obtain ⟨x0, x1, x2, x3, x4, x5, x6, x7, x8, x9, x10, x11, x12, x13, x14⟩ := rCells hb9
  clear hk9 hs9 hb9
  refine bodyPost_ret (v := .tuple #[aggR ({ s with epoch := e1 } : WS) (⟨y1, n1, v.ha, v.hn, v.hc, v.da, v.dn, v.dc, v.ta, v.tn, v.tc⟩ : RV), .bool false]) (by simp [results, Tryd.results37, go_sem, x0, x1, x2, x3, x4, x5, x6, x7, x8, x9, x10, x11, x12, x13, x14]) rfl ?_
  rw [HH.out]
  exact ⟨_, rfl, HQ2.out.rd, HQ2.out.rt.mono HS.out.2.2 (Nat.le_refl _), HE.out⟩
 ·have x2 : w5.cell? ⟨b, 2, none⟩ = some (.int .i64 s.inc) := (H5.out.x.cell 2).trans rfl
  have m4 : w5.cell? ⟨b + 1, 4, none⟩ = some (.int .i64 m.inc) := (H5.out.g.cell 4).trans rfl
  have xl := H5.out.x.lt
  have ml := H5.out.g.lt
  by_cases hi : m.inc = s.inc
  ·have ti : (m.inc != s.inc) = false := by simp [hi]
   have HH0 : Hid (s.hear now m = ({ s with epoch := e1 } : WS).heed now m) := Lib.hid (by rw [HHE.out, HPS.out.2, HPS.out.1, if_pos ⟨rfl, hi⟩])
   clear hi
   have m0 : w5.cell? ⟨b + 1, 0, none⟩ = some (.int .i64 m.kind) := (H5.out.g.cell 0).trans rfl
   have q2 : (m.kind == 2) = false := by simp [HKK.out]
   have q3 : (m.kind == 3) = true := by simp [HKK.out]
   go_upto_region 19 with fail
   clear x2 m4 m0 ti xl ml
   have hcx := rLive_t ({ s with epoch := e1 } : WS) (⟨y1, n1, v.ha, v.hn, v.hc, v.da, v.dn, v.dc, v.ta, v.tn, v.tc⟩ : RV) now w5
   obtain ⟨lv, hlv⟩ : ∃ lv, ({ s with epoch := e1 } : WS).live now = lv := ⟨_, rfl⟩
   rw [hlv] at hcx
   have HLV := Lib.hid hlv
   clear hlv
   go_wp2_with (first | (refine loadR rfl (.tmp 3) rfl rfl (s := ({ s with epoch := e1 } : WS)) (v := (⟨y1, n1, v.ha, v.hn, v.hc, v.da, v.dn, v.dc, v.ta, v.tn, v.tc⟩ : RV)) H5.out.x ?_))
   (with_reducible refine hcx.mono ?_)
   clear hcx
   rintro e w6 ⟨rfl, hb6⟩
   have H6 := Lib.hid (H5.out.below hb6)
   have HQ6 := Lib.hid (HQ5.out.below hb6)
   clear hb6 H5 HQ5
   cases lv
   ·have HH : Hid (s.hear now m = (({ s with epoch := e1 } : WS), false)) := Lib.hid (by rw [HH0.out]; unfold WS.heed; rw [if_neg (by rw [HKK.out]; decide), if_pos HKK.out]; have hb : ({ s with epoch := e1 } : WS).doB now m = false := (by unfold WS.doB; rw [HLV.out]; simp); rw [hb]; rfl)
    go_upto_region 20 with fail
    go_wp2_with (first | (refine loadR rfl (.tmp 3) rfl rfl (s := ({ s with epoch := e1 } : WS)) (v := (⟨y1, n1, v.ha, v.hn, v.hc, v.da, v.dn, v.dc, v.ta, v.tn, v.tc⟩ : RV)) H6.out.x ?_) | (refine storeR rfl rfl (.tmp 6) (.tmp 132) rfl rfl (s := ({ s with epoch := e1 } : WS)) (v := (⟨y1, n1, v.ha, v.hn, v.hc, v.da, v.dn, v.dc, v.ta, v.tn, v.tc⟩ : RV)) rfl H6.out.r rfl ?_; intro w9 hb9 hk9 hs9))
    have HE := Lib.hid (H6.out.done hk9)
    have HQ2 := Lib.hid (HQ6.out.box HRR.out hk9 (by have := HS.out; omega) HS.out.1)
    obtain ⟨x0, x1, x2, x3, x4, x5, x6, x7, x8, x9, x10, x11, x12, x13, x14⟩ := rCells hb9
    clear hk9 hs9 hb9
    refine bodyPost_ret (v := .tuple #[aggR ({ s with epoch := e1 } : WS) (⟨y1, n1, v.ha, v.hn, v.hc, v.da, v.dn, v.dc, v.ta, v.tn, v.tc⟩ : RV), .bool false]) (by simp [results, Tryd.results37, go_sem, x0, x1, x2, x3, x4, x5, x6, x7, x8, x9, x10, x11, x12, x13, x14]) rfl ?_
    rw [HH.out]
    exact ⟨_, rfl, HQ2.out.rd, HQ2.out.rt.mono HS.out.2.2 (Nat.le_refl _), HE.out⟩
   ·have x13 : w6.cell? ⟨b, 13, none⟩ = some (.slice v.da v.dn v.dc) := (H6.out.x.cell 13).trans rfl
    have m5 : w6.cell? ⟨b + 1, 5, none⟩ = some (.int .i64 m.job) := (H6.out.g.cell 5).trans rfl
    have xl := H6.out.x.lt
    have ml := H6.out.g.lt
    have hcx := has12 v.da v.dn v.dc s.done m.job w6 HQ6.out.rd.d (by have := HL.out; have := HRR.out.d.len; omega)
    by_cases hd : m.job ∈ s.done
    ·rw [decide_eq_true hd] at hcx
     have HH : Hid (s.hear now m = (({ s with epoch := e1 } : WS), false)) := Lib.hid (by rw [HH0.out]; unfold WS.heed; rw [if_neg (by rw [HKK.out]; decide), if_pos HKK.out]; have hb : ({ s with epoch := e1 } : WS).doB now m = false := (by unfold WS.doB; rw [HLV.out]; simp [hd]); rw [hb]; rfl)
     clear hd
     go_wp2_with fail
     (with_reducible refine hcx.mono ?_)
     clear hcx
     rintro e w9 ⟨rfl, hw9⟩
     subst hw9
     go_upto_region 20 with fail
     clear x13 m5 xl ml
     go_wp2_with (first | (refine loadR rfl (.tmp 3) rfl rfl (s := ({ s with epoch := e1 } : WS)) (v := (⟨y1, n1, v.ha, v.hn, v.hc, v.da, v.dn, v.dc, v.ta, v.tn, v.tc⟩ : RV)) H6.out.x ?_) | (refine storeR rfl rfl (.tmp 6) (.tmp 132) rfl rfl (s := ({ s with epoch := e1 } : WS)) (v := (⟨y1, n1, v.ha, v.hn, v.hc, v.da, v.dn, v.dc, v.ta, v.tn, v.tc⟩ : RV)) rfl H6.out.r rfl ?_; intro w9 hb9 hk9 hs9))
     have HE := Lib.hid (H6.out.done hk9)
     have HQ2 := Lib.hid (HQ6.out.box HRR.out hk9 (by have := HS.out; omega) HS.out.1)
     obtain ⟨x0, x1, x2, x3, x4, x5, x6, x7, x8, x9, x10, x11, x12, x13, x14⟩ := rCells hb9
     clear hk9 hs9 hb9
     refine bodyPost_ret (v := .tuple #[aggR ({ s with epoch := e1 } : WS) (⟨y1, n1, v.ha, v.hn, v.hc, v.da, v.dn, v.dc, v.ta, v.tn, v.tc⟩ : RV), .bool false]) (by simp [results, Tryd.results37, go_sem, x0, x1, x2, x3, x4, x5, x6, x7, x8, x9, x10, x11, x12, x13, x14]) rfl ?_
     rw [HH.out]
     exact ⟨_, rfl, HQ2.out.rd, HQ2.out.rt.mono HS.out.2.2 (Nat.le_refl _), HE.out⟩
    ·rw [decide_eq_false hd] at hcx
     have HH : Hid (s.hear now m = (({ s with epoch := e1 } : WS).do_ m, true)) := Lib.hid (by rw [HH0.out]; unfold WS.heed; rw [if_neg (by rw [HKK.out]; decide), if_pos HKK.out]; have hb : ({ s with epoch := e1 } : WS).doB now m = true := (by unfold WS.doB; rw [HLV.out]; simp [hd]); rw [hb]; rfl)
     clear hd
     go_wp2_with fail
     (with_reducible refine hcx.mono ?_)
     clear hcx
     rintro e w9 ⟨rfl, hw9⟩
     subst hw9
     go_upto_region 21 with fail
     clear x13
     have x12 : w6.cell? ⟨b, 12, none⟩ = some (.slice v.ha v.hn v.hc) := (H6.out.x.cell 12).trans rfl
     have hcx := put12s v.ha v.hn v.hc s.held m.job w6 HQ6.out.rd.h (by have := HL.out; have := HRR.out.h.len; omega) HQ6.out.rd.hc
     go_wp2_with fail
     (with_reducible refine hcx.mono ?_)
     clear hcx x12 m5 xl ml
     rintro e w7 ⟨A7, n7, c7, rfl, hr7, hc7, hb7, hp7⟩
     have H7 := Lib.hid (H6.out.below hb7)
     have HQ7 : Hid (RQ w w1 w7 v (⟨y1, n1, A7, n7, c7, v.da, v.dn, v.dc, v.ta, v.tn, v.tc⟩ : RV) (({ s with epoch := e1 } : WS).do_ m)) := Lib.hid (HQ6.out.held hb7 hr7 hc7 hp7)
     clear hr7 hc7 hb7 hp7 H6 HQ6
     have x12 : w7.cell? ⟨b, 12, none⟩ = some (.slice v.ha v.hn v.hc) := (H7.out.x.cell 12).trans rfl
     have xl := H7.out.x.lt
     have xf := H7.out.x.frozen
     go_upto_region 22 with fail
     clear x12 xl xf
     have hx : Blk (w7.setCell ⟨b, 12, none⟩ (.slice A7 n7 c7)) b 74 (boxR (({ s with epoch := e1 } : WS).do_ m) (⟨y1, n1, A7, n7, c7, v.da, v.dn, v.dc, v.ta, v.tn, v.tc⟩ : RV)) := by
      have h2 := (H7.out.x.set_ 12 (.slice A7 n7 c7))
      simp only [List.setIfInBounds_toArray, List.set_cons_zero, List.set_cons_succ] at h2
      exact h2
     have hk : Kept (fun k => k = b) w7 (w7.setCell ⟨b, 12, none⟩ (.slice A7 n7 c7)) := (Kept.setCell (F := fun k => k = b) (Kept.refl _ w7) (p := ⟨b, 12, none⟩) (fun _ => rfl) (.slice A7 n7 c7))
     have H8 := Lib.hid (H7.out.laid hx hk)
     have HQ8 := Lib.hid (HQ7.out.box HRR.out hk (by have := HS.out; omega) (by have := HS.out; omega))
     clear hx hk
     generalize (w7.setCell ⟨b, 12, none⟩ (.slice A7 n7 c7)) = w8 at H8 HQ8 ⊢
     go_wp2_with (first | (refine loadR rfl (.tmp 3) rfl rfl (s := (({ s with epoch := e1 } : WS).do_ m)) (v := (⟨y1, n1, A7, n7, c7, v.da, v.dn, v.dc, v.ta, v.tn, v.tc⟩ : RV)) H8.out.x ?_) | (refine storeR rfl rfl (.tmp 6) (.tmp 139) rfl rfl (s := (({ s with epoch := e1 } : WS).do_ m)) (v := (⟨y1, n1, A7, n7, c7, v.da, v.dn, v.dc, v.ta, v.tn, v.tc⟩ : RV)) rfl H8.out.r rfl ?_; intro w9 hb9 hk9 hs9))
     have HE := Lib.hid (H8.out.done hk9)
     have HQ2 := Lib.hid (HQ8.out.box HRR.out hk9 (by have := HS.out; omega) HS.out.1)
     obtain ⟨x0, x1, x2, x3, x4, x5, x6, x7, x8, x9, x10, x11, x12, x13, x14⟩ := rCells hb9
     clear hk9 hs9 hb9
     refine bodyPost_ret (v := .tuple #[aggR (({ s with epoch := e1 } : WS).do_ m) (⟨y1, n1, A7, n7, c7, v.da, v.dn, v.dc, v.ta, v.tn, v.tc⟩ : RV), .bool true]) (by simp [results, Tryd.results37, go_sem, x0, x1, x2, x3, x4, x5, x6, x7, x8, x9, x10, x11, x12, x13, x14]) rfl ?_
     rw [HH.out]
     exact ⟨_, rfl, HQ2.out.rd, HQ2.out.rt.mono HS.out.2.2 (Nat.le_refl _), HE.out⟩
  ·have ti : (m.inc != s.inc) = true := by simp [hi]
   have HH : Hid (s.hear now m = (({ s with epoch := e1 } : WS), false)) := Lib.hid (by rw [HHE.out, HPS.out.2, if_neg (fun h => hi h.2)])
   clear hi
   go_upto_region 6 with fail
   clear x2 m4 xl ml ti
   go_wp2_with (first | (refine loadR rfl (.tmp 3) rfl rfl (s := ({ s with epoch := e1 } : WS)) (v := (⟨y1, n1, v.ha, v.hn, v.hc, v.da, v.dn, v.dc, v.ta, v.tn, v.tc⟩ : RV)) H5.out.x ?_) | (refine storeR rfl rfl (.tmp 6) (.tmp 62) rfl rfl (s := ({ s with epoch := e1 } : WS)) (v := (⟨y1, n1, v.ha, v.hn, v.hc, v.da, v.dn, v.dc, v.ta, v.tn, v.tc⟩ : RV)) rfl H5.out.r rfl ?_; intro w9 hb9 hk9 hs9))
   have HE := Lib.hid (H5.out.done hk9)
   have HQ2 := Lib.hid (HQ5.out.box HRR.out hk9 (by have := HS.out; omega) HS.out.1)
   obtain ⟨x0, x1, x2, x3, x4, x5, x6, x7, x8, x9, x10, x11, x12, x13, x14⟩ := rCells hb9
   clear hk9 hs9 hb9
   refine bodyPost_ret (v := .tuple #[aggR ({ s with epoch := e1 } : WS) (⟨y1, n1, v.ha, v.hn, v.hc, v.da, v.dn, v.dc, v.ta, v.tn, v.tc⟩ : RV), .bool false]) (by simp [results, Tryd.results37, go_sem, x0, x1, x2, x3, x4, x5, x6, x7, x8, x9, x10, x11, x12, x13, x14]) rfl ?_
   rw [HH.out]
   exact ⟨_, rfl, HQ2.out.rd, HQ2.out.rt.mono HS.out.2.2 (Nat.le_refl _), HE.out⟩
set_option maxRecDepth 100000 in
set_option maxHeartbeats 12800000 in
theorem rHear_k4 (s : WS) (v : RV) (now : Int) (m : LMsg) (w : World) (hR : RdR w v s) (hnd : 0 ≤ s.node ∧ s.node ≤ 15) (hl : s.held.length ≤ 1000000 ∧ s.done.length ≤ 1000000 ∧ s.told.length ≤ 1000000) (hu : s.up = true) (hc : checkM m = 0) (ht : m.to_ = 100 + s.node) (hk : m.kind = 4) : Calls Tryd.prog 37 #[aggR s v, .int .i64 now, aggMsg m] w fun e w' => ∃ v', e = .returned (.tuple #[aggR (s.hear now m).1 v', .bool (s.hear now m).2]) ∧ RdR w' v' (s.hear now m).1 ∧ RT w w' v v' ∧ Below w.heap.size w w' := by
 have HRR := Lib.hid hR
 have HL := Lib.hid hl
 have HHE : Hid (s.hear now m = (if passB s.epoch m.epoch = true ∧ m.inc = (s.pass m.epoch).inc then (s.pass m.epoch).heed now m else (s.pass m.epoch, false))) := Lib.hid (by unfold WS.hear; rw [if_pos ⟨hu, hc, ht, by omega⟩])
 clear hR hl
 have HU := Lib.hid hu
 clear hu
 have HC0 := Lib.hid hc
 clear hc
 have tne : (m.to_ != 100 + s.node) = false := by simp [ht]
 have k2 : (m.kind != 2) = true := by simp [hk]
 have k3 : (m.kind != 3) = true := by simp [hk]
 have k4 : (m.kind != 4) = false := by simp [hk]
 have HKK := Lib.hid hk
 clear ht hk
 go_enter Tryd.func37, Tryd.ntmps37
 go_upto_region 1 with fail
 have HI := Lib.hid (RM.start s v m w)
 obtain ⟨b, hb0⟩ : ∃ b, w.heap.size = b := ⟨_, rfl⟩
 generalize (((w.alloc (.cells (boxR s v) 74)).alloc (.cells (boxMsg m) 38)).alloc (.cells zboxR 74)) = w1 at HI ⊢
 rw [hb0] at HI
 try rw [hb0]
 clear hb0
 have HS : Hid (b + 2 < w1.heap.size ∧ w.heap.size ≤ b ∧ w.heap.size ≤ w1.heap.size) := Lib.hid ⟨HI.out.r.lt, HI.out.ge, HI.out.bel.size⟩
 have hu := HU.out
 obtain ⟨m0, m1, m2, m3, m4, m5, m6, m7, m8, m9, m10, m11⟩ := msgCells HI.out.g
 have x8 : w1.cell? ⟨b, 8, none⟩ = some (.bool s.up) := (HI.out.x.cell 8).trans rfl
 rw [hu] at x8
 have xl := HI.out.x.lt
 have ml := HI.out.g.lt
 have hcx := refCheck_t m w1
 rw [HC0.out] at hcx
 go_wp2_with fail
 (with_reducible refine hcx.mono ?_)
 clear hcx xl ml x8 hu m0 m1 m2 m3 m4 m5 m6 m7 m8 m9 m10 m11
 rintro e w2 ⟨rfl, hb2⟩
 have H2 := Lib.hid (HI.out.below hb2)
 have HQ : Hid (RdR w2 v s ∧ RT w1 w2 v v) := Lib.hid ⟨HRR.out.below H2.out.bel, .refl _ _ _⟩
 have HSZ : Hid (w1.heap.size ≤ w2.heap.size) := Lib.hid hb2.size; clear hb2 HI
 have m2 : w2.cell? ⟨b + 1, 2, none⟩ = some (.int .i64 m.to_) := (H2.out.g.cell 2).trans rfl
 have m0 : w2.cell? ⟨b + 1, 0, none⟩ = some (.int .i64 m.kind) := (H2.out.g.cell 0).trans rfl
 have x0 : w2.cell? ⟨b, 0, none⟩ = some (.int .i64 s.node) := (H2.out.x.cell 0).trans rfl
 have xl := H2.out.x.lt
 have ml := H2.out.g.lt
 have twr : IntKind.i64.wrap (100 + s.node) = 100 + s.node := IntWalk.i64_in _ (by omega)
 have HQS : Hid (w1.heap.size ≤ w2.heap.size) := Lib.hid HSZ.out
 go_upto_region 3 with fail
 clear m2 m0 x0 twr tne k2 k3 k4
 have x9 : w2.cell? ⟨b, 9, none⟩ = some (.int .i64 s.epoch) := (H2.out.x.cell 9).trans rfl
 have x10 : w2.cell? ⟨b, 10, none⟩ = some (.int .i64 v.y) := (H2.out.x.cell 10).trans rfl
 have x11 : w2.cell? ⟨b, 11, none⟩ = some (.int .i64 v.n) := (H2.out.x.cell 11).trans rfl
 have m3 : w2.cell? ⟨b + 1, 3, none⟩ = some (.int .i64 m.epoch) := (H2.out.g.cell 3).trans rfl
 obtain ⟨pb, hpb⟩ : ∃ pb, passB s.epoch m.epoch = pb := ⟨_, rfl⟩
 obtain ⟨e1, he1⟩ : ∃ e1, (if pb then m.epoch else s.epoch) = e1 := ⟨_, rfl⟩
 have hcx := rPass_t s.epoch v.y v.n m.epoch w2 pb e1 hpb he1
 have HPS : Hid (passB s.epoch m.epoch = pb ∧ s.pass m.epoch = ({ s with epoch := e1 } : WS)) := Lib.hid ⟨hpb, by unfold WS.pass; rw [hpb, ← he1]; cases pb <;> rfl⟩
 clear hpb he1
 go_wp2_with fail
 (with_reducible refine hcx.mono ?_)
 clear hcx x9 x10 x11 m3 xl ml
 rintro e w3 ⟨y1, n1, rfl, hb3⟩
 have H3 := Lib.hid (H2.out.below hb3)
 have HQ3 : Hid (RQ w w1 w3 v (⟨y1, n1, v.ha, v.hn, v.hc, v.da, v.dn, v.dc, v.ta, v.tn, v.tc⟩ : RV) ({ s with epoch := e1 } : WS)) := Lib.hid ⟨⟨(HQ.out.1.below hb3).h, (HQ.out.1.below hb3).d, (HQ.out.1.below hb3).t, HRR.out.hc, HRR.out.dc, HRR.out.tc⟩, ⟨.refl _ _ _ _, .refl _ _ _ _, .refl _ _ _ _⟩, Nat.le_trans HQS.out hb3.size⟩
 clear hb3 H2 HQ
 have x9 : w3.cell? ⟨b, 9, none⟩ = some (.int .i64 s.epoch) := (H3.out.x.cell 9).trans rfl
 have x10 : w3.cell? ⟨b, 10, none⟩ = some (.int .i64 v.y) := (H3.out.x.cell 10).trans rfl
 have x11 : w3.cell? ⟨b, 11, none⟩ = some (.int .i64 v.n) := (H3.out.x.cell 11).trans rfl
 have xl := H3.out.x.lt
 have xf := H3.out.x.frozen
 go_upto_region 5 with fail
 clear x9 x10 x11 xl xf
 have hx : Blk ((((w3.setCell ⟨b, 9, none⟩ (.int .i64 e1)).setCell ⟨b, 10, none⟩ (.int .i64 y1)).setCell ⟨b, 11, none⟩ (.int .i64 n1)).alloc (.cells #[.int .i64 e1, .int .i64 y1, .int .i64 n1] 72)) b 74 (boxR ({ s with epoch := e1 } : WS) (⟨y1, n1, v.ha, v.hn, v.hc, v.da, v.dn, v.dc, v.ta, v.tn, v.tc⟩ : RV)) := by
  have h2 := (((H3.out.x.set_ 9 (.int .i64 e1)).set_ 10 (.int .i64 y1)).set_ 11 (.int .i64 n1)).alloc (.cells #[.int .i64 e1, .int .i64 y1, .int .i64 n1] 72)
  simp only [List.setIfInBounds_toArray, List.set_cons_zero, List.set_cons_succ] at h2
  exact h2
 have hk : Kept (fun k => k = b) w3 ((((w3.setCell ⟨b, 9, none⟩ (.int .i64 e1)).setCell ⟨b, 10, none⟩ (.int .i64 y1)).setCell ⟨b, 11, none⟩ (.int .i64 n1)).alloc (.cells #[.int .i64 e1, .int .i64 y1, .int .i64 n1] 72)) := Kept.alloc (Kept.setCell (F := fun k => k = b) (Kept.setCell (F := fun k => k = b) (Kept.setCell (F := fun k => k = b) (Kept.refl _ w3) (p := ⟨b, 9, none⟩) (fun _ => rfl) (.int .i64 e1)) (p := ⟨b, 10, none⟩) (fun _ => rfl) (.int .i64 y1)) (p := ⟨b, 11, none⟩) (fun _ => rfl) (.int .i64 n1)) _
 have H5 := Lib.hid (H3.out.laid hx hk)
 have HQ5 := Lib.hid (HQ3.out.box HRR.out hk (by have := HS.out; omega) (by have := HS.out; omega))
 clear hx hk H3 HQ3
 generalize ((((w3.setCell ⟨b, 9, none⟩ (.int .i64 e1)).setCell ⟨b, 10, none⟩ (.int .i64 y1)).setCell ⟨b, 11, none⟩ (.int .i64 n1)).alloc (.cells #[.int .i64 e1, .int .i64 y1, .int .i64 n1] 72)) = w5 at H5 HQ5 ⊢
 cases pb
 ·have HH : Hid (s.hear now m = (({ s with epoch := e1 } : WS), false)) := Lib.hid (by rw [HHE.out, HPS.out.2, HPS.out.1, if_neg (by simp)])
  go_upto_region 6 with fail
  go_wp2_with (first | (refine loadR rfl (.tmp 3) rfl rfl (s := ({ s with epoch := e1 } : WS)) (v := (⟨y1, n1, v.ha, v.hn, v.hc, v.da, v.dn, v.dc, v.ta, v.tn, v.tc⟩ : RV)) H5.out.x ?_) | (refine storeR rfl rfl (.tmp 6) (.tmp 62) rfl rfl (s := ({ s with epoch := e1 } : WS)) (v := (⟨y1, n1, v.ha, v.hn, v.hc, v.da, v.dn, v.dc, v.ta, v.tn, v.tc⟩ : RV)) rfl H5.out.r rfl ?_; intro w9 hb9 hk9 hs9))
  have HE := Lib.hid (H5.out.done hk9)
  have HQ2 := Lib.hid (HQ5.out.box HRR.out hk9 (by have := HS.out; omega) HS.out.1)
  obtain ⟨x0, x1, x2, x3, x4, x5, x6, x7, x8, x9, x10, x11, x12, x13, x14⟩ := rCells hb9
  clear hk9 hs9 hb9
  refine bodyPost_ret (v := .tuple #[aggR ({ s with epoch := e1 } : WS) (⟨y1, n1, v.ha, v.hn, v.hc, v.da, v.dn, v.dc, v.ta, v.tn, v.tc⟩ : RV), .bool false]) (by simp [results, Tryd.results37, go_sem, x0, x1, x2, x3, x4, x5, x6, x7, x8, x9, x10, x11, x12, x13, x14]) rfl ?_
  rw [HH.out]
  exact ⟨_, rfl, HQ2.out.rd, HQ2.out.rt.mono HS.out.2.2 (Nat.le_refl _), HE.out⟩
 ·have x2 : w5.cell? ⟨b, 2, none⟩ = some (.int .i64 s.inc) := (H5.out.x.cell 2).trans rfl
  have m4 : w5.cell? ⟨b + 1, 4, none⟩ = some (.int .i64 m.inc) := (H5.out.g.cell 4).trans rfl
  have xl := H5.out.x.lt
  have ml := H5.out.g.lt
  by_cases hi : m.inc = s.inc
  ·have ti : (m.inc != s.inc) = false := by simp [hi]
   have HH0 : Hid (s.hear now m = ({ s with epoch := e1 } : WS).heed now m) := Lib.hid (by rw [HHE.out, HPS.out.2, HPS.out.1, if_pos ⟨rfl, hi⟩])
   clear hi
   have m0 : w5.cell? ⟨b + 1, 0, none⟩ = some (.int .i64 m.kind) := (H5.out.g.cell 0).trans rfl
   have q2 : (m.kind == 2) = false := by simp [HKK.out]
   have q3 : (m.kind == 3) = false := by simp [HKK.out]
   go_upto_region 8 with fail
   clear x2 m4 m0 ti xl ml
   have x12 : w5.cell? ⟨b, 12, none⟩ = some (.slice v.ha v.hn v.hc) := (H5.out.x.cell 12).trans rfl
   have m5 : w5.cell? ⟨b + 1, 5, none⟩ = some (.int .i64 m.job) := (H5.out.g.cell 5).trans rfl
   have xl := H5.out.x.lt
   have ml := H5.out.g.lt
   have hcx := has12 v.ha v.hn v.hc s.held m.job w5 HQ5.out.rd.h (by have := HL.out; have := HRR.out.h.len; omega)
   by_cases hh1 : m.job ∈ s.held
   ·rw [decide_eq_true hh1] at hcx
    go_wp2_with fail
    (with_reducible refine hcx.mono ?_)
    clear hcx
    rintro e w9 ⟨rfl, hw9⟩
    subst hw9
    go_upto_region 10 with fail
    clear x12
    by_cases hd : m.job ∈ s.done
    ·have HH : Hid (s.hear now m = (({ s with epoch := e1, held := s.held.filter (· != m.job), told := putR s.told m.job } : WS), true)) := Lib.hid (by rw [HH0.out]; unfold WS.heed; rw [if_neg (by rw [HKK.out]; decide), if_neg (by rw [HKK.out]; decide)]; show (({ s with epoch := e1 } : WS).stop m, ({ s with epoch := e1 } : WS).stopB m) = _; have h1 : ({ s with epoch := e1 } : WS).stopB m = true := (by unfold WS.stopB; simp [hd]); rw [h1]; unfold WS.stop; rw [if_pos hd])
     have HD : Hid (decide (m.job ∈ s.done) = true) := Lib.hid (decide_eq_true hd)
     clear hh1 hd
     skip
     have x12 : w5.cell? ⟨b, 12, none⟩ = some (.slice v.ha v.hn v.hc) := (H5.out.x.cell 12).trans rfl
     have hcx := drop12s v.ha v.hn v.hc s.held m.job w5 HQ5.out.rd.h (by have := HL.out; have := HRR.out.h.len; omega)
     go_wp2_with fail
     (with_reducible refine hcx.mono ?_)
     clear hcx x12 m5 xl ml
     rintro e w7 ⟨A7, n7, c7, rfl, hr7, hc7, hb7, hp7⟩
     have H7 := Lib.hid (H5.out.below hb7)
     have HQ7 : Hid (RQ w w1 w7 v (⟨y1, n1, A7, n7, c7, v.da, v.dn, v.dc, v.ta, v.tn, v.tc⟩ : RV) ({ s with epoch := e1, held := s.held.filter (· != m.job) } : WS)) := Lib.hid (HQ5.out.held hb7 hr7 hc7 (.inr hp7))
     clear hr7 hc7 hb7 hp7 H5 HQ5
     have x12 : w7.cell? ⟨b, 12, none⟩ = some (.slice v.ha v.hn v.hc) := (H7.out.x.cell 12).trans rfl
     have xl := H7.out.x.lt
     have xf := H7.out.x.frozen
     go_upto_region 11 with fail
     clear x12 xl xf
     have hx : Blk (w7.setCell ⟨b, 12, none⟩ (.slice A7 n7 c7)) b 74 (boxR ({ s with epoch := e1, held := s.held.filter (· != m.job) } : WS) (⟨y1, n1, A7, n7, c7, v.da, v.dn, v.dc, v.ta, v.tn, v.tc⟩ : RV)) := by
      have h2 := (H7.out.x.set_ 12 (.slice A7 n7 c7))
      simp only [List.setIfInBounds_toArray, List.set_cons_zero, List.set_cons_succ] at h2
      exact h2
     have hk : Kept (fun k => k = b) w7 (w7.setCell ⟨b, 12, none⟩ (.slice A7 n7 c7)) := (Kept.setCell (F := fun k => k = b) (Kept.refl _ w7) (p := ⟨b, 12, none⟩) (fun _ => rfl) (.slice A7 n7 c7))
     have H8 := Lib.hid (H7.out.laid hx hk)
     have HQ8 := Lib.hid (HQ7.out.box HRR.out hk (by have := HS.out; omega) (by have := HS.out; omega))
     clear hx hk
     generalize (w7.setCell ⟨b, 12, none⟩ (.slice A7 n7 c7)) = w8 at H8 HQ8 ⊢
     have x13 : w8.cell? ⟨b, 13, none⟩ = some (.slice v.da v.dn v.dc) := (H8.out.x.cell 13).trans rfl
     have m5 : w8.cell? ⟨b + 1, 5, none⟩ = some (.int .i64 m.job) := (H8.out.g.cell 5).trans rfl
     have xl := H8.out.x.lt
     have ml := H8.out.g.lt
     have hcx := has12 v.da v.dn v.dc s.done m.job w8 HQ8.out.rd.d (by have := HL.out; have := HRR.out.d.len; omega)
     rw [HD.out] at hcx
     go_wp2_with fail
     (with_reducible refine hcx.mono ?_)
     clear hcx
     rintro e w9 ⟨rfl, hw9⟩
     subst hw9
     go_upto_region 12 with fail
     clear x13
     have x14 : w8.cell? ⟨b, 14, none⟩ = some (.slice v.ta v.tn v.tc) := (H8.out.x.cell 14).trans rfl
     have hcx := put12s v.ta v.tn v.tc s.told m.job w8 HQ8.out.rd.t (by have := HL.out; have := HRR.out.t.len; omega) HQ8.out.rd.tc
     go_wp2_with fail
     (with_reducible refine hcx.mono ?_)
     clear hcx x14 m5 xl ml
     rintro e w9 ⟨A9, n9, c9, rfl, hr9, hc9, hb9, hp9⟩
     have H9 := Lib.hid (H8.out.below hb9)
     have HQ9 : Hid (RQ w w1 w9 v (⟨y1, n1, A7, n7, c7, v.da, v.dn, v.dc, A9, n9, c9⟩ : RV) ({ s with epoch := e1, held := s.held.filter (· != m.job), told := putR s.told m.job } : WS)) := Lib.hid (HQ8.out.told hb9 hr9 hc9 hp9)
     clear hr9 hc9 hb9 hp9 H8 HQ8
     have x14 : w9.cell? ⟨b, 14, none⟩ = some (.slice v.ta v.tn v.tc) := (H9.out.x.cell 14).trans rfl
     have xl := H9.out.x.lt
     have xf := H9.out.x.frozen
     go_upto_region 22 with fail
     clear x14 xl xf
     have hx : Blk (w9.setCell ⟨b, 14, none⟩ (.slice A9 n9 c9)) b 74 (boxR ({ s with epoch := e1, held := s.held.filter (· != m.job), told := putR s.told m.job } : WS) (⟨y1, n1, A7, n7, c7, v.da, v.dn, v.dc, A9, n9, c9⟩ : RV)) := by
      have h2 := (H9.out.x.set_ 14 (.slice A9 n9 c9))
      simp only [List.setIfInBounds_toArray, List.set_cons_zero, List.set_cons_succ] at h2
      exact h2
     have hk : Kept (fun k => k = b) w9 (w9.setCell ⟨b, 14, none⟩ (.slice A9 n9 c9)) := (Kept.setCell (F := fun k => k = b) (Kept.refl _ w9) (p := ⟨b, 14, none⟩) (fun _ => rfl) (.slice A9 n9 c9))
     have Ha := Lib.hid (H9.out.laid hx hk)
     have HQa := Lib.hid (HQ9.out.box HRR.out hk (by have := HS.out; omega) (by have := HS.out; omega))
     clear hx hk
     generalize (w9.setCell ⟨b, 14, none⟩ (.slice A9 n9 c9)) = wa at Ha HQa ⊢
     go_wp2_with (first | (refine loadR rfl (.tmp 3) rfl rfl (s := ({ s with epoch := e1, held := s.held.filter (· != m.job), told := putR s.told m.job } : WS)) (v := (⟨y1, n1, A7, n7, c7, v.da, v.dn, v.dc, A9, n9, c9⟩ : RV)) Ha.out.x ?_) | (refine storeR rfl rfl (.tmp 6) (.tmp 139) rfl rfl (s := ({ s with epoch := e1, held := s.held.filter (· != m.job), told := putR s.told m.job } : WS)) (v := (⟨y1, n1, A7, n7, c7, v.da, v.dn, v.dc, A9, n9, c9⟩ : RV)) rfl Ha.out.r rfl ?_; intro w9 hb9 hk9 hs9))
     have HE := Lib.hid (Ha.out.done hk9)
     have HQ2 := Lib.hid (HQa.out.box HRR.out hk9 (by have := HS.out; omega) HS.out.1)
     obtain ⟨x0, x1, x2, x3, x4, x5, x6, x7, x8, x9, x10, x11, x12, x13, x14⟩ := rCells hb9
     clear hk9 hs9 hb9
     refine bodyPost_ret (v := .tuple #[aggR ({ s with epoch := e1, held := s.held.filter (· != m.job), told := putR s.told m.job } : WS) (⟨y1, n1, A7, n7, c7, v.da, v.dn, v.dc, A9, n9, c9⟩ : RV), .bool true]) (by simp [results, Tryd.results37, go_sem, x0, x1, x2, x3, x4, x5, x6, x7, x8, x9, x10, x11, x12, x13, x14]) rfl ?_
     rw [HH.out]
     exact ⟨_, rfl, HQ2.out.rd, HQ2.out.rt.mono HS.out.2.2 (Nat.le_refl _), HE.out⟩
    ·have HH : Hid (s.hear now m = (({ s with epoch := e1, held := s.held.filter (· != m.job) } : WS), true)) := Lib.hid (by rw [HH0.out]; unfold WS.heed; rw [if_neg (by rw [HKK.out]; decide), if_neg (by rw [HKK.out]; decide)]; show (({ s with epoch := e1 } : WS).stop m, ({ s with epoch := e1 } : WS).stopB m) = _; have h1 : ({ s with epoch := e1 } : WS).stopB m = true := (by unfold WS.stopB; simp [hh1]); rw [h1]; unfold WS.stop; rw [if_neg hd])
     have HD : Hid (decide (m.job ∈ s.done) = false) := Lib.hid (decide_eq_false hd)
     clear hh1 hd
     skip
     have x12 : w5.cell? ⟨b, 12, none⟩ = some (.slice v.ha v.hn v.hc) := (H5.out.x.cell 12).trans rfl
     have hcx := drop12s v.ha v.hn v.hc s.held m.job w5 HQ5.out.rd.h (by have := HL.out; have := HRR.out.h.len; omega)
     go_wp2_with fail
     (with_reducible refine hcx.mono ?_)
     clear hcx x12 m5 xl ml
     rintro e w7 ⟨A7, n7, c7, rfl, hr7, hc7, hb7, hp7⟩
     have H7 := Lib.hid (H5.out.below hb7)
     have HQ7 : Hid (RQ w w1 w7 v (⟨y1, n1, A7, n7, c7, v.da, v.dn, v.dc, v.ta, v.tn, v.tc⟩ : RV) ({ s with epoch := e1, held := s.held.filter (· != m.job) } : WS)) := Lib.hid (HQ5.out.held hb7 hr7 hc7 (.inr hp7))
     clear hr7 hc7 hb7 hp7 H5 HQ5
     have x12 : w7.cell? ⟨b, 12, none⟩ = some (.slice v.ha v.hn v.hc) := (H7.out.x.cell 12).trans rfl
     have xl := H7.out.x.lt
     have xf := H7.out.x.frozen
     go_upto_region 11 with fail
     clear x12 xl xf
     have hx : Blk (w7.setCell ⟨b, 12, none⟩ (.slice A7 n7 c7)) b 74 (boxR ({ s with epoch := e1, held := s.held.filter (· != m.job) } : WS) (⟨y1, n1, A7, n7, c7, v.da, v.dn, v.dc, v.ta, v.tn, v.tc⟩ : RV)) := by
      have h2 := (H7.out.x.set_ 12 (.slice A7 n7 c7))
      simp only [List.setIfInBounds_toArray, List.set_cons_zero, List.set_cons_succ] at h2
      exact h2
     have hk : Kept (fun k => k = b) w7 (w7.setCell ⟨b, 12, none⟩ (.slice A7 n7 c7)) := (Kept.setCell (F := fun k => k = b) (Kept.refl _ w7) (p := ⟨b, 12, none⟩) (fun _ => rfl) (.slice A7 n7 c7))
     have H8 := Lib.hid (H7.out.laid hx hk)
     have HQ8 := Lib.hid (HQ7.out.box HRR.out hk (by have := HS.out; omega) (by have := HS.out; omega))
     clear hx hk
     generalize (w7.setCell ⟨b, 12, none⟩ (.slice A7 n7 c7)) = w8 at H8 HQ8 ⊢
     have x13 : w8.cell? ⟨b, 13, none⟩ = some (.slice v.da v.dn v.dc) := (H8.out.x.cell 13).trans rfl
     have m5 : w8.cell? ⟨b + 1, 5, none⟩ = some (.int .i64 m.job) := (H8.out.g.cell 5).trans rfl
     have xl := H8.out.x.lt
     have ml := H8.out.g.lt
     have hcx := has12 v.da v.dn v.dc s.done m.job w8 HQ8.out.rd.d (by have := HL.out; have := HRR.out.d.len; omega)
     rw [HD.out] at hcx
     go_wp2_with fail
     (with_reducible refine hcx.mono ?_)
     clear hcx
     rintro e w9 ⟨rfl, hw9⟩
     subst hw9
     go_upto_region 22 with fail
     clear x13 m5 xl ml
     go_wp2_with (first | (refine loadR rfl (.tmp 3) rfl rfl (s := ({ s with epoch := e1, held := s.held.filter (· != m.job) } : WS)) (v := (⟨y1, n1, A7, n7, c7, v.da, v.dn, v.dc, v.ta, v.tn, v.tc⟩ : RV)) H8.out.x ?_) | (refine storeR rfl rfl (.tmp 6) (.tmp 139) rfl rfl (s := ({ s with epoch := e1, held := s.held.filter (· != m.job) } : WS)) (v := (⟨y1, n1, A7, n7, c7, v.da, v.dn, v.dc, v.ta, v.tn, v.tc⟩ : RV)) rfl H8.out.r rfl ?_; intro w9 hb9 hk9 hs9))
     have HE := Lib.hid (H8.out.done hk9)
     have HQ2 := Lib.hid (HQ8.out.box HRR.out hk9 (by have := HS.out; omega) HS.out.1)
     obtain ⟨x0, x1, x2, x3, x4, x5, x6, x7, x8, x9, x10, x11, x12, x13, x14⟩ := rCells hb9
     clear hk9 hs9 hb9
     refine bodyPost_ret (v := .tuple #[aggR ({ s with epoch := e1, held := s.held.filter (· != m.job) } : WS) (⟨y1, n1, A7, n7, c7, v.da, v.dn, v.dc, v.ta, v.tn, v.tc⟩ : RV), .bool true]) (by simp [results, Tryd.results37, go_sem, x0, x1, x2, x3, x4, x5, x6, x7, x8, x9, x10, x11, x12, x13, x14]) rfl ?_
     rw [HH.out]
     exact ⟨_, rfl, HQ2.out.rd, HQ2.out.rt.mono HS.out.2.2 (Nat.le_refl _), HE.out⟩
   ·rw [decide_eq_false hh1] at hcx
    go_wp2_with fail
    (with_reducible refine hcx.mono ?_)
    clear hcx
    rintro e w9 ⟨rfl, hw9⟩
    subst hw9
    have x13 : w5.cell? ⟨b, 13, none⟩ = some (.slice v.da v.dn v.dc) := (H5.out.x.cell 13).trans rfl
    have hcx := has12 v.da v.dn v.dc s.done m.job w5 HQ5.out.rd.d (by have := HL.out; have := HRR.out.d.len; omega)
    by_cases hd : m.job ∈ s.done
    ·rw [decide_eq_true hd] at hcx
     go_wp2_with fail
     (with_reducible refine hcx.mono ?_)
     clear hcx
     rintro e w9 ⟨rfl, hw9⟩
     subst hw9
     go_upto_region 10 with fail
     clear x12 x13
     have HH : Hid (s.hear now m = (({ s with epoch := e1, held := s.held.filter (· != m.job), told := putR s.told m.job } : WS), true)) := Lib.hid (by rw [HH0.out]; unfold WS.heed; rw [if_neg (by rw [HKK.out]; decide), if_neg (by rw [HKK.out]; decide)]; show (({ s with epoch := e1 } : WS).stop m, ({ s with epoch := e1 } : WS).stopB m) = _; have h1 : ({ s with epoch := e1 } : WS).stopB m = true := (by unfold WS.stopB; simp [hd]); rw [h1]; unfold WS.stop; rw [if_pos hd])
     have HD : Hid (decide (m.job ∈ s.done) = true) := Lib.hid (decide_eq_true hd)
     clear hh1 hd
     skip
     have x12 : w5.cell? ⟨b, 12, none⟩ = some (.slice v.ha v.hn v.hc) := (H5.out.x.cell 12).trans rfl
     have hcx := drop12s v.ha v.hn v.hc s.held m.job w5 HQ5.out.rd.h (by have := HL.out; have := HRR.out.h.len; omega)
     go_wp2_with fail
     (with_reducible refine hcx.mono ?_)
     clear hcx x12 m5 xl ml
     rintro e w7 ⟨A7, n7, c7, rfl, hr7, hc7, hb7, hp7⟩
     have H7 := Lib.hid (H5.out.below hb7)
     have HQ7 : Hid (RQ w w1 w7 v (⟨y1, n1, A7, n7, c7, v.da, v.dn, v.dc, v.ta, v.tn, v.tc⟩ : RV) ({ s with epoch := e1, held := s.held.filter (· != m.job) } : WS)) := Lib.hid (HQ5.out.held hb7 hr7 hc7 (.inr hp7))
     clear hr7 hc7 hb7 hp7 H5 HQ5
     have x12 : w7.cell? ⟨b, 12, none⟩ = some (.slice v.ha v.hn v.hc) := (H7.out.x.cell 12).trans rfl
     have xl := H7.out.x.lt
     have xf := H7.out.x.frozen
     go_upto_region 11 with fail
     clear x12 xl xf
     have hx : Blk (w7.setCell ⟨b, 12, none⟩ (.slice A7 n7 c7)) b 74 (boxR ({ s with epoch := e1, held := s.held.filter (· != m.job) } : WS) (⟨y1, n1, A7, n7, c7, v.da, v.dn, v.dc, v.ta, v.tn, v.tc⟩ : RV)) := by
      have h2 := (H7.out.x.set_ 12 (.slice A7 n7 c7))
      simp only [List.setIfInBounds_toArray, List.set_cons_zero, List.set_cons_succ] at h2
      exact h2
     have hk : Kept (fun k => k = b) w7 (w7.setCell ⟨b, 12, none⟩ (.slice A7 n7 c7)) := (Kept.setCell (F := fun k => k = b) (Kept.refl _ w7) (p := ⟨b, 12, none⟩) (fun _ => rfl) (.slice A7 n7 c7))
     have H8 := Lib.hid (H7.out.laid hx hk)
     have HQ8 := Lib.hid (HQ7.out.box HRR.out hk (by have := HS.out; omega) (by have := HS.out; omega))
     clear hx hk
     generalize (w7.setCell ⟨b, 12, none⟩ (.slice A7 n7 c7)) = w8 at H8 HQ8 ⊢
     have x13 : w8.cell? ⟨b, 13, none⟩ = some (.slice v.da v.dn v.dc) := (H8.out.x.cell 13).trans rfl
     have m5 : w8.cell? ⟨b + 1, 5, none⟩ = some (.int .i64 m.job) := (H8.out.g.cell 5).trans rfl
     have xl := H8.out.x.lt
     have ml := H8.out.g.lt
     have hcx := has12 v.da v.dn v.dc s.done m.job w8 HQ8.out.rd.d (by have := HL.out; have := HRR.out.d.len; omega)
     rw [HD.out] at hcx
     go_wp2_with fail
     (with_reducible refine hcx.mono ?_)
     clear hcx
     rintro e w9 ⟨rfl, hw9⟩
     subst hw9
     go_upto_region 12 with fail
     clear x13
     have x14 : w8.cell? ⟨b, 14, none⟩ = some (.slice v.ta v.tn v.tc) := (H8.out.x.cell 14).trans rfl
     have hcx := put12s v.ta v.tn v.tc s.told m.job w8 HQ8.out.rd.t (by have := HL.out; have := HRR.out.t.len; omega) HQ8.out.rd.tc
     go_wp2_with fail
     (with_reducible refine hcx.mono ?_)
     clear hcx x14 m5 xl ml
     rintro e w9 ⟨A9, n9, c9, rfl, hr9, hc9, hb9, hp9⟩
     have H9 := Lib.hid (H8.out.below hb9)
     have HQ9 : Hid (RQ w w1 w9 v (⟨y1, n1, A7, n7, c7, v.da, v.dn, v.dc, A9, n9, c9⟩ : RV) ({ s with epoch := e1, held := s.held.filter (· != m.job), told := putR s.told m.job } : WS)) := Lib.hid (HQ8.out.told hb9 hr9 hc9 hp9)
     clear hr9 hc9 hb9 hp9 H8 HQ8
     have x14 : w9.cell? ⟨b, 14, none⟩ = some (.slice v.ta v.tn v.tc) := (H9.out.x.cell 14).trans rfl
     have xl := H9.out.x.lt
     have xf := H9.out.x.frozen
     go_upto_region 22 with fail
     clear x14 xl xf
     have hx : Blk (w9.setCell ⟨b, 14, none⟩ (.slice A9 n9 c9)) b 74 (boxR ({ s with epoch := e1, held := s.held.filter (· != m.job), told := putR s.told m.job } : WS) (⟨y1, n1, A7, n7, c7, v.da, v.dn, v.dc, A9, n9, c9⟩ : RV)) := by
      have h2 := (H9.out.x.set_ 14 (.slice A9 n9 c9))
      simp only [List.setIfInBounds_toArray, List.set_cons_zero, List.set_cons_succ] at h2
      exact h2
     have hk : Kept (fun k => k = b) w9 (w9.setCell ⟨b, 14, none⟩ (.slice A9 n9 c9)) := (Kept.setCell (F := fun k => k = b) (Kept.refl _ w9) (p := ⟨b, 14, none⟩) (fun _ => rfl) (.slice A9 n9 c9))
     have Ha := Lib.hid (H9.out.laid hx hk)
     have HQa := Lib.hid (HQ9.out.box HRR.out hk (by have := HS.out; omega) (by have := HS.out; omega))
     clear hx hk
     generalize (w9.setCell ⟨b, 14, none⟩ (.slice A9 n9 c9)) = wa at Ha HQa ⊢
     go_wp2_with (first | (refine loadR rfl (.tmp 3) rfl rfl (s := ({ s with epoch := e1, held := s.held.filter (· != m.job), told := putR s.told m.job } : WS)) (v := (⟨y1, n1, A7, n7, c7, v.da, v.dn, v.dc, A9, n9, c9⟩ : RV)) Ha.out.x ?_) | (refine storeR rfl rfl (.tmp 6) (.tmp 139) rfl rfl (s := ({ s with epoch := e1, held := s.held.filter (· != m.job), told := putR s.told m.job } : WS)) (v := (⟨y1, n1, A7, n7, c7, v.da, v.dn, v.dc, A9, n9, c9⟩ : RV)) rfl Ha.out.r rfl ?_; intro w9 hb9 hk9 hs9))
     have HE := Lib.hid (Ha.out.done hk9)
     have HQ2 := Lib.hid (HQa.out.box HRR.out hk9 (by have := HS.out; omega) HS.out.1)
     obtain ⟨x0, x1, x2, x3, x4, x5, x6, x7, x8, x9, x10, x11, x12, x13, x14⟩ := rCells hb9
     clear hk9 hs9 hb9
     refine bodyPost_ret (v := .tuple #[aggR ({ s with epoch := e1, held := s.held.filter (· != m.job), told := putR s.told m.job } : WS) (⟨y1, n1, A7, n7, c7, v.da, v.dn, v.dc, A9, n9, c9⟩ : RV), .bool true]) (by simp [results, Tryd.results37, go_sem, x0, x1, x2, x3, x4, x5, x6, x7, x8, x9, x10, x11, x12, x13, x14]) rfl ?_
     rw [HH.out]
     exact ⟨_, rfl, HQ2.out.rd, HQ2.out.rt.mono HS.out.2.2 (Nat.le_refl _), HE.out⟩
    ·rw [decide_eq_false hd] at hcx
     go_wp2_with fail
     (with_reducible refine hcx.mono ?_)
     clear hcx
     rintro e w9 ⟨rfl, hw9⟩
     subst hw9
     go_upto_region 9 with fail
     clear x12 x13 m5 xl ml
     have HH : Hid (s.hear now m = (({ s with epoch := e1 } : WS), false)) := Lib.hid (by rw [HH0.out]; unfold WS.heed; rw [if_neg (by rw [HKK.out]; decide), if_neg (by rw [HKK.out]; decide)]; show (({ s with epoch := e1 } : WS).stop m, ({ s with epoch := e1 } : WS).stopB m) = _; have h1 : ({ s with epoch := e1 } : WS).stopB m = false := (by unfold WS.stopB; simp [hh1, hd]); rw [h1]; unfold WS.stop; rw [if_neg hd]; have h2 : s.held.filter (· != m.job) = s.held := List.filter_eq_self.2 (fun x hx => by simp; intro e; exact hh1 (e ▸ hx)); show ((⟨_, _, _, _, _, _, _, _, s.held.filter (· != m.job), _, _⟩ : WS), false) = _; rw [h2])
     clear hh1 hd
     go_wp2_with (first | (refine loadR rfl (.tmp 3) rfl rfl (s := ({ s with epoch := e1 } : WS)) (v := (⟨y1, n1, v.ha, v.hn, v.hc, v.da, v.dn, v.dc, v.ta, v.tn, v.tc⟩ : RV)) H5.out.x ?_) | (refine storeR rfl rfl (.tmp 6) (.tmp 79) rfl rfl (s := ({ s with epoch := e1 } : WS)) (v := (⟨y1, n1, v.ha, v.hn, v.hc, v.da, v.dn, v.dc, v.ta, v.tn, v.tc⟩ : RV)) rfl H5.out.r rfl ?_; intro w9 hb9 hk9 hs9))
     have HE := Lib.hid (H5.out.done hk9)
     have HQ2 := Lib.hid (HQ5.out.box HRR.out hk9 (by have := HS.out; omega) HS.out.1)
     obtain ⟨x0, x1, x2, x3, x4, x5, x6, x7, x8, x9, x10, x11, x12, x13, x14⟩ := rCells hb9
     clear hk9 hs9 hb9
     refine bodyPost_ret (v := .tuple #[aggR ({ s with epoch := e1 } : WS) (⟨y1, n1, v.ha, v.hn, v.hc, v.da, v.dn, v.dc, v.ta, v.tn, v.tc⟩ : RV), .bool false]) (by simp [results, Tryd.results37, go_sem, x0, x1, x2, x3, x4, x5, x6, x7, x8, x9, x10, x11, x12, x13, x14]) rfl ?_
     rw [HH.out]
     exact ⟨_, rfl, HQ2.out.rd, HQ2.out.rt.mono HS.out.2.2 (Nat.le_refl _), HE.out⟩
  ·have ti : (m.inc != s.inc) = true := by simp [hi]
   have HH : Hid (s.hear now m = (({ s with epoch := e1 } : WS), false)) := Lib.hid (by rw [HHE.out, HPS.out.2, if_neg (fun h => hi h.2)])
   clear hi
   go_upto_region 6 with fail
   clear x2 m4 xl ml ti
   go_wp2_with (first | (refine loadR rfl (.tmp 3) rfl rfl (s := ({ s with epoch := e1 } : WS)) (v := (⟨y1, n1, v.ha, v.hn, v.hc, v.da, v.dn, v.dc, v.ta, v.tn, v.tc⟩ : RV)) H5.out.x ?_) | (refine storeR rfl rfl (.tmp 6) (.tmp 62) rfl rfl (s := ({ s with epoch := e1 } : WS)) (v := (⟨y1, n1, v.ha, v.hn, v.hc, v.da, v.dn, v.dc, v.ta, v.tn, v.tc⟩ : RV)) rfl H5.out.r rfl ?_; intro w9 hb9 hk9 hs9))
   have HE := Lib.hid (H5.out.done hk9)
   have HQ2 := Lib.hid (HQ5.out.box HRR.out hk9 (by have := HS.out; omega) HS.out.1)
   obtain ⟨x0, x1, x2, x3, x4, x5, x6, x7, x8, x9, x10, x11, x12, x13, x14⟩ := rCells hb9
   clear hk9 hs9 hb9
   refine bodyPost_ret (v := .tuple #[aggR ({ s with epoch := e1 } : WS) (⟨y1, n1, v.ha, v.hn, v.hc, v.da, v.dn, v.dc, v.ta, v.tn, v.tc⟩ : RV), .bool false]) (by simp [results, Tryd.results37, go_sem, x0, x1, x2, x3, x4, x5, x6, x7, x8, x9, x10, x11, x12, x13, x14]) rfl ?_
   rw [HH.out]
   exact ⟨_, rfl, HQ2.out.rd, HQ2.out.rt.mono HS.out.2.2 (Nat.le_refl _), HE.out⟩
/-- The document's Hear. -/
theorem rHear_t (s : WS) (v : RV) (now : Int) (m : LMsg) (w : World) (hR : RdR w v s) (hnd : 0 ≤ s.node ∧ s.node ≤ 15) (hl : s.held.length ≤ 1000000 ∧ s.done.length ≤ 1000000 ∧ s.told.length ≤ 1000000) : Calls Tryd.prog 37 #[aggR s v, .int .i64 now, aggMsg m] w fun e w' => ∃ v', e = .returned (.tuple #[aggR (s.hear now m).1 v', .bool (s.hear now m).2]) ∧ RdR w' v' (s.hear now m).1 ∧ RT w w' v v' ∧ Below w.heap.size w w' := by
 rcases Bool.eq_false_or_eq_true s.up with hu | hu
 ·by_cases hc : checkM m = 0
  ·by_cases ht : m.to_ = 100 + s.node
   ·by_cases hk : m.kind = 2 ∨ m.kind = 3 ∨ m.kind = 4
    ·rcases hk with hk | hk | hk
     ·exact rHear_k2 s v now m w hR hnd hl hu hc ht hk
     ·exact rHear_k3 s v now m w hR hnd hl hu hc ht hk
     ·exact rHear_k4 s v now m w hR hnd hl hu hc ht hk
    ·exact rHear_other s v now m w hR hnd hu hc ht hk
   ·exact rHear_far s v now m w hR hnd hu hc ht
  ·exact rHear_bad s v now m w hR hu hc
 ·exact rHear_down s v now m w hR hu
end Go.Proofs.YthhnocnkicoimaaDoor
namespace Go.Proofs.YthhnocnkicoimaaDoor
open Go.RowKit Go.Maps

theorem OwnL.boxed {w w' : World} {base n c q : Nat} {A : Option Addr} {l : List LMsg} {cs : Array Value} (h : OwnL encMsg 38 12 w base A n c l) (hb : Blk w q 74 cs) (hk : Kept (fun k => k = q) w w') : OwnL encMsg 38 12 w' base A n c l :=
 h.kept hk (fun ad hA e => by
  obtain ⟨cs2, h1⟩ := h.blkw hA
  have h1 : Blk w ad.block 38 cs2 := h1
  rw [show ad.block = q from e] at h1
  have h3 := h1.symm.trans hb
  injection h3 with h3
  injection h3 with _ h4
  exact absurd h4 (by decide))
theorem RdI.at_ltS2 {w : World} {kb ko n : Nat} {l : List Int} (h : RdI w (some ⟨kb, ko, none⟩) n l) {j : Nat} (hj : j < n) : kb < w.heap.size := by
 obtain ⟨b, o, x, e, hx, hlt, hc⟩ := Rd.at_ h hj
 cases e
 exact hlt
theorem tick_told (s : WS) (now : Int) : (s.tick now).told.length ≤ s.told.length := by
 unfold WS.tick WS.tick1 WS.tick2
 split <;> split <;> simp [WS.anew, WS.empty]
set_option maxRecDepth 100000 in
set_option maxHeartbeats 3200000 in
theorem rTick_down (s : WS) (v : RV) (now n : Int) (w : World) (hu : s.up = false) : Calls Tryd.prog 35 #[aggR s v, .int .i64 now, .int .i64 n] w fun e w' => e = .returned (.tuple #[aggR s v, .slice none 0 0]) ∧ Below w.heap.size w w' := by
 have HU := Lib.hid hu
 clear hu
 go_enter Tryd.func35, Tryd.ntmps35
 go_upto_region 1 with fail
 have HI := Lib.hid (RI.start s v w)
 obtain ⟨b, hb0⟩ : ∃ b, w.heap.size = b := ⟨_, rfl⟩
 generalize ((w.alloc (.cells (boxR s v) 74)).alloc (.cells zboxR 74)) = w1 at HI ⊢
 try simp only [World.alloc_size, hb0]
 rw [hb0] at HI
 try rw [hb0]
 clear hb0
 have x8 : w1.cell? ⟨b, 8, none⟩ = some (.bool s.up) := (HI.out.x.cell 8).trans rfl
 have xl := HI.out.x.lt
 rw [HU.out] at x8
 go_upto_region 2 with fail
 clear x8 xl
 go_wp2_with (first | (refine loadR rfl (.tmp 3) rfl rfl (s := s) (v := v) HI.out.x ?_) | (refine storeR rfl rfl (.tmp 6) (.tmp 14) rfl rfl (s := s) (v := v) rfl HI.out.r rfl ?_; intro w9 hb9 hk9 hs9))
 have HE := Lib.hid (HI.out.done hk9)
 obtain ⟨x0, x1, x2, x3, x4, x5, x6, x7, x8, x9, x10, x11, x12, x13, x14⟩ := rCells hb9
 clear hk9 hs9 hb9
 refine bodyPost_ret (v := .tuple #[aggR s v, .slice none 0 0]) (by simp [results, Tryd.results35, go_sem, x0, x1, x2, x3, x4, x5, x6, x7, x8, x9, x10, x11, x12, x13, x14]) rfl ⟨rfl, HE.out⟩
set_option maxRecDepth 100000 in
set_option maxHeartbeats 12800000 in
theorem rTick_up (s : WS) (v : RV) (now n : Int) (w : World) (hR : RdR w v s) (hu : s.up = true) (hi : 0 ≤ s.inc ∧ s.inc ≤ 2147483647) (hk : 0 ≤ s.until_ ∧ 0 ≤ s.first ∧ s.first ≤ 2199023255552 ∧ 0 < s.span ∧ s.span ≤ 64) (hnd : 0 ≤ s.node ∧ s.node ≤ 15) (hdl : s.held.length ≤ 1000 ∧ s.done.length ≤ 1000 ∧ s.told.length ≤ 1000) : Calls Tryd.prog 35 #[aggR s v, .int .i64 now, .int .i64 n] w fun e w' => ∃ v' A nn cc, e = .returned (.tuple #[aggR (s.tick now) v', .slice A nn cc]) ∧ OwnL encMsg 38 12 w' w.heap.size A nn cc ((s.tick now).out now (min n 5).toNat) ∧ RdR w' v' (s.tick now) ∧ RT w w' v v' ∧ Below w.heap.size w w' := by
 have HU := Lib.hid hu
 have HRR := Lib.hid hR
 have HI2 := Lib.hid hi
 have HK := Lib.hid hk
 have HK2 := Lib.hid hnd
 have HDL := Lib.hid hdl
 clear hu hR hi hk hnd hdl
 go_enter Tryd.func35, Tryd.ntmps35
 go_upto_region 1 with fail
 have HI := Lib.hid (RI.start s v w)
 obtain ⟨b, hb0⟩ : ∃ b, w.heap.size = b := ⟨_, rfl⟩
 generalize ((w.alloc (.cells (boxR s v) 74)).alloc (.cells zboxR 74)) = w1 at HI ⊢
 try simp only [World.alloc_size, hb0]
 rw [hb0] at HI
 try rw [hb0]
 clear hb0
 have HS : Hid (b + 1 < w1.heap.size ∧ w.heap.size ≤ b ∧ w.heap.size ≤ w1.heap.size) := Lib.hid ⟨HI.out.r.lt, HI.out.ge, HI.out.bel.size⟩
 have HQ1 : Hid (RQ w w1 w1 v v s) := Lib.hid ⟨HRR.out.below HI.out.bel, .refl _ _ _, Nat.le_refl _⟩
 have x8 : w1.cell? ⟨b, 8, none⟩ = some (.bool s.up) := (HI.out.x.cell 8).trans rfl
 have xl := HI.out.x.lt
 rw [HU.out] at x8
 go_upto_region 3 with fail
 clear x8
 have x3 : w1.cell? ⟨b, 3, none⟩ = some (.int .i64 s.until_) := (HI.out.x.cell 3).trans rfl
 have x4 : w1.cell? ⟨b, 4, none⟩ = some (.int .i64 s.first) := (HI.out.x.cell 4).trans rfl
 have x1 : w1.cell? ⟨b, 1, none⟩ = some (.int .i64 s.span) := (HI.out.x.cell 1).trans rfl
 go_cut [43] from 14 to 42 (fun v43 wx => v43 = .bool (s.late now) ∧ wx = w1)
 case first =>
  by_cases h1 : 0 < s.until_
  ·have t1 : decide (0 < s.until_) = true := decide_eq_true h1
   have t3 : (s.until_ == 0) = false := by simp; omega
   have h3 : ¬ s.until_ = 0 := by omega
   by_cases h2 : s.until_ ≤ now
   ·have t2 : decide (s.until_ ≤ now) = true := decide_eq_true h2
    have HL : Hid (s.late now = true) := Lib.hid (by unfold WS.late; simp [h1, h2])
    clear h1 h2 h3
    go_wp2_with fail
    go_meet
    exact ⟨by rw [HL.out], rfl⟩
   ·have t2 : decide (s.until_ ≤ now) = false := decide_eq_false h2
    have HL : Hid (s.late now = false) := Lib.hid (by unfold WS.late; simp [h1, h2, h3])
    clear h1 h2 h3
    go_wp2_with fail
    go_meet
    exact ⟨by rw [HL.out], rfl⟩
  ·have t1 : decide (0 < s.until_) = false := decide_eq_false h1
   have h3 : s.until_ = 0 := by have := HK.out.1; omega
   have t3 : (s.until_ == 0) = true := by simp [h3]
   by_cases h4 : 0 < s.first
   ·have t4 : decide (0 < s.first) = true := decide_eq_true h4
    have t5 : IntKind.i64.wrap (s.first - 1) = s.first - 1 := IntWalk.i64_in _ (by have := HK.out; omega)
    have t6 : IntKind.i64.wrap (s.first - 1 + s.span) = s.first - 1 + s.span := IntWalk.i64_in _ (by have := HK.out; omega)
    by_cases h5 : s.first - 1 + s.span ≤ now
    ·have t7 : decide (s.first - 1 + s.span ≤ now) = true := decide_eq_true h5
     have HL : Hid (s.late now = true) := Lib.hid (by unfold WS.late; simp [h1, h3, h4, h5])
     clear h1 h3 h4 h5
     go_wp2_with fail
     go_meet
     exact ⟨by rw [HL.out], rfl⟩
    ·have t7 : decide (s.first - 1 + s.span ≤ now) = false := decide_eq_false h5
     have HL : Hid (s.late now = false) := Lib.hid (by unfold WS.late; simp [h1, h3, h4, h5])
     clear h1 h3 h4 h5
     go_wp2_with fail
     go_meet
     exact ⟨by rw [HL.out], rfl⟩
   ·have t4 : decide (0 < s.first) = false := decide_eq_false h4
    have HL : Hid (s.late now = false) := Lib.hid (by unfold WS.late; simp [h1, h3, h4])
    clear h1 h3 h4
    go_wp2_with fail
    go_meet
    exact ⟨by rw [HL.out], rfl⟩
 case rest =>
  obtain ⟨rfl, hw⟩ := hcut
  replace hw := hw.symm
  subst hw
  clear x3 x4 x1 xl
  go_upto_if 43 with (fail)
  go_cut [] from 14 to 45 (fun wx => ∃ v1, RI w wx b (s.tick1 now) v1 ∧ RQ w w1 wx v v1 (s.tick1 now))
  case first =>
   rcases Bool.eq_false_or_eq_true (s.late now) with hl | hl
   ·have hT1 : s.tick1 now = s.anew := by unfold WS.tick1; rw [hl, if_pos rfl]
    have HT1 := Lib.hid hT1
    rw [hl]
    clear hT1 hl
    have hcx := rAnew_t s v w1 HI2.out
    go_wp2_with (first | (refine loadR rfl (.tmp 3) rfl rfl (s := s) (v := v) HI.out.x ?_) | (go_at_call 69; (with_reducible refine hcx.mono ?_); rintro e w3 ⟨rfl, hb3⟩; have H3 := Lib.hid (HI.out.below hb3)) | (refine storeR rfl rfl (.tmp 3) (.tmp 45) rfl rfl (s := s.anew) (v := v.nil) rfl H3.out.x rfl ?_; intro w4 hb4 hk4 hs4))
    have HF : Hid (RI w w4 b (s.tick1 now) v.nil ∧ RQ w w1 w4 v v.nil (s.tick1 now)) := Lib.hid (by rw [HT1.out]; exact ⟨H3.out.laid hb4 hk4, ⟨RdR.nil _ _ _ rfl rfl rfl, RT.nil _ _ _, by have := hb3.size; omega⟩⟩)
    clear hb3 hb4 hk4 hs4 hcx
    try go_wp2_with fail
    go_meet
    exact ⟨v.nil, HF.out⟩
   ·have hT1 : s.tick1 now = s := by unfold WS.tick1; rw [hl, if_neg (by decide)]
    have HF : Hid (RI w w1 b (s.tick1 now) v ∧ RQ w w1 w1 v v (s.tick1 now)) := Lib.hid (by rw [hT1]; exact ⟨HI.out, HQ1.out⟩)
    rw [hl]
    clear hl hT1
    go_wp2_with fail
    go_meet
    exact ⟨v, HF.out⟩
  case rest =>
   obtain ⟨v1, h1a, h1b⟩ := hcut
   obtain ⟨s1, hs1⟩ : ∃ s1, s.tick1 now = s1 := ⟨_, rfl⟩
   rw [hs1] at h1a h1b
   have HS1 := Lib.hid hs1
   have H1 := Lib.hid h1a
   have HQ := Lib.hid h1b
   clear h1a h1b hs1
   have x4 : wc.cell? ⟨b, 4, none⟩ = some (.int .i64 s1.first) := (H1.out.x.cell 4).trans rfl
   have xl := H1.out.x.lt
   go_upto_if 48 with (fail)
   clear x4 xl
   go_cut [] from 46 to 52 (fun wx => RI w wx b (s1.tick2 now) v1 ∧ RQ w w1 wx v v1 (s1.tick2 now))
   case first =>
    by_cases hf : s1.first = 0
    ·have t1 : (s1.first == 0) = true := by simp [hf]
     have hT2 : s1.tick2 now = ({ s1 with first := tickI now + 1 } : WS) := by unfold WS.tick2; rw [if_pos hf]
     have HT2 := Lib.hid hT2
     clear hf hT2
     rw [t1]
     have t2 : IntKind.i64.wrap (spanI now 0 1099511627776 + 1) = tickI now + 1 := IntWalk.i64_in _ (by unfold spanI; omega)
     have x4 : wc.cell? ⟨b, 4, none⟩ = some (.int .i64 s1.first) := (H1.out.x.cell 4).trans rfl
     have xl := H1.out.x.lt
     have xf := H1.out.x.frozen
     go_wp2_with (go_at_call 70; with_reducible refine (rSpan_t _ _ _ _).mono ?_; rintro e w9 ⟨rfl, hw⟩; replace hw := hw.symm; subst hw)
     clear x4 xl xf t2
     have hx : Blk (wc.setCell ⟨b, 4, none⟩ (.int .i64 (tickI now + 1))) b 74 (boxR ({ s1 with first := tickI now + 1 } : WS) v1) := by
      have h2 := (H1.out.x.set_ 4 (.int .i64 (tickI now + 1)))
      simp only [List.setIfInBounds_toArray, List.set_cons_zero, List.set_cons_succ] at h2
      exact h2
     have hk : Kept (fun k => k = b) wc (wc.setCell ⟨b, 4, none⟩ (.int .i64 (tickI now + 1))) := (Kept.setCell (F := fun k => k = b) (Kept.refl _ wc) (p := ⟨b, 4, none⟩) (fun _ => rfl) (.int .i64 (tickI now + 1)))
     have H7 := Lib.hid (H1.out.laid hx hk)
     have hq7 := RQ.box HQ.out HRR.out hk (by have := HS.out; omega) (by have := HS.out; omega)
     have HQ7 : Hid (RQ w w1 _ v v1 ({ s1 with first := tickI now + 1 } : WS)) := Lib.hid ⟨⟨hq7.rd.h, hq7.rd.d, hq7.rd.t, hq7.rd.hc, hq7.rd.dc, hq7.rd.tc⟩, hq7.rt, hq7.sz⟩
     clear hq7
     clear hx hk
     generalize (wc.setCell ⟨b, 4, none⟩ (.int .i64 (tickI now + 1))) = w7 at H7 HQ7 ⊢
     go_meet
     rw [HT2.out]
     exact ⟨H7.out, HQ7.out⟩
    ·have t1 : (s1.first == 0) = false := by simp [hf]
     have hT2 : s1.tick2 now = s1 := by unfold WS.tick2; rw [if_neg hf]
     have HT2 := Lib.hid hT2
     clear hf hT2
     rw [t1]
     go_wp2_with fail
     go_meet
     rw [HT2.out]
     exact ⟨H1.out, HQ.out⟩
   case rest =>
    obtain ⟨h2a, h2b⟩ := hcut
    obtain ⟨s2, hs2⟩ : ∃ s2, s1.tick2 now = s2 := ⟨_, rfl⟩
    rw [hs2] at h2a h2b
    have hst : s.tick now = s2 := by unfold WS.tick; rw [HS1.out, hs2]
    have hnd2 : s2.node = s.node := by rw [← hst]; exact tick_node s now
    have hdl2 : s2.done.length ≤ 1000 := by rw [← hst]; exact Nat.le_trans (tick_done s now) HDL.out.2.1
    have htl2 : s2.told.length ≤ 1000 := by rw [← hst]; exact Nat.le_trans (tick_told s now) HDL.out.2.2
    have twr : IntKind.i64.wrap (100 + s2.node) = 100 + s2.node := IntWalk.i64_in _ (by rw [hnd2]; have := HK2.out; omega)
    have HST := Lib.hid hst
    have H5 := Lib.hid h2a
    have HQ5 := Lib.hid h2b
    clear h2a h2b hs2 hst hnd2 H1 HQ
    obtain ⟨v2, hv2⟩ : ∃ v2, v1 = v2 := ⟨_, rfl⟩
    rw [hv2] at H5 HQ5
    clear hv2
    obtain ⟨N, hN⟩ : ∃ N : Nat, (min n 5).toNat = N := ⟨_, rfl⟩
    have hN5 : N ≤ 5 := by omega
    have hdn : v2.dn ≤ 1000 := by rw [← HQ5.out.rd.d.len]; exact hdl2
    go_wp2
    go_loopw [8, 9] (fun o i wr => ∃ (k : Nat) (A : Option Addr) (n0 c0_ : Nat), k ≤ N ∧ i = .int .i64 k ∧ o = .slice A n0 c0_ ∧ OwnL encMsg 38 12 wr wc.heap.size A n0 c0_ (s2.out now k) ∧ Below wc.heap.size wc wr ∧ n0 ≤ k * 1001) (fun _ i _ => N - (intOf i).toNat)
    case atStart => exact ⟨0, none, 0, 0, Nat.zero_le _, rfl, rfl, OwnL.nil _ _, Below.refl _ _, Nat.zero_le _⟩
    case round =>
     obtain ⟨k, A, n0, c0_, hk, rfl, rfl, ho, hbr, hn0⟩ := hrel
     have hn9 : n0 ≤ 5005 := by omega
     by_cases hlt : k < N
     ·have hk1 : decide ((k : Int) < n) = true := decide_eq_true (by omega)
      have hk2 : decide ((k : Int) < 5) = true := decide_eq_true (by omega)
      have HR := Lib.hid (And.intro ho (And.intro hn0 hbr))
      clear ho hbr
      go_upto_region 11 with fail
      refine Cont.start (by kernel_rfl) ?_
      have HD := Lib.hid (H5.out.below (w' := wr.drew) (HR.out.2.2.drew))
      have HOd := Lib.hid (HR.out.1.drew)
      have HBd := Lib.hid (HR.out.2.2.drew)
      generalize wr.drew = wd at HD HOd HBd ⊢
      refine cont_free 0 13 62 [] [.o (eqV (.slice A n0 c0_)), .o (eqV (.pointer (some ⟨b, 0, none⟩))), .o (eqV (.int .i64 s2.node)), .o (eqV (.int .i64 (100 + s2.node))), .o (eqV (.int .i64 ((k : Nat) : Int))), .o (eqV (.pointer (some ⟨b, 2, none⟩))), .o (eqV (.int .i64 s2.inc)), .o (eqV (.int .i64 now)), .o (eqV (.int .i64 (tickI now))), .o (eqV (.pointer (some ⟨b, 5, none⟩))), .o (eqV (aggRes s2.cap)), .o (eqV (aggMsg (s2.hello now k))), .o (rdV encMsg 12 [s2.hello now k] 1)] [false, false, false, false, false, false, false, false, false, false, false, false, false] (by kernel_rfl) (by kernel_rfl) (by kernel_rfl) (by kernel_rfl) (by kernel_rfl) (by kernel_rfl) (by kernel_rfl) rfl (by kernel_rfl) (by kernel_rfl) ⟨?_, ?_, ?_, ?_, ?_, ?_, ?_, ?_, ?_, ?_, ?_, ?_, ?_, trivial⟩ ?fin
      ·intro a w hb hoth hdep
       refine step_on (want_none rfl) ?_
       have e8 : a.tmps[8]? = some (.slice A n0 c0_) := ev_seg hoth 8 (by kernel_rfl) rfl
       exact step_val ((BigFrame.run_move _ rfl w).trans (by rw [ev_of e8])) rfl
      ·intro a w hb hoth hdep
       refine step_on (want_none rfl) ?_
       have e3 : a.tmps[3]? = some (.pointer (some ⟨b, 0, none⟩)) := ev_seg hoth 3 (by kernel_rfl) rfl
       refine step_val (x := .pointer (some ⟨b, 0, none⟩)) ?_ rfl
       simp [go_sem, e3]
      ·intro a w hb hoth hdep
       refine step_on (want_none rfl) ?_
       obtain ⟨v1, e63, hv1⟩ := ev_dep hdep 1 63 (by kernel_rfl) (by kernel_rfl)
       replace hv1 : v1 = .pointer (some ⟨b, 0, none⟩) := hv1
       subst hv1
       have x0 : w.cell? ⟨b, 0, none⟩ = some (.int .i64 s2.node) := ((HD.out.x.below hb HD.out.x.lt).cell 0).trans rfl
       refine step_val (x := .int .i64 s2.node) ?_ rfl
       simp [go_sem, e63, x0]
      ·intro a w hb hoth hdep
       refine step_on (want_none rfl) ?_
       obtain ⟨v2, e64, hv2⟩ := ev_dep hdep 2 64 (by kernel_rfl) (by kernel_rfl)
       replace hv2 : v2 = .int .i64 s2.node := hv2
       subst hv2
       refine step_val (x := .int .i64 (100 + s2.node)) ?_ rfl
       simp [go_sem, e64, twr]
      ·intro a w hb hoth hdep
       refine step_on (want_none rfl) ?_
       have e9 : a.tmps[9]? = some (.int .i64 ((k : Nat) : Int)) := ev_seg hoth 9 (by kernel_rfl) rfl
       exact step_val ((BigFrame.run_move _ rfl w).trans (by rw [ev_of e9])) rfl
      ·intro a w hb hoth hdep
       refine step_on (want_none rfl) ?_
       have e3 : a.tmps[3]? = some (.pointer (some ⟨b, 0, none⟩)) := ev_seg hoth 3 (by kernel_rfl) rfl
       refine step_val (x := .pointer (some ⟨b, 2, none⟩)) ?_ rfl
       simp [go_sem, e3]
      ·intro a w hb hoth hdep
       refine step_on (want_none rfl) ?_
       obtain ⟨v5, e67, hv5⟩ := ev_dep hdep 5 67 (by kernel_rfl) (by kernel_rfl)
       replace hv5 : v5 = .pointer (some ⟨b, 2, none⟩) := hv5
       subst hv5
       have x2 : w.cell? ⟨b, 2, none⟩ = some (.int .i64 s2.inc) := ((HD.out.x.below hb HD.out.x.lt).cell 2).trans rfl
       refine step_val (x := .int .i64 s2.inc) ?_ rfl
       simp [go_sem, e67, x2]
      ·intro a w hb hoth hdep
       refine step_on (want_none rfl) ?_
       have e1 : a.tmps[1]? = some (.int .i64 now) := ev_seg hoth 1 (by kernel_rfl) rfl
       exact step_val ((BigFrame.run_move _ rfl w).trans (by rw [ev_of e1])) rfl
      ·intro a w hb hoth hdep
       refine step_on (want_none rfl) ?_
       obtain ⟨v7, e69, hv7⟩ := ev_dep hdep 7 69 (by kernel_rfl) (by kernel_rfl)
       replace hv7 : v7 = .int .i64 now := hv7
       subst hv7
       refine step_call (f := 70) (args := #[.int .i64 now, .int .i64 0, .int .i64 1099511627776]) ?_ ?_
       ·simp [go_sem, e69]
       ·have hcx := rSpan_t now 0 1099511627776 w
        (with_reducible refine hcx.mono ?_)
        clear hcx
        rintro e w2 ⟨rfl, hw⟩
        subst hw
        exact ⟨_, rfl, rfl, Below.refl _ _⟩
      ·intro a w hb hoth hdep
       refine step_on (want_none rfl) ?_
       have e3 : a.tmps[3]? = some (.pointer (some ⟨b, 0, none⟩)) := ev_seg hoth 3 (by kernel_rfl) rfl
       refine step_val (x := .pointer (some ⟨b, 5, none⟩)) ?_ rfl
       simp [go_sem, e3]
      ·intro a w hb hoth hdep
       refine step_on (want_none rfl) ?_
       obtain ⟨v9, e71, hv9⟩ := ev_dep hdep 9 71 (by kernel_rfl) (by kernel_rfl)
       replace hv9 : v9 = .pointer (some ⟨b, 5, none⟩) := hv9
       subst hv9
       have x5 : w.cell? ⟨b, 5, none⟩ = some (.int .i64 s2.cap.a) := ((HD.out.x.below hb HD.out.x.lt).cell 5).trans rfl
       have x6 : w.cell? ⟨b, 6, none⟩ = some (.int .i64 s2.cap.b) := ((HD.out.x.below hb HD.out.x.lt).cell 6).trans rfl
       have x7 : w.cell? ⟨b, 7, none⟩ = some (.int .i64 s2.cap.c) := ((HD.out.x.below hb HD.out.x.lt).cell 7).trans rfl
       refine step_val (x := aggRes s2.cap) ?_ rfl
       simp [go_sem, e71, x5, x6, x7, aggRes]
      ·intro a w hb hoth hdep
       refine step_on (want_none rfl) ?_
       obtain ⟨v3, e65, hv3⟩ := ev_dep hdep 3 65 (by kernel_rfl) (by kernel_rfl)
       replace hv3 : v3 = .int .i64 (100 + s2.node) := hv3
       subst hv3
       obtain ⟨v4, e66, hv4⟩ := ev_dep hdep 4 66 (by kernel_rfl) (by kernel_rfl)
       replace hv4 : v4 = .int .i64 ((k : Nat) : Int) := hv4
       subst hv4
       obtain ⟨v6, e68, hv6⟩ := ev_dep hdep 6 68 (by kernel_rfl) (by kernel_rfl)
       replace hv6 : v6 = .int .i64 s2.inc := hv6
       subst hv6
       obtain ⟨v8, e70, hv8⟩ := ev_dep hdep 8 70 (by kernel_rfl) (by kernel_rfl)
       replace hv8 : v8 = .int .i64 (tickI now) := hv8
       subst hv8
       obtain ⟨v10, e72, hv10⟩ := ev_dep hdep 10 72 (by kernel_rfl) (by kernel_rfl)
       replace hv10 : v10 = aggRes s2.cap := hv10
       subst hv10
       refine step_val (x := aggMsg (s2.hello now k)) ?_ rfl
       simp [go_sem, e65, e66, e68, e70, e72, aggMsg, aggRes, WS.hello]
      ·intro a w hb hoth hdep
       refine step_on (want_none rfl) ?_
       obtain ⟨v11, e73, hv11⟩ := ev_dep hdep 11 73 (by kernel_rfl) (by kernel_rfl)
       replace hv11 : v11 = aggMsg (s2.hello now k) := hv11
       subst hv11
       refine step_new (x := .slice (some ⟨w.heap.size, 0, none⟩) 1 1) (w' := w.alloc (.cells (boxMsg (s2.hello now k)) 38)) ?_ ⟨_, _, _, rfl, Rd.new1 w (s2.hello now k) _ _ _ rfl, Nat.le_refl _⟩ ((Below.refl _ _).alloc (Nat.le_refl _) _)
       simp [go_sem, e73]
      case fin =>
       intro wz hbz
       iterate 12 (rintro _ rfl)
       rintro _ ⟨B7, m7, d7, rfl, hr7, hm7⟩
       refine FinC.nil ?_
       obtain rfl : m7 = 1 := by have := hr7.len; simpa using this.symm
       have HN7 := Lib.hid hr7
       have HBZ := Lib.hid (HBd.out.trans (hbz.mono HBd.out.size))
       have HO7 := Lib.hid (HOd.out.below hbz)
       clear hr7 hm7 hbz
       refine cont_line 13 2 (by kernel_rfl) (by kernel_rfl) (by kernel_rfl) ?_
       change wpList _ _ _ [_, _] _ _
       go_wp2_with (at_builtin; go_loud (refine wp_app (enc := encMsg) (fun _ => rfl) Msg_one rfl (.tmp 62) (.tmp 74) 65 rfl 38 zeroMsg 96 Tryd.underlying65 Tryd.infoMsg rfl (by decide) wc.heap.size A n0 c0_ _ rfl HO7.out B7 1 d7 [s2.hello now k] rfl HN7.out (n0 + 1) rfl _ rfl (by skip; omega) (by skip; omega) HBZ.out.size ?_; intro A8 c8 w8 ho8 hg8 _; have hb8 := HBZ.out.grown hg8 HBZ.out.size (own_block_ge HO7.out)))
       show Cont _ _ _ _ _ _
       refine cont_end (by kernel_rfl) ?_
       have HR8 := Lib.hid (And.intro ho8 hb8)
       clear ho8 hg8 hb8 HBZ HO7 HN7 HD HOd HBd HR
       go_wp2
       go_loopw [8, 10] (fun o j wr => ∃ (jj : Nat) (A1 : Option Addr) (n1 c1_ : Nat), jj ≤ v2.dn ∧ j = .int .i64 jj ∧ o = .slice A1 n1 c1_ ∧ OwnL encMsg 38 12 wr wc.heap.size A1 n1 c1_ (s2.out now k ++ [s2.hello now k] ++ ((s2.done.take jj).filter (· ∉ s2.told)).map (s2.fins k)) ∧ n1 ≤ n0 + 1 + jj ∧ Below wc.heap.size wc wr) (fun _ j _ => v2.dn - (intOf j).toNat)
       case atStart => exact ⟨0, A8, n0 + 1, c8, Nat.zero_le _, rfl, rfl, by simpa using HR8.out.1, Nat.le_refl _, HR8.out.2⟩
       case round =>
        obtain ⟨jj, A1, n1, c1_, hjj, rfl, rfl, ho1, hn1, hb1⟩ := hrel
        have hn1b : n1 ≤ 7000 := by omega
        have x13 : wr.cell? ⟨b, 13, none⟩ = some (.slice v2.da v2.dn v2.dc) := ((H5.out.below hb1).x.cell 13).trans rfl
        have xl := (H5.out.below hb1).x.lt
        by_cases hj : jj < v2.dn
        ·obtain ⟨kb, ko, id, hAe, hid, hcell⟩ := RdI.at_ (HQ5.out.rd.d.below hb1) hj
         have hkb : kb < wr.heap.size := by have h9 := HQ5.out.rd.d.below hb1; rw [hAe] at h9; exact RdI.at_ltS2 h9 hj
         have hft := filter_take_succ (· ∉ s2.told) s2.done jj id hid
         have HF1 := Lib.hid (And.intro ho1 (And.intro hn1 hb1))
         have HFT := Lib.hid hft
         have HCI := Lib.hid (And.intro hcell hkb)
         clear hid hft ho1 hb1 hcell hkb
         go_upto_region 15 with fail
         clear x13 xl
         have HD := Lib.hid (H5.out.below HF1.out.2.2)
         have HRD := Lib.hid (HQ5.out.rd.t.below HF1.out.2.2)
         by_cases ht : id ∈ s2.told
         ·have HTI : Hid (decide (id ∈ s2.told) = true) := Lib.hid (decide_eq_true ht)
          have HL : Hid ((s2.done.take (jj + 1)).filter (· ∉ s2.told) = (s2.done.take jj).filter (· ∉ s2.told)) := Lib.hid (by rw [HFT.out]; simp [ht])
          clear ht
          refine wp_region_autoD 83 [.o (eqV (.pointer (some ⟨b, 14, none⟩))), .o (eqV (.slice v2.ta v2.tn v2.tc)), .o (eqV (.pointer (some ⟨b, 13, none⟩))), .o (eqV (.slice (some ⟨kb, ko, none⟩) v2.dn v2.dc)), .o (eqV (.int .i64 ((jj : Nat) : Int))), .o (eqV (.pointer (some ⟨kb, ko + jj, none⟩))), .o (eqV (.int .i64 id)), .b true, .b false] [false, false, false, false, false, false, false, false, true] (by kernel_rfl) (by kernel_rfl) rfl (by kernel_rfl) (by kernel_rfl) ⟨?_, ?_, ?_, ?_, ?_, ?_, ?_, ?_, trivial⟩ ?fin
          ·intro a w hb hoth hdep
           refine step_on (want_none rfl) ?_
           have e3 : a.tmps[3]? = some (.pointer (some ⟨b, 0, none⟩)) := ev_other hoth 3 (by kernel_rfl) rfl
           refine step_val (x := .pointer (some ⟨b, 14, none⟩)) ?_ rfl
           simp [go_sem, e3]
          ·intro a w hb hoth hdep
           refine step_on (want_none rfl) ?_
           obtain ⟨v0, e83, hv0⟩ := ev_dep hdep 0 83 (by kernel_rfl) (by kernel_rfl)
           replace hv0 : v0 = .pointer (some ⟨b, 14, none⟩) := hv0
           subst hv0
           have x14 : w.cell? ⟨b, 14, none⟩ = some (.slice v2.ta v2.tn v2.tc) := ((HD.out.x.below hb HD.out.x.lt).cell 14).trans rfl
           refine step_val (x := .slice v2.ta v2.tn v2.tc) ?_ rfl
           simp [go_sem, e83, x14]
          ·intro a w hb hoth hdep
           refine step_on (want_none rfl) ?_
           have e3 : a.tmps[3]? = some (.pointer (some ⟨b, 0, none⟩)) := ev_other hoth 3 (by kernel_rfl) rfl
           refine step_val (x := .pointer (some ⟨b, 13, none⟩)) ?_ rfl
           simp [go_sem, e3]
          ·intro a w hb hoth hdep
           refine step_on (want_none rfl) ?_
           obtain ⟨v2, e85, hv2⟩ := ev_dep hdep 2 85 (by kernel_rfl) (by kernel_rfl)
           replace hv2 : v2 = .pointer (some ⟨b, 13, none⟩) := hv2
           subst hv2
           have x13 : w.cell? ⟨b, 13, none⟩ = some (.slice v2.da v2.dn v2.dc) := ((HD.out.x.below hb HD.out.x.lt).cell 13).trans rfl
           rw [hAe] at x13
           refine step_val (x := .slice (some ⟨kb, ko, none⟩) v2.dn v2.dc) ?_ rfl
           simp [go_sem, e85, x13]
          ·intro a w hb hoth hdep
           refine step_on (want_none rfl) ?_
           have e10 : a.tmps[10]? = some (.int .i64 ((jj : Nat) : Int)) := ev_other hoth 10 (by kernel_rfl) rfl
           exact step_val ((BigFrame.run_move _ rfl w).trans (by rw [ev_of e10])) rfl
          ·intro a w hb hoth hdep
           refine step_on (want_none rfl) ?_
           obtain ⟨v3, e86, hv3⟩ := ev_dep hdep 3 86 (by kernel_rfl) (by kernel_rfl)
           replace hv3 : v3 = .slice (some ⟨kb, ko, none⟩) v2.dn v2.dc := hv3
           subst hv3
           obtain ⟨v4, e87, hv4⟩ := ev_dep hdep 4 87 (by kernel_rfl) (by kernel_rfl)
           replace hv4 : v4 = .int .i64 ((jj : Nat) : Int) := hv4
           subst hv4
           refine step_val (x := .pointer (some ⟨kb, ko + jj, none⟩)) ?_ rfl
           simp [go_sem, e86, e87, hj, Tryd.underlying29]
          ·intro a w hb hoth hdep
           refine step_on (want_none rfl) ?_
           obtain ⟨v5, e88, hv5⟩ := ev_dep hdep 5 88 (by kernel_rfl) (by kernel_rfl)
           replace hv5 : v5 = .pointer (some ⟨kb, ko + jj, none⟩) := hv5
           subst hv5
           have ci := ((Below.cell hb (p := ⟨kb, ko + jj, none⟩) HCI.out.2).trans HCI.out.1)
           refine step_val (x := .int .i64 id) ?_ rfl
           simp [go_sem, e88, ci]
          ·intro a w hb hoth hdep
           refine step_on (want_none rfl) ?_
           obtain ⟨v1, e84, hv1⟩ := ev_dep hdep 1 84 (by kernel_rfl) (by kernel_rfl)
           replace hv1 : v1 = .slice v2.ta v2.tn v2.tc := hv1
           subst hv1
           obtain ⟨v6, e89, hv6⟩ := ev_dep hdep 6 89 (by kernel_rfl) (by kernel_rfl)
           replace hv6 : v6 = .int .i64 id := hv6
           subst hv6
           refine step_call (f := 21) (args := #[.slice v2.ta v2.tn v2.tc, .int .i64 id]) ?_ ?_
           ·simp [go_sem, e84, e89]
           ·have hcx := has12 v2.ta v2.tn v2.tc s2.told id w (HRD.out.below hb) (by have := HRD.out.len; omega)
            rw [HTI.out] at hcx
            (with_reducible refine hcx.mono ?_)
            clear hcx
            rintro e w9 ⟨rfl, hw9⟩
            subst hw9
            exact ⟨_, rfl, rfl, Below.refl _ _⟩
          case fin =>
           intro wz hbz
           iterate 9 (rintro _ rfl)
           refine FinC.nil ?_
           have HZB := Lib.hid (And.intro (HF1.out.1.below hbz) (HF1.out.2.2.trans (hbz.mono HF1.out.2.2.size)))
           clear hbz HD HRD
           go_wp2_with fail
           go_roundw
           case rel => exact ⟨jj + 1, A1, n1, c1_, by omega, by go_num, rfl, by rw [HL.out]; exact HZB.out.1, by omega, HZB.out.2⟩
           case measure => simp [intOf]; omega
         ·have HTI : Hid (decide (id ∈ s2.told) = false) := Lib.hid (decide_eq_false ht)
          have HL : Hid ((s2.done.take (jj + 1)).filter (· ∉ s2.told) = (s2.done.take jj).filter (· ∉ s2.told) ++ [id]) := Lib.hid (by rw [HFT.out]; simp [ht])
          clear ht
          refine wp_region_autoD 83 [.o (eqV (.pointer (some ⟨b, 14, none⟩))), .o (eqV (.slice v2.ta v2.tn v2.tc)), .o (eqV (.pointer (some ⟨b, 13, none⟩))), .o (eqV (.slice (some ⟨kb, ko, none⟩) v2.dn v2.dc)), .o (eqV (.int .i64 ((jj : Nat) : Int))), .o (eqV (.pointer (some ⟨kb, ko + jj, none⟩))), .o (eqV (.int .i64 id)), .b false, .b true] [false, false, false, false, false, false, false, false, true] (by kernel_rfl) (by kernel_rfl) rfl (by kernel_rfl) (by kernel_rfl) ⟨?_, ?_, ?_, ?_, ?_, ?_, ?_, ?_, trivial⟩ ?fin
          ·intro a w hb hoth hdep
           refine step_on (want_none rfl) ?_
           have e3 : a.tmps[3]? = some (.pointer (some ⟨b, 0, none⟩)) := ev_other hoth 3 (by kernel_rfl) rfl
           refine step_val (x := .pointer (some ⟨b, 14, none⟩)) ?_ rfl
           simp [go_sem, e3]
          ·intro a w hb hoth hdep
           refine step_on (want_none rfl) ?_
           obtain ⟨v0, e83, hv0⟩ := ev_dep hdep 0 83 (by kernel_rfl) (by kernel_rfl)
           replace hv0 : v0 = .pointer (some ⟨b, 14, none⟩) := hv0
           subst hv0
           have x14 : w.cell? ⟨b, 14, none⟩ = some (.slice v2.ta v2.tn v2.tc) := ((HD.out.x.below hb HD.out.x.lt).cell 14).trans rfl
           refine step_val (x := .slice v2.ta v2.tn v2.tc) ?_ rfl
           simp [go_sem, e83, x14]
          ·intro a w hb hoth hdep
           refine step_on (want_none rfl) ?_
           have e3 : a.tmps[3]? = some (.pointer (some ⟨b, 0, none⟩)) := ev_other hoth 3 (by kernel_rfl) rfl
           refine step_val (x := .pointer (some ⟨b, 13, none⟩)) ?_ rfl
           simp [go_sem, e3]
          ·intro a w hb hoth hdep
           refine step_on (want_none rfl) ?_
           obtain ⟨v2, e85, hv2⟩ := ev_dep hdep 2 85 (by kernel_rfl) (by kernel_rfl)
           replace hv2 : v2 = .pointer (some ⟨b, 13, none⟩) := hv2
           subst hv2
           have x13 : w.cell? ⟨b, 13, none⟩ = some (.slice v2.da v2.dn v2.dc) := ((HD.out.x.below hb HD.out.x.lt).cell 13).trans rfl
           rw [hAe] at x13
           refine step_val (x := .slice (some ⟨kb, ko, none⟩) v2.dn v2.dc) ?_ rfl
           simp [go_sem, e85, x13]
          ·intro a w hb hoth hdep
           refine step_on (want_none rfl) ?_
           have e10 : a.tmps[10]? = some (.int .i64 ((jj : Nat) : Int)) := ev_other hoth 10 (by kernel_rfl) rfl
           exact step_val ((BigFrame.run_move _ rfl w).trans (by rw [ev_of e10])) rfl
          ·intro a w hb hoth hdep
           refine step_on (want_none rfl) ?_
           obtain ⟨v3, e86, hv3⟩ := ev_dep hdep 3 86 (by kernel_rfl) (by kernel_rfl)
           replace hv3 : v3 = .slice (some ⟨kb, ko, none⟩) v2.dn v2.dc := hv3
           subst hv3
           obtain ⟨v4, e87, hv4⟩ := ev_dep hdep 4 87 (by kernel_rfl) (by kernel_rfl)
           replace hv4 : v4 = .int .i64 ((jj : Nat) : Int) := hv4
           subst hv4
           refine step_val (x := .pointer (some ⟨kb, ko + jj, none⟩)) ?_ rfl
           simp [go_sem, e86, e87, hj, Tryd.underlying29]
          ·intro a w hb hoth hdep
           refine step_on (want_none rfl) ?_
           obtain ⟨v5, e88, hv5⟩ := ev_dep hdep 5 88 (by kernel_rfl) (by kernel_rfl)
           replace hv5 : v5 = .pointer (some ⟨kb, ko + jj, none⟩) := hv5
           subst hv5
           have ci := ((Below.cell hb (p := ⟨kb, ko + jj, none⟩) HCI.out.2).trans HCI.out.1)
           refine step_val (x := .int .i64 id) ?_ rfl
           simp [go_sem, e88, ci]
          ·intro a w hb hoth hdep
           refine step_on (want_none rfl) ?_
           obtain ⟨v1, e84, hv1⟩ := ev_dep hdep 1 84 (by kernel_rfl) (by kernel_rfl)
           replace hv1 : v1 = .slice v2.ta v2.tn v2.tc := hv1
           subst hv1
           obtain ⟨v6, e89, hv6⟩ := ev_dep hdep 6 89 (by kernel_rfl) (by kernel_rfl)
           replace hv6 : v6 = .int .i64 id := hv6
           subst hv6
           refine step_call (f := 21) (args := #[.slice v2.ta v2.tn v2.tc, .int .i64 id]) ?_ ?_
           ·simp [go_sem, e84, e89]
           ·have hcx := has12 v2.ta v2.tn v2.tc s2.told id w (HRD.out.below hb) (by have := HRD.out.len; omega)
            rw [HTI.out] at hcx
            (with_reducible refine hcx.mono ?_)
            clear hcx
            rintro e w9 ⟨rfl, hw9⟩
            subst hw9
            exact ⟨_, rfl, rfl, Below.refl _ _⟩
          case fin =>
           intro wz hbz
           iterate 9 (rintro _ rfl)
           refine FinC.nil ?_
           have HZ1 := Lib.hid (HF1.out.1.below hbz)
           have HZ2 := Lib.hid (HF1.out.2.2.trans (hbz.mono HF1.out.2.2.size))
           have HCZ : Hid (wz.cell? ⟨kb, ko + jj, none⟩ = some (.int .i64 id) ∧ kb < wz.heap.size) := Lib.hid ⟨(Below.cell hbz HCI.out.2).trans HCI.out.1, Nat.lt_of_lt_of_le HCI.out.2 hbz.size⟩
           clear hbz HD HRD HCI
           go_upto_region 16 with fail
           refine Cont.start (by kernel_rfl) ?_
           have HD := Lib.hid (H5.out.below (w' := wz.drew) (HZ2.out.drew))
           have HOd := Lib.hid HZ1.out.drew
           have HBd := Lib.hid (HZ2.out.drew)
           have HCI : Hid (wz.drew.cell? ⟨kb, ko + jj, none⟩ = some (.int .i64 id) ∧ kb < wz.drew.heap.size) := Lib.hid HCZ.out
           generalize wz.drew = wd at HD HOd HBd HCI ⊢
           refine cont_free 0 14 92 [] [.o (eqV (.slice A1 n1 c1_)), .o (eqV (.pointer (some ⟨b, 0, none⟩))), .o (eqV (.int .i64 s2.node)), .o (eqV (.int .i64 (100 + s2.node))), .o (eqV (.int .i64 ((k : Nat) : Int))), .o (eqV (.pointer (some ⟨b, 2, none⟩))), .o (eqV (.int .i64 s2.inc)), .o (eqV (.pointer (some ⟨b, 13, none⟩))), .o (eqV (.slice (some ⟨kb, ko, none⟩) v2.dn v2.dc)), .o (eqV (.int .i64 ((jj : Nat) : Int))), .o (eqV (.pointer (some ⟨kb, ko + jj, none⟩))), .o (eqV (.int .i64 id)), .o (eqV (aggMsg (s2.fins k id))), .o (rdV encMsg 12 [s2.fins k id] 1)] [false, false, false, false, false, false, false, false, false, false, false, false, false, false] (by kernel_rfl) (by kernel_rfl) (by kernel_rfl) (by kernel_rfl) (by kernel_rfl) (by kernel_rfl) (by kernel_rfl) rfl (by kernel_rfl) (by kernel_rfl) ⟨?_, ?_, ?_, ?_, ?_, ?_, ?_, ?_, ?_, ?_, ?_, ?_, ?_, ?_, trivial⟩ ?fin
           ·intro a w hb hoth hdep
            refine step_on (want_none rfl) ?_
            have e8 : a.tmps[8]? = some (.slice A1 n1 c1_) := ev_seg hoth 8 (by kernel_rfl) rfl
            exact step_val ((BigFrame.run_move _ rfl w).trans (by rw [ev_of e8])) rfl
           ·intro a w hb hoth hdep
            refine step_on (want_none rfl) ?_
            have e3 : a.tmps[3]? = some (.pointer (some ⟨b, 0, none⟩)) := ev_seg hoth 3 (by kernel_rfl) rfl
            refine step_val (x := .pointer (some ⟨b, 0, none⟩)) ?_ rfl
            simp [go_sem, e3]
           ·intro a w hb hoth hdep
            refine step_on (want_none rfl) ?_
            obtain ⟨v1, e93, hv1⟩ := ev_dep hdep 1 93 (by kernel_rfl) (by kernel_rfl)
            replace hv1 : v1 = .pointer (some ⟨b, 0, none⟩) := hv1
            subst hv1
            have x0 : w.cell? ⟨b, 0, none⟩ = some (.int .i64 s2.node) := ((HD.out.x.below hb HD.out.x.lt).cell 0).trans rfl
            refine step_val (x := .int .i64 s2.node) ?_ rfl
            simp [go_sem, e93, x0]
           ·intro a w hb hoth hdep
            refine step_on (want_none rfl) ?_
            obtain ⟨v2, e94, hv2⟩ := ev_dep hdep 2 94 (by kernel_rfl) (by kernel_rfl)
            replace hv2 : v2 = .int .i64 s2.node := hv2
            subst hv2
            refine step_val (x := .int .i64 (100 + s2.node)) ?_ rfl
            simp [go_sem, e94, twr]
           ·intro a w hb hoth hdep
            refine step_on (want_none rfl) ?_
            have e9 : a.tmps[9]? = some (.int .i64 ((k : Nat) : Int)) := ev_seg hoth 9 (by kernel_rfl) rfl
            exact step_val ((BigFrame.run_move _ rfl w).trans (by rw [ev_of e9])) rfl
           ·intro a w hb hoth hdep
            refine step_on (want_none rfl) ?_
            have e3 : a.tmps[3]? = some (.pointer (some ⟨b, 0, none⟩)) := ev_seg hoth 3 (by kernel_rfl) rfl
            refine step_val (x := .pointer (some ⟨b, 2, none⟩)) ?_ rfl
            simp [go_sem, e3]
           ·intro a w hb hoth hdep
            refine step_on (want_none rfl) ?_
            obtain ⟨v5, e97, hv5⟩ := ev_dep hdep 5 97 (by kernel_rfl) (by kernel_rfl)
            replace hv5 : v5 = .pointer (some ⟨b, 2, none⟩) := hv5
            subst hv5
            have x2 : w.cell? ⟨b, 2, none⟩ = some (.int .i64 s2.inc) := ((HD.out.x.below hb HD.out.x.lt).cell 2).trans rfl
            refine step_val (x := .int .i64 s2.inc) ?_ rfl
            simp [go_sem, e97, x2]
           ·intro a w hb hoth hdep
            refine step_on (want_none rfl) ?_
            have e3 : a.tmps[3]? = some (.pointer (some ⟨b, 0, none⟩)) := ev_seg hoth 3 (by kernel_rfl) rfl
            refine step_val (x := .pointer (some ⟨b, 13, none⟩)) ?_ rfl
            simp [go_sem, e3]
           ·intro a w hb hoth hdep
            refine step_on (want_none rfl) ?_
            obtain ⟨v7, e99, hv7⟩ := ev_dep hdep 7 99 (by kernel_rfl) (by kernel_rfl)
            replace hv7 : v7 = .pointer (some ⟨b, 13, none⟩) := hv7
            subst hv7
            have x13 : w.cell? ⟨b, 13, none⟩ = some (.slice v2.da v2.dn v2.dc) := ((HD.out.x.below hb HD.out.x.lt).cell 13).trans rfl
            rw [hAe] at x13
            refine step_val (x := .slice (some ⟨kb, ko, none⟩) v2.dn v2.dc) ?_ rfl
            simp [go_sem, e99, x13]
           ·intro a w hb hoth hdep
            refine step_on (want_none rfl) ?_
            have e10 : a.tmps[10]? = some (.int .i64 ((jj : Nat) : Int)) := ev_seg hoth 10 (by kernel_rfl) rfl
            exact step_val ((BigFrame.run_move _ rfl w).trans (by rw [ev_of e10])) rfl
           ·intro a w hb hoth hdep
            refine step_on (want_none rfl) ?_
            obtain ⟨v8, e100, hv8⟩ := ev_dep hdep 8 100 (by kernel_rfl) (by kernel_rfl)
            replace hv8 : v8 = .slice (some ⟨kb, ko, none⟩) v2.dn v2.dc := hv8
            subst hv8
            obtain ⟨v9, e101, hv9⟩ := ev_dep hdep 9 101 (by kernel_rfl) (by kernel_rfl)
            replace hv9 : v9 = .int .i64 ((jj : Nat) : Int) := hv9
            subst hv9
            refine step_val (x := .pointer (some ⟨kb, ko + jj, none⟩)) ?_ rfl
            simp [go_sem, e100, e101, hj, Tryd.underlying29]
           ·intro a w hb hoth hdep
            refine step_on (want_none rfl) ?_
            obtain ⟨v10, e102, hv10⟩ := ev_dep hdep 10 102 (by kernel_rfl) (by kernel_rfl)
            replace hv10 : v10 = .pointer (some ⟨kb, ko + jj, none⟩) := hv10
            subst hv10
            have ci := ((Below.cell hb (p := ⟨kb, ko + jj, none⟩) HCI.out.2).trans HCI.out.1)
            refine step_val (x := .int .i64 id) ?_ rfl
            simp [go_sem, e102, ci]
           ·intro a w hb hoth hdep
            refine step_on (want_none rfl) ?_
            obtain ⟨v3, e95, hv3⟩ := ev_dep hdep 3 95 (by kernel_rfl) (by kernel_rfl)
            replace hv3 : v3 = .int .i64 (100 + s2.node) := hv3
            subst hv3
            obtain ⟨v4, e96, hv4⟩ := ev_dep hdep 4 96 (by kernel_rfl) (by kernel_rfl)
            replace hv4 : v4 = .int .i64 ((k : Nat) : Int) := hv4
            subst hv4
            obtain ⟨v6, e98, hv6⟩ := ev_dep hdep 6 98 (by kernel_rfl) (by kernel_rfl)
            replace hv6 : v6 = .int .i64 s2.inc := hv6
            subst hv6
            obtain ⟨v11, e103, hv11⟩ := ev_dep hdep 11 103 (by kernel_rfl) (by kernel_rfl)
            replace hv11 : v11 = .int .i64 id := hv11
            subst hv11
            refine step_val (x := aggMsg (s2.fins k id)) ?_ rfl
            simp [go_sem, e95, e96, e98, e103, aggMsg, WS.fins]
           ·intro a w hb hoth hdep
            refine step_on (want_none rfl) ?_
            obtain ⟨v12, e104, hv12⟩ := ev_dep hdep 12 104 (by kernel_rfl) (by kernel_rfl)
            replace hv12 : v12 = aggMsg (s2.fins k id) := hv12
            subst hv12
            refine step_new (x := .slice (some ⟨w.heap.size, 0, none⟩) 1 1) (w' := w.alloc (.cells (boxMsg (s2.fins k id)) 38)) ?_ ⟨_, _, _, rfl, Rd.new1 w (s2.fins k id) _ _ _ rfl, Nat.le_refl _⟩ ((Below.refl _ _).alloc (Nat.le_refl _) _)
            simp [go_sem, e104]
           case fin =>
            intro wy hby
            iterate 13 (rintro _ rfl)
            rintro _ ⟨B7, m7, d7, rfl, hr7, hm7⟩
            refine FinC.nil ?_
            obtain rfl : m7 = 1 := by have := hr7.len; simpa using this.symm
            have HN7 := Lib.hid hr7
            have HBZ := Lib.hid (HBd.out.trans (hby.mono HBd.out.size))
            have HO7 := Lib.hid (HOd.out.below hby)
            clear hr7 hm7 hby
            refine cont_line 14 2 (by kernel_rfl) (by kernel_rfl) (by kernel_rfl) ?_
            change wpList _ _ _ [_, _] _ _
            go_wp2_with (at_builtin; go_loud (refine wp_app (enc := encMsg) (fun _ => rfl) Msg_one rfl (.tmp 92) (.tmp 105) 65 rfl 38 zeroMsg 96 Tryd.underlying65 Tryd.infoMsg rfl (by decide) wc.heap.size A1 n1 c1_ _ rfl HO7.out B7 1 d7 [s2.fins k id] rfl HN7.out (n1 + 1) rfl _ rfl (by skip; omega) (by skip; omega) HBZ.out.size ?_; intro A8 c8 w8 ho8 hg8 _; have hb8 := HBZ.out.grown hg8 HBZ.out.size (own_block_ge HO7.out)))
            show Cont _ _ _ _ _ _
            refine cont_end (by kernel_rfl) ?_
            have HR9 := Lib.hid (And.intro ho8 hb8)
            clear ho8 hg8 hb8 HBZ HO7 HN7 HD HOd HBd HZ1 HZ2 HCZ HCI
            go_wp2
            go_roundw
            case rel => exact ⟨jj + 1, A8, n1 + 1, c8, by omega, by go_num, rfl, by rw [HL.out, List.map_append, ← List.append_assoc]; exact HR9.out.1, by have := HF1.out.2.1; omega, HR9.out.2⟩
            case measure => simp [intOf]; omega
        ·have hjn : jj = v2.dn := by omega
         have hta : s2.done.take jj = s2.done := List.take_of_length_le (by rw [HQ5.out.rd.d.len]; omega)
         rw [hta] at ho1
         have HF1 := Lib.hid (And.intro ho1 hb1)
         clear ho1 hb1 hta
         go_wp2_with fail
         clear x13 xl
         go_roundw
         case rel => exact ⟨k + 1, A1, n1, c1_, by omega, by go_num, rfl, by rw [WS.out_succ]; unfold WS.says; simpa using HF1.out.1, HF1.out.2, by omega⟩
         case measure => simp [intOf]; omega
     ·have hkn : k = N := by omega
      subst hkn
      have HF := Lib.hid (And.intro ho hbr)
      have H9 := Lib.hid (H5.out.below hbr)
      clear ho hbr
      have hkc : ((k : Int) < n ∧ ¬ (k : Int) < 5) ∨ ¬ (k : Int) < n := by omega
      rcases hkc with ⟨hc1, hc2⟩ | hc1
      ·have hk1 : decide ((k : Int) < n) = true := decide_eq_true hc1
       have hk2 : decide ((k : Int) < 5) = false := decide_eq_false hc2
       clear hc1 hc2
       go_wp2_with (first | (refine loadR rfl (.tmp 3) rfl rfl (s := s2) (v := v2) H9.out.x ?_) | (refine storeR rfl rfl (.tmp 6) (.tmp 107) rfl rfl (s := s2) (v := v2) rfl H9.out.r rfl ?_; intro w9 hb9 hk9 hs9))
       have HE := Lib.hid (H9.out.done hk9)
       have HO9 := Lib.hid (OwnL.boxed HF.out.1 H9.out.r hk9)
       have HQ9 := Lib.hid ((HQ5.out.below HF.out.2).box HRR.out hk9 (by have := HS.out; omega) (by have := HS.out; omega))
       obtain ⟨x0, x1, x2, x3, x4, x5, x6, x7, x8, x9, x10, x11, x12, x13, x14⟩ := rCells hb9
       clear hk9 hs9 hb9
       refine bodyPost_ret (v := .tuple #[aggR s2 v2, .slice A n0 c0_]) (by simp [results, Tryd.results35, go_sem, x0, x1, x2, x3, x4, x5, x6, x7, x8, x9, x10, x11, x12, x13, x14]) rfl ?_
       refine ⟨v2, A, n0, c0_, by rw [HST.out], ?_, by rw [HST.out]; exact HQ9.out.rd, HQ9.out.rt.mono HS.out.2.2 (Nat.le_refl _), HE.out⟩
       rw [HST.out, hN]
       exact HO9.out.lower H5.out.bel.size
      ·have hk1 : decide ((k : Int) < n) = false := decide_eq_false hc1
       clear hc1
       go_wp2_with (first | (refine loadR rfl (.tmp 3) rfl rfl (s := s2) (v := v2) H9.out.x ?_) | (refine storeR rfl rfl (.tmp 6) (.tmp 107) rfl rfl (s := s2) (v := v2) rfl H9.out.r rfl ?_; intro w9 hb9 hk9 hs9))
       have HE := Lib.hid (H9.out.done hk9)
       have HO9 := Lib.hid (OwnL.boxed HF.out.1 H9.out.r hk9)
       have HQ9 := Lib.hid ((HQ5.out.below HF.out.2).box HRR.out hk9 (by have := HS.out; omega) (by have := HS.out; omega))
       obtain ⟨x0, x1, x2, x3, x4, x5, x6, x7, x8, x9, x10, x11, x12, x13, x14⟩ := rCells hb9
       clear hk9 hs9 hb9
       refine bodyPost_ret (v := .tuple #[aggR s2 v2, .slice A n0 c0_]) (by simp [results, Tryd.results35, go_sem, x0, x1, x2, x3, x4, x5, x6, x7, x8, x9, x10, x11, x12, x13, x14]) rfl ?_
       refine ⟨v2, A, n0, c0_, by rw [HST.out], ?_, by rw [HST.out]; exact HQ9.out.rd, HQ9.out.rt.mono HS.out.2.2 (Nat.le_refl _), HE.out⟩
       rw [HST.out, hN]
       exact HO9.out.lower H5.out.bel.size
end Go.Proofs.YthhnocnkicoimaaDoor
