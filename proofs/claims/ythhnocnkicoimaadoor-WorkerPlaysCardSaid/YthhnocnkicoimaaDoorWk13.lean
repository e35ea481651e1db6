/-
 LAYER 39 (worker): awake.
 LAYER 39 (worker): what the law WorkerFenced keeps.
-/
import Derived.Test.YthhnocnkicoimaaDoorWk11
import Derived.Test.YthhnocnkicoimaaDoorLd39
set_option linter.unusedVariables false
set_option linter.unusedSimpArgs false
namespace Go.Proofs.YthhnocnkicoimaaDoor
open Go.RowKit Go.Maps

set_option maxRecDepth 100000 in
set_option maxHeartbeats 3200000 in
theorem awake39 (w : World) (hw : WaysAt w) : Calls Tryd.prog 22 #[] w fun e w' => e = .returned (.bool true) ∧ Below w.heap.size w w' := by
 obtain ⟨q, hq⟩ : ∃ q : LMsg, q = ⟨1, 102, 0, 0, 1, 0, 3, 0, 0, ⟨4, 4, 4⟩⟩ := ⟨_, rfl⟩
 obtain ⟨s1, hs1⟩ : ∃ s1 : WS, s1 = ⟨0, 2, 5, 1, 0, 4, ⟨4, 4, 4⟩, true, [], [], []⟩ := ⟨_, rfl⟩
 obtain ⟨s2, hs2⟩ : ∃ s2 : WS, s2 = ⟨2, 2, 5, 1, 8, 4, ⟨4, 4, 4⟩, true, [], [], []⟩ := ⟨_, rfl⟩
 obtain ⟨s3, hs3⟩ : ∃ s3 : WS, s3 = ⟨2, 2, 5, 1, 8, 4, ⟨4, 4, 4⟩, true, [7], [], []⟩ := ⟨_, rfl⟩
 obtain ⟨s4, hs4⟩ : ∃ s4 : WS, s4 = ⟨2, 2, 5, 2, 0, 9, ⟨4, 4, 4⟩, true, [], [], []⟩ := ⟨_, rfl⟩
 have a1 : (WS.made 2 5 ⟨4, 4, 4⟩).tick 3 = s1 := by subst hs1; decide +kernel
 have a2 : s1.out 3 (min 1 5 : Int).toNat = [q] := by subst hs1 hq; decide +kernel
 have a3 : s1.hear 4 ⟨2, 0, 102, 2, 1, 0, 3, 0, 0, ⟨0, 0, 0⟩⟩ = (s2, true) := by subst hs1 hs2; decide +kernel
 have a4 : s2.hear 5 ⟨3, 0, 102, 2, 1, 7, 0, 0, 0, ⟨0, 0, 0⟩⟩ = (s3, true) := by subst hs3 hs2; decide +kernel
 have a5 : s3.hear 5 ⟨3, 1, 102, 1, 1, 8, 0, 0, 0, ⟨0, 0, 0⟩⟩ = (s3, false) := by subst hs3; decide +kernel
 have a6 : s3.tick 8 = s4 := by subst hs3 hs4; decide +kernel
 have f1 : 0 ≤ s1.node ∧ s1.node ≤ 15 ∧ s1.held.length ≤ 1000000 ∧ s1.told.length ≤ 1000000 := by subst hs1; decide
 have f2 : 0 ≤ s2.node ∧ s2.node ≤ 15 ∧ s2.held.length ≤ 1000000 ∧ s2.told.length ≤ 1000000 := by subst hs2; decide
 have f3 : 0 ≤ s3.node ∧ s3.node ≤ 15 ∧ s3.held.length ≤ 1000000 ∧ s3.told.length ≤ 1000000 := by subst hs3; decide
 have f3b : s3.up = true ∧ (0 ≤ s3.inc ∧ s3.inc ≤ 2147483647) ∧ (0 ≤ s3.until_ ∧ 0 ≤ s3.first ∧ s3.first ≤ 2199023255552 ∧ 0 < s3.span ∧ s3.span ≤ 64) ∧ s3.done.length ≤ 1000 ∧ s3.held = [7] ∧ s3.inc = 1 ∧ s3.until_ = 8 ∧ s3.epoch = 2 := by subst hs3; decide
 have f4 : s4.held = [] ∧ s4.live 8 = false := by subst hs4; decide
 have HQ := Lib.hid hq
 have HA := Lib.hid (And.intro a1 (And.intro a2 (And.intro a3 (And.intro a4 (And.intro a5 a6)))))
 have HG := Lib.hid (And.intro f1 (And.intro f2 (And.intro f3 (And.intro f3b f4))))
 have HW := Lib.hid hw
 clear hq hs1 hs2 hs3 hs4 a1 a2 a3 a4 a5 a6 f1 f2 f3 f3b f4 hw
 go_enter Tryd.func22, Tryd.ntmps22
 go_wp2_with fail
 have hcx := wkNew (w := w) 2 5 ⟨4, 4, 4⟩ (by decide) (by decide) (by decide)
 (with_reducible refine hcx.mono ?_)
 clear hcx
 rintro e w1 ⟨c, v, rfl, hw1, hs, hb⟩
 have HI1 : Hid (WI w w1 c (WS.made 2 5 ⟨4, 4, 4⟩) none 0 0 [] none 0 0 []) := Lib.hid ⟨⟨v, hw1, hs⟩, OwnL.nil _ _, OwnL.nil _ _, hb⟩
 clear hw1 hs hb
 go_wp2_with fail
 have hcx := HI1.out.tick 3 1 rfl (by decide) (by decide) (by decide) (by decide) s1 HA.out.1 [q] HA.out.2.1
 (with_reducible refine hcx.mono ?_)
 clear hcx
 rintro e w2 ⟨A, n, ca, rfl, h2, ho⟩
 have HI2 : Hid (WI w w2 c s1 A n ca [q] none 0 0 []) := Lib.hid ⟨h2.ob, ho, h2.obb, h2.bel⟩
 clear h2 ho HI1
 go_wp2_with fail
 have hcx := HI2.out.hear HW.out ⟨HG.out.1.1, HG.out.1.2.1⟩ 4 ⟨2, 0, 102, 2, 1, 0, 3, 0, 0, ⟨0, 0, 0⟩⟩ (by decide) (by decide) HG.out.1.2.2.1 HG.out.1.2.2.2 s2 true HA.out.2.2.1
 (with_reducible refine hcx.mono ?_)
 clear hcx
 rintro e w3 ⟨rfl, h3⟩
 have HI3 := Lib.hid h3
 clear h3 HI2
 go_wp2_with fail
 have hcx := HI3.out.hear HW.out ⟨HG.out.2.1.1, HG.out.2.1.2.1⟩ 5 ⟨3, 0, 102, 2, 1, 7, 0, 0, 0, ⟨0, 0, 0⟩⟩ (by decide) (by decide) HG.out.2.1.2.2.1 HG.out.2.1.2.2.2 s3 true HA.out.2.2.2.1
 (with_reducible refine hcx.mono ?_)
 clear hcx
 rintro e w4 ⟨rfl, h4⟩
 have HI4 := Lib.hid h4
 clear h4 HI3
 go_wp2_with fail
 have hcx := HI4.out.hear HW.out ⟨HG.out.2.2.1.1, HG.out.2.2.1.2.1⟩ 5 ⟨3, 1, 102, 1, 1, 8, 0, 0, 0, ⟨0, 0, 0⟩⟩ (by decide) (by decide) HG.out.2.2.1.2.2.1 HG.out.2.2.1.2.2.2 s3 false HA.out.2.2.2.2.1
 (with_reducible refine hcx.mono ?_)
 clear hcx
 rintro e w5 ⟨rfl, h5⟩
 have HI5 := Lib.hid h5
 clear h5 HI4
 go_wp2_with fail
 obtain ⟨v5, hv5, _⟩ := HI5.out.ob
 have hcx := wkHeld hv5 (by rw [HG.out.2.2.2.1.2.2.2.2.1]; decide)
 rw [HG.out.2.2.2.1.2.2.2.2.1] at hcx
 (with_reducible refine hcx.mono ?_)
 clear hcx hv5
 rintro e w6 ⟨B, m, cb, rfl, ho6, hb6⟩
 have h6 := HI5.out.then hb6
 have HI6 : Hid (WI w w6 c s3 A n ca [q] B m cb [7]) := Lib.hid ⟨h6.ob, h6.oa, ho6.lower (Nat.zero_le _), h6.bel⟩
 clear h6 ho6 hb6 HI5
 go_wp2_with fail
 obtain ⟨v6, hv6, _⟩ := HI6.out.ob
 have hcx := wkInfo hv6 (HG.out.2.2.2.1.2.2.1.2.2.2.1)
 rw [HG.out.2.2.2.1.2.2.2.2.2.1, HG.out.2.2.2.1.2.2.2.2.2.2.1, HG.out.2.2.2.1.2.2.2.2.2.2.2] at hcx
 (with_reducible refine hcx.mono ?_)
 clear hcx hv6
 rintro e w7 ⟨rfl, hb7⟩
 have HI7 := Lib.hid (HI6.out.then hb7)
 clear hb7 HI6
 go_wp2_with fail
 have hcx := HI7.out.tick 8 1 HG.out.2.2.2.1.1 HG.out.2.2.2.1.2.1 HG.out.2.2.2.1.2.2.1 ⟨HG.out.2.2.1.1, HG.out.2.2.1.2.1⟩ HG.out.2.2.2.1.2.2.2.1 s4 HA.out.2.2.2.2.2 _ rfl
 (with_reducible refine hcx.mono ?_)
 clear hcx
 rintro e w8 ⟨A8, n8, ca8, rfl, h8, _⟩
 have HI8 := Lib.hid h8
 clear h8 HI7
 have hn : n ≤ 10 := by have := HI8.out.oa.len; simp at this; omega
 have hm : m ≤ 10 := by have := HI8.out.obb.len; simp at this; omega
 go_wp2_with fail
 have hlit : Rd encMsg 12 (w8.alloc (.cells #[.int .i64 1, .int .i64 102, .int .i64 0, .int .i64 0, .int .i64 1, .int .i64 0, .int .i64 3, .int .i64 0, .int .i64 0, .int .i64 4, .int .i64 4, .int .i64 4] 38)) (some ⟨w8.heap.size, 0, none⟩) 1 [q] := Rd.new1 _ _ _ _ _ (by rw [HQ.out]; rfl)
 have hcx := sameM_t A (some ⟨w8.heap.size, 0, none⟩) n ca 1 1 [q] _ ((HI8.out.oa.rd (enc := encMsg) (sz := 12) (fun _ => rfl)).below ((Below.refl _ _).alloc (Nat.le_refl _) _)) hlit (by omega)
 (with_reducible refine hcx.mono ?_)
 clear hcx hlit
 rintro e w9 ⟨rfl, hb9⟩
 have HI9 := Lib.hid (HI8.out.then (((Below.refl w8.heap.size w8).alloc (Nat.le_refl _) (.cells #[.int .i64 1, .int .i64 102, .int .i64 0, .int .i64 0, .int .i64 1, .int .i64 0, .int .i64 3, .int .i64 0, .int .i64 0, .int .i64 4, .int .i64 4, .int .i64 4] 38)).trans (hb9.mono (by simp))))
 clear hb9 HI8
 go_wp2_with fail
 have hcx := same01_t B (some ⟨w9.heap.size, 0, none⟩) m cb 1 1 [7] (w9.alloc (.cells #[.int .i64 7] 3)) ((HI9.out.obb.rd (enc := encI) (sz := 1) (fun _ => rfl)).below ((Below.refl _ _).alloc (Nat.le_refl _) _)) (RdI.lit39 w9 w9.heap.size rfl _ _ _ [7] rfl) (by omega) (by omega)
 (with_reducible refine hcx.mono ?_)
 clear hcx
 rintro e w10 ⟨rfl, q10, rfl⟩
 have HI10 := Lib.hid (HI9.out.then (w' := (w9.alloc (.cells #[.int .i64 7] 3)).drewN q10) (((Below.refl _ _).alloc (Nat.le_refl _) _).trans (below_dN39 q10)))
 generalize (w9.alloc (.cells #[.int .i64 7] 3)).drewN q10 = w10 at HI10 ⊢
 go_wp2_with fail
 obtain ⟨v10, hv10, _⟩ := HI10.out.ob
 have hcx := wkHeld hv10 (by rw [HG.out.2.2.2.2.1]; decide)
 rw [HG.out.2.2.2.2.1] at hcx
 (with_reducible refine hcx.mono ?_)
 clear hcx hv10
 rintro e w11 ⟨B11, m11, cb11, rfl, ho11, hb11⟩
 have hm11 : m11 = 0 := by have := ho11.len; simpa using this.symm
 subst hm11
 have HI11 := Lib.hid (HI10.out.then hb11)
 clear ho11 hb11
 go_wp2_with fail
 obtain ⟨v11, hv11, _⟩ := HI11.out.ob
 have hcx := wkLive hv11 8
 rw [HG.out.2.2.2.2.2] at hcx
 (with_reducible refine hcx.mono ?_)
 clear hcx hv11
 rintro e w12 ⟨rfl, hw12⟩
 have HF := Lib.hid HI11.out.bel
 subst hw12
 go_wp2
 go_ret
 exact ⟨rfl, HF.out⟩
end Go.Proofs.YthhnocnkicoimaaDoor
namespace Go.Proofs.YthhnocnkicoimaaDoor
open Go.RowKit Go.Maps

theorem putR_len39 (l : List Int) (x : Int) : (putR l x).length ≤ l.length + 1 := by
 have := (length_markAll_le l [x]).2
 simpa [markAll] using this
structure FN (s : WS) (now last : Int) (told : List Int) (k : Nat) : Prop where
 node : s.node = 2
 span : s.span = 6
 inc : 0 ≤ s.inc ∧ s.inc ≤ 1 + k
 un : 0 ≤ s.until_
 fi : 0 ≤ s.first ∧ s.first ≤ 1099511627777
 la : last ≤ s.epoch
 nw : 0 ≤ now ∧ now ≤ 2 * k
 sub : ∀ x ∈ s.held, x ∈ told
 down : s.up = false → s.held = []
 dis : ∀ x ∈ s.held, x ∉ s.done
 hl : s.held.length ≤ k
 dl : s.done.length ≤ k
 tl : s.told.length ≤ k
 ml : told.length ≤ k
/-- What an act came to. -/
structure FS (s s' : WS) (now last : Int) (told : List Int) (k : Nat) : Prop where
 fn : FN s' now last told (k + 1)
 inc : s.inc ≤ s'.inc
 emp : (s'.inc ≠ s.inc ∨ s'.up = false) → s'.held = []
 over : s'.inc = s.inc → ∀ x ∈ s'.held, x ∉ s.done
section
variable {s s' : WS} {now last : Int} {told : List Int} {k : Nat}
theorem FN.same (h : FN s now last told k) {now' : Int} (hn : 0 ≤ now' ∧ now' ≤ 2 * (k + 1)) : FS s s now' last told k :=
 ⟨⟨h.node, h.span, ⟨h.inc.1, by have := h.inc.2; omega⟩, h.un, h.fi, h.la, by have := hn; omega, h.sub, h.down, h.dis, Nat.le_succ_of_le h.hl, Nat.le_succ_of_le h.dl, Nat.le_succ_of_le h.tl, Nat.le_succ_of_le h.ml⟩, Int.le_refl _, fun e => e.elim (fun e => (e rfl).elim) h.down, fun _ => h.dis⟩
theorem FN.nowup (h : FN s now last told k) : 0 ≤ now ∧ now ≤ 2 * ((k : Int) + 1) := ⟨h.nw.1, by have := h.nw.2; omega⟩
/-- All is gone, in a new incarnation or none. -/
theorem FN.gone (h : FN s now last told k) {now' : Int} (hn : 0 ≤ now' ∧ now' ≤ 2 * ((k : Int) + 1)) (hnode : s'.node = s.node) (hspan : s'.span = s.span) (hi : s.inc ≤ s'.inc ∧ s'.inc ≤ s.inc + 1) (hu : 0 ≤ s'.until_) (hf : 0 ≤ s'.first ∧ s'.first ≤ 1099511627777) (he : s'.epoch = s.epoch) (h1 : s'.held = []) (h2 : s'.done = []) (h3 : s'.told = []) : FS s s' now' last told k :=
 ⟨⟨hnode.trans h.node, hspan.trans h.span, by have := h.inc; omega, hu, hf, by rw [he]; exact h.la, by omega, by rw [h1]; simp, fun _ => h1, by rw [h1]; simp, by rw [h1]; simp, by rw [h2]; simp, by rw [h3]; simp, Nat.le_succ_of_le h.ml⟩, hi.1, fun _ => h1, fun _ => by rw [h1]; simp⟩
theorem tickI_le (now : Int) : 0 ≤ tickI now ∧ tickI now ≤ 1099511627776 := by unfold tickI spanI; omega
theorem FN.tick (h : FN s now last told k) (hk9 : k ≤ 900) {now' : Int} (hn : 0 ≤ now' ∧ now' ≤ 2 * ((k : Int) + 1)) : FS s (s.tick now') now' last told k := by
 have ht := tickI_le now'
 unfold WS.tick WS.tick1
 split
 ·have hi : min (s.inc + 1) 2147483647 ≤ s.inc + 1 ∧ s.inc ≤ min (s.inc + 1) 2147483647 := by have := h.inc; omega
  unfold WS.tick2
  split
  ·exact h.gone hn rfl rfl ⟨hi.2, hi.1⟩ (Int.le_refl 0) ⟨by show 0 ≤ tickI now' + 1; omega, by show tickI now' + 1 ≤ _; omega⟩ rfl rfl rfl rfl
  ·exact h.gone hn rfl rfl ⟨hi.2, hi.1⟩ (Int.le_refl 0) ⟨Int.le_refl 0, by show (0 : Int) ≤ _; omega⟩ rfl rfl rfl rfl
 ·have hs := h.same (now' := now') (by omega)
  unfold WS.tick2
  split
  ·exact ⟨⟨hs.fn.node, hs.fn.span, hs.fn.inc, hs.fn.un, ⟨by show 0 ≤ tickI now' + 1; omega, by show tickI now' + 1 ≤ _; omega⟩, hs.fn.la, hs.fn.nw, hs.fn.sub, hs.fn.down, hs.fn.dis, hs.fn.hl, hs.fn.dl, hs.fn.tl, hs.fn.ml⟩, hs.inc, hs.emp, hs.over⟩
  ·exact hs
theorem tick_dead (hn : 0 < s.until_) (hle : s.until_ ≤ now) : (s.tick now).live now = false ∧ (s.tick now).held = [] := by
 have hl : s.late now = true := by unfold WS.late; simp [hn, hle]
 unfold WS.tick WS.tick1
 rw [hl, if_pos rfl]
 unfold WS.tick2 WS.live
 have h0 : ¬ now < 0 := by omega
 split
 ·exact ⟨by show (s.up && decide (now < 0)) = false; simp [h0], rfl⟩
 ·exact ⟨by show (s.up && decide (now < 0)) = false; simp [h0], rfl⟩
theorem FN.mod (h : FN s now last told k) {told' : List Int} {last' : Int} (h1 : s'.node = s.node) (h2 : s'.span = s.span) (h3 : s'.inc = s.inc) (h4 : s'.first = s.first) (h5 : s'.up = s.up) (hd : ∀ x ∈ s'.held, x ∉ s'.done) (hdl : s'.done.length ≤ k + 1) (hun : 0 ≤ s'.until_) (hla : last' ≤ s'.epoch) (hsub : ∀ x ∈ s'.held, x ∈ told') (hdis : ∀ x ∈ s'.held, x ∉ s.done) (hdown : s.up = false → s'.held = []) (hl : s'.held.length ≤ k + 1) (htl : s'.told.length ≤ k + 1) (hml : told'.length ≤ k + 1) : FS s s' now last' told' k :=
 ⟨⟨h1.trans h.node, h2.trans h.span, by rw [h3]; have := h.inc; omega, hun, by rw [h4]; exact h.fi, hla, by have := h.nw; omega, hsub, by rw [h5]; exact hdown, hd, hl, hdl, htl, hml⟩, by rw [h3]; exact Int.le_refl _, fun e => e.elim (fun e => (e h3).elim) (fun e => hdown (by rw [← h5]; exact e)), fun _ => hdis⟩
theorem FN.fin (h : FN s now last told k) (job : Int) (hu : s.up = true) : FS s (s.fin job) now last told k := by
 have hsub : ∀ x ∈ (s.fin job).held, x ∈ s.held ∧ x ≠ job := fun x hx => by
  have := List.mem_filter.1 (show x ∈ s.held.filter (· != job) from hx)
  exact ⟨this.1, by simpa using this.2⟩
 refine h.mod rfl rfl rfl rfl rfl (fun x hx => ?_) (Nat.le_trans (putR_len39 _ _) (Nat.succ_le_succ h.dl)) h.un h.la (fun x hx => h.sub x (hsub x hx).1) (fun x hx => h.dis x (hsub x hx).1) (fun e => by rw [hu] at e; cases e) (Nat.le_trans (List.length_filter_le _ _) (Nat.le_succ_of_le h.hl)) (Nat.le_succ_of_le h.tl) (Nat.le_succ_of_le h.ml)
 intro hd
 rcases (mem_putR _ _ _).1 (show x ∈ putR s.done job from hd) with e | e
 ·exact (hsub x hx).2 e
 ·exact h.dis x (hsub x hx).1 e
theorem FN.crash (h : FN s now last told k) : FS s s.crash now last told k :=
 h.gone h.nowup rfl rfl ⟨Int.le_refl _, by show s.inc ≤ s.inc + 1; omega⟩ (Int.le_refl 0) ⟨Int.le_refl 0, by show (0 : Int) ≤ _; omega⟩ rfl rfl rfl rfl
theorem FN.boot (h : FN s now last told k) (hk9 : k ≤ 900) : FS s s.boot now last told k := by
 have hi : min (s.inc + 1) 2147483647 ≤ s.inc + 1 ∧ s.inc ≤ min (s.inc + 1) 2147483647 := by have := h.inc; omega
 exact h.gone h.nowup rfl rfl ⟨hi.2, hi.1⟩ (Int.le_refl 0) ⟨Int.le_refl 0, by show (0 : Int) ≤ _; omega⟩ rfl rfl rfl rfl
theorem passB_le {v e : Int} (h : passB v e = true) : v ≤ e := by
 unfold passB at h
 simp only [Bool.and_eq_true, decide_eq_true_eq] at h
 exact h.2
theorem FN.pass (h : FN s now last told k) {e last' : Int} (hp : passB s.epoch e = true) (hl : last' ≤ e) : FN (s.pass e) now last' told k ∧ s.pass e = { s with epoch := e } := by
 have he : s.pass e = { s with epoch := e } := by unfold WS.pass; rw [hp, if_pos rfl]
 rw [he]
 exact ⟨⟨h.node, h.span, h.inc, h.un, h.fi, hl, h.nw, h.sub, h.down, h.dis, h.hl, h.dl, h.tl, h.ml⟩, rfl⟩
theorem FN.hear_no (h : FN s now last told k) (m : LMsg) (hb : (s.hear now m).2 = false) : FS s (s.hear now m).1 now last told k := by
 revert hb
 unfold WS.hear
 split
 ·rename_i hc
  cases hp : passB s.epoch m.epoch
  ·rw [if_neg (by simp)]
   have he : s.pass m.epoch = s := by unfold WS.pass; rw [hp, if_neg (by decide)]
   rw [he]
   exact fun _ => h.same h.nowup
  ·obtain ⟨h1, he⟩ := h.pass (last' := last) hp (Int.le_trans h.la (passB_le hp))
   have hs1 : FS s (s.pass m.epoch) now last told k := by
    rw [he]
    exact h.mod rfl rfl rfl rfl rfl h.dis (Nat.le_succ_of_le h.dl) h.un (Int.le_trans h.la (passB_le hp)) h.sub h.dis h.down (Nat.le_succ_of_le h.hl) (Nat.le_succ_of_le h.tl) (Nat.le_succ_of_le h.ml)
   split
   ·unfold WS.heed
    rw [he] at hs1 ⊢
    split
    ·intro hb
     dsimp only at hb ⊢
     rw [hb, if_neg (by decide)]
     exact hs1
    ·split
     ·intro hb
      dsimp only at hb ⊢
      rw [hb, if_neg (by decide)]
      exact hs1
     ·intro hb
      dsimp only at hb ⊢
      unfold WS.stopB at hb
      simp only [Bool.or_eq_false_iff, decide_eq_false_iff_not] at hb
      unfold WS.stop
      rw [if_neg hb.2]
      exact h.mod rfl rfl rfl rfl rfl (fun x hx => h.dis x (List.mem_filter.1 (show x ∈ s.held.filter (· != m.job) from hx)).1) (Nat.le_succ_of_le h.dl) h.un (Int.le_trans h.la (passB_le hp)) (fun x hx => h.sub x (List.mem_filter.1 (show x ∈ s.held.filter (· != m.job) from hx)).1) (fun x hx => h.dis x (List.mem_filter.1 (show x ∈ s.held.filter (· != m.job) from hx)).1) (fun e => by show s.held.filter _ = []; rw [h.down e]; rfl) (Nat.le_trans (List.length_filter_le _ _) (Nat.le_succ_of_le h.hl)) (Nat.le_succ_of_le h.tl) (Nat.le_succ_of_le h.ml)
   ·exact fun _ => hs1
 ·exact fun _ => h.same h.nowup
theorem FN.hear_yes (h : FN s now last told k) (m : LMsg) (hb : (s.hear now m).2 = true) : last ≤ m.epoch ∧ m.inc = s.inc ∧ (m.kind = 2 → m.tick ≤ now) ∧ FS s (s.hear now m).1 now m.epoch (if m.kind = 3 then told ++ [m.job] else told) k := by
 revert hb
 unfold WS.hear
 split
 ·rename_i hc
  split
  ·rename_i hp
   obtain ⟨h1, he⟩ := h.pass (last' := m.epoch) hp.1 (Int.le_refl _)
   have hi : m.inc = s.inc := by rw [hp.2, he]
   have hle := Int.le_trans h.la (passB_le hp.1)
   unfold WS.heed
   rw [he]
   split
   ·rename_i hk
    intro hb
    dsimp only at hb ⊢
    rw [hb, if_pos rfl]
    have ha : m.tick ≤ now ∧ now < laterI m.tick s.span := by
     unfold WS.ackB at hb
     simpa using hb
    refine ⟨hle, hi, fun _ => ha.1, ?_⟩
    rw [if_neg (by omega)]
    exact h.mod rfl rfl rfl rfl rfl h.dis (Nat.le_succ_of_le h.dl) (by show 0 ≤ max s.until_ _; have := h.un; omega) (Int.le_refl _) h.sub h.dis h.down (Nat.le_succ_of_le h.hl) (Nat.le_succ_of_le h.tl) (Nat.le_succ_of_le h.ml)
   ·split
    ·rename_i hk
     intro hb
     dsimp only at hb ⊢
     rw [hb, if_pos rfl]
     have ha : m.job ∉ s.done ∧ s.up = true := by
      unfold WS.doB WS.live at hb
      simp only [Bool.and_eq_true, Bool.not_eq_true', decide_eq_false_iff_not] at hb
      exact ⟨hb.1, hb.2.1⟩
     refine ⟨hle, hi, fun e => by omega, ?_⟩
     have hm : ∀ x ∈ putR s.held m.job, x = m.job ∨ x ∈ s.held := fun x hx => (mem_putR _ _ _).1 hx
     exact h.mod rfl rfl rfl rfl rfl (fun x hx => (hm x hx).elim (fun e => by rw [e]; exact ha.1) (h.dis x)) (Nat.le_succ_of_le h.dl) h.un (Int.le_refl _) (fun x hx => (hm x hx).elim (fun e => by simp [e]) (fun e => by simp [h.sub x e])) (fun x hx => (hm x hx).elim (fun e => by rw [e]; exact ha.1) (h.dis x)) (fun e => by rw [ha.2] at e; cases e) (Nat.le_trans (putR_len39 _ _) (Nat.succ_le_succ h.hl)) (Nat.le_succ_of_le h.tl) (by simpa using h.ml)
    ·intro hb
     dsimp only at hb ⊢
     refine ⟨hle, hi, fun e => by omega, ?_⟩
     have hm : ∀ x ∈ s.held.filter (· != m.job), x ∈ s.held := fun x hx => (List.mem_filter.1 hx).1
     unfold WS.stop
     split
     ·exact h.mod rfl rfl rfl rfl rfl (fun x hx => h.dis x (hm x hx)) (Nat.le_succ_of_le h.dl) h.un (Int.le_refl _) (fun x hx => h.sub x (hm x hx)) (fun x hx => h.dis x (hm x hx)) (fun e => by show s.held.filter _ = []; rw [h.down e]; rfl) (Nat.le_trans (List.length_filter_le _ _) (Nat.le_succ_of_le h.hl)) (Nat.le_trans (putR_len39 _ _) (Nat.succ_le_succ h.tl)) (Nat.le_succ_of_le h.ml)
     ·exact h.mod rfl rfl rfl rfl rfl (fun x hx => h.dis x (hm x hx)) (Nat.le_succ_of_le h.dl) h.un (Int.le_refl _) (fun x hx => h.sub x (hm x hx)) (fun x hx => h.dis x (hm x hx)) (fun e => by show s.held.filter _ = []; rw [h.down e]; rfl) (Nat.le_trans (List.length_filter_le _ _) (Nat.le_succ_of_le h.hl)) (Nat.le_succ_of_le h.tl) (Nat.le_succ_of_le h.ml)
  ·intro hb; cases hb
 ·intro hb; cases hb
/-- Behind the act what was told is forgotten where a new incarnation began, or none is up. -/
theorem FS.reset (h : FS s s' now last told k) : FN s' now last (if s'.inc ≠ s.inc ∨ s'.up = false then [] else told) (k + 1) := by
 split
 ·rename_i he
  have h0 := h.emp he
  exact ⟨h.fn.node, h.fn.span, h.fn.inc, h.fn.un, h.fn.fi, h.fn.la, h.fn.nw, by rw [h0]; simp, fun _ => h0, by rw [h0]; simp, h.fn.hl, h.fn.dl, h.fn.tl, Nat.zero_le _⟩
 ·exact h.fn
end
end Go.Proofs.YthhnocnkicoimaaDoor
