/-
  LAYER 9 (heap): a heap in memory: a row of things, and a map that tells where each stands; set.
-/
import Derived.Test.YtcafmodenbifhaaHeapP
import Derived.Test.YtcafmodenbifhaaRowPut
import Derived.Test.YtcafmodenbifhaaMapKV
import Derived.Test.YtcafmodenbifhaaObj
import Derived.Test.YtcafmodenbifhaaAnySeg
import Derived.Deep.WholeRow
import Derived.Deep.Cut
import Derived.Deep.CutRange
set_option linter.unusedVariables false
set_option linter.unusedSimpArgs false
namespace Go.Proofs.Ytcafmodenbifhaa
open Go.RowKit Go.Maps

structure LTh where
  id : Int
  a : Int
  b : Int
  c : Int
  deriving DecidableEq, Inhabited
def encTh (r : LTh) : List Value := [.int .i64 r.id, .int .i64 r.a, .int .i64 r.b, .int .i64 r.c]
abbrev aggTh (r : LTh) : Value := .agg #[.int .i64 r.id, .int .i64 r.a, .int .i64 r.b, .int .i64 r.c]
abbrev boxTh (r : LTh) : Array Value := #[.int .i64 r.id, .int .i64 r.a, .int .i64 r.b, .int .i64 r.c]
theorem Th_one (r : LTh) : (encTh r).toArray.all (·.oneCell') = true := by simp [encTh, Value.oneCell']
theorem Try.sizeTh : (Try.prog.info? 137).map (·.size) = some 4 := by kernel_rfl
/-- A heap: the block c holds the row and the map at its first two cells (the rest of the block is cs). -/
structure HeapAt (w : World) (base c : Nat) (t : TypeId) (cs : Array Value) (A : Option Addr) (n cap : Nat) (l : List LTh) (mb : Nat) (row : List Int) (g : Int → Int) : Prop where
  blk : Blk w c t cs
  c0 : cs[0]? = some (.slice A n cap)
  c1 : cs[1]? = some (.map (some mb))
  own : OwnL encTh 137 4 w base A n cap l
  map : MapKV w (.map (some mb)) row g
  ne : t ≠ 137
/-- What a heap's row and map hold. -/
def HpS (A : Option Addr) (mb : Nat) (k : Nat) : Prop := k = mb ∨ ∃ ad, A = some ad ∧ ad.block = k
theorem HeapAt.below {w w' : World} {base c : Nat} {t : TypeId} {cs : Array Value} {A : Option Addr} {n cap : Nat} {l : List LTh} {mb : Nat} {row : List Int} {g : Int → Int} (h : HeapAt w base c t cs A n cap l mb row g) (hb : Below w.heap.size w w') : HeapAt w' base c t cs A n cap l mb row g :=
  ⟨h.blk.below hb h.blk.lt, h.c0, h.c1, h.own.below hb, h.map.below hb, h.ne⟩
theorem HeapAt.apart {w : World} {base c : Nat} {t : TypeId} {cs : Array Value} {A : Option Addr} {n cap : Nat} {l : List LTh} {mb : Nat} {row : List Int} {g : Int → Int} (h : HeapAt w base c t cs A n cap l mb row g) : ¬ HpS A mb c ∧ ∀ ad, A = some ad → ¬ ad.block = mb := by
  have hm := fun {b : Nat} {u : TypeId} {ds : Array Value} (hb : Blk w b u ds) (e : b = mb) => h.map.ne_blk hb (by rw [e])
  have hr : ∀ ad, A = some ad → ∃ ds, Blk w ad.block 137 ds := by
    intro ad ha
    rcases h.own.own.2 with ⟨hv, _⟩ | ⟨q, cap2, cur, hv, _, hb, _⟩
    · rw [ha] at hv; cases hv
    · rw [ha] at hv; cases hv; exact ⟨cur, hb⟩
  refine ⟨fun hc => ?_, fun ad ha e => ?_⟩
  · rcases hc with e | ⟨ad, ha, e⟩
    · exact hm h.blk e
    · obtain ⟨ds, hb⟩ := hr ad ha
      rw [e] at hb
      have h3 := hb.symm.trans h.blk
      injection h3 with h3
      injection h3 with _ h4
      exact h.ne h4.symm
  · obtain ⟨ds, hb⟩ := hr ad ha
    exact hm hb e
set_option maxRecDepth 100000 in
set_option maxHeartbeats 3200000 in
theorem hSet_t {base c : Nat} {t : TypeId} {cs : Array Value} {A : Option Addr} {n cap : Nat} {l : List LTh} {mb : Nat} {row : List Int} {g : Int → Int} {w : World} (h : HeapAt w base c t cs A n cap l mb row g) {k : Nat} (hk : k < n) (x : LTh) (hx : wf64 x.id) (hkw : wf64 (k : Int)) (hrow : row.length < 9223372036854775807) : Calls Try.prog 126 #[.pointer (some ⟨c, 0, none⟩), .int .i64 ((k : Nat) : Int), aggTh x] w fun e w' => e = .returned (.tuple #[]) ∧ HeapAt w' base c t cs A n cap (l.set k x) mb (putR row x.id) (fun z => if z = x.id then (k : Int) else g z) ∧ Kept (HpS A mb) w w' := by
  obtain ⟨rb, hA⟩ : ∃ rb, A = some ⟨rb, 0, none⟩ := by obtain ⟨rb, hA, _⟩ := h.own.put (fun _ => rfl) hk x; exact ⟨rb, hA⟩
  have hB : Below w.heap.size w (w.alloc (.cells (boxTh x) 137)) := (Below.refl _ _).alloc (Nat.le_refl _) _
  have hbx := Blk.new w 137 (boxTh x)
  have H0 := Lib.hid (And.intro (h.below hB) (And.intro hbx (Kept.of_below (F := HpS A mb) hB)))
  have HP : Hid ((∀ W : World, ∀ {l2 : List LTh} {row2 : List Int} {g2 : Int → Int}, HeapAt W base c t cs A n cap l2 mb row2 g2 → ¬ HpS A mb c) ∧ (∀ W : World, ∀ {l2 : List LTh} {row2 : List Int} {g2 : Int → Int}, HeapAt W base c t cs A n cap l2 mb row2 g2 → ∀ ad, A = some ad → ¬ ad.block = mb)) := Lib.hid ⟨fun W l2 row2 g2 hW => hW.apart.1, fun W l2 row2 g2 hW => hW.apart.2⟩
  have HX := Lib.hid (And.intro hx (And.intro hkw hrow))
  have HB90 := Lib.hid h.own.at_base
  have HA9 := Lib.hid hA
  clear h hB hbx hx hkw hrow
  go_enter Try.func126, Try.ntmps126
  go_upto_region 1 with fail
  obtain ⟨b, hb0⟩ : ∃ b, w.heap.size = b := ⟨_, rfl⟩
  have HB9 : Hid (rb < b) := Lib.hid (by rw [← hb0]; exact (HB90.out _ hA).2)
  generalize hW : (w.alloc (.cells (boxTh x) 137)) = w1 at H0 ⊢
  clear hW
  have H1 : Hid (HeapAt w1 base c t cs A n cap l mb row g ∧ Blk w1 b 137 (boxTh x)) := Lib.hid ⟨H0.out.1, by rw [← hb0]; exact H0.out.2.1⟩
  have HB0 := Lib.hid H0.out.2.2
  clear H0 HB90
  try rw [hb0]
  clear hb0
  refine Cont.start (by kernel_rfl) ?_
  have HD := Lib.hid (And.intro (H1.out.1.below (Below.refl w1.heap.size w1).drew) (H1.out.2.below (Below.refl w1.heap.size w1).drew H1.out.2.lt))
  have HB := Lib.hid (HB0.out.trans (Kept.of_below (F := HpS A mb) (Below.refl w1.heap.size w1).drew) (fun _ _ h => h))
  generalize w1.drew = wd at HD HB ⊢
  refine cont_free 0 7 6 [] [.o (eqV (.pointer (some ⟨c, 0, none⟩))), .o (eqV (.pointer (some ⟨c, 0, none⟩))), .o (eqV (.pointer (some ⟨c, 0, none⟩))), .o (eqV (.slice (some ⟨rb, 0, none⟩) n cap)), .o (eqV (.int .i64 ((k : Nat) : Int))), .o (eqV (aggTh x)), .o (eqV (.pointer (some ⟨rb, k * 4, none⟩)))] [false, false, false, false, false, false, false] (by kernel_rfl) (by kernel_rfl) (by kernel_rfl) (by kernel_rfl) (by kernel_rfl) (by kernel_rfl) (by kernel_rfl) rfl (by kernel_rfl) (by kernel_rfl) ⟨?_, ?_, ?_, ?_, ?_, ?_, ?_, trivial⟩ ?fin
  · intro a w hb hoth hdep
    refine step_on (want_none rfl) ?_
    have e0 : a.tmps[0]? = some (.pointer (some ⟨c, 0, none⟩)) := ev_seg hoth 0 (by kernel_rfl) rfl
    exact step_val ((BigFrame.run_move _ rfl w).trans (by rw [ev_of e0])) rfl
  · intro a w hb hoth hdep
    refine step_on (want_none rfl) ?_
    obtain ⟨v0, e6, hv0⟩ := ev_dep hdep 0 6 (by kernel_rfl) (by kernel_rfl)
    replace hv0 : v0 = .pointer (some ⟨c, 0, none⟩) := hv0
    subst hv0
    refine step_val (x := .pointer (some ⟨c, 0, none⟩)) ?_ rfl
    simp [go_sem, e6]
  · intro a w hb hoth hdep
    refine step_on (want_none rfl) ?_
    obtain ⟨v1, e7, hv1⟩ := ev_dep hdep 1 7 (by kernel_rfl) (by kernel_rfl)
    replace hv1 : v1 = .pointer (some ⟨c, 0, none⟩) := hv1
    subst hv1
    refine step_val (x := .pointer (some ⟨c, 0, none⟩)) ?_ rfl
    simp [go_sem, e7]
  · intro a w hb hoth hdep
    refine step_on (want_none rfl) ?_
    obtain ⟨v2, e8, hv2⟩ := ev_dep hdep 2 8 (by kernel_rfl) (by kernel_rfl)
    replace hv2 : v2 = .pointer (some ⟨c, 0, none⟩) := hv2
    subst hv2
    have x0 : w.cell? ⟨c, 0, none⟩ = some (.slice A n cap) := ((HD.out.1.below hb).blk.cell 0).trans HD.out.1.c0
    rw [hA] at x0
    refine step_val (x := .slice (some ⟨rb, 0, none⟩) n cap) ?_ rfl
    simp [go_sem, e8, x0]
  · intro a w hb hoth hdep
    refine step_on (want_none rfl) ?_
    have e1 : a.tmps[1]? = some (.int .i64 ((k : Nat) : Int)) := ev_seg hoth 1 (by kernel_rfl) rfl
    exact step_val ((BigFrame.run_move _ rfl w).trans (by rw [ev_of e1])) rfl
  · intro a w hb hoth hdep
    refine step_on (want_none rfl) ?_
    have e5 : a.tmps[5]? = some (.pointer (some ⟨b, 0, none⟩)) := ev_seg hoth 5 (by kernel_rfl) rfl
    obtain ⟨b0, b1_, b2, b3⟩ : w.cell? ⟨b, 0, none⟩ = some (.int .i64 x.id) ∧ w.cell? ⟨b, 1, none⟩ = some (.int .i64 x.a) ∧ w.cell? ⟨b, 2, none⟩ = some (.int .i64 x.b) ∧ w.cell? ⟨b, 3, none⟩ = some (.int .i64 x.c) := ⟨((HD.out.2.below hb HD.out.2.lt).cell 0).trans rfl, ((HD.out.2.below hb HD.out.2.lt).cell 1).trans rfl, ((HD.out.2.below hb HD.out.2.lt).cell 2).trans rfl, ((HD.out.2.below hb HD.out.2.lt).cell 3).trans rfl⟩
    refine step_val (x := aggTh x) ?_ rfl
    simp [go_sem, e5, b0, b1_, b2, b3, aggTh]
  · intro a w hb hoth hdep
    refine step_on (want_none rfl) ?_
    obtain ⟨v3, e9, hv3⟩ := ev_dep hdep 3 9 (by kernel_rfl) (by kernel_rfl)
    replace hv3 : v3 = .slice (some ⟨rb, 0, none⟩) n cap := hv3
    subst hv3
    obtain ⟨v4, e10, hv4⟩ := ev_dep hdep 4 10 (by kernel_rfl) (by kernel_rfl)
    replace hv4 : v4 = .int .i64 ((k : Nat) : Int) := hv4
    subst hv4
    refine step_val (x := .pointer (some ⟨rb, k * 4, none⟩)) ?_ rfl
    simp [go_sem, e9, e10, hk, Try.underlying114]
  case fin =>
    intro wz hbz
    iterate 7 (rintro _ rfl)
    refine FinC.nil ?_
    have HZ := Lib.hid (And.intro (HD.out.1.below hbz) (And.intro (HD.out.2.below hbz HD.out.2.lt) (HB.out.trans (Kept.of_below (F := HpS A mb) hbz) (fun _ _ h => h))))
    clear hbz HD HB
    refine cont_line 7 1 (by kernel_rfl) (by kernel_rfl) (by kernel_rfl) ?_
    change wpList _ _ _ [_] _ _
    obtain ⟨rb2, hA2, hge2, hth, ho5, hk5, hs5⟩ := HZ.out.1.own.put (fun _ => rfl) hk x
    obtain rfl : rb2 = rb := by rw [hA] at hA2; cases hA2; rfl
    refine wpList_store_mid rfl 137 (.tmp 12) (.tmp 11) rfl rb2 (k * 4) (encTh x).toArray rfl rfl hth Try.sizeTh (Th_one x) ?_
    have hk5b : Kept (HpS A mb) wz (wz.setCells rb2 (k * 4) (encTh x)) := hk5.mono (fun i _ e => .inr ⟨_, hA, e.symm⟩)
    have hc5 := HZ.out.1.blk.kept hk5b (HP.out.1 wz HZ.out.1)
    have hm5 := HZ.out.1.map.kept hk5 (fun q hq e => by cases hq; exact HP.out.2 wz HZ.out.1 _ hA e.symm)
    have H5 : Hid (HeapAt (wz.setCells rb2 (k * 4) (encTh x)) base c t cs A n cap (l.set k x) mb row g ∧ Blk (wz.setCells rb2 (k * 4) (encTh x)) b 137 (boxTh x)) := Lib.hid ⟨⟨hc5, HZ.out.1.c0, HZ.out.1.c1, ho5, hm5, HZ.out.1.ne⟩, HZ.out.2.1.kept hk5 (fun e => by have h9 := HB9.out; have h8 := (HZ.out.1.own.at_base _ hA).2; omega)⟩
    have HB5 : Hid (Kept (HpS A mb) w (wz.setCells rb2 (k * 4) (encTh x))) := Lib.hid (HZ.out.2.2.trans hk5b (fun _ _ h => h))
    clear hA2 hge2 hth ho5 hk5 hs5 hk5b hc5 hm5 HZ
    show wpList _ _ _ [] _ (wz.setCells rb2 (k * 4) (encTh x))
    generalize wz.setCells rb2 (k * 4) (encTh x) = w5 at H5 HB5 ⊢
    go_wp2_with fail
    show Cont _ _ _ _ _ _
    refine cont_end (by kernel_rfl) ?_
    go_upto_region 2 with fail
    refine Cont.start (by kernel_rfl) ?_
    have HD := Lib.hid (And.intro (H5.out.1.below (Below.refl w5.heap.size w5).drew) (H5.out.2.below (Below.refl w5.heap.size w5).drew H5.out.2.lt))
    have HB2 := Lib.hid (HB5.out.trans (Kept.of_below (F := HpS A mb) (Below.refl w5.heap.size w5).drew) (fun _ _ h => h))
    generalize w5.drew = wd2 at HD HB2 ⊢
    refine cont_free 0 7 13 [] [.o (eqV (.pointer (some ⟨c, 0, none⟩))), .o (eqV (.pointer (some ⟨c, 0, none⟩))), .o (eqV (.pointer (some ⟨c, 1, none⟩))), .o (eqV (.map (some mb))), .o (eqV (.pointer (some ⟨b, 0, none⟩))), .o (eqV (.int .i64 x.id)), .o (eqV (.int .i64 ((k : Nat) : Int)))] [false, false, false, false, false, false, false] (by kernel_rfl) (by kernel_rfl) (by kernel_rfl) (by kernel_rfl) (by kernel_rfl) (by kernel_rfl) (by kernel_rfl) rfl (by kernel_rfl) (by kernel_rfl) ⟨?_, ?_, ?_, ?_, ?_, ?_, ?_, trivial⟩ ?fin
    · intro a w hb hoth hdep
      refine step_on (want_none rfl) ?_
      have e0 : a.tmps[0]? = some (.pointer (some ⟨c, 0, none⟩)) := ev_seg hoth 0 (by kernel_rfl) rfl
      exact step_val ((BigFrame.run_move _ rfl w).trans (by rw [ev_of e0])) rfl
    · intro a w hb hoth hdep
      refine step_on (want_none rfl) ?_
      obtain ⟨v0, e13, hv0⟩ := ev_dep hdep 0 13 (by kernel_rfl) (by kernel_rfl)
      replace hv0 : v0 = .pointer (some ⟨c, 0, none⟩) := hv0
      subst hv0
      refine step_val (x := .pointer (some ⟨c, 0, none⟩)) ?_ rfl
      simp [go_sem, e13]
    · intro a w hb hoth hdep
      refine step_on (want_none rfl) ?_
      obtain ⟨v1, e14, hv1⟩ := ev_dep hdep 1 14 (by kernel_rfl) (by kernel_rfl)
      replace hv1 : v1 = .pointer (some ⟨c, 0, none⟩) := hv1
      subst hv1
      refine step_val (x := .pointer (some ⟨c, 1, none⟩)) ?_ rfl
      simp [go_sem, e14]
    · intro a w hb hoth hdep
      refine step_on (want_none rfl) ?_
      obtain ⟨v2, e15, hv2⟩ := ev_dep hdep 2 15 (by kernel_rfl) (by kernel_rfl)
      replace hv2 : v2 = .pointer (some ⟨c, 1, none⟩) := hv2
      subst hv2
      have x1 : w.cell? ⟨c, 1, none⟩ = some (.map (some mb)) := ((HD.out.1.below hb).blk.cell 1).trans HD.out.1.c1
      refine step_val (x := .map (some mb)) ?_ rfl
      simp [go_sem, e15, x1]
    · intro a w hb hoth hdep
      refine step_on (want_none rfl) ?_
      have e5 : a.tmps[5]? = some (.pointer (some ⟨b, 0, none⟩)) := ev_seg hoth 5 (by kernel_rfl) rfl
      refine step_val (x := .pointer (some ⟨b, 0, none⟩)) ?_ rfl
      simp [go_sem, e5]
    · intro a w hb hoth hdep
      refine step_on (want_none rfl) ?_
      obtain ⟨v4, e17, hv4⟩ := ev_dep hdep 4 17 (by kernel_rfl) (by kernel_rfl)
      replace hv4 : v4 = .pointer (some ⟨b, 0, none⟩) := hv4
      subst hv4
      obtain ⟨b0, b1_, b2, b3⟩ : w.cell? ⟨b, 0, none⟩ = some (.int .i64 x.id) ∧ w.cell? ⟨b, 1, none⟩ = some (.int .i64 x.a) ∧ w.cell? ⟨b, 2, none⟩ = some (.int .i64 x.b) ∧ w.cell? ⟨b, 3, none⟩ = some (.int .i64 x.c) := ⟨((HD.out.2.below hb HD.out.2.lt).cell 0).trans rfl, ((HD.out.2.below hb HD.out.2.lt).cell 1).trans rfl, ((HD.out.2.below hb HD.out.2.lt).cell 2).trans rfl, ((HD.out.2.below hb HD.out.2.lt).cell 3).trans rfl⟩
      refine step_val (x := .int .i64 x.id) ?_ rfl
      simp [go_sem, e17, b0]
    · intro a w hb hoth hdep
      refine step_on (want_none rfl) ?_
      have e1 : a.tmps[1]? = some (.int .i64 ((k : Nat) : Int)) := ev_seg hoth 1 (by kernel_rfl) rfl
      exact step_val ((BigFrame.run_move _ rfl w).trans (by rw [ev_of e1])) rfl
    case fin =>
      intro wz hbz
      iterate 7 (rintro _ rfl)
      refine FinC.nil ?_
      have HZ := Lib.hid (And.intro (HD.out.1.below hbz) (HB2.out.trans (Kept.of_below (F := HpS A mb) hbz) (fun _ _ h => h)))
      clear hbz HD HB2
      refine cont_line 7 1 (by kernel_rfl) (by kernel_rfl) (by kernel_rfl) ?_
      obtain ⟨w6, hst, hm6, hg6, hs6⟩ := HZ.out.1.map.store HX.out.1 HX.out.2.1 HX.out.2.2
      have hk6 : Kept (HpS A mb) wz w6 := Kept.of_grown hg6 (fun q hq _ => by cases hq; exact .inl rfl)
      have hc6 := HZ.out.1.blk.kept hk6 (HP.out.1 wz HZ.out.1)
      have ho6 := HZ.out.1.own.kept (F := fun q => q = mb) (Kept.of_grown hg6 (fun q hq _ => by cases hq; rfl)) (fun ad ha e => HP.out.2 wz HZ.out.1 ad ha e)
      have HF : Hid (HeapAt w6 base c t cs A n cap (l.set k x) mb (putR row x.id) (fun z => if z = x.id then (k : Int) else g z) ∧ Kept (HpS A mb) w w6) := Lib.hid ⟨⟨hc6, HZ.out.1.c0, HZ.out.1.c1, ho6, hm6, HZ.out.1.ne⟩, HZ.out.2.trans hk6 (fun _ _ h => h)⟩
      clear hm6 hg6 hs6 hk6 hc6 ho6 HZ
      go_wp2_with fail
      show Cont _ _ _ _ _ _
      refine cont_end (by kernel_rfl) ?_
      clear hst
      go_wp2
      go_end0
      exact ⟨rfl, HF.out⟩
end Go.Proofs.Ytcafmodenbifhaa
