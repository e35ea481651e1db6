/-
  LAYER 32 (cache): Put, Forget.
-/
import Derived.Test.YtcafmodenbifhaaCacheA
import Derived.Test.YtcafmodenbifhaaStepNew
import Derived.Test.YtcafmodenbifhaaDrain
import Derived.Deep.DeepCutAuto
import Derived.StillTailTactics
set_option linter.unusedVariables false
set_option linter.unusedSimpArgs false
namespace Go.Proofs.Ytcafmodenbifhaa
open Go.RowKit Go.Maps

def CX.put (X : CX) (n : LNode) : CX × Bool := if n ∈ X.nodes then (X, false) else (⟨insN X.nodes n, putR X.stale n.id, X.needs, X.looked⟩, true)
def CX.forget (X : CX) (r : LRes) : CX × Bool := if r ∈ X.needs then (⟨X.nodes, X.stale, X.needs.filter (fun y => decide (y ≠ r)), X.looked⟩, true) else (X, false)
theorem guardNode (op : BinOp) (x y : Operand) (a b : LNode) (w : World) : (eqGuard op 55 x y (aggNode a) (aggNode b)).run Try.prog w = .ok () w :=
  run_eqGuard_agg w op 55 x y _ _ (by kernel_rfl)
theorem mem_nodes_iff {L : List LNode} (h : Rising (idsN L)) (n : LNode) : n ∈ L ↔ n.id ∈ idsN L ∧ nodeOf L n.id = n := by
  constructor
  · intro hn
    exact ⟨List.mem_map.2 ⟨n, hn, rfl⟩, nodeOf_mem h hn⟩
  · rintro ⟨h1, h2⟩
    rw [← h2]
    exact (nodeOf_in h1).1
set_option maxRecDepth 100000 in
set_option maxHeartbeats 6400000 in
theorem caPut_o {w : World} {c : Nat} {X : CX} {S : Nat → Prop} (h : CaO w c X S) (n : LNode) (hw : wfNode n) (hb : X.nodes.length ≤ 1000 ∧ X.stale.length ≤ 1000) :
    Calls Try.prog 17 #[.pointer (some ⟨c, 0, none⟩), aggNode n] w fun e w' => e = .returned (.bool (X.put n).2) ∧ ∃ S', CaO w' c (X.put n).1 S' ∧ Turned S S' w w' := by
  obtain ⟨nm, sm, dm, cb, SS, TT, hA, hT, hst, rfl⟩ := h
  have hB : Below w.heap.size w (w.alloc (.cells (boxNode n) 55)) := (Below.refl _ _).alloc (Nat.le_refl _) _
  have H1 : Hid (CaAt (w.alloc (.cells (boxNode n) 55)) c X nm sm dm cb SS TT ∧ Blk (w.alloc (.cells (boxNode n) 55)) w.heap.size 55 (boxNode n) ∧ Below w.heap.size w (w.alloc (.cells (boxNode n) 55))) := Lib.hid ⟨hA.below hB, Blk.new w _ _, hB⟩
  have HX := Lib.hid (And.intro hT (And.intro hst (And.intro hw hb)))
  have HR := Lib.hid hA.nodes.rising
  have HF := Lib.hid hA.lt
  clear hA hB hT hst hw hb
  go_enter Try.func17, Try.ntmps17
  go_upto_region 1 with fail
  obtain ⟨nb, hnb⟩ : ∃ nb, w.heap.size = nb := ⟨_, rfl⟩
  have HNB := Lib.hid hnb.symm
  rw [hnb] at H1
  generalize (w.alloc (.cells (boxNode n) 55)) = w1 at H1 ⊢
  try rw [hnb]
  clear hnb
  have z0 := (H1.out.2.1).cell 0
  have z1 := (H1.out.2.1).cell 1
  have z2 := (H1.out.2.1).cell 2
  have z3 := (H1.out.2.1).cell 3
  have z4 := (H1.out.2.1).cell 4
  have z5 := (H1.out.2.1).cell 5
  have z6 := (H1.out.2.1).cell 6
  have z7 := (H1.out.2.1).cell 7
  have z8 := (H1.out.2.1).cell 8
  have z9 := (H1.out.2.1).cell 9
  have zl := (H1.out.2.1).lt
  simp only [boxNode, List.getElem?_toArray, List.getElem?_cons_zero, List.getElem?_cons_succ] at z0 z1 z2 z3 z4 z5 z6 z7 z8 z9
  have hcx := caGet_t H1.out.1.blk H1.out.1.nodes n.id HX.out.2.2.1.1
  go_wp2_with fail
  (with_reducible refine hcx.mono ?_)
  clear hcx z0 z1 z2 z3 z4 z5 z6 z7 z8 z9 zl
  rintro e w2 ⟨rfl, hb2⟩
  obtain ⟨m, hm⟩ : ∃ m, nodeOf X.nodes n.id = m := ⟨_, rfl⟩
  obtain ⟨d, hd⟩ : ∃ d, decide (n.id ∈ idsN X.nodes) = d := ⟨_, rfl⟩
  have HMD := Lib.hid (And.intro hm hd)
  rw [hm, hd]
  clear hm hd
  have hkl : nb < w2.heap.size := by have := H1.out.2.1.lt; have := hb2.size; omega
  have H2 : Hid (CaAt w2 c X nm sm dm cb SS TT ∧ Blk w2 nb 55 (boxNode n) ∧ Below nb w w2) := Lib.hid ⟨H1.out.1.below hb2, H1.out.2.1.below hb2 H1.out.2.1.lt, H1.out.2.2.trans (hb2.mono (by have := H1.out.2.1.lt; omega))⟩
  clear hb2 hkl H1
  go_upto_region 2 with fail
  have hB3 : Below w2.heap.size w2 (w2.alloc (.cells (boxNode m) 55)) := (Below.refl _ _).alloc (Nat.le_refl _) _
  have H3 : Hid (CaAt (w2.alloc (.cells (boxNode m) 55)) c X nm sm dm cb SS TT ∧ Blk (w2.alloc (.cells (boxNode m) 55)) nb 55 (boxNode n) ∧ Below nb w (w2.alloc (.cells (boxNode m) 55)) ∧ Blk (w2.alloc (.cells (boxNode m) 55)) w2.heap.size 55 (boxNode m)) := Lib.hid ⟨H2.out.1.below hB3, H2.out.2.1.below hB3 H2.out.2.1.lt, H2.out.2.2.trans (hB3.mono (by have := H2.out.2.1.lt; omega)), Blk.new w2 _ _⟩
  clear hB3 H2
  obtain ⟨mb, hmb⟩ : ∃ mb, w2.heap.size = mb := ⟨_, rfl⟩
  rw [hmb] at H3
  generalize (w2.alloc (.cells (boxNode m) 55)) = w3 at H3 ⊢
  try rw [hmb]
  clear hmb
  have heq := fun (W : World) => eqlNode m n W
  have hgd := fun (op : BinOp) (p q : Operand) (W : World) => guardNode op p q m n W
  have z0 := (H3.out.2.1).cell 0
  have z1 := (H3.out.2.1).cell 1
  have z2 := (H3.out.2.1).cell 2
  have z3 := (H3.out.2.1).cell 3
  have z4 := (H3.out.2.1).cell 4
  have z5 := (H3.out.2.1).cell 5
  have z6 := (H3.out.2.1).cell 6
  have z7 := (H3.out.2.1).cell 7
  have z8 := (H3.out.2.1).cell 8
  have z9 := (H3.out.2.1).cell 9
  have zl := (H3.out.2.1).lt
  simp only [boxNode, List.getElem?_toArray, List.getElem?_cons_zero, List.getElem?_cons_succ] at z0 z1 z2 z3 z4 z5 z6 z7 z8 z9
  have y0 := (H3.out.2.2.2).cell 0
  have y1 := (H3.out.2.2.2).cell 1
  have y2 := (H3.out.2.2.2).cell 2
  have y3 := (H3.out.2.2.2).cell 3
  have y4 := (H3.out.2.2.2).cell 4
  have y5 := (H3.out.2.2.2).cell 5
  have y6 := (H3.out.2.2.2).cell 6
  have y7 := (H3.out.2.2.2).cell 7
  have y8 := (H3.out.2.2.2).cell 8
  have y9 := (H3.out.2.2.2).cell 9
  have yl := (H3.out.2.2.2).lt
  simp only [boxNode, List.getElem?_toArray, List.getElem?_cons_zero, List.getElem?_cons_succ] at y0 y1 y2 y3 y4 y5 y6 y7 y8 y9
  cases d with
  | false =>
    have HN : Hid (n ∉ X.nodes) := Lib.hid fun hn => by have := ((mem_nodes_iff HR.out n).1 hn).1; have h2 := HMD.out.2; rw [decide_eq_true this] at h2; cases h2
    go_upto_region 4 with fail
    clear heq hgd z0 z1 z2 z3 z4 z5 z6 z7 z8 z9 zl y0 y1 y2 y3 y4 y5 y6 y7 y8 y9 yl
    have H4 : Hid (CaAt w3 c X nm sm dm cb SS TT ∧ Blk w3 nb 55 (boxNode n) ∧ Turned (caS c X nm sm dm SS) (caS c X nm sm dm SS) w w3) := Lib.hid ⟨H3.out.1, H3.out.2.1, Turned.of_below (by have := H3.out.2.2.1; rw [HNB.out] at this; exact this)⟩
    clear H3
    cases nm with
    | none =>
      have hmn := fun (W : World) => run_eql_map_nil (P := Try.prog) W 37 _ _ (none) Try.underlying37
      have hmm := @run_makeMap Try.prog
      have c0 : w3.cell? ⟨c, 0, none⟩ = some (.map none) := (H4.out.1.blk.cell 0).trans rfl
      have f0 := H4.out.1.blk.frozen 0
      have cl := H4.out.1.blk.lt
      go_upto_region 6 with fail
      have hnil : idsN X.nodes = [] := by rcases H4.out.1.nodes.is with ⟨_, h2⟩ | ⟨b, D, h2, _⟩; exact h2; cases h2
      have hb4 : Blk ((w3.setCell ⟨c, 0, none⟩ (.map (some w3.heap.size))).alloc (.map #[] 0)) c 48 (caBox (some w3.heap.size) sm dm X.looked) := by have := (H4.out.1.blk.set_ 0 (.map (some w3.heap.size))).alloc (.map #[] 0); simpa [caBox] using this
      have hk4 : Kept (fun k => k = c) w3 ((w3.setCell ⟨c, 0, none⟩ (.map (some w3.heap.size))).alloc (.map #[] 0)) := ((Kept.refl (fun k => k = c) w3).setCell (p := ⟨c, 0, none⟩) (fun _ => rfl) _).alloc _
      have hm4 : MapV ((w3.setCell ⟨c, 0, none⟩ (.map (some w3.heap.size))).alloc (.map #[] 0)) (.map (some w3.heap.size)) (idsN X.nodes) (nodeV X.nodes) := by rw [hnil]; have := MapV.made (w3.setCell ⟨c, 0, none⟩ (.map (some w3.heap.size))) (nodeV X.nodes); rwa [show (w3.setCell ⟨c, 0, none⟩ (.map (some w3.heap.size))).heap.size = w3.heap.size by simp [World.setCell]] at this
      obtain ⟨n1, n2, n3⟩ := H4.out.1.ne_c
      have hown := H4.out.1.own_ (X' := X) (nm' := some w3.heap.size) (sm' := sm) (dm' := dm) (hk4.mono fun k _ e => .inl e) hb4 hm4 (H4.out.1.shelves.step fun b hb hl => by cases hb; exact hk4.block _ hl (fun e => n2 (by rw [e]))) (H4.out.1.marks.step fun b hb hl => by cases hb; exact hk4.block _ hl (fun e => n3 (by rw [e]))) (fun r hr => hr) (fun k hk => by
        rcases hk with e | e | e | e
        · exact .inl (.inl e)
        · cases e; exact .inr (Nat.le_refl _)
        · exact .inl (.inr (.inr (.inl e)))
        · exact .inl (.inr (.inr (.inr e)))) (fun k hk => by
        cases hk
        exact ⟨fun e => by have := H4.out.1.shelves.lt _ (by rw [e]); omega, fun e => by have := H4.out.1.marks.lt _ (by rw [e]); omega⟩) H4.out.1.sd H4.out.1.wfn
      have hbn4 : Blk ((w3.setCell ⟨c, 0, none⟩ (.map (some w3.heap.size))).alloc (.map #[] 0)) nb 55 (boxNode n) := H4.out.2.1.kept hk4 (fun e => by have := HF.out c (.inl (.inl rfl)); have := HNB.out; omega)
      have H5 : Hid (CaAt ((w3.setCell ⟨c, 0, none⟩ (.map (some w3.heap.size))).alloc (.map #[] 0)) c X (some w3.heap.size) sm dm cb SS TT ∧ Blk ((w3.setCell ⟨c, 0, none⟩ (.map (some w3.heap.size))).alloc (.map #[] 0)) nb 55 (boxNode n) ∧ Turned (caS c X none sm dm SS) (caS c X (some w3.heap.size) sm dm SS) w ((w3.setCell ⟨c, 0, none⟩ (.map (some w3.heap.size))).alloc (.map #[] 0))) := Lib.hid ⟨hown.1, hbn4, H4.out.2.2.trans hown.2⟩
      clear hnil hb4 hk4 hm4 n1 n2 n3 hown hbn4 hmm hmn c0 f0 cl H4
      obtain ⟨qb, hqb⟩ : ∃ qb, w3.heap.size = qb := ⟨_, rfl⟩
      rw [hqb] at H5
      generalize hw4 : (w3.setCell ⟨c, 0, none⟩ (.map (some w3.heap.size))).alloc (.map #[] 0) = w4
      rw [hqb] at hw4
      rw [hw4] at H5
      clear hw4 hqb
      have H4 := H5
      clear H5
      have z0 := (H4.out.2.1).cell 0
      have z1 := (H4.out.2.1).cell 1
      have z2 := (H4.out.2.1).cell 2
      have z3 := (H4.out.2.1).cell 3
      have z4 := (H4.out.2.1).cell 4
      have z5 := (H4.out.2.1).cell 5
      have z6 := (H4.out.2.1).cell 6
      have z7 := (H4.out.2.1).cell 7
      have z8 := (H4.out.2.1).cell 8
      have z9 := (H4.out.2.1).cell 9
      have zl := (H4.out.2.1).lt
      simp only [boxNode, List.getElem?_toArray, List.getElem?_cons_zero, List.getElem?_cons_succ] at z0 z1 z2 z3 z4 z5 z6 z7 z8 z9
      have c0 : w4.cell? ⟨c, 0, none⟩ = some (.map (some qb)) := (H4.out.1.blk.cell 0).trans rfl
      have cl := H4.out.1.blk.lt
      go_still_tail 7, (by kernel_rfl)
      obtain ⟨w5, hrun, hM5, hg5, hs5⟩ := (H4.out.1.nodes.below (w' := w4.drew) (Below.refl _ _).drew).store Try.tyN (aggNode n) HX.out.2.2.1.1 (by have := HX.out.2.2.2.1; unfold idsN; rw [List.length_map]; omega)
      have hM6 : MapV w5 (.map (some qb)) (idsN (insN X.nodes n)) (nodeV (insN X.nodes n)) := by
        have e1 : idsN (insN X.nodes n) = putR (idsN X.nodes) n.id := idsN_insN HR.out n
        have e2 : nodeV (insN X.nodes n) = (fun k => if k = n.id then aggNode n else nodeV X.nodes k) := by
          funext k
          unfold nodeV
          rw [nodeOf_insN HR.out]
          split <;> rfl
        rw [e1, e2]
        exact hM5
      have hD := H4.out.1.below (w' := w4.drew) (Below.refl _ _).drew
      have hkq : Kept (caF c (some qb) sm dm) w4.drew w5 := Kept.of_grown hg5 (fun k e _ => .inr (.inl e))
      have hout : ∀ k, k ≠ qb → k < w4.drew.heap.size → w5.heap[k]? = w4.drew.heap[k]? := fun k h1 h2 => hg5.block k h2 (fun e => h1 (by injection e))
      obtain ⟨n1, n2, n3⟩ := hD.ne_c
      have hnq : qb ≠ c := fun e => n1 (by rw [e])
      have hown := hD.own_ (w' := w5) (X' := ⟨insN X.nodes n, X.stale, X.needs, X.looked⟩) (nm' := some qb) (sm' := sm) (dm' := dm) hkq ((hout c (Ne.symm hnq) hD.blk.lt).trans hD.blk) hM6 (hD.shelves.step fun b hb hl => by cases hb; exact hout _ (fun e => (hD.ns qb rfl).1 (by rw [e])) hl) (hD.marks.step fun b hb hl => by cases hb; exact hout _ (fun e => (hD.ns qb rfl).2 (by rw [e])) hl) (fun r hr => hr) (fun k hk => .inl hk) hD.ns hD.sd (fun q hq => ((mem_insN HR.out n q).1 hq).elim (fun e => e ▸ HX.out.2.2.1) (fun h => hD.wfn q h.1))
      have hnqb : nb ≠ qb := fun e => H4.out.1.nodes.ne_blk H4.out.2.1 (by rw [e])
      have H5 : Hid (CaAt w5 c ⟨insN X.nodes n, X.stale, X.needs, X.looked⟩ (some qb) sm dm cb SS TT ∧ Blk w5 nb 55 (boxNode n) ∧ Turned (caS c X none sm dm SS) (caS c ⟨insN X.nodes n, X.stale, X.needs, X.looked⟩ (some qb) sm dm SS) w w5) := Lib.hid ⟨hown.1, (hout nb hnqb H4.out.2.1.lt).trans H4.out.2.1, (H4.out.2.2.trans (Turned.of_below (Below.refl _ _).drew)).trans hown.2⟩
      clear hM5 hM6 hD hkq hout n1 n2 n3 hnq hown hnqb hg5 hs5 c0 cl z0 z1 z2 z3 z4 z5 z6 z7 z8 z9 zl
      go_upto_region 7 with fail
      clear hrun
      refine Cont.start (by kernel_rfl) ?_
      have HD := Lib.hid (And.intro (H5.out.1.below (Below.refl w5.heap.size w5).drew) (And.intro (H5.out.2.1.below (Below.refl w5.heap.size w5).drew H5.out.2.1.lt) (H5.out.2.2.trans (Turned.of_below (Below.refl w5.heap.size w5).drew))))
      clear H5
      generalize w5.drew = wd at HD ⊢
      refine cont_free 0 6 40 [] [.o (eqV (.pointer (some ⟨c, 0, none⟩))), .o (eqV (.pointer (some ⟨c, 0, none⟩))), .o (eqV (.pointer (some ⟨c, 2, none⟩))), .o (eqV (.pointer (some ⟨nb, 0, none⟩))), .o (eqV (.int .i64 n.id)), .o (rdV encI 1 [n.id] 1)] [false, false, false, false, false, false] (by kernel_rfl) (by kernel_rfl) (by kernel_rfl) (by kernel_rfl) (by kernel_rfl) (by kernel_rfl) (by kernel_rfl) rfl (by kernel_rfl) (by kernel_rfl) ⟨?_, ?_, ?_, ?_, ?_, ?_, trivial⟩ ?fin
      · intro a w hb hoth hdep
        refine step_on (want_none rfl) ?_
        have e0 : a.tmps[0]? = some (.pointer (some ⟨c, 0, none⟩)) := ev_seg hoth 0 (by kernel_rfl) rfl
        exact step_val ((BigFrame.run_move _ rfl w).trans (by rw [ev_of e0])) rfl
      · intro a w hb hoth hdep
        refine step_on (want_none rfl) ?_
        obtain ⟨v0, e40, hv0⟩ := ev_dep hdep 0 40 (by kernel_rfl) (by kernel_rfl)
        replace hv0 : v0 = .pointer (some ⟨c, 0, none⟩) := hv0
        subst hv0
        refine step_val (x := .pointer (some ⟨c, 0, none⟩)) ?_ rfl
        simp [go_sem, e40]
      · intro a w hb hoth hdep
        refine step_on (want_none rfl) ?_
        obtain ⟨v1, e41, hv1⟩ := ev_dep hdep 1 41 (by kernel_rfl) (by kernel_rfl)
        replace hv1 : v1 = .pointer (some ⟨c, 0, none⟩) := hv1
        subst hv1
        refine step_val (x := .pointer (some ⟨c, 2, none⟩)) ?_ rfl
        simp [go_sem, e41]
      · intro a w hb hoth hdep
        refine step_on (want_none rfl) ?_
        have e3 : a.tmps[3]? = some (.pointer (some ⟨nb, 0, none⟩)) := ev_seg hoth 3 (by kernel_rfl) rfl
        refine step_val (x := .pointer (some ⟨nb, 0, none⟩)) ?_ rfl
        simp [go_sem, e3]
      · intro a w hb hoth hdep
        refine step_on (want_none rfl) ?_
        obtain ⟨v3, e43, hv3⟩ := ev_dep hdep 3 43 (by kernel_rfl) (by kernel_rfl)
        replace hv3 : v3 = .pointer (some ⟨nb, 0, none⟩) := hv3
        subst hv3
        have z0 := (HD.out.2.1.below hb HD.out.2.1.lt).cell 0
        simp only [boxNode, List.getElem?_toArray, List.getElem?_cons_zero, List.getElem?_cons_succ] at z0
        refine step_val (x := .int .i64 n.id) ?_ rfl
        simp [go_sem, e43, z0]
      · intro a w hb hoth hdep
        refine step_on (want_none rfl) ?_
        obtain ⟨v4, e44, hv4⟩ := ev_dep hdep 4 44 (by kernel_rfl) (by kernel_rfl)
        replace hv4 : v4 = .int .i64 n.id := hv4
        subst hv4
        refine step_new (x := .slice (some ⟨w.heap.size, 0, none⟩) 1 1) (w' := w.alloc (.cells #[.int .i64 n.id] 3)) ?_ ⟨_, _, _, rfl, Rd.new1 w n.id _ _ _ rfl, Nat.le_refl _⟩ ((Below.refl _ _).alloc (Nat.le_refl _) _)
        simp [go_sem, e44]
      case fin =>
        intro wz hbz
        iterate 5 (rintro _ rfl)
        rintro _ ⟨A5, n5, c5, rfl, hr5, hn5⟩
        refine FinC.nil ?_
        obtain rfl : n5 = 1 := by have := hr5.len; simpa using this.symm
        have H6 := Lib.hid (And.intro (HD.out.1.below hbz) (And.intro (HD.out.2.2.then_below hbz) hr5))
        clear hbz HD hr5 hn5
        refine cont_line 6 1 (by kernel_rfl) (by kernel_rfl) (by kernel_rfl) ?_
        change wpList _ _ _ [_] _ _
        have hcx := dMark c 2 _ _ _ X.stale A5 1 c5 [n.id] wz H6.out.1.blk rfl H6.out.1.marks H6.out.2.2 (by simp only [List.mem_singleton]; rintro x rfl; exact HX.out.2.2.1.1) (by have := HX.out.2.2.2.2; omega)
        go_wp2_with fail
        (with_reducible refine hcx.mono ?_)
        clear hcx
        rintro e w9 ⟨rfl, hset⟩
        obtain ⟨dm9, h9, ht9⟩ := H6.out.1.marked hset
        have e9 : markAll X.stale [n.id] = putR X.stale n.id := rfl
        rw [e9] at h9 ht9
        have HE : Hid (∃ S', CaO w9 c ⟨insN X.nodes n, putR X.stale n.id, X.needs, X.looked⟩ S' ∧ Turned (caS c X none sm dm SS) S' w w9) := Lib.hid ⟨_, ⟨_, _, _, _, _, _, h9, fun r hr => ((HX.out.1 r hr).ins HR.out n).mono (fun q _ hq => (mem_putR _ _ _).2 hq.symm), fun z hz => (mem_ids_insN _ _ _).2 (((mem_putR _ _ _).1 hz).imp id (HX.out.2.1 z)), rfl⟩, H6.out.2.1.trans ht9⟩
        clear hset h9 ht9 e9 H6
        go_wp2_with fail
        show Cont _ _ _ _ _ _
        refine cont_end (by kernel_rfl) ?_
        go_wp2
        go_ret
        have hq : X.put n = (⟨insN X.nodes n, putR X.stale n.id, X.needs, X.looked⟩, true) := by unfold CX.put; rw [if_neg HN.out]
        rw [hq]
        exact ⟨rfl, HE.out⟩
    | some qb =>
      have hmn := fun (W : World) => run_eql_map_nil (P := Try.prog) W 37 _ _ (some qb) Try.underlying37
      have c0 : w3.cell? ⟨c, 0, none⟩ = some (.map (some qb)) := (H4.out.1.blk.cell 0).trans rfl
      have cl := H4.out.1.blk.lt
      go_upto_region 6 with fail
      clear hmn c0 cl
      have z0 := (H4.out.2.1).cell 0
      have z1 := (H4.out.2.1).cell 1
      have z2 := (H4.out.2.1).cell 2
      have z3 := (H4.out.2.1).cell 3
      have z4 := (H4.out.2.1).cell 4
      have z5 := (H4.out.2.1).cell 5
      have z6 := (H4.out.2.1).cell 6
      have z7 := (H4.out.2.1).cell 7
      have z8 := (H4.out.2.1).cell 8
      have z9 := (H4.out.2.1).cell 9
      have zl := (H4.out.2.1).lt
      simp only [boxNode, List.getElem?_toArray, List.getElem?_cons_zero, List.getElem?_cons_succ] at z0 z1 z2 z3 z4 z5 z6 z7 z8 z9
      have c0 : w3.cell? ⟨c, 0, none⟩ = some (.map (some qb)) := (H4.out.1.blk.cell 0).trans rfl
      have cl := H4.out.1.blk.lt
      go_still_tail 7, (by kernel_rfl)
      obtain ⟨w5, hrun, hM5, hg5, hs5⟩ := (H4.out.1.nodes.below (w' := w3.drew) (Below.refl _ _).drew).store Try.tyN (aggNode n) HX.out.2.2.1.1 (by have := HX.out.2.2.2.1; unfold idsN; rw [List.length_map]; omega)
      have hM6 : MapV w5 (.map (some qb)) (idsN (insN X.nodes n)) (nodeV (insN X.nodes n)) := by
        have e1 : idsN (insN X.nodes n) = putR (idsN X.nodes) n.id := idsN_insN HR.out n
        have e2 : nodeV (insN X.nodes n) = (fun k => if k = n.id then aggNode n else nodeV X.nodes k) := by
          funext k
          unfold nodeV
          rw [nodeOf_insN HR.out]
          split <;> rfl
        rw [e1, e2]
        exact hM5
      have hD := H4.out.1.below (w' := w3.drew) (Below.refl _ _).drew
      have hkq : Kept (caF c (some qb) sm dm) w3.drew w5 := Kept.of_grown hg5 (fun k e _ => .inr (.inl e))
      have hout : ∀ k, k ≠ qb → k < w3.drew.heap.size → w5.heap[k]? = w3.drew.heap[k]? := fun k h1 h2 => hg5.block k h2 (fun e => h1 (by injection e))
      obtain ⟨n1, n2, n3⟩ := hD.ne_c
      have hnq : qb ≠ c := fun e => n1 (by rw [e])
      have hown := hD.own_ (w' := w5) (X' := ⟨insN X.nodes n, X.stale, X.needs, X.looked⟩) (nm' := some qb) (sm' := sm) (dm' := dm) hkq ((hout c (Ne.symm hnq) hD.blk.lt).trans hD.blk) hM6 (hD.shelves.step fun b hb hl => by cases hb; exact hout _ (fun e => (hD.ns qb rfl).1 (by rw [e])) hl) (hD.marks.step fun b hb hl => by cases hb; exact hout _ (fun e => (hD.ns qb rfl).2 (by rw [e])) hl) (fun r hr => hr) (fun k hk => .inl hk) hD.ns hD.sd (fun q hq => ((mem_insN HR.out n q).1 hq).elim (fun e => e ▸ HX.out.2.2.1) (fun h => hD.wfn q h.1))
      have hnqb : nb ≠ qb := fun e => H4.out.1.nodes.ne_blk H4.out.2.1 (by rw [e])
      have H5 : Hid (CaAt w5 c ⟨insN X.nodes n, X.stale, X.needs, X.looked⟩ (some qb) sm dm cb SS TT ∧ Blk w5 nb 55 (boxNode n) ∧ Turned (caS c X (some qb) sm dm SS) (caS c ⟨insN X.nodes n, X.stale, X.needs, X.looked⟩ (some qb) sm dm SS) w w5) := Lib.hid ⟨hown.1, (hout nb hnqb H4.out.2.1.lt).trans H4.out.2.1, (H4.out.2.2.trans (Turned.of_below (Below.refl _ _).drew)).trans hown.2⟩
      clear hM5 hM6 hD hkq hout n1 n2 n3 hnq hown hnqb hg5 hs5 c0 cl z0 z1 z2 z3 z4 z5 z6 z7 z8 z9 zl
      go_upto_region 7 with fail
      clear hrun
      refine Cont.start (by kernel_rfl) ?_
      have HD := Lib.hid (And.intro (H5.out.1.below (Below.refl w5.heap.size w5).drew) (And.intro (H5.out.2.1.below (Below.refl w5.heap.size w5).drew H5.out.2.1.lt) (H5.out.2.2.trans (Turned.of_below (Below.refl w5.heap.size w5).drew))))
      clear H5
      generalize w5.drew = wd at HD ⊢
      refine cont_free 0 6 40 [] [.o (eqV (.pointer (some ⟨c, 0, none⟩))), .o (eqV (.pointer (some ⟨c, 0, none⟩))), .o (eqV (.pointer (some ⟨c, 2, none⟩))), .o (eqV (.pointer (some ⟨nb, 0, none⟩))), .o (eqV (.int .i64 n.id)), .o (rdV encI 1 [n.id] 1)] [false, false, false, false, false, false] (by kernel_rfl) (by kernel_rfl) (by kernel_rfl) (by kernel_rfl) (by kernel_rfl) (by kernel_rfl) (by kernel_rfl) rfl (by kernel_rfl) (by kernel_rfl) ⟨?_, ?_, ?_, ?_, ?_, ?_, trivial⟩ ?fin
      · intro a w hb hoth hdep
        refine step_on (want_none rfl) ?_
        have e0 : a.tmps[0]? = some (.pointer (some ⟨c, 0, none⟩)) := ev_seg hoth 0 (by kernel_rfl) rfl
        exact step_val ((BigFrame.run_move _ rfl w).trans (by rw [ev_of e0])) rfl
      · intro a w hb hoth hdep
        refine step_on (want_none rfl) ?_
        obtain ⟨v0, e40, hv0⟩ := ev_dep hdep 0 40 (by kernel_rfl) (by kernel_rfl)
        replace hv0 : v0 = .pointer (some ⟨c, 0, none⟩) := hv0
        subst hv0
        refine step_val (x := .pointer (some ⟨c, 0, none⟩)) ?_ rfl
        simp [go_sem, e40]
      · intro a w hb hoth hdep
        refine step_on (want_none rfl) ?_
        obtain ⟨v1, e41, hv1⟩ := ev_dep hdep 1 41 (by kernel_rfl) (by kernel_rfl)
        replace hv1 : v1 = .pointer (some ⟨c, 0, none⟩) := hv1
        subst hv1
        refine step_val (x := .pointer (some ⟨c, 2, none⟩)) ?_ rfl
        simp [go_sem, e41]
      · intro a w hb hoth hdep
        refine step_on (want_none rfl) ?_
        have e3 : a.tmps[3]? = some (.pointer (some ⟨nb, 0, none⟩)) := ev_seg hoth 3 (by kernel_rfl) rfl
        refine step_val (x := .pointer (some ⟨nb, 0, none⟩)) ?_ rfl
        simp [go_sem, e3]
      · intro a w hb hoth hdep
        refine step_on (want_none rfl) ?_
        obtain ⟨v3, e43, hv3⟩ := ev_dep hdep 3 43 (by kernel_rfl) (by kernel_rfl)
        replace hv3 : v3 = .pointer (some ⟨nb, 0, none⟩) := hv3
        subst hv3
        have z0 := (HD.out.2.1.below hb HD.out.2.1.lt).cell 0
        simp only [boxNode, List.getElem?_toArray, List.getElem?_cons_zero, List.getElem?_cons_succ] at z0
        refine step_val (x := .int .i64 n.id) ?_ rfl
        simp [go_sem, e43, z0]
      · intro a w hb hoth hdep
        refine step_on (want_none rfl) ?_
        obtain ⟨v4, e44, hv4⟩ := ev_dep hdep 4 44 (by kernel_rfl) (by kernel_rfl)
        replace hv4 : v4 = .int .i64 n.id := hv4
        subst hv4
        refine step_new (x := .slice (some ⟨w.heap.size, 0, none⟩) 1 1) (w' := w.alloc (.cells #[.int .i64 n.id] 3)) ?_ ⟨_, _, _, rfl, Rd.new1 w n.id _ _ _ rfl, Nat.le_refl _⟩ ((Below.refl _ _).alloc (Nat.le_refl _) _)
        simp [go_sem, e44]
      case fin =>
        intro wz hbz
        iterate 5 (rintro _ rfl)
        rintro _ ⟨A5, n5, c5, rfl, hr5, hn5⟩
        refine FinC.nil ?_
        obtain rfl : n5 = 1 := by have := hr5.len; simpa using this.symm
        have H6 := Lib.hid (And.intro (HD.out.1.below hbz) (And.intro (HD.out.2.2.then_below hbz) hr5))
        clear hbz HD hr5 hn5
        refine cont_line 6 1 (by kernel_rfl) (by kernel_rfl) (by kernel_rfl) ?_
        change wpList _ _ _ [_] _ _
        have hcx := dMark c 2 _ _ _ X.stale A5 1 c5 [n.id] wz H6.out.1.blk rfl H6.out.1.marks H6.out.2.2 (by simp only [List.mem_singleton]; rintro x rfl; exact HX.out.2.2.1.1) (by have := HX.out.2.2.2.2; omega)
        go_wp2_with fail
        (with_reducible refine hcx.mono ?_)
        clear hcx
        rintro e w9 ⟨rfl, hset⟩
        obtain ⟨dm9, h9, ht9⟩ := H6.out.1.marked hset
        have e9 : markAll X.stale [n.id] = putR X.stale n.id := rfl
        rw [e9] at h9 ht9
        have HE : Hid (∃ S', CaO w9 c ⟨insN X.nodes n, putR X.stale n.id, X.needs, X.looked⟩ S' ∧ Turned (caS c X (some qb) sm dm SS) S' w w9) := Lib.hid ⟨_, ⟨_, _, _, _, _, _, h9, fun r hr => ((HX.out.1 r hr).ins HR.out n).mono (fun q _ hq => (mem_putR _ _ _).2 hq.symm), fun z hz => (mem_ids_insN _ _ _).2 (((mem_putR _ _ _).1 hz).imp id (HX.out.2.1 z)), rfl⟩, H6.out.2.1.trans ht9⟩
        clear hset h9 ht9 e9 H6
        go_wp2_with fail
        show Cont _ _ _ _ _ _
        refine cont_end (by kernel_rfl) ?_
        go_wp2
        go_ret
        have hq : X.put n = (⟨insN X.nodes n, putR X.stale n.id, X.needs, X.looked⟩, true) := by unfold CX.put; rw [if_neg HN.out]
        rw [hq]
        exact ⟨rfl, HE.out⟩
  | true =>
    by_cases he : m = n
    · have HY : Hid (n ∈ X.nodes) := Lib.hid ((mem_nodes_iff HR.out n).2 ⟨by have h2 := HMD.out.2; simpa using h2, HMD.out.1.trans he⟩)
      rw [decide_eq_true he] at heq
      have HE : Hid (∃ S', CaO w3 c X S' ∧ Turned (caS c X nm sm dm SS) S' w w3) := Lib.hid ⟨_, ⟨_, _, _, _, _, _, H3.out.1, HX.out.1, HX.out.2.1, rfl⟩, Turned.of_below (by have := H3.out.2.2.1; rw [HNB.out] at this; exact this)⟩
      clear he
      go_wp2
      go_ret
      have hq : X.put n = (X, false) := by unfold CX.put; rw [if_pos HY.out]
      rw [hq]
      exact ⟨rfl, HE.out⟩
    · have HN : Hid (n ∉ X.nodes) := Lib.hid fun hn => he (HMD.out.1.symm.trans ((mem_nodes_iff HR.out n).1 hn).2)
      rw [decide_eq_false he] at heq
      clear he
      go_upto_region 4 with fail
      clear heq hgd z0 z1 z2 z3 z4 z5 z6 z7 z8 z9 zl y0 y1 y2 y3 y4 y5 y6 y7 y8 y9 yl
      have H4 : Hid (CaAt w3 c X nm sm dm cb SS TT ∧ Blk w3 nb 55 (boxNode n) ∧ Turned (caS c X nm sm dm SS) (caS c X nm sm dm SS) w w3) := Lib.hid ⟨H3.out.1, H3.out.2.1, Turned.of_below (by have := H3.out.2.2.1; rw [HNB.out] at this; exact this)⟩
      clear H3
      cases nm with
      | none =>
        have hmn := fun (W : World) => run_eql_map_nil (P := Try.prog) W 37 _ _ (none) Try.underlying37
        have hmm := @run_makeMap Try.prog
        have c0 : w3.cell? ⟨c, 0, none⟩ = some (.map none) := (H4.out.1.blk.cell 0).trans rfl
        have f0 := H4.out.1.blk.frozen 0
        have cl := H4.out.1.blk.lt
        go_upto_region 6 with fail
        have hnil : idsN X.nodes = [] := by rcases H4.out.1.nodes.is with ⟨_, h2⟩ | ⟨b, D, h2, _⟩; exact h2; cases h2
        have hb4 : Blk ((w3.setCell ⟨c, 0, none⟩ (.map (some w3.heap.size))).alloc (.map #[] 0)) c 48 (caBox (some w3.heap.size) sm dm X.looked) := by have := (H4.out.1.blk.set_ 0 (.map (some w3.heap.size))).alloc (.map #[] 0); simpa [caBox] using this
        have hk4 : Kept (fun k => k = c) w3 ((w3.setCell ⟨c, 0, none⟩ (.map (some w3.heap.size))).alloc (.map #[] 0)) := ((Kept.refl (fun k => k = c) w3).setCell (p := ⟨c, 0, none⟩) (fun _ => rfl) _).alloc _
        have hm4 : MapV ((w3.setCell ⟨c, 0, none⟩ (.map (some w3.heap.size))).alloc (.map #[] 0)) (.map (some w3.heap.size)) (idsN X.nodes) (nodeV X.nodes) := by rw [hnil]; have := MapV.made (w3.setCell ⟨c, 0, none⟩ (.map (some w3.heap.size))) (nodeV X.nodes); rwa [show (w3.setCell ⟨c, 0, none⟩ (.map (some w3.heap.size))).heap.size = w3.heap.size by simp [World.setCell]] at this
        obtain ⟨n1, n2, n3⟩ := H4.out.1.ne_c
        have hown := H4.out.1.own_ (X' := X) (nm' := some w3.heap.size) (sm' := sm) (dm' := dm) (hk4.mono fun k _ e => .inl e) hb4 hm4 (H4.out.1.shelves.step fun b hb hl => by cases hb; exact hk4.block _ hl (fun e => n2 (by rw [e]))) (H4.out.1.marks.step fun b hb hl => by cases hb; exact hk4.block _ hl (fun e => n3 (by rw [e]))) (fun r hr => hr) (fun k hk => by
          rcases hk with e | e | e | e
          · exact .inl (.inl e)
          · cases e; exact .inr (Nat.le_refl _)
          · exact .inl (.inr (.inr (.inl e)))
          · exact .inl (.inr (.inr (.inr e)))) (fun k hk => by
          cases hk
          exact ⟨fun e => by have := H4.out.1.shelves.lt _ (by rw [e]); omega, fun e => by have := H4.out.1.marks.lt _ (by rw [e]); omega⟩) H4.out.1.sd H4.out.1.wfn
        have hbn4 : Blk ((w3.setCell ⟨c, 0, none⟩ (.map (some w3.heap.size))).alloc (.map #[] 0)) nb 55 (boxNode n) := H4.out.2.1.kept hk4 (fun e => by have := HF.out c (.inl (.inl rfl)); have := HNB.out; omega)
        have H5 : Hid (CaAt ((w3.setCell ⟨c, 0, none⟩ (.map (some w3.heap.size))).alloc (.map #[] 0)) c X (some w3.heap.size) sm dm cb SS TT ∧ Blk ((w3.setCell ⟨c, 0, none⟩ (.map (some w3.heap.size))).alloc (.map #[] 0)) nb 55 (boxNode n) ∧ Turned (caS c X none sm dm SS) (caS c X (some w3.heap.size) sm dm SS) w ((w3.setCell ⟨c, 0, none⟩ (.map (some w3.heap.size))).alloc (.map #[] 0))) := Lib.hid ⟨hown.1, hbn4, H4.out.2.2.trans hown.2⟩
        clear hnil hb4 hk4 hm4 n1 n2 n3 hown hbn4 hmm hmn c0 f0 cl H4
        obtain ⟨qb, hqb⟩ : ∃ qb, w3.heap.size = qb := ⟨_, rfl⟩
        rw [hqb] at H5
        generalize hw4 : (w3.setCell ⟨c, 0, none⟩ (.map (some w3.heap.size))).alloc (.map #[] 0) = w4
        rw [hqb] at hw4
        rw [hw4] at H5
        clear hw4 hqb
        have H4 := H5
        clear H5
        have z0 := (H4.out.2.1).cell 0
        have z1 := (H4.out.2.1).cell 1
        have z2 := (H4.out.2.1).cell 2
        have z3 := (H4.out.2.1).cell 3
        have z4 := (H4.out.2.1).cell 4
        have z5 := (H4.out.2.1).cell 5
        have z6 := (H4.out.2.1).cell 6
        have z7 := (H4.out.2.1).cell 7
        have z8 := (H4.out.2.1).cell 8
        have z9 := (H4.out.2.1).cell 9
        have zl := (H4.out.2.1).lt
        simp only [boxNode, List.getElem?_toArray, List.getElem?_cons_zero, List.getElem?_cons_succ] at z0 z1 z2 z3 z4 z5 z6 z7 z8 z9
        have c0 : w4.cell? ⟨c, 0, none⟩ = some (.map (some qb)) := (H4.out.1.blk.cell 0).trans rfl
        have cl := H4.out.1.blk.lt
        go_still_tail 7, (by kernel_rfl)
        obtain ⟨w5, hrun, hM5, hg5, hs5⟩ := (H4.out.1.nodes.below (w' := w4.drew) (Below.refl _ _).drew).store Try.tyN (aggNode n) HX.out.2.2.1.1 (by have := HX.out.2.2.2.1; unfold idsN; rw [List.length_map]; omega)
        have hM6 : MapV w5 (.map (some qb)) (idsN (insN X.nodes n)) (nodeV (insN X.nodes n)) := by
          have e1 : idsN (insN X.nodes n) = putR (idsN X.nodes) n.id := idsN_insN HR.out n
          have e2 : nodeV (insN X.nodes n) = (fun k => if k = n.id then aggNode n else nodeV X.nodes k) := by
            funext k
            unfold nodeV
            rw [nodeOf_insN HR.out]
            split <;> rfl
          rw [e1, e2]
          exact hM5
        have hD := H4.out.1.below (w' := w4.drew) (Below.refl _ _).drew
        have hkq : Kept (caF c (some qb) sm dm) w4.drew w5 := Kept.of_grown hg5 (fun k e _ => .inr (.inl e))
        have hout : ∀ k, k ≠ qb → k < w4.drew.heap.size → w5.heap[k]? = w4.drew.heap[k]? := fun k h1 h2 => hg5.block k h2 (fun e => h1 (by injection e))
        obtain ⟨n1, n2, n3⟩ := hD.ne_c
        have hnq : qb ≠ c := fun e => n1 (by rw [e])
        have hown := hD.own_ (w' := w5) (X' := ⟨insN X.nodes n, X.stale, X.needs, X.looked⟩) (nm' := some qb) (sm' := sm) (dm' := dm) hkq ((hout c (Ne.symm hnq) hD.blk.lt).trans hD.blk) hM6 (hD.shelves.step fun b hb hl => by cases hb; exact hout _ (fun e => (hD.ns qb rfl).1 (by rw [e])) hl) (hD.marks.step fun b hb hl => by cases hb; exact hout _ (fun e => (hD.ns qb rfl).2 (by rw [e])) hl) (fun r hr => hr) (fun k hk => .inl hk) hD.ns hD.sd (fun q hq => ((mem_insN HR.out n q).1 hq).elim (fun e => e ▸ HX.out.2.2.1) (fun h => hD.wfn q h.1))
        have hnqb : nb ≠ qb := fun e => H4.out.1.nodes.ne_blk H4.out.2.1 (by rw [e])
        have H5 : Hid (CaAt w5 c ⟨insN X.nodes n, X.stale, X.needs, X.looked⟩ (some qb) sm dm cb SS TT ∧ Blk w5 nb 55 (boxNode n) ∧ Turned (caS c X none sm dm SS) (caS c ⟨insN X.nodes n, X.stale, X.needs, X.looked⟩ (some qb) sm dm SS) w w5) := Lib.hid ⟨hown.1, (hout nb hnqb H4.out.2.1.lt).trans H4.out.2.1, (H4.out.2.2.trans (Turned.of_below (Below.refl _ _).drew)).trans hown.2⟩
        clear hM5 hM6 hD hkq hout n1 n2 n3 hnq hown hnqb hg5 hs5 c0 cl z0 z1 z2 z3 z4 z5 z6 z7 z8 z9 zl
        go_upto_region 7 with fail
        clear hrun
        refine Cont.start (by kernel_rfl) ?_
        have HD := Lib.hid (And.intro (H5.out.1.below (Below.refl w5.heap.size w5).drew) (And.intro (H5.out.2.1.below (Below.refl w5.heap.size w5).drew H5.out.2.1.lt) (H5.out.2.2.trans (Turned.of_below (Below.refl w5.heap.size w5).drew))))
        clear H5
        generalize w5.drew = wd at HD ⊢
        refine cont_free 0 6 40 [] [.o (eqV (.pointer (some ⟨c, 0, none⟩))), .o (eqV (.pointer (some ⟨c, 0, none⟩))), .o (eqV (.pointer (some ⟨c, 2, none⟩))), .o (eqV (.pointer (some ⟨nb, 0, none⟩))), .o (eqV (.int .i64 n.id)), .o (rdV encI 1 [n.id] 1)] [false, false, false, false, false, false] (by kernel_rfl) (by kernel_rfl) (by kernel_rfl) (by kernel_rfl) (by kernel_rfl) (by kernel_rfl) (by kernel_rfl) rfl (by kernel_rfl) (by kernel_rfl) ⟨?_, ?_, ?_, ?_, ?_, ?_, trivial⟩ ?fin
        · intro a w hb hoth hdep
          refine step_on (want_none rfl) ?_
          have e0 : a.tmps[0]? = some (.pointer (some ⟨c, 0, none⟩)) := ev_seg hoth 0 (by kernel_rfl) rfl
          exact step_val ((BigFrame.run_move _ rfl w).trans (by rw [ev_of e0])) rfl
        · intro a w hb hoth hdep
          refine step_on (want_none rfl) ?_
          obtain ⟨v0, e40, hv0⟩ := ev_dep hdep 0 40 (by kernel_rfl) (by kernel_rfl)
          replace hv0 : v0 = .pointer (some ⟨c, 0, none⟩) := hv0
          subst hv0
          refine step_val (x := .pointer (some ⟨c, 0, none⟩)) ?_ rfl
          simp [go_sem, e40]
        · intro a w hb hoth hdep
          refine step_on (want_none rfl) ?_
          obtain ⟨v1, e41, hv1⟩ := ev_dep hdep 1 41 (by kernel_rfl) (by kernel_rfl)
          replace hv1 : v1 = .pointer (some ⟨c, 0, none⟩) := hv1
          subst hv1
          refine step_val (x := .pointer (some ⟨c, 2, none⟩)) ?_ rfl
          simp [go_sem, e41]
        · intro a w hb hoth hdep
          refine step_on (want_none rfl) ?_
          have e3 : a.tmps[3]? = some (.pointer (some ⟨nb, 0, none⟩)) := ev_seg hoth 3 (by kernel_rfl) rfl
          refine step_val (x := .pointer (some ⟨nb, 0, none⟩)) ?_ rfl
          simp [go_sem, e3]
        · intro a w hb hoth hdep
          refine step_on (want_none rfl) ?_
          obtain ⟨v3, e43, hv3⟩ := ev_dep hdep 3 43 (by kernel_rfl) (by kernel_rfl)
          replace hv3 : v3 = .pointer (some ⟨nb, 0, none⟩) := hv3
          subst hv3
          have z0 := (HD.out.2.1.below hb HD.out.2.1.lt).cell 0
          simp only [boxNode, List.getElem?_toArray, List.getElem?_cons_zero, List.getElem?_cons_succ] at z0
          refine step_val (x := .int .i64 n.id) ?_ rfl
          simp [go_sem, e43, z0]
        · intro a w hb hoth hdep
          refine step_on (want_none rfl) ?_
          obtain ⟨v4, e44, hv4⟩ := ev_dep hdep 4 44 (by kernel_rfl) (by kernel_rfl)
          replace hv4 : v4 = .int .i64 n.id := hv4
          subst hv4
          refine step_new (x := .slice (some ⟨w.heap.size, 0, none⟩) 1 1) (w' := w.alloc (.cells #[.int .i64 n.id] 3)) ?_ ⟨_, _, _, rfl, Rd.new1 w n.id _ _ _ rfl, Nat.le_refl _⟩ ((Below.refl _ _).alloc (Nat.le_refl _) _)
          simp [go_sem, e44]
        case fin =>
          intro wz hbz
          iterate 5 (rintro _ rfl)
          rintro _ ⟨A5, n5, c5, rfl, hr5, hn5⟩
          refine FinC.nil ?_
          obtain rfl : n5 = 1 := by have := hr5.len; simpa using this.symm
          have H6 := Lib.hid (And.intro (HD.out.1.below hbz) (And.intro (HD.out.2.2.then_below hbz) hr5))
          clear hbz HD hr5 hn5
          refine cont_line 6 1 (by kernel_rfl) (by kernel_rfl) (by kernel_rfl) ?_
          change wpList _ _ _ [_] _ _
          have hcx := dMark c 2 _ _ _ X.stale A5 1 c5 [n.id] wz H6.out.1.blk rfl H6.out.1.marks H6.out.2.2 (by simp only [List.mem_singleton]; rintro x rfl; exact HX.out.2.2.1.1) (by have := HX.out.2.2.2.2; omega)
          go_wp2_with fail
          (with_reducible refine hcx.mono ?_)
          clear hcx
          rintro e w9 ⟨rfl, hset⟩
          obtain ⟨dm9, h9, ht9⟩ := H6.out.1.marked hset
          have e9 : markAll X.stale [n.id] = putR X.stale n.id := rfl
          rw [e9] at h9 ht9
          have HE : Hid (∃ S', CaO w9 c ⟨insN X.nodes n, putR X.stale n.id, X.needs, X.looked⟩ S' ∧ Turned (caS c X none sm dm SS) S' w w9) := Lib.hid ⟨_, ⟨_, _, _, _, _, _, h9, fun r hr => ((HX.out.1 r hr).ins HR.out n).mono (fun q _ hq => (mem_putR _ _ _).2 hq.symm), fun z hz => (mem_ids_insN _ _ _).2 (((mem_putR _ _ _).1 hz).imp id (HX.out.2.1 z)), rfl⟩, H6.out.2.1.trans ht9⟩
          clear hset h9 ht9 e9 H6
          go_wp2_with fail
          show Cont _ _ _ _ _ _
          refine cont_end (by kernel_rfl) ?_
          go_wp2
          go_ret
          have hq : X.put n = (⟨insN X.nodes n, putR X.stale n.id, X.needs, X.looked⟩, true) := by unfold CX.put; rw [if_neg HN.out]
          rw [hq]
          exact ⟨rfl, HE.out⟩
      | some qb =>
        have hmn := fun (W : World) => run_eql_map_nil (P := Try.prog) W 37 _ _ (some qb) Try.underlying37
        have c0 : w3.cell? ⟨c, 0, none⟩ = some (.map (some qb)) := (H4.out.1.blk.cell 0).trans rfl
        have cl := H4.out.1.blk.lt
        go_upto_region 6 with fail
        clear hmn c0 cl
        have z0 := (H4.out.2.1).cell 0
        have z1 := (H4.out.2.1).cell 1
        have z2 := (H4.out.2.1).cell 2
        have z3 := (H4.out.2.1).cell 3
        have z4 := (H4.out.2.1).cell 4
        have z5 := (H4.out.2.1).cell 5
        have z6 := (H4.out.2.1).cell 6
        have z7 := (H4.out.2.1).cell 7
        have z8 := (H4.out.2.1).cell 8
        have z9 := (H4.out.2.1).cell 9
        have zl := (H4.out.2.1).lt
        simp only [boxNode, List.getElem?_toArray, List.getElem?_cons_zero, List.getElem?_cons_succ] at z0 z1 z2 z3 z4 z5 z6 z7 z8 z9
        have c0 : w3.cell? ⟨c, 0, none⟩ = some (.map (some qb)) := (H4.out.1.blk.cell 0).trans rfl
        have cl := H4.out.1.blk.lt
        go_still_tail 7, (by kernel_rfl)
        obtain ⟨w5, hrun, hM5, hg5, hs5⟩ := (H4.out.1.nodes.below (w' := w3.drew) (Below.refl _ _).drew).store Try.tyN (aggNode n) HX.out.2.2.1.1 (by have := HX.out.2.2.2.1; unfold idsN; rw [List.length_map]; omega)
        have hM6 : MapV w5 (.map (some qb)) (idsN (insN X.nodes n)) (nodeV (insN X.nodes n)) := by
          have e1 : idsN (insN X.nodes n) = putR (idsN X.nodes) n.id := idsN_insN HR.out n
          have e2 : nodeV (insN X.nodes n) = (fun k => if k = n.id then aggNode n else nodeV X.nodes k) := by
            funext k
            unfold nodeV
            rw [nodeOf_insN HR.out]
            split <;> rfl
          rw [e1, e2]
          exact hM5
        have hD := H4.out.1.below (w' := w3.drew) (Below.refl _ _).drew
        have hkq : Kept (caF c (some qb) sm dm) w3.drew w5 := Kept.of_grown hg5 (fun k e _ => .inr (.inl e))
        have hout : ∀ k, k ≠ qb → k < w3.drew.heap.size → w5.heap[k]? = w3.drew.heap[k]? := fun k h1 h2 => hg5.block k h2 (fun e => h1 (by injection e))
        obtain ⟨n1, n2, n3⟩ := hD.ne_c
        have hnq : qb ≠ c := fun e => n1 (by rw [e])
        have hown := hD.own_ (w' := w5) (X' := ⟨insN X.nodes n, X.stale, X.needs, X.looked⟩) (nm' := some qb) (sm' := sm) (dm' := dm) hkq ((hout c (Ne.symm hnq) hD.blk.lt).trans hD.blk) hM6 (hD.shelves.step fun b hb hl => by cases hb; exact hout _ (fun e => (hD.ns qb rfl).1 (by rw [e])) hl) (hD.marks.step fun b hb hl => by cases hb; exact hout _ (fun e => (hD.ns qb rfl).2 (by rw [e])) hl) (fun r hr => hr) (fun k hk => .inl hk) hD.ns hD.sd (fun q hq => ((mem_insN HR.out n q).1 hq).elim (fun e => e ▸ HX.out.2.2.1) (fun h => hD.wfn q h.1))
        have hnqb : nb ≠ qb := fun e => H4.out.1.nodes.ne_blk H4.out.2.1 (by rw [e])
        have H5 : Hid (CaAt w5 c ⟨insN X.nodes n, X.stale, X.needs, X.looked⟩ (some qb) sm dm cb SS TT ∧ Blk w5 nb 55 (boxNode n) ∧ Turned (caS c X (some qb) sm dm SS) (caS c ⟨insN X.nodes n, X.stale, X.needs, X.looked⟩ (some qb) sm dm SS) w w5) := Lib.hid ⟨hown.1, (hout nb hnqb H4.out.2.1.lt).trans H4.out.2.1, (H4.out.2.2.trans (Turned.of_below (Below.refl _ _).drew)).trans hown.2⟩
        clear hM5 hM6 hD hkq hout n1 n2 n3 hnq hown hnqb hg5 hs5 c0 cl z0 z1 z2 z3 z4 z5 z6 z7 z8 z9 zl
        go_upto_region 7 with fail
        clear hrun
        refine Cont.start (by kernel_rfl) ?_
        have HD := Lib.hid (And.intro (H5.out.1.below (Below.refl w5.heap.size w5).drew) (And.intro (H5.out.2.1.below (Below.refl w5.heap.size w5).drew H5.out.2.1.lt) (H5.out.2.2.trans (Turned.of_below (Below.refl w5.heap.size w5).drew))))
        clear H5
        generalize w5.drew = wd at HD ⊢
        refine cont_free 0 6 40 [] [.o (eqV (.pointer (some ⟨c, 0, none⟩))), .o (eqV (.pointer (some ⟨c, 0, none⟩))), .o (eqV (.pointer (some ⟨c, 2, none⟩))), .o (eqV (.pointer (some ⟨nb, 0, none⟩))), .o (eqV (.int .i64 n.id)), .o (rdV encI 1 [n.id] 1)] [false, false, false, false, false, false] (by kernel_rfl) (by kernel_rfl) (by kernel_rfl) (by kernel_rfl) (by kernel_rfl) (by kernel_rfl) (by kernel_rfl) rfl (by kernel_rfl) (by kernel_rfl) ⟨?_, ?_, ?_, ?_, ?_, ?_, trivial⟩ ?fin
        · intro a w hb hoth hdep
          refine step_on (want_none rfl) ?_
          have e0 : a.tmps[0]? = some (.pointer (some ⟨c, 0, none⟩)) := ev_seg hoth 0 (by kernel_rfl) rfl
          exact step_val ((BigFrame.run_move _ rfl w).trans (by rw [ev_of e0])) rfl
        · intro a w hb hoth hdep
          refine step_on (want_none rfl) ?_
          obtain ⟨v0, e40, hv0⟩ := ev_dep hdep 0 40 (by kernel_rfl) (by kernel_rfl)
          replace hv0 : v0 = .pointer (some ⟨c, 0, none⟩) := hv0
          subst hv0
          refine step_val (x := .pointer (some ⟨c, 0, none⟩)) ?_ rfl
          simp [go_sem, e40]
        · intro a w hb hoth hdep
          refine step_on (want_none rfl) ?_
          obtain ⟨v1, e41, hv1⟩ := ev_dep hdep 1 41 (by kernel_rfl) (by kernel_rfl)
          replace hv1 : v1 = .pointer (some ⟨c, 0, none⟩) := hv1
          subst hv1
          refine step_val (x := .pointer (some ⟨c, 2, none⟩)) ?_ rfl
          simp [go_sem, e41]
        · intro a w hb hoth hdep
          refine step_on (want_none rfl) ?_
          have e3 : a.tmps[3]? = some (.pointer (some ⟨nb, 0, none⟩)) := ev_seg hoth 3 (by kernel_rfl) rfl
          refine step_val (x := .pointer (some ⟨nb, 0, none⟩)) ?_ rfl
          simp [go_sem, e3]
        · intro a w hb hoth hdep
          refine step_on (want_none rfl) ?_
          obtain ⟨v3, e43, hv3⟩ := ev_dep hdep 3 43 (by kernel_rfl) (by kernel_rfl)
          replace hv3 : v3 = .pointer (some ⟨nb, 0, none⟩) := hv3
          subst hv3
          have z0 := (HD.out.2.1.below hb HD.out.2.1.lt).cell 0
          simp only [boxNode, List.getElem?_toArray, List.getElem?_cons_zero, List.getElem?_cons_succ] at z0
          refine step_val (x := .int .i64 n.id) ?_ rfl
          simp [go_sem, e43, z0]
        · intro a w hb hoth hdep
          refine step_on (want_none rfl) ?_
          obtain ⟨v4, e44, hv4⟩ := ev_dep hdep 4 44 (by kernel_rfl) (by kernel_rfl)
          replace hv4 : v4 = .int .i64 n.id := hv4
          subst hv4
          refine step_new (x := .slice (some ⟨w.heap.size, 0, none⟩) 1 1) (w' := w.alloc (.cells #[.int .i64 n.id] 3)) ?_ ⟨_, _, _, rfl, Rd.new1 w n.id _ _ _ rfl, Nat.le_refl _⟩ ((Below.refl _ _).alloc (Nat.le_refl _) _)
          simp [go_sem, e44]
        case fin =>
          intro wz hbz
          iterate 5 (rintro _ rfl)
          rintro _ ⟨A5, n5, c5, rfl, hr5, hn5⟩
          refine FinC.nil ?_
          obtain rfl : n5 = 1 := by have := hr5.len; simpa using this.symm
          have H6 := Lib.hid (And.intro (HD.out.1.below hbz) (And.intro (HD.out.2.2.then_below hbz) hr5))
          clear hbz HD hr5 hn5
          refine cont_line 6 1 (by kernel_rfl) (by kernel_rfl) (by kernel_rfl) ?_
          change wpList _ _ _ [_] _ _
          have hcx := dMark c 2 _ _ _ X.stale A5 1 c5 [n.id] wz H6.out.1.blk rfl H6.out.1.marks H6.out.2.2 (by simp only [List.mem_singleton]; rintro x rfl; exact HX.out.2.2.1.1) (by have := HX.out.2.2.2.2; omega)
          go_wp2_with fail
          (with_reducible refine hcx.mono ?_)
          clear hcx
          rintro e w9 ⟨rfl, hset⟩
          obtain ⟨dm9, h9, ht9⟩ := H6.out.1.marked hset
          have e9 : markAll X.stale [n.id] = putR X.stale n.id := rfl
          rw [e9] at h9 ht9
          have HE : Hid (∃ S', CaO w9 c ⟨insN X.nodes n, putR X.stale n.id, X.needs, X.looked⟩ S' ∧ Turned (caS c X (some qb) sm dm SS) S' w w9) := Lib.hid ⟨_, ⟨_, _, _, _, _, _, h9, fun r hr => ((HX.out.1 r hr).ins HR.out n).mono (fun q _ hq => (mem_putR _ _ _).2 hq.symm), fun z hz => (mem_ids_insN _ _ _).2 (((mem_putR _ _ _).1 hz).imp id (HX.out.2.1 z)), rfl⟩, H6.out.2.1.trans ht9⟩
          clear hset h9 ht9 e9 H6
          go_wp2_with fail
          show Cont _ _ _ _ _ _
          refine cont_end (by kernel_rfl) ?_
          go_wp2
          go_ret
          have hq : X.put n = (⟨insN X.nodes n, putR X.stale n.id, X.needs, X.looked⟩, true) := by unfold CX.put; rw [if_neg HN.out]
          rw [hq]
          exact ⟨rfl, HE.out⟩
set_option maxRecDepth 100000 in
set_option maxHeartbeats 3200000 in
theorem caForget_o {w : World} {c : Nat} {X : CX} {S : Nat → Prop} (h : CaO w c X S) (r : LRes) (hw : wfRes r) :
    Calls Try.prog 21 #[.pointer (some ⟨c, 0, none⟩), aggRes r] w fun e w' => e = .returned (.bool (X.forget r).2) ∧ ∃ S', CaO w' c (X.forget r).1 S' ∧ Turned S S' w w' := by
  obtain ⟨nm, sm, dm, cb, SS, TT, hA, hT, hst, rfl⟩ := h
  have hB : Below w.heap.size w (w.alloc (.cells (boxRes r) 53)) := (Below.refl _ _).alloc (Nat.le_refl _) _
  have H1 : Hid (CaAt (w.alloc (.cells (boxRes r) 53)) c X nm sm dm cb SS TT ∧ Blk (w.alloc (.cells (boxRes r) 53)) w.heap.size 53 (boxRes r) ∧ Below w.heap.size w (w.alloc (.cells (boxRes r) 53))) := Lib.hid ⟨hA.below hB, Blk.new w _ _, hB⟩
  have HX := Lib.hid (And.intro hT (And.intro hst (And.intro hw hA.lt)))
  clear hA hB hT hst hw
  go_enter Try.func21, Try.ntmps21
  go_upto_region 3 with fail
  obtain ⟨nb, hnb⟩ : ∃ nb, w.heap.size = nb := ⟨_, rfl⟩
  have HNB := Lib.hid hnb.symm
  rw [hnb] at H1
  generalize (w.alloc (.cells (boxRes r) 53)) = w1 at H1 ⊢
  try rw [hnb]
  clear hnb
  have z0 := (H1.out.2.1).cell 0
  have z1 := (H1.out.2.1).cell 1
  have z2 := (H1.out.2.1).cell 2
  have zl := (H1.out.2.1).lt
  simp only [List.getElem?_toArray, List.getElem?_cons_zero, List.getElem?_cons_succ] at z0 z1 z2
  have c1 : w1.cell? ⟨c, 1, none⟩ = some (.map sm) := (H1.out.1.blk.cell 1).trans rfl
  have cl := H1.out.1.blk.lt
  obtain ⟨pv, hpv⟩ : ∃ pv, (if r ∈ X.needs then ptrV (cb r) else .pointer none) = pv := ⟨_, rfl⟩
  obtain ⟨d, hd⟩ : ∃ d, decide (r ∈ X.needs) = d := ⟨_, rfl⟩
  have hl : ∀ k, (Instr.lookup 38 (.map sm) (aggRes r) true).run Try.prog (w1.drewN k) = .ok (.tuple #[pv, .bool d]) (w1.drewN k) := fun k => by
    have := (H1.out.1.shelves.below (w' := w1.drewN k) (below_dN k)).look Try.tyS HX.out.2.2.1
    rw [hpv, hd] at this
    exact this
  have HDD := Lib.hid hd
  clear hpv hd
  go_quiet (fail)
  have H2 : Hid (CaAt (w1.drewN nq) c X nm sm dm cb SS TT ∧ Blk (w1.drewN nq) nb 53 (boxRes r) ∧ Below nb w (w1.drewN nq)) := Lib.hid ⟨H1.out.1.below (below_dN nq), H1.out.2.1.below (below_dN nq) H1.out.2.1.lt, H1.out.2.2.trans (below_dN nq)⟩
  clear hl c1 cl H1 z0 z1 z2 zl
  generalize w1.drewN nq = w2 at H2 ⊢
  go_upto_region 4 with fail
  have z0 := (H2.out.2.1).cell 0
  have z1 := (H2.out.2.1).cell 1
  have z2 := (H2.out.2.1).cell 2
  have zl := (H2.out.2.1).lt
  simp only [List.getElem?_toArray, List.getElem?_cons_zero, List.getElem?_cons_succ] at z0 z1 z2
  have c1 : w2.cell? ⟨c, 1, none⟩ = some (.map sm) := (H2.out.1.blk.cell 1).trans rfl
  have cl := H2.out.1.blk.lt
  go_still_tail 5, (by kernel_rfl)
  obtain ⟨w5, hdel, hM5, hg5, hs5⟩ := (H2.out.1.shelves.below (w' := w2.drew) (Below.refl _ _).drew).del Try.tyS HX.out.2.2.1
  have hD := H2.out.1.below (w' := w2.drew) (Below.refl _ _).drew
  have hgk : ∀ k, mapBlk (.map sm) = some k → sm = some k := fun k e => by
    cases sm with
    | none => simp [mapBlk] at e
    | some b => simpa [mapBlk] using e
  have hkq : Kept (fun k => sm = some k) w2.drew w5 := Kept.of_grown hg5 (fun k e _ => hgk k e)
  obtain ⟨n1, n2, n3⟩ := hD.ne_c
  have hown := hD.own_ (w' := w5) (X' := ⟨X.nodes, X.stale, X.needs.filter (fun y => decide (y ≠ r)), X.looked⟩) (nm' := nm) (sm' := sm) (dm' := dm) (hkq.mono fun k _ e => .inr (.inr (.inl e))) (hD.blk.kept hkq n2) (hD.nodes.step fun b hb hl => by cases hb; exact hkq.block _ hl (fun e => (hD.ns _ rfl).1 e)) hM5 (hD.marks.step fun b hb hl => by cases hb; exact hkq.block _ hl (fun e => hD.sd _ e rfl)) (fun q hq => (List.mem_filter.1 hq).1) (fun k hk => .inl hk) hD.ns hD.sd hD.wfn
  have HE : Hid (∃ S', CaO w5 c ⟨X.nodes, X.stale, X.needs.filter (fun y => decide (y ≠ r)), X.looked⟩ S' ∧ Turned (caS c X nm sm dm SS) S' w w5) := Lib.hid ⟨_, ⟨_, _, _, _, _, _, hown.1, fun q hq => HX.out.1 q (List.mem_filter.1 hq).1, HX.out.2.1, rfl⟩, (Turned.of_below (by have := H2.out.2.2; rw [HNB.out] at this; exact this.trans (Below.refl _ _).drew)).trans hown.2⟩
  clear hM5 hg5 hs5 hD hgk hkq n1 n2 n3 hown c1 cl z0 z1 z2 zl
  have hq : X.forget r = (⟨X.nodes, X.stale, X.needs.filter (fun y => decide (y ≠ r)), X.looked⟩, decide (r ∈ X.needs)) := by
    unfold CX.forget
    by_cases hi : r ∈ X.needs
    · rw [if_pos hi, decide_eq_true hi]
    · rw [if_neg hi, decide_eq_false hi]
      congr 1
      cases X with
      | mk a b q d =>
        congr 1
        exact (List.filter_eq_self.2 (fun y hy => by simp only [decide_eq_true_eq]; rintro rfl; exact hi hy)).symm
  have HQ := Lib.hid hq
  clear hq
  go_wp2
  go_ret
  rw [HQ.out]
  exact ⟨ret_bool HDD.out.symm, HE.out⟩
end Go.Proofs.Ytcafmodenbifhaa
