/-
  LAYER 32 (cache): of, Best; LAYER 31 (shelf): Best.
  LAYER 31 (shelf): Best; LAYER 32 (cache): Best.
-/
import Derived.Test.YtcafmodenbifhaaCacheC
set_option linter.unusedVariables false
set_option linter.unusedSimpArgs false
namespace Go.Proofs.Ytcafmodenbifhaa
open Go.RowKit Go.Maps

def CX.of (X : CX) (r : LRes) : CX := if r ∈ X.needs then X else ⟨X.nodes, X.stale, X.needs ++ [r], X.looked + (X.nodes.length : Int)⟩
/-- A cache in the midst of 'of': the shelf s is being filled. -/
structure Of (w0 w : World) (c : Nat) (X : CX) (lk : Int) (nm sm dm : Option Nat) (cb : LRes → Nat) (SS : LRes → Nat → Prop) (TT : LRes → LTh → Prop) (S0 : Nat → Prop) (s : Nat) (r : LRes) (T : LTh → Prop) (S1 : Nat → Prop) (nb : Nat) (st : Int → Prop) : Prop where
  at_ : CaAt w c ⟨X.nodes, X.stale, X.needs, lk⟩ nm sm dm cb SS TT
  sh : ∃ row, HpO w s 118 (needT r) row T S1
  ok : ShOk X.nodes st r T
  dis : ∀ k, S1 k → ¬ caS c X nm sm dm SS k
  turn : Turned S0 (fun k => caS c X nm sm dm SS k ∨ S1 k) w0 w
  box : Blk w nb 53 (boxRes r)
  nbo : ¬ caS c X nm sm dm SS nb ∧ ¬ S1 nb
section
variable {w0 w w' : World} {c : Nat} {X : CX} {lk : Int} {nm sm dm : Option Nat} {cb : LRes → Nat} {SS : LRes → Nat → Prop} {TT : LRes → LTh → Prop} {S0 : Nat → Prop} {s : Nat} {r : LRes} {T : LTh → Prop} {S1 : Nat → Prop} {nb : Nat} {st : Int → Prop}
theorem Of.below (h : Of w0 w c X lk nm sm dm cb SS TT S0 s r T S1 nb st) (hb : Below w.heap.size w w') : Of w0 w' c X lk nm sm dm cb SS TT S0 s r T S1 nb st := by
  obtain ⟨row, hs⟩ := h.sh
  exact ⟨h.at_.below hb, ⟨row, hs.below hb⟩, h.ok, h.dis, h.turn.then_below hb, h.box.below hb h.box.lt, h.nbo⟩
theorem Of.mono {st' : Int → Prop} (h : Of w0 w c X lk nm sm dm cb SS TT S0 s r T S1 nb st) (hs : ∀ q ∈ X.nodes, st q.id → st' q.id) : Of w0 w c X lk nm sm dm cb SS TT S0 s r T S1 nb st' := ⟨h.at_, h.sh, h.ok.mono hs, h.dis, h.turn, h.box, h.nbo⟩
theorem Of.iter (h : Of w0 w c X lk nm sm dm cb SS TT S0 s r T S1 nb st) {it : Nat} (hg : w.grownBy w' (some it)) (h1 : ¬ caS c X nm sm dm SS it) (h2 : ¬ S1 it) (h4 : nb ≠ it) (h3 : w0.heap.size ≤ it) : Of w0 w' c X lk nm sm dm cb SS TT S0 s r T S1 nb st := by
  obtain ⟨row, hs⟩ := h.sh
  exact ⟨h.at_.step fun k hk hl => hg.block k hl (fun e => h1 (by injection e with e; rw [← e]; exact hk)), ⟨row, hs.step fun k hk hl => hg.block k hl (fun e => h2 (by injection e with e; rw [← e]; exact hk))⟩, h.ok, h.dis,
   ⟨⟨hg.os.trans h.turn.kept.os, hg.tape.trans h.turn.kept.tape, hg.output.trans h.turn.kept.output, Nat.le_trans h.turn.kept.size hg.size, fun k hk hn => (hg.block k (Nat.lt_of_lt_of_le hk h.turn.kept.size) (fun e => by injection e with e; omega)).trans (h.turn.kept.block k hk hn)⟩, h.turn.new⟩, h.box.grown hg (fun e => h4 (by injection e)), h.nbo⟩
theorem Of.foot_lt (h : Of w0 w c X lk nm sm dm cb SS TT S0 s r T S1 nb st) : ∀ k, caS c X nm sm dm SS k ∨ S1 k → k < w.heap.size := by
  obtain ⟨row, hs⟩ := h.sh
  rintro k (hk | hk)
  · exact h.at_.lt k hk
  · exact hs.lt k hk
theorem Of.hold (h : Of w0 w c X lk nm sm dm cb SS TT S0 s r T S1 nb st) {m : LNode} (hm : m ∈ X.nodes) {row' : List Int} {S' : Nat → Prop} {n' : Int} (hS : HpO w' s 118 (needT r) row' (shPut T m r) S')
    (ht : Turned (fun k => k = c ∨ S1 k) (fun k => k = c ∨ S' k) w w') (hb : Blk w' c 48 (caBox nm sm dm n')) (hc : ¬ S' c) :
    Of w0 w' c X n' nm sm dm cb SS TT S0 s r (shPut T m r) S' nb (fun z => st z ∧ z ≠ m.id) := by
  have hnc : nb ≠ c := fun e => h.nbo.1 (.inl (.inl e))
  have hnew : ∀ k, S' k → S1 k ∨ w.heap.size ≤ k := fun k hk => by
    rcases ht.new k (.inr hk) with (e | h2) | h2
    · rw [e] at hk; exact absurd hk hc
    · exact .inl h2
    · exact .inr h2
  refine ⟨h.at_.count ht h.dis hb, ⟨row', hS⟩, h.ok.hold h.at_.nodes.rising hm, fun k hk hf => ?_, h.turn.trans ⟨ht.kept.mono fun k _ hk => hk.elim (fun e => .inl (.inl (.inl e))) .inr, fun k hk => ?_⟩, h.box.kept ht.kept (fun e => e.elim hnc h.nbo.2), h.nbo.1, fun hk => ?_⟩
  · rcases hnew k hk with h2 | h2
    · exact h.dis k h2 hf
    · have := h.at_.lt k hf; omega
  · rcases hk with hf | hk
    · exact .inl (.inl hf)
    · exact (hnew k hk).imp .inr (fun h9 => h9)
  · rcases hnew nb hk with h2 | h2
    · exact h.nbo.2 h2
    · have := h.box.lt; omega
end
set_option maxRecDepth 100000 in
set_option maxHeartbeats 6400000 in
theorem caOf_t {w : World} {c : Nat} {X : CX} {S : Nat → Prop} (h : CaO w c X S) (hst : X.stale = []) (r : LRes) (hw : wfRes r) (hb : X.nodes.length ≤ 1000 ∧ X.needs.length ≤ 1000 ∧ 0 ≤ X.looked ∧ X.looked ≤ 100000000) :
    Calls Try.prog 38 #[.pointer (some ⟨c, 0, none⟩), aggRes r] w fun e w' => ∃ nm' sm' dm' cb' SS' TT', e = .returned (.pointer (some ⟨cb' r, 0, none⟩)) ∧ CaAt w' c (X.of r) nm' sm' dm' cb' SS' TT' ∧ (∀ q ∈ (X.of r).needs, ShOk X.nodes (fun _ => False) q (TT' q)) ∧ r ∈ (X.of r).needs ∧ Turned S (caS c (X.of r) nm' sm' dm' SS') w w' := by
  obtain ⟨nm, sm, dm, cb, SS, TT, hA, hT, hst2, rfl⟩ := h
  have hB : Below w.heap.size w (w.alloc (.cells (boxRes r) 53)) := (Below.refl _ _).alloc (Nat.le_refl _) _
  have H1 : Hid (CaAt (w.alloc (.cells (boxRes r) 53)) c X nm sm dm cb SS TT ∧ Blk (w.alloc (.cells (boxRes r) 53)) w.heap.size 53 (boxRes r) ∧ Below w.heap.size w (w.alloc (.cells (boxRes r) 53))) := Lib.hid ⟨hA.below hB, Blk.new w _ _, hB⟩
  have HX := Lib.hid (And.intro hT (And.intro hst (And.intro hw hb)))
  have HLT := Lib.hid hA.lt
  clear hA hB hT hst hst2 hw hb
  go_enter Try.func38, Try.ntmps38
  go_upto_region 1 with fail
  obtain ⟨nb, hnb⟩ : ∃ nb, w.heap.size = nb := ⟨_, rfl⟩
  have HNB := Lib.hid hnb.symm
  rw [hnb] at H1
  generalize (w.alloc (.cells (boxRes r) 53)) = w1 at H1 ⊢
  try rw [hnb]
  clear hnb
  have z0 := (H1.out.2.1).cell 0
  have z1 := (H1.out.2.1).cell 1
  have z2 := (H1.out.2.1).cell 2
  have zl := (H1.out.2.1).lt
  simp only [List.getElem?_toArray, List.getElem?_cons_zero, List.getElem?_cons_succ] at z0 z1 z2
  have c1 : w1.cell? ⟨c, 1, none⟩ = some (.map sm) := (H1.out.1.blk.cell 1).trans rfl
  have cl := H1.out.1.blk.lt
  obtain ⟨pv, hpv⟩ : ∃ pv, (if r ∈ X.needs then ptrV (cb r) else .pointer none) = pv := ⟨_, rfl⟩
  obtain ⟨d, hd⟩ : ∃ d, decide (r ∈ X.needs) = d := ⟨_, rfl⟩
  have hl : ∀ k, (Instr.lookup 38 (.map sm) (aggRes r) true).run Try.prog (w1.drewN k) = .ok (.tuple #[pv, .bool d]) (w1.drewN k) := fun k => by
    have := (H1.out.1.shelves.below (w' := w1.drewN k) (below_dN k)).look Try.tyS HX.out.2.2.1
    rw [hpv, hd] at this
    exact this
  have HDD := Lib.hid hd
  have HPV := Lib.hid hpv
  clear hpv hd
  go_quiet (fail)
  have H2 : Hid (CaAt (w1.drewN nq) c X nm sm dm cb SS TT ∧ Blk (w1.drewN nq) nb 53 (boxRes r) ∧ Below nb w (w1.drewN nq)) := Lib.hid ⟨H1.out.1.below (below_dN nq), H1.out.2.1.below (below_dN nq) H1.out.2.1.lt, H1.out.2.2.trans (below_dN nq)⟩
  clear hl c1 cl H1 z0 z1 z2 zl
  generalize w1.drewN nq = w2 at H2 ⊢
  cases d with
  | false =>
    have HN : Hid (r ∉ X.needs) := Lib.hid (by have := HDD.out; simpa using this)
    have HNO : Hid (¬ caS c X nm sm dm SS nb) := Lib.hid fun hf => by have := HLT.out nb hf; have := HNB.out; omega
    have HT2 : Hid (Turned (caS c X nm sm dm SS) (caS c X nm sm dm SS) w w2) := Lib.hid (Turned.of_below (by have := H2.out.2.2; rw [HNB.out] at this; exact this))
    go_upto_region 4 with fail
    cases sm with
    | none =>
      have hmn := fun (W : World) => run_eql_map_nil (P := Try.prog) W 38 _ _ (none) Try.underlying38
      have hmm := @run_makeMap Try.prog
      have c1 : w2.cell? ⟨c, 1, none⟩ = some (.map none) := (H2.out.1.blk.cell 1).trans rfl
      have f1 := H2.out.1.blk.frozen 1
      have cl := H2.out.1.blk.lt
      go_upto_region 6 with fail
      have hnil : X.needs = [] := by rcases H2.out.1.shelves.is with ⟨_, h2⟩ | ⟨b, D, h2, _⟩; exact h2; cases h2
      have hb4 : Blk ((w2.setCell ⟨c, 1, none⟩ (.map (some w2.heap.size))).alloc (.map #[] 0)) c 48 (caBox nm (some w2.heap.size) dm X.looked) := by have := (H2.out.1.blk.set_ 1 (.map (some w2.heap.size))).alloc (.map #[] 0); simpa [caBox] using this
      have hk4 : Kept (fun k => k = c) w2 ((w2.setCell ⟨c, 1, none⟩ (.map (some w2.heap.size))).alloc (.map #[] 0)) := ((Kept.refl (fun k => k = c) w2).setCell (p := ⟨c, 1, none⟩) (fun _ => rfl) _).alloc _
      have hm4 : MapRV ((w2.setCell ⟨c, 1, none⟩ (.map (some w2.heap.size))).alloc (.map #[] 0)) (.map (some w2.heap.size)) X.needs (fun q => ptrV (cb q)) := by rw [hnil]; have := MapRV.made (w2.setCell ⟨c, 1, none⟩ (.map (some w2.heap.size))) (fun q => ptrV (cb q)); rwa [show (w2.setCell ⟨c, 1, none⟩ (.map (some w2.heap.size))).heap.size = w2.heap.size by simp [World.setCell]] at this
      obtain ⟨n1, n2, n3⟩ := H2.out.1.ne_c
      have hown := H2.out.1.own_ (X' := X) (nm' := nm) (sm' := some w2.heap.size) (dm' := dm) (hk4.mono fun k _ e => .inl e) hb4 (H2.out.1.nodes.step fun b hb hl => by cases hb; exact hk4.block _ hl (fun e => n1 (by rw [e]))) hm4 (H2.out.1.marks.step fun b hb hl => by cases hb; exact hk4.block _ hl (fun e => n3 (by rw [e]))) (fun q hq => hq) (fun k hk => by
        rcases hk with e | e | e | e
        · exact .inl (.inl e)
        · exact .inl (.inr (.inl e))
        · cases e; exact .inr (Nat.le_refl _)
        · exact .inl (.inr (.inr (.inr e)))) (fun k hk => ⟨fun e => (by cases e; have := H2.out.1.nodes.lt _ (by rw [hk]); omega), (H2.out.1.ns k hk).2⟩) (fun k hk e => (by cases hk; have := H2.out.1.marks.lt _ (by rw [e]); omega)) H2.out.1.wfn
      have hbn4 : Blk ((w2.setCell ⟨c, 1, none⟩ (.map (some w2.heap.size))).alloc (.map #[] 0)) nb 53 (boxRes r) := H2.out.2.1.kept hk4 (fun e => HNO.out (.inl (.inl e)))
      have hno4 : ¬ caS c X nm (some w2.heap.size) dm SS nb := fun hf => (hown.2.new nb hf).elim HNO.out (fun h => by have := H2.out.2.1.lt; omega)
      have H5 : Hid (CaAt ((w2.setCell ⟨c, 1, none⟩ (.map (some w2.heap.size))).alloc (.map #[] 0)) c X nm (some w2.heap.size) dm cb SS TT ∧ Blk ((w2.setCell ⟨c, 1, none⟩ (.map (some w2.heap.size))).alloc (.map #[] 0)) nb 53 (boxRes r) ∧ Turned (caS c X nm none dm SS) (caS c X nm (some w2.heap.size) dm SS) w ((w2.setCell ⟨c, 1, none⟩ (.map (some w2.heap.size))).alloc (.map #[] 0)) ∧ ¬ caS c X nm (some w2.heap.size) dm SS nb) := Lib.hid ⟨hown.1, hbn4, HT2.out.trans hown.2, hno4⟩
      clear hnil hb4 hk4 hm4 n1 n2 n3 hown hbn4 hno4 hmm hmn c1 f1 cl H2
      obtain ⟨sb, hsb⟩ : ∃ sb, w2.heap.size = sb := ⟨_, rfl⟩
      rw [hsb] at H5
      generalize hw4 : (w2.setCell ⟨c, 1, none⟩ (.map (some w2.heap.size))).alloc (.map #[] 0) = w4
      rw [hsb] at hw4
      rw [hw4] at H5
      clear hw4 hsb
      have H4 := H5
      clear H5
      have z0 := (H4.out.2.1).cell 0
      have z1 := (H4.out.2.1).cell 1
      have z2 := (H4.out.2.1).cell 2
      have zl := (H4.out.2.1).lt
      simp only [List.getElem?_toArray, List.getElem?_cons_zero, List.getElem?_cons_succ] at z0 z1 z2
      have hcx := shNew_t r w4
      go_wp2_with fail
      (with_reducible refine hcx.mono ?_)
      clear hcx z0 z1 z2 zl
      rintro e w5 ⟨s, rfl, hsge, hs5, hb5⟩
      have H5 : Hid (Of w w5 c X X.looked nm (some sb) dm cb SS TT (caS c X nm none dm SS) s r (fun _ => False) (fun k => k = s) nb (fun _ => True)) := Lib.hid ⟨H4.out.1.below hb5, ⟨_, hs5⟩, ShOk.new _ _, fun k hk hf => (by subst hk; have := H4.out.1.lt k hf; omega), ⟨(H4.out.2.2.1.then_below hb5).kept, fun k hk => hk.elim (fun h => (H4.out.2.2.1.then_below hb5).new k h) (fun e => .inr (by have := H4.out.2.2.1.size; omega))⟩, H4.out.2.1.below hb5 H4.out.2.1.lt, H4.out.2.2.2, fun e => by have := H4.out.2.1.lt; omega⟩
      clear hsge hs5 hb5 H4
      have c0 : w5.cell? ⟨c, 0, none⟩ = some (.map nm) := (H5.out.at_.blk.cell 0).trans rfl
      have cl := H5.out.at_.blk.lt
      cases nm with
      | none =>
        have hnil : idsN X.nodes = [] := by rcases H5.out.at_.nodes.is with ⟨_, h2⟩ | ⟨b, D, h2, _⟩; exact h2; cases h2
        have hnn : X.nodes = [] := List.map_eq_nil_iff.1 hnil
        have hrg := run_range_nilMap (P := Try.prog) w5 37 3 55 Try.underlying37
        have hnx : ∀ ty, (Instr.next (.pointer (some ⟨w5.heap.size, 0, none⟩)) false ty).run Try.prog (w5.alloc (.mapIter none 0 #[] 0)) = _ := fun ty => run_next_nilMap _ ty 0 0 #[]
        have HNN := Lib.hid hnn
        clear hnil hnn
        go_wp2
        refine wp_loop_rounds 1 ?_
        rw [rounds_succ]
        go_upto_region 11 with fail
        have H6 : Hid (Of w (w5.alloc (.mapIter none 0 #[] 0)) c X (X.looked + (X.nodes.length : Int)) none (some sb) dm cb SS TT (caS c X none none dm SS) s r (fun _ => False) (fun k => k = s) nb (fun _ => False)) := Lib.hid (by
          have := (H5.out.below ((Below.refl _ _).alloc (Nat.le_refl _) (.mapIter none 0 #[] 0))).mono (st' := fun _ => False) (fun q hq => by rw [HNN.out] at hq; cases hq)
          rw [HNN.out]
          simpa using this)
        clear hrg hnx c0 cl H5
        generalize w5.alloc (.mapIter none 0 #[] 0) = w6 at H6 ⊢
        have z0 := (H6.out.box).cell 0
        have z1 := (H6.out.box).cell 1
        have z2 := (H6.out.box).cell 2
        have zl := (H6.out.box).lt
        simp only [List.getElem?_toArray, List.getElem?_cons_zero, List.getElem?_cons_succ] at z0 z1 z2
        have c1 : w6.cell? ⟨c, 1, none⟩ = some (.map (some sb)) := (H6.out.at_.blk.cell 1).trans rfl
        have cl := H6.out.at_.blk.lt
        go_still_tail 6, (by kernel_rfl)
        have hD := H6.out.below (w' := w6.drew) (Below.refl _ _).drew
        obtain ⟨row9, hS9⟩ := hD.sh
        obtain ⟨w9, hrun, hM9, hg9, hs9⟩ := hD.at_.shelves.store Try.tyS (.pointer (some ⟨s, 0, none⟩)) HX.out.2.2.1 HN.out (by have := HX.out.2.2.2.2.1; show X.needs.length < _; omega)
        have hM10 : MapRV w9 (.map (some sb)) (X.needs ++ [r]) (fun q => ptrV (if q = r then s else cb q)) := hM9.congr fun q hq => by
          by_cases e : q = r
          · simp only [if_pos e]; rfl
          · simp only [if_neg e]
        have hadd := hD.at_.add_ hS9 (fun k hk => hD.dis k hk) HN.out (Kept.of_grown hg9 (fun k e _ => e)) hM10
        have HE : Hid (∃ nm' sm' dm' cb' SS' TT', (.returned (.pointer (some ⟨s, 0, none⟩)) : Ending) = .returned (.pointer (some ⟨cb' r, 0, none⟩)) ∧ CaAt w9 c (X.of r) nm' sm' dm' cb' SS' TT' ∧ (∀ q ∈ (X.of r).needs, ShOk X.nodes (fun _ => False) q (TT' q)) ∧ r ∈ (X.of r).needs ∧ Turned (caS c X none none dm SS) (caS c (X.of r) nm' sm' dm' SS') w w9) := Lib.hid (by
          have eq : X.of r = ⟨X.nodes, X.stale, X.needs ++ [r], X.looked + (X.nodes.length : Int)⟩ := by unfold CX.of; rw [if_neg HN.out]
          rw [eq]
          refine ⟨_, _, _, _, _, _, ?_, hadd.1, fun q hq => ?_, by simp, hD.turn.trans hadd.2⟩
          · simp only [if_pos]
          · by_cases e : q = r
            · subst e; simp only [if_pos]; exact hD.ok
            · simp only [if_neg e]
              exact (HX.out.1 q ((List.mem_append.1 hq).resolve_right (fun h => e (List.mem_singleton.1 h)))).mono (fun p _ h => by rw [HX.out.2.1] at h; cases h))
        clear hD hS9 hM9 hM10 hg9 hs9 hadd c1 cl z0 z1 z2 zl H6
        go_wp2
        go_ret
        exact HE.out
      | some nq =>
        rcases H5.out.at_.nodes.is with ⟨h0, _⟩ | ⟨nq_, D, hv, ho, hD, hV⟩
        · cases h0
        cases hv
        have HD := Lib.hid (And.intro hD hV)
        have HRI := Lib.hid H5.out.at_.nodes.rising
        have hszD := hD.size
        have HSZ := Lib.hid hszD
        clear hD hV hszD
        go_wp2_with (first
          | (at_range; refine wpList_range_own _ rfl _ 37 rfl 3 55 lawI Try.underlying37 _ nq _ _ rfl ho ?_; intro w6 hrg0 hg0 hs0))
        try go_frame
        have H6 := Lib.hid (H5.out.below ((Below.refl _ _).grown hg0 (Nat.le_refl _) (fun j hj => by cases hj)))
        obtain ⟨it, hit⟩ : ∃ it, w5.heap.size = it := ⟨_, rfl⟩
        have HIT : Hid (¬ caS c X (some nq) (some sb) dm SS it ∧ it ≠ s ∧ nb ≠ it ∧ w.heap.size ≤ it ∧ it < w6.heap.size) := Lib.hid ⟨fun hf => (by have := H5.out.at_.lt it hf; omega), fun e => (by have := H5.out.foot_lt s (.inr rfl); omega), fun e => (by have := H5.out.box.lt; omega), by have := H5.out.turn.size; omega, by omega⟩
        rw [hit] at hrg0 ⊢
        have HR0 := Lib.hid hrg0
        clear hit hrg0 hg0 hs0 ho c0 cl H5
        go_loopw [8] (fun _ wi => ∃ (left : Lit → Bool) (cnt : Nat) (ss : List Int) (T : LTh → Prop) (S1 : Nat → Prop), wi.ranges Try.prog 3 heldR nq it (idsN X.nodes).length D left cnt ∧ GathI (idsN X.nodes) left ss ∧ Of w wi c X (X.looked + (ss.length : Int)) (some nq) (some sb) dm cb SS TT (caS c X (some nq) none dm SS) s r T S1 nb (fun z => z ∉ ss) ∧ ¬ S1 it ∧ it < wi.heap.size)
          (fun _ wi => wi.rangeLeft nq it)
        case atStart =>
          exact ⟨_, _, [], _, _, HR0.out, GathI.start HD.out.1, by
            have := H6.out.mono (st' := fun z => z ∉ ([] : List Int)) (fun q hq _ => by simp)
            simpa using this, HIT.out.2.1, HIT.out.2.2.2.2⟩
        case round =>
          obtain ⟨left, cnt, ss, T, S1, hrg, hG, hF, hio, hil⟩ := hrel
          have H7 := Lib.hid (And.intro hG (And.intro hF (And.intro hio hil)))
          clear hG hF hio hil
          go_wp2_with (first
            | (at_next; refine wpList_next_IV _ rfl _ rfl nq it _ D (idsN X.nodes) _ HD.out.1 HD.out.2 left cnt rfl hrg ?_ ?_))
          · intro hc0 hl0
            have hall := H7.out.1.all hl0
            have hlen := lenI_of_iff H7.out.1.nodup (rising_nodup HRI.out) hall
            have H8 : Hid (Of w wr c X (X.looked + (X.nodes.length : Int)) (some nq) (some sb) dm cb SS TT (caS c X (some nq) none dm SS) s r T S1 nb (fun _ => False)) := Lib.hid (by
              have := H7.out.2.1.mono (st' := fun _ => False) (fun q hq hs => hs ((hall q.id).2 (List.mem_map.2 ⟨q, hq, rfl⟩)))
              rw [hlen] at this
              unfold idsN at this
              rw [List.length_map] at this
              exact this)
            clear hall hlen hc0 hl0 H7 hrg
            go_upto_region 11 with fail
            have z0 := (H8.out.box).cell 0
            have z1 := (H8.out.box).cell 1
            have z2 := (H8.out.box).cell 2
            have zl := (H8.out.box).lt
            simp only [List.getElem?_toArray, List.getElem?_cons_zero, List.getElem?_cons_succ] at z0 z1 z2
            have c1 : wr.cell? ⟨c, 1, none⟩ = some (.map (some sb)) := (H8.out.at_.blk.cell 1).trans rfl
            have cl := H8.out.at_.blk.lt
            go_still_tail 6, (by kernel_rfl)
            have hD := H8.out.below (w' := wr.drew) (Below.refl _ _).drew
            obtain ⟨row9, hS9⟩ := hD.sh
            obtain ⟨w9, hrun, hM9, hg9, hs9⟩ := hD.at_.shelves.store Try.tyS (.pointer (some ⟨s, 0, none⟩)) HX.out.2.2.1 HN.out (by have := HX.out.2.2.2.2.1; show X.needs.length < _; omega)
            have hM10 : MapRV w9 (.map (some sb)) (X.needs ++ [r]) (fun q => ptrV (if q = r then s else cb q)) := hM9.congr fun q hq => by
              by_cases e : q = r
              · simp only [if_pos e]; rfl
              · simp only [if_neg e]
            have hadd := hD.at_.add_ hS9 (fun k hk => hD.dis k hk) HN.out (Kept.of_grown hg9 (fun k e _ => e)) hM10
            have HE : Hid (∃ nm' sm' dm' cb' SS' TT', (.returned (.pointer (some ⟨s, 0, none⟩)) : Ending) = .returned (.pointer (some ⟨cb' r, 0, none⟩)) ∧ CaAt w9 c (X.of r) nm' sm' dm' cb' SS' TT' ∧ (∀ q ∈ (X.of r).needs, ShOk X.nodes (fun _ => False) q (TT' q)) ∧ r ∈ (X.of r).needs ∧ Turned (caS c X (some nq) none dm SS) (caS c (X.of r) nm' sm' dm' SS') w w9) := Lib.hid (by
              have eq : X.of r = ⟨X.nodes, X.stale, X.needs ++ [r], X.looked + (X.nodes.length : Int)⟩ := by unfold CX.of; rw [if_neg HN.out]
              rw [eq]
              refine ⟨_, _, _, _, _, _, ?_, hadd.1, fun q hq => ?_, by simp, hD.turn.trans hadd.2⟩
              · simp only [if_pos]
              · by_cases e : q = r
                · subst e; simp only [if_pos]; exact hD.ok
                · simp only [if_neg e]
                  exact (HX.out.1 q ((List.mem_append.1 hq).resolve_right (fun h => e (List.mem_singleton.1 h)))).mono (fun p _ h => by rw [HX.out.2.1] at h; cases h))
            clear hD hS9 hM9 hM10 hg9 hs9 hadd c1 cl z0 z1 z2 zl H8
            go_wp2
            go_ret
            exact HE.out
          · intro x w7 cnt2 hxm hlk hrg2 hcl hg2 hs2 hen
            obtain ⟨hG2, hns⟩ := H7.out.1.step hxm hlk
            have hF7 := H7.out.2.1.iter hg2 HIT.out.1 H7.out.2.2.1 HIT.out.2.2.1 HIT.out.2.2.2.1
            obtain ⟨row, hSx⟩ := hF7.sh
            obtain ⟨hnm, hnid⟩ := nodeOf_in hxm
            have hsl := len_le_of_sub H7.out.1.nodup (fun z hz => ((H7.out.1.mem z).1 hz).1)
            have hcx := hold_t (lk := X.looked + (ss.length : Int)) hF7.at_.blk hF7.at_.nodes hSx (fun hc => hF7.dis c hc (.inl (.inl rfl))) (fun q hq hs => hF7.dis q hs (.inl (.inr (.inl hq)))) x (nodeOf X.nodes x) hxm rfl (by rw [hnid]; exact hF7.at_.nodes.wf x hxm) (Nat.le_trans (hSx.row_le (m := idsN X.nodes) (fun a ha => hF7.ok.sub a ha)) (by have := HX.out.2.2.2.1; unfold idsN; rw [List.length_map]; omega)) (by have h1 := HX.out.2.2.2; unfold idsN at hsl; rw [List.length_map] at hsl; omega)
            have H8 := Lib.hid (And.intro hG2 (And.intro hF7 (And.intro hnm (And.intro hrg2 (And.intro hcl (And.intro (show it < w7.heap.size by rw [hs2]; exact H7.out.2.2.2) hnid))))))
            skip
            clear hG2 hF7 hSx hsl hlk hg2 hs2 hns hxm hcl hnm hnid
            go_wp2_with fail
            (with_reducible refine hcx.mono ?_)
            clear hcx hen
            rintro e w8 ⟨rfl, row', S', hS8, ht8, hb8, hc8⟩
            have hF8 := H8.out.2.1.hold H8.out.2.2.1 hS8 ht8 hb8 hc8
            have hfb : ¬ (nq = c ∨ S1 nq) := fun h => h.elim (fun e => H8.out.2.1.at_.ne_c.1 (by rw [e])) (fun hs => H8.out.2.1.dis nq hs (.inl (.inr (.inl rfl))))
            have hfi : ¬ (it = c ∨ S1 it) := fun h => h.elim (fun e => HIT.out.1 (.inl (.inl e))) H7.out.2.2.1
            have hrg8 := ranges_keptF H8.out.2.2.2.1 ht8.kept hfb hfi
            have hio8 : ¬ S' it := fun hf => by
              rcases ht8.new it (.inr hf) with h3 | h3
              · exact hfi h3
              · have := H8.out.2.2.2.2.2.1; omega
            have hF9 : Of w w8 c X (X.looked + ((ss ++ [x]).length : Int)) (some nq) (some sb) dm cb SS TT (caS c X (some nq) none dm SS) s r (shPut T (nodeOf X.nodes x) r) S' nb (fun z => z ∉ ss ++ [x]) := by
              have := hF8.mono (st' := fun z => z ∉ ss ++ [x]) (fun q hq hs hm => (List.mem_append.1 hm).elim hs.1 (fun e => hs.2 (by rw [H8.out.2.2.2.2.2.2]; exact List.mem_singleton.1 e)))
              have e : X.looked + ((ss ++ [x]).length : Int) = X.looked + (ss.length : Int) + 1 := by simp; omega
              rw [e]
              exact this
            have H9 := Lib.hid (And.intro hF9 (And.intro hrg8 (And.intro hio8 (show it < w8.heap.size from Nat.lt_of_lt_of_le H8.out.2.2.2.2.2.1 ht8.size))))
            have hcc := H8.out.2.2.2.2.1
            clear hF9 hF8 hrg8 hio8 hfb hfi hS8 ht8 hb8 hc8
            go_wp2
            go_roundw
            case rel => exact ⟨_, cnt2, ss ++ [x], _, _, H9.out.2.1, H8.out.1, H9.out.1, H9.out.2.2.1, H9.out.2.2.2⟩
            case measure => rw [H9.out.2.1.left_eq, hrg.left_eq]; exact hcc
    | some sb =>
      have hmn := fun (W : World) => run_eql_map_nil (P := Try.prog) W 38 _ _ (some sb) Try.underlying38
      have c1 : w2.cell? ⟨c, 1, none⟩ = some (.map (some sb)) := (H2.out.1.blk.cell 1).trans rfl
      have cl := H2.out.1.blk.lt
      go_upto_region 6 with fail
      clear hmn c1 cl
      have H4 : Hid (CaAt w2 c X nm (some sb) dm cb SS TT ∧ Blk w2 nb 53 (boxRes r) ∧ Turned (caS c X nm (some sb) dm SS) (caS c X nm (some sb) dm SS) w w2 ∧ ¬ caS c X nm (some sb) dm SS nb) := Lib.hid ⟨H2.out.1, H2.out.2.1, HT2.out, HNO.out⟩
      clear H2
      generalize hw4 : w2 = w4 at H4 ⊢
      clear hw4
      have z0 := (H4.out.2.1).cell 0
      have z1 := (H4.out.2.1).cell 1
      have z2 := (H4.out.2.1).cell 2
      have zl := (H4.out.2.1).lt
      simp only [List.getElem?_toArray, List.getElem?_cons_zero, List.getElem?_cons_succ] at z0 z1 z2
      have hcx := shNew_t r w4
      go_wp2_with fail
      (with_reducible refine hcx.mono ?_)
      clear hcx z0 z1 z2 zl
      rintro e w5 ⟨s, rfl, hsge, hs5, hb5⟩
      have H5 : Hid (Of w w5 c X X.looked nm (some sb) dm cb SS TT (caS c X nm (some sb) dm SS) s r (fun _ => False) (fun k => k = s) nb (fun _ => True)) := Lib.hid ⟨H4.out.1.below hb5, ⟨_, hs5⟩, ShOk.new _ _, fun k hk hf => (by subst hk; have := H4.out.1.lt k hf; omega), ⟨(H4.out.2.2.1.then_below hb5).kept, fun k hk => hk.elim (fun h => (H4.out.2.2.1.then_below hb5).new k h) (fun e => .inr (by have := H4.out.2.2.1.size; omega))⟩, H4.out.2.1.below hb5 H4.out.2.1.lt, H4.out.2.2.2, fun e => by have := H4.out.2.1.lt; omega⟩
      clear hsge hs5 hb5 H4
      have c0 : w5.cell? ⟨c, 0, none⟩ = some (.map nm) := (H5.out.at_.blk.cell 0).trans rfl
      have cl := H5.out.at_.blk.lt
      cases nm with
      | none =>
        have hnil : idsN X.nodes = [] := by rcases H5.out.at_.nodes.is with ⟨_, h2⟩ | ⟨b, D, h2, _⟩; exact h2; cases h2
        have hnn : X.nodes = [] := List.map_eq_nil_iff.1 hnil
        have hrg := run_range_nilMap (P := Try.prog) w5 37 3 55 Try.underlying37
        have hnx : ∀ ty, (Instr.next (.pointer (some ⟨w5.heap.size, 0, none⟩)) false ty).run Try.prog (w5.alloc (.mapIter none 0 #[] 0)) = _ := fun ty => run_next_nilMap _ ty 0 0 #[]
        have HNN := Lib.hid hnn
        clear hnil hnn
        go_wp2
        refine wp_loop_rounds 1 ?_
        rw [rounds_succ]
        go_upto_region 11 with fail
        have H6 : Hid (Of w (w5.alloc (.mapIter none 0 #[] 0)) c X (X.looked + (X.nodes.length : Int)) none (some sb) dm cb SS TT (caS c X none (some sb) dm SS) s r (fun _ => False) (fun k => k = s) nb (fun _ => False)) := Lib.hid (by
          have := (H5.out.below ((Below.refl _ _).alloc (Nat.le_refl _) (.mapIter none 0 #[] 0))).mono (st' := fun _ => False) (fun q hq => by rw [HNN.out] at hq; cases hq)
          rw [HNN.out]
          simpa using this)
        clear hrg hnx c0 cl H5
        generalize w5.alloc (.mapIter none 0 #[] 0) = w6 at H6 ⊢
        have z0 := (H6.out.box).cell 0
        have z1 := (H6.out.box).cell 1
        have z2 := (H6.out.box).cell 2
        have zl := (H6.out.box).lt
        simp only [List.getElem?_toArray, List.getElem?_cons_zero, List.getElem?_cons_succ] at z0 z1 z2
        have c1 : w6.cell? ⟨c, 1, none⟩ = some (.map (some sb)) := (H6.out.at_.blk.cell 1).trans rfl
        have cl := H6.out.at_.blk.lt
        go_still_tail 6, (by kernel_rfl)
        have hD := H6.out.below (w' := w6.drew) (Below.refl _ _).drew
        obtain ⟨row9, hS9⟩ := hD.sh
        obtain ⟨w9, hrun, hM9, hg9, hs9⟩ := hD.at_.shelves.store Try.tyS (.pointer (some ⟨s, 0, none⟩)) HX.out.2.2.1 HN.out (by have := HX.out.2.2.2.2.1; show X.needs.length < _; omega)
        have hM10 : MapRV w9 (.map (some sb)) (X.needs ++ [r]) (fun q => ptrV (if q = r then s else cb q)) := hM9.congr fun q hq => by
          by_cases e : q = r
          · simp only [if_pos e]; rfl
          · simp only [if_neg e]
        have hadd := hD.at_.add_ hS9 (fun k hk => hD.dis k hk) HN.out (Kept.of_grown hg9 (fun k e _ => e)) hM10
        have HE : Hid (∃ nm' sm' dm' cb' SS' TT', (.returned (.pointer (some ⟨s, 0, none⟩)) : Ending) = .returned (.pointer (some ⟨cb' r, 0, none⟩)) ∧ CaAt w9 c (X.of r) nm' sm' dm' cb' SS' TT' ∧ (∀ q ∈ (X.of r).needs, ShOk X.nodes (fun _ => False) q (TT' q)) ∧ r ∈ (X.of r).needs ∧ Turned (caS c X none (some sb) dm SS) (caS c (X.of r) nm' sm' dm' SS') w w9) := Lib.hid (by
          have eq : X.of r = ⟨X.nodes, X.stale, X.needs ++ [r], X.looked + (X.nodes.length : Int)⟩ := by unfold CX.of; rw [if_neg HN.out]
          rw [eq]
          refine ⟨_, _, _, _, _, _, ?_, hadd.1, fun q hq => ?_, by simp, hD.turn.trans hadd.2⟩
          · simp only [if_pos]
          · by_cases e : q = r
            · subst e; simp only [if_pos]; exact hD.ok
            · simp only [if_neg e]
              exact (HX.out.1 q ((List.mem_append.1 hq).resolve_right (fun h => e (List.mem_singleton.1 h)))).mono (fun p _ h => by rw [HX.out.2.1] at h; cases h))
        clear hD hS9 hM9 hM10 hg9 hs9 hadd c1 cl z0 z1 z2 zl H6
        go_wp2
        go_ret
        exact HE.out
      | some nq =>
        rcases H5.out.at_.nodes.is with ⟨h0, _⟩ | ⟨nq_, D, hv, ho, hD, hV⟩
        · cases h0
        cases hv
        have HD := Lib.hid (And.intro hD hV)
        have HRI := Lib.hid H5.out.at_.nodes.rising
        have hszD := hD.size
        have HSZ := Lib.hid hszD
        clear hD hV hszD
        go_wp2_with (first
          | (at_range; refine wpList_range_own _ rfl _ 37 rfl 3 55 lawI Try.underlying37 _ nq _ _ rfl ho ?_; intro w6 hrg0 hg0 hs0))
        try go_frame
        have H6 := Lib.hid (H5.out.below ((Below.refl _ _).grown hg0 (Nat.le_refl _) (fun j hj => by cases hj)))
        obtain ⟨it, hit⟩ : ∃ it, w5.heap.size = it := ⟨_, rfl⟩
        have HIT : Hid (¬ caS c X (some nq) (some sb) dm SS it ∧ it ≠ s ∧ nb ≠ it ∧ w.heap.size ≤ it ∧ it < w6.heap.size) := Lib.hid ⟨fun hf => (by have := H5.out.at_.lt it hf; omega), fun e => (by have := H5.out.foot_lt s (.inr rfl); omega), fun e => (by have := H5.out.box.lt; omega), by have := H5.out.turn.size; omega, by omega⟩
        rw [hit] at hrg0 ⊢
        have HR0 := Lib.hid hrg0
        clear hit hrg0 hg0 hs0 ho c0 cl H5
        go_loopw [8] (fun _ wi => ∃ (left : Lit → Bool) (cnt : Nat) (ss : List Int) (T : LTh → Prop) (S1 : Nat → Prop), wi.ranges Try.prog 3 heldR nq it (idsN X.nodes).length D left cnt ∧ GathI (idsN X.nodes) left ss ∧ Of w wi c X (X.looked + (ss.length : Int)) (some nq) (some sb) dm cb SS TT (caS c X (some nq) (some sb) dm SS) s r T S1 nb (fun z => z ∉ ss) ∧ ¬ S1 it ∧ it < wi.heap.size)
          (fun _ wi => wi.rangeLeft nq it)
        case atStart =>
          exact ⟨_, _, [], _, _, HR0.out, GathI.start HD.out.1, by
            have := H6.out.mono (st' := fun z => z ∉ ([] : List Int)) (fun q hq _ => by simp)
            simpa using this, HIT.out.2.1, HIT.out.2.2.2.2⟩
        case round =>
          obtain ⟨left, cnt, ss, T, S1, hrg, hG, hF, hio, hil⟩ := hrel
          have H7 := Lib.hid (And.intro hG (And.intro hF (And.intro hio hil)))
          clear hG hF hio hil
          go_wp2_with (first
            | (at_next; refine wpList_next_IV _ rfl _ rfl nq it _ D (idsN X.nodes) _ HD.out.1 HD.out.2 left cnt rfl hrg ?_ ?_))
          · intro hc0 hl0
            have hall := H7.out.1.all hl0
            have hlen := lenI_of_iff H7.out.1.nodup (rising_nodup HRI.out) hall
            have H8 : Hid (Of w wr c X (X.looked + (X.nodes.length : Int)) (some nq) (some sb) dm cb SS TT (caS c X (some nq) (some sb) dm SS) s r T S1 nb (fun _ => False)) := Lib.hid (by
              have := H7.out.2.1.mono (st' := fun _ => False) (fun q hq hs => hs ((hall q.id).2 (List.mem_map.2 ⟨q, hq, rfl⟩)))
              rw [hlen] at this
              unfold idsN at this
              rw [List.length_map] at this
              exact this)
            clear hall hlen hc0 hl0 H7 hrg
            go_upto_region 11 with fail
            have z0 := (H8.out.box).cell 0
            have z1 := (H8.out.box).cell 1
            have z2 := (H8.out.box).cell 2
            have zl := (H8.out.box).lt
            simp only [List.getElem?_toArray, List.getElem?_cons_zero, List.getElem?_cons_succ] at z0 z1 z2
            have c1 : wr.cell? ⟨c, 1, none⟩ = some (.map (some sb)) := (H8.out.at_.blk.cell 1).trans rfl
            have cl := H8.out.at_.blk.lt
            go_still_tail 6, (by kernel_rfl)
            have hD := H8.out.below (w' := wr.drew) (Below.refl _ _).drew
            obtain ⟨row9, hS9⟩ := hD.sh
            obtain ⟨w9, hrun, hM9, hg9, hs9⟩ := hD.at_.shelves.store Try.tyS (.pointer (some ⟨s, 0, none⟩)) HX.out.2.2.1 HN.out (by have := HX.out.2.2.2.2.1; show X.needs.length < _; omega)
            have hM10 : MapRV w9 (.map (some sb)) (X.needs ++ [r]) (fun q => ptrV (if q = r then s else cb q)) := hM9.congr fun q hq => by
              by_cases e : q = r
              · simp only [if_pos e]; rfl
              · simp only [if_neg e]
            have hadd := hD.at_.add_ hS9 (fun k hk => hD.dis k hk) HN.out (Kept.of_grown hg9 (fun k e _ => e)) hM10
            have HE : Hid (∃ nm' sm' dm' cb' SS' TT', (.returned (.pointer (some ⟨s, 0, none⟩)) : Ending) = .returned (.pointer (some ⟨cb' r, 0, none⟩)) ∧ CaAt w9 c (X.of r) nm' sm' dm' cb' SS' TT' ∧ (∀ q ∈ (X.of r).needs, ShOk X.nodes (fun _ => False) q (TT' q)) ∧ r ∈ (X.of r).needs ∧ Turned (caS c X (some nq) (some sb) dm SS) (caS c (X.of r) nm' sm' dm' SS') w w9) := Lib.hid (by
              have eq : X.of r = ⟨X.nodes, X.stale, X.needs ++ [r], X.looked + (X.nodes.length : Int)⟩ := by unfold CX.of; rw [if_neg HN.out]
              rw [eq]
              refine ⟨_, _, _, _, _, _, ?_, hadd.1, fun q hq => ?_, by simp, hD.turn.trans hadd.2⟩
              · simp only [if_pos]
              · by_cases e : q = r
                · subst e; simp only [if_pos]; exact hD.ok
                · simp only [if_neg e]
                  exact (HX.out.1 q ((List.mem_append.1 hq).resolve_right (fun h => e (List.mem_singleton.1 h)))).mono (fun p _ h => by rw [HX.out.2.1] at h; cases h))
            clear hD hS9 hM9 hM10 hg9 hs9 hadd c1 cl z0 z1 z2 zl H8
            go_wp2
            go_ret
            exact HE.out
          · intro x w7 cnt2 hxm hlk hrg2 hcl hg2 hs2 hen
            obtain ⟨hG2, hns⟩ := H7.out.1.step hxm hlk
            have hF7 := H7.out.2.1.iter hg2 HIT.out.1 H7.out.2.2.1 HIT.out.2.2.1 HIT.out.2.2.2.1
            obtain ⟨row, hSx⟩ := hF7.sh
            obtain ⟨hnm, hnid⟩ := nodeOf_in hxm
            have hsl := len_le_of_sub H7.out.1.nodup (fun z hz => ((H7.out.1.mem z).1 hz).1)
            have hcx := hold_t (lk := X.looked + (ss.length : Int)) hF7.at_.blk hF7.at_.nodes hSx (fun hc => hF7.dis c hc (.inl (.inl rfl))) (fun q hq hs => hF7.dis q hs (.inl (.inr (.inl hq)))) x (nodeOf X.nodes x) hxm rfl (by rw [hnid]; exact hF7.at_.nodes.wf x hxm) (Nat.le_trans (hSx.row_le (m := idsN X.nodes) (fun a ha => hF7.ok.sub a ha)) (by have := HX.out.2.2.2.1; unfold idsN; rw [List.length_map]; omega)) (by have h1 := HX.out.2.2.2; unfold idsN at hsl; rw [List.length_map] at hsl; omega)
            have H8 := Lib.hid (And.intro hG2 (And.intro hF7 (And.intro hnm (And.intro hrg2 (And.intro hcl (And.intro (show it < w7.heap.size by rw [hs2]; exact H7.out.2.2.2) hnid))))))
            skip
            clear hG2 hF7 hSx hsl hlk hg2 hs2 hns hxm hcl hnm hnid
            go_wp2_with fail
            (with_reducible refine hcx.mono ?_)
            clear hcx hen
            rintro e w8 ⟨rfl, row', S', hS8, ht8, hb8, hc8⟩
            have hF8 := H8.out.2.1.hold H8.out.2.2.1 hS8 ht8 hb8 hc8
            have hfb : ¬ (nq = c ∨ S1 nq) := fun h => h.elim (fun e => H8.out.2.1.at_.ne_c.1 (by rw [e])) (fun hs => H8.out.2.1.dis nq hs (.inl (.inr (.inl rfl))))
            have hfi : ¬ (it = c ∨ S1 it) := fun h => h.elim (fun e => HIT.out.1 (.inl (.inl e))) H7.out.2.2.1
            have hrg8 := ranges_keptF H8.out.2.2.2.1 ht8.kept hfb hfi
            have hio8 : ¬ S' it := fun hf => by
              rcases ht8.new it (.inr hf) with h3 | h3
              · exact hfi h3
              · have := H8.out.2.2.2.2.2.1; omega
            have hF9 : Of w w8 c X (X.looked + ((ss ++ [x]).length : Int)) (some nq) (some sb) dm cb SS TT (caS c X (some nq) (some sb) dm SS) s r (shPut T (nodeOf X.nodes x) r) S' nb (fun z => z ∉ ss ++ [x]) := by
              have := hF8.mono (st' := fun z => z ∉ ss ++ [x]) (fun q hq hs hm => (List.mem_append.1 hm).elim hs.1 (fun e => hs.2 (by rw [H8.out.2.2.2.2.2.2]; exact List.mem_singleton.1 e)))
              have e : X.looked + ((ss ++ [x]).length : Int) = X.looked + (ss.length : Int) + 1 := by simp; omega
              rw [e]
              exact this
            have H9 := Lib.hid (And.intro hF9 (And.intro hrg8 (And.intro hio8 (show it < w8.heap.size from Nat.lt_of_lt_of_le H8.out.2.2.2.2.2.1 ht8.size))))
            have hcc := H8.out.2.2.2.2.1
            clear hF9 hF8 hrg8 hio8 hfb hfi hS8 ht8 hb8 hc8
            go_wp2
            go_roundw
            case rel => exact ⟨_, cnt2, ss ++ [x], _, _, H9.out.2.1, H8.out.1, H9.out.1, H9.out.2.2.1, H9.out.2.2.2⟩
            case measure => rw [H9.out.2.1.left_eq, hrg.left_eq]; exact hcc
  | true =>
    have HY : Hid (r ∈ X.needs) := Lib.hid (by have := HDD.out; simpa using this)
    obtain rfl : pv = .pointer (some ⟨cb r, 0, none⟩) := by have := HPV.out; rw [if_pos HY.out] at this; exact this.symm
    have HE : Hid (∃ nm' sm' dm' cb' SS' TT', (.returned (.pointer (some ⟨cb r, 0, none⟩)) : Ending) = .returned (.pointer (some ⟨cb' r, 0, none⟩)) ∧ CaAt w2 c (X.of r) nm' sm' dm' cb' SS' TT' ∧ (∀ q ∈ (X.of r).needs, ShOk X.nodes (fun _ => False) q (TT' q)) ∧ r ∈ (X.of r).needs ∧ Turned (caS c X nm sm dm SS) (caS c (X.of r) nm' sm' dm' SS') w w2) := Lib.hid (by
      have eq : X.of r = X := by unfold CX.of; rw [if_pos HY.out]
      rw [eq]
      exact ⟨_, _, _, _, _, _, rfl, H2.out.1, fun q hq => (HX.out.1 q hq).mono (fun p _ h => by rw [HX.out.2.1] at h; cases h), HY.out, Turned.of_below (by have := H2.out.2.2; rw [HNB.out] at this; exact this)⟩)
    go_wp2
    go_ret
    exact HE.out
end Go.Proofs.Ytcafmodenbifhaa
namespace Go.Proofs.Ytcafmodenbifhaa
open Go.RowKit Go.Maps

set_option maxRecDepth 100000 in
theorem shBest_t {s : Nat} {r : LRes} {row : List Int} {T : LTh → Prop} {S : Nat → Prop} {w : World} (h : HpO w s 118 (needT r) row T S) (hn : row.length ≤ 100000) :
    Calls Try.prog 39 #[.pointer (some ⟨s, 0, none⟩)] w fun e w' => ((e = .returned (.tuple #[.int .i64 0, .bool false]) ∧ ∀ a, ¬ T a) ∨ ∃ a, e = .returned (.tuple #[.int .i64 a.id, .bool true]) ∧ T a ∧ ∀ b, T b → ¬ ltP b a) ∧ Below w.heap.size w w' := by
  have hcx := hTop_o h hn
  clear h hn
  go_enter Try.func39, Try.ntmps39
  go_wp2_with fail
  (with_reducible refine hcx.mono ?_)
  clear hcx
  rintro e w2 ⟨⟨rfl, hT⟩ | ⟨a, rfl, hT⟩, hB⟩
  · have HE := Lib.hid (And.intro hT hB)
    clear hT hB
    go_wp2
    exact bodyPost_ret (v := .tuple #[.int .i64 0, .bool false]) (by simp [results, Try.results39, go_sem]) rfl ⟨.inl ⟨rfl, HE.out.1⟩, HE.out.2.alloc HE.out.2.size _⟩
  · have HE := Lib.hid (And.intro hT hB)
    clear hT hB
    go_wp2
    exact bodyPost_ret (v := .tuple #[.int .i64 a.id, .bool true]) (by simp [results, Try.results39, go_sem]) rfl ⟨.inr ⟨a, rfl, HE.out.1⟩, HE.out.2.alloc HE.out.2.size _⟩
theorem node_layK {W : World} {zb : Nat} (x y : LNode) (h : Blk W zb 55 (boxNode y)) :
    Blk ((((((((((W.setCell ⟨zb, 0, none⟩ (.int .i64 x.id)).setCell ⟨zb, 1, none⟩ (.int .i64 x.inc)).setCell ⟨zb, 2, none⟩ (.int .i64 x.load)).setCell ⟨zb, 3, none⟩ (.int .i64 x.cap.a)).setCell ⟨zb, 4, none⟩ (.int .i64 x.cap.b)).setCell ⟨zb, 5, none⟩ (.int .i64 x.cap.c)).setCell ⟨zb, 6, none⟩ (.int .i64 x.used.a)).setCell ⟨zb, 7, none⟩ (.int .i64 x.used.b)).setCell ⟨zb, 8, none⟩ (.int .i64 x.used.c)).setCell ⟨zb, 9, none⟩ (.bool x.up)) zb 55 (boxNode x) ∧ Kept (fun k => k = zb) W ((((((((((W.setCell ⟨zb, 0, none⟩ (.int .i64 x.id)).setCell ⟨zb, 1, none⟩ (.int .i64 x.inc)).setCell ⟨zb, 2, none⟩ (.int .i64 x.load)).setCell ⟨zb, 3, none⟩ (.int .i64 x.cap.a)).setCell ⟨zb, 4, none⟩ (.int .i64 x.cap.b)).setCell ⟨zb, 5, none⟩ (.int .i64 x.cap.c)).setCell ⟨zb, 6, none⟩ (.int .i64 x.used.a)).setCell ⟨zb, 7, none⟩ (.int .i64 x.used.b)).setCell ⟨zb, 8, none⟩ (.int .i64 x.used.c)).setCell ⟨zb, 9, none⟩ (.bool x.up)) := by
  refine ⟨(node_lay x y h (Nat.zero_le _) (Below.refl 0 W)).1, ?_⟩
  iterate 10 refine Kept.setCell (F := fun k => k = zb) ?_ (by intro _; rfl) _
  exact Kept.refl _ _
def CX.best (X : CX) (r : LRes) : CX := CX.of ⟨X.nodes, [], X.needs, X.looked + (X.stale.length : Int) * (X.needs.length : Int)⟩ r
theorem CX.of_nodes (X : CX) (r : LRes) : (X.of r).nodes = X.nodes := by unfold CX.of; split <;> rfl
theorem CX.of_stale (X : CX) (r : LRes) : (X.of r).stale = X.stale := by unfold CX.of; split <;> rfl
set_option maxRecDepth 100000 in
set_option maxHeartbeats 3200000 in
theorem caBest_o {w : World} {c : Nat} {X : CX} {S : Nat → Prop} (h : CaO w c X S) (r : LRes) (hw : wfRes r) (hb : X.nodes.length ≤ 1000 ∧ X.stale.length ≤ 1000 ∧ X.needs.length ≤ 1000 ∧ 0 ≤ X.looked ∧ X.looked ≤ 10000000) :
    Calls Try.prog 19 #[.pointer (some ⟨c, 0, none⟩), aggRes r] w fun e w' => e = .returned (.tuple #[aggNode ((bestN r X.nodes).getD zeroN), .bool (bestN r X.nodes).isSome]) ∧ ∃ S', CaO w' c (X.best r) S' ∧ Turned S S' w w' := by
  have hlt := h.lt
  have hrise := h.rising
  obtain ⟨b, hbd⟩ : ∃ b, bestN r X.nodes = b := ⟨_, rfl⟩
  rw [hbd]
  have HBD := Lib.hid hbd
  have hB : Below w.heap.size w (w.alloc (.cells (boxRes r) 53)) := (Below.refl _ _).alloc (Nat.le_refl _) _
  have hB2 : Below w.heap.size w ((w.alloc (.cells (boxRes r) 53)).alloc (.cells (boxNode zeroN) 55)) := hB.alloc (by simp) _
  have hrb : Blk ((w.alloc (.cells (boxRes r) 53)).alloc (.cells (boxNode zeroN) 55)) w.heap.size 53 (boxRes r) := (Blk.new w _ _).alloc _
  have hzb : Blk ((w.alloc (.cells (boxRes r) 53)).alloc (.cells (boxNode zeroN) 55)) (w.heap.size + 1) 55 (boxNode zeroN) := by
    have := Blk.new (w.alloc (.cells (boxRes r) 53)) 55 (boxNode zeroN)
    rwa [show (w.alloc (.cells (boxRes r) 53)).heap.size = w.heap.size + 1 by simp] at this
  have H1 := Lib.hid (And.intro (h.below hB2) (And.intro hrb (And.intro hzb hB2)))
  have HX := Lib.hid (And.intro hlt (And.intro hrise (And.intro hw hb)))
  clear hlt hrise hbd hB hB2 hrb hzb h hw hb
  go_enter Try.func19, Try.ntmps19
  go_upto_region 3 with fail
  obtain ⟨rb, hrb⟩ : ∃ rb, w.heap.size = rb := ⟨_, rfl⟩
  obtain ⟨zb, hzb⟩ : ∃ zb, rb + 1 = zb := ⟨_, rfl⟩
  have HRB : Hid (rb = w.heap.size ∧ zb = w.heap.size + 1) := Lib.hid ⟨hrb.symm, by omega⟩
  have H2 : Hid (CaO ((w.alloc (.cells (boxRes r) 53)).alloc (.cells (boxNode zeroN) 55)) c X S ∧ Blk ((w.alloc (.cells (boxRes r) 53)).alloc (.cells (boxNode zeroN) 55)) rb 53 (boxRes r) ∧ Blk ((w.alloc (.cells (boxRes r) 53)).alloc (.cells (boxNode zeroN) 55)) zb 55 (boxNode zeroN) ∧ Turned S S w ((w.alloc (.cells (boxRes r) 53)).alloc (.cells (boxNode zeroN) 55))) := Lib.hid ⟨H1.out.1, by rw [← hrb]; exact H1.out.2.1, by rw [HRB.out.2]; exact H1.out.2.2.1, .of_below H1.out.2.2.2⟩
  simp only [boxNode, zeroN] at H2
  generalize ((w.alloc (.cells (boxRes r) 53)).alloc (.cells _ 55)) = w1 at H2 ⊢
  try simp only [hrb, hzb]
  clear H1 hrb hzb
  have hcx := caFresh_o H2.out.1 HX.out.2.2.2
  go_wp2_with fail
  (with_reducible refine hcx.mono ?_)
  clear hcx
  rintro e w2 ⟨rfl, S2, h2, ht2⟩
  have hnS : ∀ k, w.heap.size ≤ k → ¬ S k := fun k hk hs => by have := HX.out.1 k hs; omega
  have H3 := Lib.hid (And.intro h2 (And.intro (H2.out.2.1.kept ht2.kept (hnS rb (by have := HRB.out.1; omega))) (And.intro (H2.out.2.2.1.kept ht2.kept (hnS zb (by have := HRB.out.2; omega))) (And.intro (H2.out.2.2.2.trans ht2) (show ¬ S2 rb ∧ ¬ S2 zb from ⟨fun hs => (ht2.new _ hs).elim (hnS rb (by have := HRB.out.1; omega)) (fun h9 => by have := H2.out.2.1.lt; omega), fun hs => (ht2.new _ hs).elim (hnS zb (by have := HRB.out.2; omega)) (fun h9 => by have := H2.out.2.2.1.lt; omega)⟩)))))
  clear h2 ht2 hnS H2
  have z0 := H3.out.2.1.cell 0
  have z1 := H3.out.2.1.cell 1
  have z2 := H3.out.2.1.cell 2
  have zl := H3.out.2.1.lt
  simp only [List.getElem?_toArray, List.getElem?_cons_zero, List.getElem?_cons_succ] at z0 z1 z2
  have hmul : 0 ≤ (X.stale.length : Int) * (X.needs.length : Int) ∧ (X.stale.length : Int) * (X.needs.length : Int) ≤ 1000000 := by
    have h2 : X.stale.length * X.needs.length ≤ 1000 * 1000 := Nat.mul_le_mul HX.out.2.2.2.2.1 HX.out.2.2.2.2.2.1
    have h3 : (X.stale.length : Int) * (X.needs.length : Int) = ((X.stale.length * X.needs.length : Nat) : Int) := by simp
    rw [h3]
    omega
  have hcx := caOf_t H3.out.1 rfl r HX.out.2.2.1 (by
    have h1 := HX.out.2.2.2
    show X.nodes.length ≤ 1000 ∧ X.needs.length ≤ 1000 ∧ 0 ≤ X.looked + (X.stale.length : Int) * (X.needs.length : Int) ∧ X.looked + (X.stale.length : Int) * (X.needs.length : Int) ≤ 100000000
    omega)
  clear hmul
  go_wp2_with fail
  (with_reducible refine hcx.mono ?_)
  clear hcx z0 z1 z2 zl
  rintro e w3 ⟨nm, sm, dm, cb, SS, TT, rfl, h3, hok, hrm, ht3⟩
  have hk3 := H3.out.2.2.1.kept ht3.kept H3.out.2.2.2.2.2
  have hnz : ¬ caS c (X.best r) nm sm dm SS zb := fun hs => (ht3.new _ hs).elim H3.out.2.2.2.2.2 (fun h9 => by have := H3.out.2.2.1.lt; omega)
  obtain ⟨row, hS⟩ := h3.shelf r hrm
  have hn0 : (X.best r).nodes = X.nodes := CX.of_nodes _ r
  have hs0 : (X.best r).stale = [] := CX.of_stale _ r
  have hrl : row.length ≤ 100000 := Nat.le_trans (hS.row_le (m := idsN X.nodes) (fun a ha => (hok r hrm).sub a ha)) (by have := HX.out.2.2.2.1; unfold idsN; rw [List.length_map]; omega)
  have hcx := shBest_t hS hrl
  have H4 := Lib.hid (And.intro h3 (And.intro hok (And.intro hk3 (And.intro (H3.out.2.2.2.1.trans ht3) (And.intro hnz (And.intro hn0 (And.intro hs0 hrm)))))))
  clear h3 hok hk3 hnz hS hn0 hs0 hrl ht3 H3 hrm
  go_wp2_with fail
  (with_reducible refine hcx.mono ?_)
  clear hcx
  have hfin : Hid (∀ W : World, CaAt W c (X.best r) nm sm dm cb SS TT → Turned S (caS c (X.best r) nm sm dm SS) w W → ∃ S', CaO W c (X.best r) S' ∧ Turned S S' w W) := Lib.hid fun W hW hT => ⟨_, ⟨_, _, _, _, _, _, hW, fun q hq => by
    have := H4.out.2.1 q hq
    rw [H4.out.2.2.2.2.2.1, H4.out.2.2.2.2.2.2.1]
    exact this.mono (fun p _ hf => hf.elim), by rw [H4.out.2.2.2.2.2.2.1]; exact fun z hz => (by cases hz), rfl⟩, hT⟩
  have hfin2 : Hid (∀ (w4 W : World) (x : LNode), Below w3.heap.size w3 w4 → Kept (fun k => k = zb) w4 W → ∃ S', CaO W c (X.best r) S' ∧ Turned S S' w W) := Lib.hid fun w4 W x hb hk => by
    refine hfin.out W ((H4.out.1.below hb).kept hk (fun k hk h9 => H4.out.2.2.2.2.1 (h9 ▸ hk))) ?_
    have ht := H4.out.2.2.2.1.then_below hb
    have hzw : w.heap.size ≤ zb := by have := HRB.out.2; omega
    exact ⟨⟨hk.os.trans ht.kept.os, hk.tape.trans ht.kept.tape, hk.output.trans ht.kept.output, Nat.le_trans ht.kept.size hk.size, fun k hkl hn => (hk.block k (Nat.lt_of_lt_of_le hkl ht.kept.size) (fun e => by omega)).trans (ht.kept.block k hkl hn)⟩, ht.new⟩
  rintro e w4 ⟨⟨rfl, hT⟩ | ⟨a, rfl, hT, hmin⟩, hb4⟩
  · have hbn : b = none := by
      rw [← HBD.out]
      exact (H4.out.2.1 r H4.out.2.2.2.2.2.2.2).none_ (fun n hn h9 => h9) hT
    subst hbn
    clear hT
    have hz4 : Blk w4 zb 55 (boxNode zeroN) := H4.out.2.2.1.below hb4 H4.out.2.2.1.lt
    have hL := node_layK zeroN zeroN hz4
    simp only [boxNode, zeroN] at hL
    have HE := Lib.hid (And.intro hL.1 (hfin2.out w4 _ zeroN hb4 hL.2))
    have d0 := hz4.cell 0
    have d1 := hz4.cell 1
    have d2 := hz4.cell 2
    have d3 := hz4.cell 3
    have d4 := hz4.cell 4
    have d5 := hz4.cell 5
    have d6 := hz4.cell 6
    have d7 := hz4.cell 7
    have d8 := hz4.cell 8
    have d9 := hz4.cell 9
    have df := hz4.frozen
    have dl := hz4.lt
    simp only [boxNode, zeroN, List.getElem?_toArray, List.getElem?_cons_zero, List.getElem?_cons_succ] at d0 d1 d2 d3 d4 d5 d6 d7 d8 d9
    clear hL hz4 hb4
    go_wp2
    generalize (((((((((w4.setCell ⟨zb, 0, none⟩ (.int .i64 0)).setCell ⟨zb, 1, none⟩ (.int .i64 0)).setCell ⟨zb, 2, none⟩ (.int .i64 0)).setCell ⟨zb, 3, none⟩ (.int .i64 0)).setCell ⟨zb, 4, none⟩ (.int .i64 0)).setCell ⟨zb, 5, none⟩ (.int .i64 0)).setCell ⟨zb, 6, none⟩ (.int .i64 0)).setCell ⟨zb, 7, none⟩ (.int .i64 0)).setCell ⟨zb, 8, none⟩ (.int .i64 0)).setCell ⟨zb, 9, none⟩ (.bool false) = w9 at HE ⊢
    have v0 := HE.out.1.cell 0
    have v1 := HE.out.1.cell 1
    have v2 := HE.out.1.cell 2
    have v3 := HE.out.1.cell 3
    have v4 := HE.out.1.cell 4
    have v5 := HE.out.1.cell 5
    have v6 := HE.out.1.cell 6
    have v7 := HE.out.1.cell 7
    have v8 := HE.out.1.cell 8
    have v9 := HE.out.1.cell 9
    simp only [boxNode, List.getElem?_toArray, List.getElem?_cons_zero, List.getElem?_cons_succ] at v0 v1 v2 v3 v4 v5 v6 v7 v8 v9
    exact bodyPost_ret (v := .tuple #[aggNode zeroN, .bool false]) (by simp [results, Try.results19, go_sem, zeroN, v0, v1, v2, v3, v4, v5, v6, v7, v8, v9]) rfl ⟨rfl, HE.out.2⟩
  · have hbn : b = some (nodeOf X.nodes a.id) := by
      rw [← HBD.out]
      exact (H4.out.2.1 r H4.out.2.2.2.2.2.2.2).top HX.out.2.1 (fun n hn h9 => h9) hT hmin
    have hin : a.id ∈ idsN X.nodes := (H4.out.2.1 r H4.out.2.2.2.2.2.2.2).sub a hT
    have hA4 := H4.out.1.below hb4
    have hl := hA4.nodes.get_ Try.tyN (hA4.nodes.wf a.id (by rw [CX.of_nodes]; exact hin))
    rw [if_pos (by rw [CX.of_nodes]; exact hin), show nodeV (CX.of _ r).nodes a.id = aggNode (nodeOf X.nodes a.id) by rw [CX.of_nodes]; rfl] at hl
    have c0 : w4.cell? ⟨c, 0, none⟩ = some (.map nm) := (hA4.blk.cell 0).trans rfl
    have cl := hA4.blk.lt
    obtain ⟨m, hm⟩ : ∃ m, nodeOf X.nodes a.id = m := ⟨_, rfl⟩
    rw [hm] at hbn hl
    subst hbn
    clear hm hin hA4 hT hmin
    have hz4 : Blk w4 zb 55 (boxNode zeroN) := H4.out.2.2.1.below hb4 H4.out.2.2.1.lt
    have hL := node_layK m zeroN hz4
    have HE := Lib.hid (And.intro hL.1 (hfin2.out w4 _ zeroN hb4 hL.2))
    have d0 := hz4.cell 0
    have d1 := hz4.cell 1
    have d2 := hz4.cell 2
    have d3 := hz4.cell 3
    have d4 := hz4.cell 4
    have d5 := hz4.cell 5
    have d6 := hz4.cell 6
    have d7 := hz4.cell 7
    have d8 := hz4.cell 8
    have d9 := hz4.cell 9
    have df := hz4.frozen
    have dl := hz4.lt
    simp only [boxNode, zeroN, List.getElem?_toArray, List.getElem?_cons_zero, List.getElem?_cons_succ] at d0 d1 d2 d3 d4 d5 d6 d7 d8 d9
    clear hL hz4 hb4
    go_wp2
    generalize (((((((((w4.setCell ⟨zb, 0, none⟩ (.int .i64 m.id)).setCell ⟨zb, 1, none⟩ (.int .i64 m.inc)).setCell ⟨zb, 2, none⟩ (.int .i64 m.load)).setCell ⟨zb, 3, none⟩ (.int .i64 m.cap.a)).setCell ⟨zb, 4, none⟩ (.int .i64 m.cap.b)).setCell ⟨zb, 5, none⟩ (.int .i64 m.cap.c)).setCell ⟨zb, 6, none⟩ (.int .i64 m.used.a)).setCell ⟨zb, 7, none⟩ (.int .i64 m.used.b)).setCell ⟨zb, 8, none⟩ (.int .i64 m.used.c)).setCell ⟨zb, 9, none⟩ (.bool m.up) = w9 at HE ⊢
    have v0 := HE.out.1.cell 0
    have v1 := HE.out.1.cell 1
    have v2 := HE.out.1.cell 2
    have v3 := HE.out.1.cell 3
    have v4 := HE.out.1.cell 4
    have v5 := HE.out.1.cell 5
    have v6 := HE.out.1.cell 6
    have v7 := HE.out.1.cell 7
    have v8 := HE.out.1.cell 8
    have v9 := HE.out.1.cell 9
    simp only [boxNode, List.getElem?_toArray, List.getElem?_cons_zero, List.getElem?_cons_succ] at v0 v1 v2 v3 v4 v5 v6 v7 v8 v9
    exact bodyPost_ret (v := .tuple #[aggNode m, .bool true]) (by simp [results, Try.results19, go_sem, v0, v1, v2, v3, v4, v5, v6, v7, v8, v9]) rfl ⟨rfl, HE.out.2⟩
end Go.Proofs.Ytcafmodenbifhaa
