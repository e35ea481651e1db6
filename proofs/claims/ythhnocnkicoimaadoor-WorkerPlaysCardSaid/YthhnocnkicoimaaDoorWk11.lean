/-
 LAYER 39 (worker): Hear, whatever is heard; the document's Same of messages; awake.
-/
import Derived.Test.YthhnocnkicoimaaDoorWk8
import Derived.Test.YthhnocnkicoimaaDoorWk9
import Derived.Test.YthhnocnkicoimaaDoorWk10
import Derived.Test.YthhnocnkicoimaaDoorSame01
import Derived.Test.YthhnocnkicoimaaDoorEqMsg
import Derived.BigQuiet
set_option linter.unusedVariables false
set_option linter.unusedSimpArgs false
namespace Go.Proofs.YthhnocnkicoimaaDoor
open Go.RowKit Go.Maps

def WS.heed (s : WS) (now : Int) (m : LMsg) : WS × Bool :=
 if m.kind = 2 then (if s.ackB now m then s.ack m else s, s.ackB now m) else if m.kind = 3 then (if s.doB now m then s.do_ m else s, s.doB now m) else (s.stop m, s.stopB m)
def WS.hear (s : WS) (now : Int) (m : LMsg) : WS × Bool :=
 if s.up = true ∧ checkM m = 0 ∧ m.to_ = 100 + s.node ∧ (m.kind = 2 ∨ m.kind = 3 ∨ m.kind = 4) then (if passB s.epoch m.epoch = true ∧ m.inc = (s.pass m.epoch).inc then (s.pass m.epoch).heed now m else (s.pass m.epoch, false)) else (s, false)
section
variable {w w' : World} {c : Nat} {v : WV} {s : WS}
theorem pass_held (s : WS) (e : Int) : (s.pass e).held = s.held ∧ (s.pass e).told = s.told := by unfold WS.pass; split <;> exact ⟨rfl, rfl⟩
theorem wkHear (h : WkAt w c v s) (hw : WaysAt w) (hn : 0 ≤ s.node ∧ s.node ≤ 15) (now : Int) (m : LMsg) (hj : wf64 m.job) (hnw : wf64 now) (h1 : s.held.length ≤ 1000000) (h2 : s.told.length ≤ 1000000) :
  Calls Tryd.prog 29 #[.pointer (some ⟨c, 0, none⟩), .int .i64 now, aggMsg m] w fun e w' => e = .returned (.bool (s.hear now m).2) ∧ ∃ v', WkAt w' c v' (s.hear now m).1 ∧ Turned (wkS c v) (wkS c v') w w' := by
 have hs := pass_held s m.epoch
 unfold WS.hear
 by_cases hu : s.up = true
 ·by_cases hk : checkM m = 0
  ·by_cases ht : m.to_ = 100 + s.node
   ·by_cases hkd : m.kind = 2 ∨ m.kind = 3 ∨ m.kind = 4
    ·rw [if_pos ⟨hu, hk, ht, hkd⟩]
     cases hp : passB s.epoch m.epoch
     ·rw [if_neg (by simp)]
      rcases hkd with e | e | e
      ·exact wkHear_2np h hw hn now m hu hk ht e _ rfl hp
      ·exact wkHear_3np h hw hn now m hu hk ht e _ rfl hp
      ·exact wkHear_4np h hw hn now m hu hk ht e _ rfl hp
     ·by_cases hi : m.inc = (s.pass m.epoch).inc
      ·rw [if_pos ⟨rfl, hi⟩]
       unfold WS.heed
       rcases hkd with e | e | e
       ·rw [if_pos e]
        exact wkHear_2go h hw hn now m hu hk ht e _ rfl hp hi _ _ (fun W u hW => wkAck hW now m)
       ·rw [if_neg (by omega), if_pos e]
        exact wkHear_3go h hw hn now m hu hk ht e _ rfl hp hi _ _ (fun W u hW => wkDo hW now m hj hnw (by rw [hs.1]; exact h1))
       ·rw [if_neg (by omega), if_neg (by omega)]
        exact wkHear_4go h hw hn now m hu hk ht e _ rfl hp hi _ _ (fun W u hW => wkStop hW now m hj hnw (by rw [hs.2]; exact h2))
      ·rw [if_neg (fun e => hi e.2)]
       rcases hkd with e | e | e
       ·exact wkHear_2ni h hw hn now m hu hk ht e _ rfl hp hi
       ·exact wkHear_3ni h hw hn now m hu hk ht e _ rfl hp hi
       ·exact wkHear_4ni h hw hn now m hu hk ht e _ rfl hp hi
    ·rw [if_neg (fun e => hkd e.2.2.2)]
     exact wkHear_other h hw hn now m hu hk ht (fun e => hkd (.inl e)) (fun e => hkd (.inr (.inl e))) (fun e => hkd (.inr (.inr e)))
   ·rw [if_neg (fun e => ht e.2.2.1)]
    exact wkHear_far h hw hn now m hu hk ht
  ·rw [if_neg (fun e => hk e.2.1)]
   exact wkHear_bad h hw hn now m hu hk
 ·rw [if_neg (fun e => hu e.1)]
  exact wkHear_down h hw hn now m (by simpa using hu)
end
set_option maxRecDepth 100000 in
set_option maxHeartbeats 3200000 in
theorem sameM_t (A B : Option Addr) (n c m d : Nat) (l : List LMsg) (w : World) (h : Rd encMsg 12 w A n l) (h' : Rd encMsg 12 w B m l) (hn : n ≤ 1000000) :
  Calls Tryd.prog 36 #[.slice A n c, .slice B m d] w fun e w' => e = .returned (.bool true) ∧ Below w.heap.size w w' := by
 have hmn : m = n := by rw [← h.len, ← h'.len]
 subst hmn
 have HH := Lib.hid (And.intro h h')
 clear h h'
 go_enter Tryd.func36, Tryd.ntmps36
 go_wp2
 go_loopw [5] (fun i wr => ∃ k : Nat, k ≤ m ∧ i = .int .i64 k ∧ Below w.heap.size w wr) (fun i _ => m - (intOf i).toNat)
 case atStart => exact ⟨0, Nat.zero_le _, rfl, Below.refl _ _⟩
 case round =>
  obtain ⟨k, hk, rfl, hb⟩ := hrel
  by_cases hlt : k < m
  ·obtain ⟨ab, ao, r, rfl, hr, hal, hcells⟩ := (HH.out.1.below hb).at_ hlt
   obtain ⟨ab2, ao2, r2, rfl, hr2, hal2, hcells2⟩ := (HH.out.2.below hb).at_ hlt
   have e : r = r2 := Option.some.inj (hr.symm.trans hr2)
   subst e
   have g0 : wr.cell? ⟨ab, ao + k * 12, none⟩ = some (.int .i64 r.kind) := hcells 0 _ rfl
   have g1 : wr.cell? ⟨ab, ao + k * 12 + 1, none⟩ = some (.int .i64 r.frm) := hcells 1 _ rfl
   have g2 : wr.cell? ⟨ab, ao + k * 12 + 2, none⟩ = some (.int .i64 r.to_) := hcells 2 _ rfl
   have g3 : wr.cell? ⟨ab, ao + k * 12 + 3, none⟩ = some (.int .i64 r.epoch) := hcells 3 _ rfl
   have g4 : wr.cell? ⟨ab, ao + k * 12 + 4, none⟩ = some (.int .i64 r.inc) := hcells 4 _ rfl
   have g5 : wr.cell? ⟨ab, ao + k * 12 + 5, none⟩ = some (.int .i64 r.job) := hcells 5 _ rfl
   have g6 : wr.cell? ⟨ab, ao + k * 12 + 6, none⟩ = some (.int .i64 r.tick) := hcells 6 _ rfl
   have g7 : wr.cell? ⟨ab, ao + k * 12 + 7, none⟩ = some (.int .i64 r.prio) := hcells 7 _ rfl
   have g8 : wr.cell? ⟨ab, ao + k * 12 + 8, none⟩ = some (.int .i64 r.code) := hcells 8 _ rfl
   have g9 : wr.cell? ⟨ab, ao + k * 12 + 9, none⟩ = some (.int .i64 r.res.a) := hcells 9 _ rfl
   have g10 : wr.cell? ⟨ab, ao + k * 12 + 10, none⟩ = some (.int .i64 r.res.b) := hcells 10 _ rfl
   have g11 : wr.cell? ⟨ab, ao + k * 12 + 11, none⟩ = some (.int .i64 r.res.c) := hcells 11 _ rfl
   have k0 : wr.cell? ⟨ab2, ao2 + k * 12, none⟩ = some (.int .i64 r.kind) := hcells2 0 _ rfl
   have k1 : wr.cell? ⟨ab2, ao2 + k * 12 + 1, none⟩ = some (.int .i64 r.frm) := hcells2 1 _ rfl
   have k2 : wr.cell? ⟨ab2, ao2 + k * 12 + 2, none⟩ = some (.int .i64 r.to_) := hcells2 2 _ rfl
   have k3 : wr.cell? ⟨ab2, ao2 + k * 12 + 3, none⟩ = some (.int .i64 r.epoch) := hcells2 3 _ rfl
   have k4 : wr.cell? ⟨ab2, ao2 + k * 12 + 4, none⟩ = some (.int .i64 r.inc) := hcells2 4 _ rfl
   have k5 : wr.cell? ⟨ab2, ao2 + k * 12 + 5, none⟩ = some (.int .i64 r.job) := hcells2 5 _ rfl
   have k6 : wr.cell? ⟨ab2, ao2 + k * 12 + 6, none⟩ = some (.int .i64 r.tick) := hcells2 6 _ rfl
   have k7 : wr.cell? ⟨ab2, ao2 + k * 12 + 7, none⟩ = some (.int .i64 r.prio) := hcells2 7 _ rfl
   have k8 : wr.cell? ⟨ab2, ao2 + k * 12 + 8, none⟩ = some (.int .i64 r.code) := hcells2 8 _ rfl
   have k9 : wr.cell? ⟨ab2, ao2 + k * 12 + 9, none⟩ = some (.int .i64 r.res.a) := hcells2 9 _ rfl
   have k10 : wr.cell? ⟨ab2, ao2 + k * 12 + 10, none⟩ = some (.int .i64 r.res.b) := hcells2 10 _ rfl
   have k11 : wr.cell? ⟨ab2, ao2 + k * 12 + 11, none⟩ = some (.int .i64 r.res.c) := hcells2 11 _ rfl
   have hne := fun (W : World) => neqMsg r r W
   simp only [decide_true, Bool.not_true] at hne
   have HB := Lib.hid hb
   clear hcells hcells2 hr hr2 hal hal2 hb
   go_wp2_with fail
   go_quiet (fail)
   have HF := Lib.hid (show Below w.heap.size w (wr.drewN nq) from ⟨HB.out.os, HB.out.tape, HB.out.output, HB.out.size, HB.out.block⟩)
   clear g0 g1 g2 g3 g4 g5 g6 g7 g8 g9 g10 g11 k0 k1 k2 k3 k4 k5 k6 k7 k8 k9 k10 k11 hne
   go_wp2
   go_roundw
   case rel => exact ⟨k + 1, by omega, by go_num, HF.out⟩
   case measure => simp [intOf]; omega
  ·have HB := Lib.hid hb
   clear hb
   go_wp2
   go_ret
   exact ⟨rfl, HB.out⟩
theorem below_dN39 {B : Nat} {w : World} (n : Nat) : Below B w (w.drewN n) := ⟨rfl, rfl, rfl, Nat.le_refl _, fun _ _ => rfl⟩
theorem encI_get39 (x : Int) : (encI x)[0]? = some (.int .i64 x) := rfl
theorem RdI.lit39 (w : World) (G : Nat) (hG : G = w.heap.size) (cs : Array Value) (t : TypeId) (fz : Nat × Nat) (l : List Int) (h : cs.toList = l.map (Value.int .i64)) : RdI (w.alloc (.cells cs t fz)) (some ⟨G, 0, none⟩) l.length l := by
 subst hG
 refine ⟨rfl, fun _ => ⟨_, _, rfl, by simp, fun i y hy j v hv => ?_⟩⟩
 have hj : j = 0 := by
  cases j with
  | zero => rfl
  | succ j => simp [encI] at hv
 subst hj
 rw [encI_get39] at hv
 cases hv
 rw [show 0 + (i * 1 + 0) = i by omega, cell_of_row _ _ _ cs t fz (heap_alloc_new w _), ← Array.getElem?_toList, h, List.getElem?_map, hy]
 rfl
/-- A worker that was made since w0, and what stands beside it: a row of messages, a row of numbers. -/
structure WI (w0 w : World) (c : Nat) (s : WS) (A : Option Addr) (n ca : Nat) (l : List LMsg) (B : Option Addr) (m cb : Nat) (r : List Int) : Prop where
 ob : ∃ v, WkAt w c v s ∧ ∀ k, wkS c v k → w0.heap.size ≤ k
 oa : OwnL encMsg 38 12 w 0 A n ca l
 obb : OwnL encI 3 1 w 0 B m cb r
 bel : Below w0.heap.size w0 w
section
variable {w0 w w' : World} {c n ca m cb : Nat} {s : WS} {A B : Option Addr} {l : List LMsg} {r : List Int}
theorem WI.then (h : WI w0 w c s A n ca l B m cb r) (hb : Below w.heap.size w w') : WI w0 w' c s A n ca l B m cb r := by
 obtain ⟨v, h1, h2⟩ := h.ob
 exact ⟨⟨v, h1.below hb, h2⟩, h.oa.below hb, h.obb.below hb, h.bel.trans (hb.mono h.bel.size)⟩
theorem WI.turn {v v' : WV} {s' : WS} (h : WI w0 w c s A n ca l B m cb r) (h1 : WkAt w c v s) (h2 : ∀ k, wkS c v k → w0.heap.size ≤ k) (h3 : WkAt w' c v' s') (ht : Turned (wkS c v) (wkS c v') w w') : WI w0 w' c s' A n ca l B m cb r :=
 ⟨⟨v', h3, ht.ge h.bel.size h2⟩, h.oa.kept ht.kept (fun ad ha => by obtain ⟨cs, hb⟩ := h.oa.blkw ha; exact h1.not_blk hb (by decide)), h.obb.kept ht.kept (fun ad ha => by obtain ⟨cs, hb⟩ := h.obb.blkw ha; exact h1.not_blk hb (by decide)), h.bel.trans (ht.below h.bel.size h2)⟩
theorem WI.hear (h : WI w0 w c s A n ca l B m cb r) (hw : WaysAt w0) (hn : 0 ≤ s.node ∧ s.node ≤ 15) (now : Int) (q : LMsg) (hj : wf64 q.job) (hnw : wf64 now) (h1 : s.held.length ≤ 1000000) (h2 : s.told.length ≤ 1000000) (s' : WS) (b : Bool) (hs : s.hear now q = (s', b)) :
  Calls Tryd.prog 29 #[.pointer (some ⟨c, 0, none⟩), .int .i64 now, aggMsg q] w fun e w' => e = .returned (.bool b) ∧ WI w0 w' c s' A n ca l B m cb r := by
 obtain ⟨v, h3, h4⟩ := h.ob
 have hcx := wkHear h3 (hw.below h.bel) hn now q hj hnw h1 h2
 rw [hs] at hcx
 refine hcx.mono ?_
 rintro e w' ⟨rfl, v', h5, h6⟩
 exact ⟨rfl, h.turn h3 h4 h5 h6⟩
theorem WI.tick (h : WI w0 w c s A n ca l B m cb r) (now k : Int) (hu : s.up = true) (hi : 0 ≤ s.inc ∧ s.inc ≤ 2147483647) (hk : 0 ≤ s.until_ ∧ 0 ≤ s.first ∧ s.first ≤ 2199023255552 ∧ 0 < s.span ∧ s.span ≤ 64) (hnd : 0 ≤ s.node ∧ s.node ≤ 15) (hdl : s.done.length ≤ 1000) (s' : WS) (hs : s.tick now = s') (l' : List LMsg) (hl : s'.out now (min k 5).toNat = l') :
  Calls Tryd.prog 26 #[.pointer (some ⟨c, 0, none⟩), .int .i64 now, .int .i64 k] w fun e w' => ∃ A' n' ca', e = .returned (.slice A' n' ca') ∧ WI w0 w' c s' A n ca l B m cb r ∧ OwnL encMsg 38 12 w' 0 A' n' ca' l' := by
 obtain ⟨v, h3, h4⟩ := h.ob
 have hcx := wkTick h3 now k hu hi hk hnd hdl
 rw [hs, hl] at hcx
 refine hcx.mono ?_
 rintro e w' ⟨⟨A', n', ca', rfl, ho⟩, v', h5, h6⟩
 exact ⟨A', n', ca', rfl, h.turn h3 h4 h5 h6, ho.lower (Nat.zero_le _)⟩
end
end Go.Proofs.YthhnocnkicoimaaDoor
