/-
  LAYER 41 (client): the law ClientPlays, walked.
-/
import Derived.Test.YthhnocnkicoimaaDoorCl18
import Derived.Test.YthhnocnkicoimaaDoorTAct41
import Derived.Test.YthhnocnkicoimaaDoorAnyTail
import Derived.Deep.CutRange
import Derived.Deep.CutBlock
set_option linter.unusedVariables false
set_option linter.unusedSimpArgs false
namespace Go.Proofs.YthhnocnkicoimaaDoor
open Go.RowKit Go.Maps

section
variable {w : World} {c : Nat} {v : ClV} {s : CS} {x : XV}
theorem rAskM (h : XRd w x s) {k : Nat} (hk : s.Ok k) (hk9 : k ≤ 1000) (m : LMsg) (q : LMsg) (hq : askA m = q) (er : Int) (he : askC m = er) (s' : CS) (hs : s.ask m = s') :
    Calls Tryd.prog 10 #[.agg x.box, aggMsg m] w fun e w' => ∃ x', e = .returned (.tuple #[.agg x'.box, aggMsg q, .int .i64 er]) ∧ XRd w' x' s' ∧ XPl w w' x x' ∧ Below w.heap.size w w' := by
  subst hq he hs
  exact rAsk h hk hk9 m
theorem oSubmitM (h : ClO w c v s) (hw : WaysAt w) (to_ job prio : Int) (need : LRes) (hm : wf64 job) {k : Nat} (hk : s.Ok k) (hk9 : k ≤ 1000) (q : LMsg) (hq : askA ⟨6, 200, to_, 0, 0, job, 0, prio, 0, need⟩ = q) (er : Int) (he : askC ⟨6, 200, to_, 0, 0, job, 0, prio, 0, need⟩ = er) (s' : CS) (hs : s.ask ⟨6, 200, to_, 0, 0, job, 0, prio, 0, need⟩ = s') :
    Calls Tryd.prog 11 #[.pointer (some ⟨c, 0, none⟩), .int .i64 to_, .int .i64 job, .int .i64 prio, aggRes need] w fun e w' => e = .returned (.tuple #[aggMsg q, .int .i64 er]) ∧ ∃ v', ClO w' c v' s' ∧ Turned (clS c v) (clS c v') w w' := by
  subst hq he hs
  exact oSubmit h hw to_ job prio need hm hk hk9 _ rfl
theorem oCancelM (h : ClO w c v s) (hw : WaysAt w) (to_ job : Int) (hm : wf64 job) {k : Nat} (hk : s.Ok k) (hk9 : k ≤ 1000) (q : LMsg) (hq : askA ⟨7, 200, to_, 0, 0, job, 0, 0, 0, ⟨0, 0, 0⟩⟩ = q) (er : Int) (he : askC ⟨7, 200, to_, 0, 0, job, 0, 0, 0, ⟨0, 0, 0⟩⟩ = er) (s' : CS) (hs : s.ask ⟨7, 200, to_, 0, 0, job, 0, 0, 0, ⟨0, 0, 0⟩⟩ = s') :
    Calls Tryd.prog 12 #[.pointer (some ⟨c, 0, none⟩), .int .i64 to_, .int .i64 job] w fun e w' => e = .returned (.tuple #[aggMsg q, .int .i64 er]) ∧ ∃ v', ClO w' c v' s' ∧ Turned (clS c v) (clS c v') w w' := by
  subst hq he hs
  exact oCancel h hw to_ job hm hk hk9 _ rfl
theorem oHearM (h : ClO w c v s) (hw : WaysAt w) (m : LMsg) (hm : wf64 m.job) {k : Nat} (hk : s.Ok k) (hk9 : k ≤ 1000) (b : Bool) (hb : s.hears m = b) (s' : CS) (hs : s.hear m = s') :
    Calls Tryd.prog 14 #[.pointer (some ⟨c, 0, none⟩), aggMsg m] w fun e w' => e = .returned (.bool b) ∧ ∃ v', ClO w' c v' s' ∧ Turned (clS c v) (clS c v') w w' := by
  subst hb hs
  exact oHear h hw m hm hk hk9
theorem rHearM (h : XRd w x s) {k : Nat} (hk : s.Ok k) (hk9 : k ≤ 1000) (m : LMsg) (b : Bool) (hb : s.hears m = b) (s' : CS) (hs : s.hear m = s') :
    Calls Tryd.prog 13 #[.agg x.box, aggMsg m] w fun e w' => ∃ x', e = .returned (.tuple #[.agg x'.box, .bool b]) ∧ XRd w' x' s' ∧ XPl w w' x x' ∧ Below w.heap.size w w' := by
  subst hb hs
  exact rHear h hk hk9 m
end
theorem Blk.ne_ {w : World} {b b' : Nat} {t t' : TypeId} {cs cs' : Array Value} (h : Blk w b t cs) (h' : Blk w b' t' cs') (ht : t ≠ t') : b ≠ b' := fun e => ht (by subst e; exact h.ty h')
theorem wfAct41_job {a : LAct41} (h : wfAct41 a) : wf64 a.msg.job := h.2.2.2.2.2.2.1
set_option maxRecDepth 100000 in
set_option maxHeartbeats 12800000 in
theorem plays41 (A : Option Addr) (n c0 : Nat) (l : List LAct41) (w : World) (h : Rd encAct41 13 w A n l) (hw : ∀ a ∈ l, wfAct41 a) (hwy : WaysAt w) :
    Calls Tryd.prog 3 #[.slice A n c0] w fun e w' => e = .returned (.bool true) ∧ Below w.heap.size w w' := by
  by_cases hb1 : 80 < n
  · go_enter Tryd.func3, Tryd.ntmps3
    go_wp2_with (go_at_call 8; with_reducible refine (awake41 _ hwy).mono ?_; rintro e w' ⟨rfl, hb⟩)
    go_ret
    exact ⟨rfl, hb⟩
  have hn : n ≤ 80 := by omega
  have Hh := Lib.hid (And.intro h (And.intro hw hwy))
  clear hb1 h hw hwy
  go_enter Tryd.func3, Tryd.ntmps3
  go_wp2_with fail
  (with_reducible refine (clNew_t w).mono ?_)
  rintro e w2 ⟨rfl, hw2⟩
  have hm1 := ClO.made w
  rw [← hw2] at hm1
  have hB2 : Below w.heap.size w w2 := by rw [hw2]; exact (Below.refl _ _).alloc (Nat.le_refl _) _
  have hlt1 := ClAt.lt hm1
  have hm2 := ClO.made w2
  have hB3 : Below w2.heap.size w2 (w2.alloc (.cells #[.map none, .slice none 0 0, .slice none 0 0] 32)) := (Below.refl _ _).alloc (Nat.le_refl _) _
  have hs3 : (w2.alloc (.cells #[.map none, .slice none 0 0, .slice none 0 0] 32)).heap.size = w2.heap.size + 1 := by simp
  have hbx := Blk.new (w2.alloc (.cells #[.map none, .slice none 0 0, .slice none 0 0] 32)) 34 #[.slice none 0 0, .slice none 0 0, .slice none 0 0]
  have hB4 := (Below.refl (w2.alloc (.cells #[.map none, .slice none 0 0, .slice none 0 0] 32)).heap.size (w2.alloc (.cells #[.map none, .slice none 0 0, .slice none 0 0] 32))).alloc (Nat.le_refl _) (.cells #[.slice none 0 0, .slice none 0 0, .slice none 0 0] 34)
  rw [hs3] at hbx
  have hq : Q41 w ((w2.alloc (.cells #[.map none, .slice none 0 0, .slice none 0 0] 32)).alloc (.cells #[.slice none 0 0, .slice none 0 0, .slice none 0 0] 34)) w.heap.size w2.heap.size (w2.heap.size + 1) ⟨.map none, none, 0, 0, none, 0, 0⟩ ⟨.map none, none, 0, 0, none, 0, 0⟩ ⟨[], [], []⟩ ⟨[], [], []⟩ ⟨[], [], []⟩ ⟨none, 0, 0, none, 0, 0, none, 0, 0⟩ :=
    ⟨(hm1.below hB3).below hB4, hm2.below hB4, fun k e e' => by have h1 := hlt1 k e; have h2 := clS_made _ _ e'; omega, fun k e => by have h2 := clS_made _ _ e; omega, fun k e => by have h2 := clS_made _ _ e; have := hB2.size; omega, by have := hB2.size; omega, hbx, ⟨Rd.nil _ _, Rd.nil _ _, Rd.nil _ _, Nat.le_refl _, Nat.le_refl _⟩, fun ad ha => (by rcases ha with ha | ha | ha <;> cases ha), (hB2.trans (hB3.mono hB2.size)).trans (hB4.mono (by have := hB2.size; omega))⟩
  have HQ0 := Lib.hid hq
  clear hw2 hm1 hB2 hlt1 hm2 hB3 hs3 hbx hB4 hq
  go_wp2
  obtain ⟨c, hc⟩ : ∃ c, w.heap.size = c := ⟨_, rfl⟩
  obtain ⟨z, hz⟩ : ∃ z, w2.heap.size = z := ⟨_, rfl⟩
  obtain ⟨bx, hbx⟩ : ∃ bx, w2.heap.size + 1 = bx := ⟨_, rfl⟩
  rw [hbx, hz] at HQ0
  rw [hc] at HQ0
  try rw [hbx]
  try rw [hz]
  try rw [hc]
  clear hc hz hbx
  go_loopw [7] (fun i wr => ∃ k : Nat, k ≤ n ∧ i = .int .i64 k ∧ ∃ (s : CS) (v vz : ClV) (x : XV), Q41 w wr c z bx v vz s s s x ∧ s.Ok k) (fun i _ => n - (intOf i).toNat)
  case atStart => exact ⟨0, Nat.zero_le _, rfl, _, _, _, _, HQ0.out, CS.Ok.zero⟩
  case round =>
    obtain ⟨k, hk, rfl, s, v, vz, x, hQ, hok⟩ := hrel
    by_cases hlt : k < n
    · obtain ⟨ab, ao, a, rfl, haa, hal, hcells⟩ := (Hh.out.1.below hQ.bel).at_ hlt
      have g0 : wr.cell? ⟨ab, ao + k * 13, none⟩ = some (.int .i64 a.kind) := hcells 0 _ rfl
      have g1 : wr.cell? ⟨ab, ao + k * 13 + 1, none⟩ = some (.int .i64 a.msg.kind) := hcells 1 _ rfl
      have g2 : wr.cell? ⟨ab, ao + k * 13 + 2, none⟩ = some (.int .i64 a.msg.frm) := hcells 2 _ rfl
      have g3 : wr.cell? ⟨ab, ao + k * 13 + 3, none⟩ = some (.int .i64 a.msg.to_) := hcells 3 _ rfl
      have g4 : wr.cell? ⟨ab, ao + k * 13 + 4, none⟩ = some (.int .i64 a.msg.epoch) := hcells 4 _ rfl
      have g5 : wr.cell? ⟨ab, ao + k * 13 + 5, none⟩ = some (.int .i64 a.msg.inc) := hcells 5 _ rfl
      have g6 : wr.cell? ⟨ab, ao + k * 13 + 6, none⟩ = some (.int .i64 a.msg.job) := hcells 6 _ rfl
      have g7 : wr.cell? ⟨ab, ao + k * 13 + 7, none⟩ = some (.int .i64 a.msg.tick) := hcells 7 _ rfl
      have g8 : wr.cell? ⟨ab, ao + k * 13 + 8, none⟩ = some (.int .i64 a.msg.prio) := hcells 8 _ rfl
      have g9 : wr.cell? ⟨ab, ao + k * 13 + 9, none⟩ = some (.int .i64 a.msg.code) := hcells 9 _ rfl
      have g10 : wr.cell? ⟨ab, ao + k * 13 + 10, none⟩ = some (.int .i64 a.msg.res.a) := hcells 10 _ rfl
      have g11 : wr.cell? ⟨ab, ao + k * 13 + 11, none⟩ = some (.int .i64 a.msg.res.b) := hcells 11 _ rfl
      have g12 : wr.cell? ⟨ab, ao + k * 13 + 12, none⟩ = some (.int .i64 a.msg.res.c) := hcells 12 _ rfl
      have hwa := wfAct41_job (Hh.out.2.1 a (List.mem_of_getElem? haa))
      have hbm := Blk.new wr 38 (boxMsg a.msg)
      have hBA : Below wr.heap.size wr (wr.alloc (.cells (boxMsg a.msg) 38)) := (Below.refl _ _).alloc (Nat.le_refl _) _
      have HQ := Lib.hid (And.intro (hQ.below hBA) hok)
      have HBA := Lib.hid hbm
      have HW := Lib.hid hwa
      have hk9 : k ≤ 900 := by omega
      clear hcells haa hwa hbm hBA hQ hok
      go_upto_block 2 with fail
      generalize wr.alloc (.cells (boxMsg a.msg) 38) = wA at HQ HBA ⊢
      obtain ⟨bm, hbm⟩ : ∃ bm, wr.heap.size = bm := ⟨_, rfl⟩
      rw [hbm] at HBA
      try rw [hbm]
      clear hbm hal g0 g1 g2 g3 g4 g5 g6 g7 g8 g9 g10 g11 g12
      go_cut [] from 37 to 248 (fun wx => ∃ (s : CS) (v vz : ClV) (x : XV), Q41 w wx c z bx v vz s s s x ∧ s.Ok (k + 1))
      case first =>
        by_cases hk1 : a.kind = 1
        · have t1 : (a.kind == 1) = true := by simp [hk1]
          clear hk1
          obtain ⟨q, hq⟩ : ∃ q, askA ⟨6, 200, a.msg.to_, 0, 0, a.msg.job, 0, a.msg.prio, 0, a.msg.res⟩ = q := ⟨_, rfl⟩
          obtain ⟨er, her⟩ : ∃ er, askC ⟨6, 200, a.msg.to_, 0, 0, a.msg.job, 0, a.msg.prio, 0, a.msg.res⟩ = er := ⟨_, rfl⟩
          obtain ⟨s1, hs1⟩ : ∃ s1, s.ask ⟨6, 200, a.msg.to_, 0, 0, a.msg.job, 0, a.msg.prio, 0, a.msg.res⟩ = s1 := ⟨_, rfl⟩
          have hok1 : s1.Ok (k + 1) := by rw [← hs1]; exact HQ.out.2.ask HW.out
          have HM := Lib.hid (And.intro hq (And.intro her (And.intro hs1 hok1)))
          clear hq her hs1 hok1
          have c2 : wA.cell? ⟨bm, 2, none⟩ = some (.int .i64 a.msg.to_) := (HBA.out.cell 2).trans rfl
          have c5 : wA.cell? ⟨bm, 5, none⟩ = some (.int .i64 a.msg.job) := (HBA.out.cell 5).trans rfl
          have c7 : wA.cell? ⟨bm, 7, none⟩ = some (.int .i64 a.msg.prio) := (HBA.out.cell 7).trans rfl
          have c9 : wA.cell? ⟨bm, 9, none⟩ = some (.int .i64 a.msg.res.a) := (HBA.out.cell 9).trans rfl
          have c10 : wA.cell? ⟨bm, 10, none⟩ = some (.int .i64 a.msg.res.b) := (HBA.out.cell 10).trans rfl
          have c11 : wA.cell? ⟨bm, 11, none⟩ = some (.int .i64 a.msg.res.c) := (HBA.out.cell 11).trans rfl
          have cl := HBA.out.lt
          have x0 : wA.cell? ⟨bx, 0, none⟩ = some (.slice x.a x.an x.ac) := (HQ.out.1.blk.cell 0).trans rfl
          have x1 : wA.cell? ⟨bx, 1, none⟩ = some (.slice x.o x.on x.oc) := (HQ.out.1.blk.cell 1).trans rfl
          have x2 : wA.cell? ⟨bx, 2, none⟩ = some (.slice x.r x.rn x.rc) := (HQ.out.1.blk.cell 2).trans rfl
          have xf := HQ.out.1.blk.frozen
          have xl := HQ.out.1.blk.lt
          have hcx := rAskM HQ.out.1.rd HQ.out.2 (by omega) ⟨6, 200, a.msg.to_, 0, 0, a.msg.job, 0, a.msg.prio, 0, a.msg.res⟩ q HM.out.1 er HM.out.2.1 s1 HM.out.2.2.1
          go_wp2_with fail
          (with_reducible refine hcx.mono ?_)
          clear hcx
          clear x0 x1 x2 xf xl
          clear c2 c5 c7 c9 c10 c11 cl
          rintro e w2 ⟨x2, rfl, hr2, hp2, hb2⟩
          have hm2 := HBA.out.below hb2 HBA.out.lt
          have hx2 := HQ.out.1.blk.below hb2 HQ.out.1.blk.lt
          have hne : bm ≠ bx := Blk.ne_ hm2 hx2 (by decide)
          have hqx := HQ.out.1.setX hb2 hr2 hp2
          have hB3 := ((Below.refl (((w2.setCell ⟨bx, 0, none⟩ (.slice x2.a x2.an x2.ac)).setCell ⟨bx, 1, none⟩ (.slice x2.o x2.on x2.oc)).setCell ⟨bx, 2, none⟩ (.slice x2.r x2.rn x2.rc)).heap.size (((w2.setCell ⟨bx, 0, none⟩ (.slice x2.a x2.an x2.ac)).setCell ⟨bx, 1, none⟩ (.slice x2.o x2.on x2.oc)).setCell ⟨bx, 2, none⟩ (.slice x2.r x2.rn x2.rc))).alloc (Nat.le_refl _) (.cells #[.slice x2.a x2.an x2.ac, .slice x2.o x2.on x2.oc, .slice x2.r x2.rn x2.rc] 34)).alloc (by simp) (.cells (boxMsg q) 38)
          have hsz : ((((w2.setCell ⟨bx, 0, none⟩ (.slice x2.a x2.an x2.ac)).setCell ⟨bx, 1, none⟩ (.slice x2.o x2.on x2.oc)).setCell ⟨bx, 2, none⟩ (.slice x2.r x2.rn x2.rc)).alloc (.cells #[.slice x2.a x2.an x2.ac, .slice x2.o x2.on x2.oc, .slice x2.r x2.rn x2.rc] 34)).heap.size = w2.heap.size + 1 := by simp [World.setCell]
          have hb10 := Blk.new ((((w2.setCell ⟨bx, 0, none⟩ (.slice x2.a x2.an x2.ac)).setCell ⟨bx, 1, none⟩ (.slice x2.o x2.on x2.oc)).setCell ⟨bx, 2, none⟩ (.slice x2.r x2.rn x2.rc)).alloc (.cells #[.slice x2.a x2.an x2.ac, .slice x2.o x2.on x2.oc, .slice x2.r x2.rn x2.rc] 34)) 38 (boxMsg q)
          rw [hsz] at hb10
          have H3 := Lib.hid (And.intro (hqx.below hB3) (And.intro ((((hm2.far (p := ⟨bx, 0, none⟩) hne _).far (p := ⟨bx, 1, none⟩) hne _).far (p := ⟨bx, 2, none⟩) hne _).below hB3 (((hm2.far (p := ⟨bx, 0, none⟩) hne _).far (p := ⟨bx, 1, none⟩) hne _).far (p := ⟨bx, 2, none⟩) hne _).lt) hb10))
          have xf := hx2.frozen
          have xl := hx2.lt
          have x0 : w2.cell? ⟨bx, 0, none⟩ = some (.slice x.a x.an x.ac) := (hx2.cell 0).trans rfl
          have x1 : w2.cell? ⟨bx, 1, none⟩ = some (.slice x.o x.on x.oc) := (hx2.cell 1).trans rfl
          have x2 : w2.cell? ⟨bx, 2, none⟩ = some (.slice x.r x.rn x.rc) := (hx2.cell 2).trans rfl
          clear hr2 hp2 hb2 hm2 hx2 hqx hB3 hsz hb10
          go_upto_region 18 with fail
          clear hne x0 x1 x2 xf xl
          generalize ((((w2.setCell ⟨bx, 0, none⟩ (.slice x2.a x2.an x2.ac)).setCell ⟨bx, 1, none⟩ (.slice x2.o x2.on x2.oc)).setCell ⟨bx, 2, none⟩ (.slice x2.r x2.rn x2.rc)).alloc (.cells #[.slice x2.a x2.an x2.ac, .slice x2.o x2.on x2.oc, .slice x2.r x2.rn x2.rc] 34)).alloc (.cells (boxMsg q) 38) = w3 at H3 ⊢
          obtain ⟨b10, hb10⟩ : ∃ b10, w2.heap.size + 1 = b10 := ⟨_, rfl⟩
          rw [hb10] at H3
          try rw [hb10]
          clear hb10
          have c2 : w3.cell? ⟨bm, 2, none⟩ = some (.int .i64 a.msg.to_) := (H3.out.2.1.cell 2).trans rfl
          have c5 : w3.cell? ⟨bm, 5, none⟩ = some (.int .i64 a.msg.job) := (H3.out.2.1.cell 5).trans rfl
          have c7 : w3.cell? ⟨bm, 7, none⟩ = some (.int .i64 a.msg.prio) := (H3.out.2.1.cell 7).trans rfl
          have c9 : w3.cell? ⟨bm, 9, none⟩ = some (.int .i64 a.msg.res.a) := (H3.out.2.1.cell 9).trans rfl
          have c10 : w3.cell? ⟨bm, 10, none⟩ = some (.int .i64 a.msg.res.b) := (H3.out.2.1.cell 10).trans rfl
          have c11 : w3.cell? ⟨bm, 11, none⟩ = some (.int .i64 a.msg.res.c) := (H3.out.2.1.cell 11).trans rfl
          have cl := H3.out.2.1.lt
          have hcx := oSubmitM H3.out.1.c_ (Hh.out.2.2.below H3.out.1.bel) a.msg.to_ a.msg.job a.msg.prio a.msg.res HW.out HQ.out.2 (by omega) q HM.out.1 er HM.out.2.1 s1 HM.out.2.2.1
          go_wp2_with fail
          (with_reducible refine hcx.mono ?_)
          clear hcx
          clear c2 c5 c7 c9 c10 c11 cl
          rintro e w4 ⟨rfl, v4, hc4, ht4⟩
          have hB4 := (Below.refl w4.heap.size w4).alloc (Nat.le_refl _) (.cells (boxMsg q) 38)
          have H5 := Lib.hid (And.intro ((H3.out.1.turnC hc4 ht4).below hB4) (And.intro ((H3.out.1.keepC ht4 H3.out.2.1 (by decide) (by decide) (by decide)).below hB4 (H3.out.1.keepC ht4 H3.out.2.1 (by decide) (by decide) (by decide)).lt) (And.intro ((H3.out.1.keepC ht4 H3.out.2.2 (by decide) (by decide) (by decide)).below hB4 (H3.out.1.keepC ht4 H3.out.2.2 (by decide) (by decide) (by decide)).lt) (Blk.new w4 38 (boxMsg q)))))
          clear hc4 ht4 hB4
          go_upto_region 19 with fail
          generalize w4.alloc (.cells (boxMsg q) 38) = w5 at H5 ⊢
          obtain ⟨b12, hb12⟩ : ∃ b12, w4.heap.size = b12 := ⟨_, rfl⟩
          rw [hb12] at H5
          try rw [hb12]
          clear hb12
          have c2 : w5.cell? ⟨bm, 2, none⟩ = some (.int .i64 a.msg.to_) := (H5.out.2.1.cell 2).trans rfl
          have c5 : w5.cell? ⟨bm, 5, none⟩ = some (.int .i64 a.msg.job) := (H5.out.2.1.cell 5).trans rfl
          have c7 : w5.cell? ⟨bm, 7, none⟩ = some (.int .i64 a.msg.prio) := (H5.out.2.1.cell 7).trans rfl
          have c9 : w5.cell? ⟨bm, 9, none⟩ = some (.int .i64 a.msg.res.a) := (H5.out.2.1.cell 9).trans rfl
          have c10 : w5.cell? ⟨bm, 10, none⟩ = some (.int .i64 a.msg.res.b) := (H5.out.2.1.cell 10).trans rfl
          have c11 : w5.cell? ⟨bm, 11, none⟩ = some (.int .i64 a.msg.res.c) := (H5.out.2.1.cell 11).trans rfl
          have cl := H5.out.2.1.lt
          have hcx := oSubmitM H5.out.1.z_ (Hh.out.2.2.below H5.out.1.bel) a.msg.to_ a.msg.job a.msg.prio a.msg.res HW.out HQ.out.2 (by omega) q HM.out.1 er HM.out.2.1 s1 HM.out.2.2.1
          go_wp2_with fail
          (with_reducible refine hcx.mono ?_)
          clear hcx
          clear c2 c5 c7 c9 c10 c11 cl
          rintro e w6 ⟨rfl, v6, hc6, ht6⟩
          have hB6 := (Below.refl w6.heap.size w6).alloc (Nat.le_refl _) (.cells (boxMsg q) 38)
          have H7 := Lib.hid (And.intro ((H5.out.1.turnZ hc6 ht6).below hB6) (And.intro ((H5.out.1.keepZ ht6 H5.out.2.1 (by decide) (by decide) (by decide)).below hB6 (H5.out.1.keepZ ht6 H5.out.2.1 (by decide) (by decide) (by decide)).lt) (And.intro ((H5.out.1.keepZ ht6 H5.out.2.2.1 (by decide) (by decide) (by decide)).below hB6 (H5.out.1.keepZ ht6 H5.out.2.2.1 (by decide) (by decide) (by decide)).lt) (And.intro ((H5.out.1.keepZ ht6 H5.out.2.2.2 (by decide) (by decide) (by decide)).below hB6 (H5.out.1.keepZ ht6 H5.out.2.2.2 (by decide) (by decide) (by decide)).lt) (Blk.new w6 38 (boxMsg q))))))
          clear hc6 ht6 hB6
          go_upto_region 20 with fail
          generalize w6.alloc (.cells (boxMsg q) 38) = w7 at H7 ⊢
          obtain ⟨b14, hb14⟩ : ∃ b14, w6.heap.size = b14 := ⟨_, rfl⟩
          rw [hb14] at H7
          try rw [hb14]
          clear hb14
          have c2 : w7.cell? ⟨bm, 2, none⟩ = some (.int .i64 a.msg.to_) := (H7.out.2.1.cell 2).trans rfl
          have c5 : w7.cell? ⟨bm, 5, none⟩ = some (.int .i64 a.msg.job) := (H7.out.2.1.cell 5).trans rfl
          have c7 : w7.cell? ⟨bm, 7, none⟩ = some (.int .i64 a.msg.prio) := (H7.out.2.1.cell 7).trans rfl
          have c9 : w7.cell? ⟨bm, 9, none⟩ = some (.int .i64 a.msg.res.a) := (H7.out.2.1.cell 9).trans rfl
          have c10 : w7.cell? ⟨bm, 10, none⟩ = some (.int .i64 a.msg.res.b) := (H7.out.2.1.cell 10).trans rfl
          have c11 : w7.cell? ⟨bm, 11, none⟩ = some (.int .i64 a.msg.res.c) := (H7.out.2.1.cell 11).trans rfl
          have cl := H7.out.2.1.lt
          have hcx := nSubmit a.msg.to_ a.msg.job a.msg.prio a.msg.res w7
          go_wp2_with fail
          (with_reducible refine hcx.mono ?_)
          clear hcx
          clear c2 c5 c7 c9 c10 c11 cl
          rintro e w8 ⟨rfl, hb8⟩
          have hB9 := hb8.trans (((Below.refl w8.heap.size w8).alloc (Nat.le_refl _) (.cells (boxMsg zeroLMsg) 38)).mono hb8.size)
          have H9 := Lib.hid (And.intro (H7.out.1.below hB9) (And.intro (H7.out.2.2.1.below hB9 H7.out.2.2.1.lt) (And.intro (H7.out.2.2.2.1.below hB9 H7.out.2.2.2.1.lt) (H7.out.2.2.2.2.below hB9 H7.out.2.2.2.2.lt))))
          clear hB9 hb8
          go_upto_region 21 with fail
          generalize w8.alloc (.cells (boxMsg zeroLMsg) 38) = w9 at H9 ⊢
          have hne := fun (W : World) => neqMsg q q W
          simp only [decide_true, Bool.not_true] at hne
          have hgu := fun (op : BinOp) (x y : Operand) (a b : LMsg) (W : World) => guardMsg op x y a b W
          refine wp_region_autoL 134 [.o (eqV (aggMsg q)), .o (eqV (aggMsg q)), .b false, .b false, .o (eqV (.int .i64 er)), .o (eqV (.int .i64 er)), .b false, .b false, .b false, .o (eqV (aggMsg q)), .o (eqV (aggMsg q)), .b false, .b false, .b false, .o (eqV (.int .i64 er)), .o (eqV (.int .i64 er)), .b false, .b false, .b false, .o (eqV (.int .i64 7)), .b false, .b false] [false, false, false, true, false, false, false, true, true, false, false, false, true, true, false, false, false, true, true, false, false, true] (by kernel_rfl) rfl (by kernel_rfl) (by kernel_rfl) ⟨?_, ?_, ?_, ?_, ?_, ?_, ?_, ?_, ?_, ?_, ?_, ?_, ?_, ?_, trivial⟩ ?fin
          · as_aux_lemma =>
              intro a w hb hoth hdep
              refine step_on (want_none rfl) ?_
              have e12 : a.tmps[12]? = some (.pointer (some ⟨b12, 0, none⟩)) := ev_other hoth 12 (by kernel_rfl) rfl
              obtain ⟨c0, c1, c2, c3, c4, c5, c6, c7, c8, c9, c10, c11⟩ := msgCells (H9.out.2.2.1.below hb H9.out.2.2.1.lt)
              refine step_val (x := aggMsg q) ?_ rfl
              simp [go_sem, e12, c0, c1, c2, c3, c4, c5, c6, c7, c8, c9, c10, c11, aggMsg]
          · as_aux_lemma =>
              intro a w hb hoth hdep
              refine step_on (want_none rfl) ?_
              have e10 : a.tmps[10]? = some (.pointer (some ⟨b10, 0, none⟩)) := ev_other hoth 10 (by kernel_rfl) rfl
              obtain ⟨c0, c1, c2, c3, c4, c5, c6, c7, c8, c9, c10, c11⟩ := msgCells (H9.out.2.1.below hb H9.out.2.1.lt)
              refine step_val (x := aggMsg q) ?_ rfl
              simp [go_sem, e10, c0, c1, c2, c3, c4, c5, c6, c7, c8, c9, c10, c11, aggMsg]
          · as_aux_lemma =>
              intro a w hb hoth hdep
              refine step_on (want_none rfl) ?_
              obtain ⟨v0, e134, hv0⟩ := ev_dep hdep 0 134 (by kernel_rfl) (by kernel_rfl)
              replace hv0 : v0 = aggMsg q := hv0
              subst hv0
              obtain ⟨v1, e135, hv1⟩ := ev_dep hdep 1 135 (by kernel_rfl) (by kernel_rfl)
              replace hv1 : v1 = aggMsg q := hv1
              subst hv1
              refine step_val (x := .bool false) ?_ rfl
              simp [go_sem, e134, e135, hne, hgu]
          · as_aux_lemma =>
              intro a w hb hoth hdep
              refine step_on ((want_dep hdep 3 137 false rfl (by kernel_rfl) (by kernel_rfl) (fun v h => h)).trans rfl) ?_
              have e13 : a.tmps[13]? = some (.int .i64 er) := ev_other hoth 13 (by kernel_rfl) rfl
              exact step_val ((BigFrame.run_move _ rfl w).trans (by rw [ev_of e13])) rfl
          · as_aux_lemma =>
              intro a w hb hoth hdep
              refine step_on ((want_dep hdep 3 137 false rfl (by kernel_rfl) (by kernel_rfl) (fun v h => h)).trans rfl) ?_
              have e11 : a.tmps[11]? = some (.int .i64 er) := ev_other hoth 11 (by kernel_rfl) rfl
              exact step_val ((BigFrame.run_move _ rfl w).trans (by rw [ev_of e11])) rfl
          · as_aux_lemma =>
              intro a w hb hoth hdep
              refine step_on ((want_dep hdep 3 137 false rfl (by kernel_rfl) (by kernel_rfl) (fun v h => h)).trans rfl) ?_
              obtain ⟨v4, e138, hv4⟩ := ev_dep hdep 4 138 (by kernel_rfl) (by kernel_rfl)
              replace hv4 : v4 = .int .i64 er := hv4
              subst hv4
              obtain ⟨v5, e139, hv5⟩ := ev_dep hdep 5 139 (by kernel_rfl) (by kernel_rfl)
              replace hv5 : v5 = .int .i64 er := hv5
              subst hv5
              refine step_val (x := .bool false) ?_ rfl
              simp [go_sem, e138, e139]
          · as_aux_lemma =>
              intro a w hb hoth hdep
              refine step_on ((want_dep hdep 8 142 false rfl (by kernel_rfl) (by kernel_rfl) (fun v h => h)).trans rfl) ?_
              have e14 : a.tmps[14]? = some (.pointer (some ⟨b14, 0, none⟩)) := ev_other hoth 14 (by kernel_rfl) rfl
              obtain ⟨c0, c1, c2, c3, c4, c5, c6, c7, c8, c9, c10, c11⟩ := msgCells (H9.out.2.2.2.below hb H9.out.2.2.2.lt)
              refine step_val (x := aggMsg q) ?_ rfl
              simp [go_sem, e14, c0, c1, c2, c3, c4, c5, c6, c7, c8, c9, c10, c11, aggMsg]
          · as_aux_lemma =>
              intro a w hb hoth hdep
              refine step_on ((want_dep hdep 8 142 false rfl (by kernel_rfl) (by kernel_rfl) (fun v h => h)).trans rfl) ?_
              have e10 : a.tmps[10]? = some (.pointer (some ⟨b10, 0, none⟩)) := ev_other hoth 10 (by kernel_rfl) rfl
              obtain ⟨c0, c1, c2, c3, c4, c5, c6, c7, c8, c9, c10, c11⟩ := msgCells (H9.out.2.1.below hb H9.out.2.1.lt)
              refine step_val (x := aggMsg q) ?_ rfl
              simp [go_sem, e10, c0, c1, c2, c3, c4, c5, c6, c7, c8, c9, c10, c11, aggMsg]
          · as_aux_lemma =>
              intro a w hb hoth hdep
              refine step_on ((want_dep hdep 8 142 false rfl (by kernel_rfl) (by kernel_rfl) (fun v h => h)).trans rfl) ?_
              obtain ⟨v9, e143, hv9⟩ := ev_dep hdep 9 143 (by kernel_rfl) (by kernel_rfl)
              replace hv9 : v9 = aggMsg q := hv9
              subst hv9
              obtain ⟨v10, e144, hv10⟩ := ev_dep hdep 10 144 (by kernel_rfl) (by kernel_rfl)
              replace hv10 : v10 = aggMsg q := hv10
              subst hv10
              refine step_val (x := .bool false) ?_ rfl
              simp [go_sem, e143, e144, hne, hgu]
          · as_aux_lemma =>
              intro a w hb hoth hdep
              refine step_on ((want_dep hdep 13 147 false rfl (by kernel_rfl) (by kernel_rfl) (fun v h => h)).trans rfl) ?_
              have e15 : a.tmps[15]? = some (.int .i64 er) := ev_other hoth 15 (by kernel_rfl) rfl
              exact step_val ((BigFrame.run_move _ rfl w).trans (by rw [ev_of e15])) rfl
          · as_aux_lemma =>
              intro a w hb hoth hdep
              refine step_on ((want_dep hdep 13 147 false rfl (by kernel_rfl) (by kernel_rfl) (fun v h => h)).trans rfl) ?_
              have e11 : a.tmps[11]? = some (.int .i64 er) := ev_other hoth 11 (by kernel_rfl) rfl
              exact step_val ((BigFrame.run_move _ rfl w).trans (by rw [ev_of e11])) rfl
          · as_aux_lemma =>
              intro a w hb hoth hdep
              refine step_on ((want_dep hdep 13 147 false rfl (by kernel_rfl) (by kernel_rfl) (fun v h => h)).trans rfl) ?_
              obtain ⟨v14, e148, hv14⟩ := ev_dep hdep 14 148 (by kernel_rfl) (by kernel_rfl)
              replace hv14 : v14 = .int .i64 er := hv14
              subst hv14
              obtain ⟨v15, e149, hv15⟩ := ev_dep hdep 15 149 (by kernel_rfl) (by kernel_rfl)
              replace hv15 : v15 = .int .i64 er := hv15
              subst hv15
              refine step_val (x := .bool false) ?_ rfl
              simp [go_sem, e148, e149]
          · as_aux_lemma =>
              intro a w hb hoth hdep
              refine step_on ((want_dep hdep 18 152 false rfl (by kernel_rfl) (by kernel_rfl) (fun v h => h)).trans rfl) ?_
              have e17 : a.tmps[17]? = some (.int .i64 7) := ev_other hoth 17 (by kernel_rfl) rfl
              exact step_val ((BigFrame.run_move _ rfl w).trans (by rw [ev_of e17])) rfl
          · as_aux_lemma =>
              intro a w hb hoth hdep
              refine step_on ((want_dep hdep 18 152 false rfl (by kernel_rfl) (by kernel_rfl) (fun v h => h)).trans rfl) ?_
              obtain ⟨v19, e153, hv19⟩ := ev_dep hdep 19 153 (by kernel_rfl) (by kernel_rfl)
              replace hv19 : v19 = .int .i64 7 := hv19
              subst hv19
              refine step_val (x := .bool false) ?_ rfl
              simp [go_sem, e153]
          case fin =>
            intro wz hbz
            iterate 22 (rintro _ rfl)
            refine FinC.nil ?_
            have HF := Lib.hid (H9.out.1.below hbz)
            clear hbz hne hgu
            go_wp2_with fail
            go_meet
            exact ⟨s1, _, _, x2, HF.out, HM.out.2.2.2⟩
        · have t1 : (a.kind == 1) = false := by simp [hk1]
          clear hk1
          by_cases hk2 : a.kind = 2
          · have t2 : (a.kind == 2) = true := by simp [hk2]
            clear hk2
            obtain ⟨q, hq⟩ : ∃ q, askA ⟨7, 200, a.msg.to_, 0, 0, a.msg.job, 0, 0, 0, ⟨0, 0, 0⟩⟩ = q := ⟨_, rfl⟩
            obtain ⟨er, her⟩ : ∃ er, askC ⟨7, 200, a.msg.to_, 0, 0, a.msg.job, 0, 0, 0, ⟨0, 0, 0⟩⟩ = er := ⟨_, rfl⟩
            obtain ⟨s1, hs1⟩ : ∃ s1, s.ask ⟨7, 200, a.msg.to_, 0, 0, a.msg.job, 0, 0, 0, ⟨0, 0, 0⟩⟩ = s1 := ⟨_, rfl⟩
            have hok1 : s1.Ok (k + 1) := by rw [← hs1]; exact HQ.out.2.ask HW.out
            have HM := Lib.hid (And.intro hq (And.intro her (And.intro hs1 hok1)))
            clear hq her hs1 hok1
            have c2 : wA.cell? ⟨bm, 2, none⟩ = some (.int .i64 a.msg.to_) := (HBA.out.cell 2).trans rfl
            have c5 : wA.cell? ⟨bm, 5, none⟩ = some (.int .i64 a.msg.job) := (HBA.out.cell 5).trans rfl
            have cl := HBA.out.lt
            have x0 : wA.cell? ⟨bx, 0, none⟩ = some (.slice x.a x.an x.ac) := (HQ.out.1.blk.cell 0).trans rfl
            have x1 : wA.cell? ⟨bx, 1, none⟩ = some (.slice x.o x.on x.oc) := (HQ.out.1.blk.cell 1).trans rfl
            have x2 : wA.cell? ⟨bx, 2, none⟩ = some (.slice x.r x.rn x.rc) := (HQ.out.1.blk.cell 2).trans rfl
            have xf := HQ.out.1.blk.frozen
            have xl := HQ.out.1.blk.lt
            have hcx := rAskM HQ.out.1.rd HQ.out.2 (by omega) ⟨7, 200, a.msg.to_, 0, 0, a.msg.job, 0, 0, 0, ⟨0, 0, 0⟩⟩ q HM.out.1 er HM.out.2.1 s1 HM.out.2.2.1
            go_wp2_with fail
            (with_reducible refine hcx.mono ?_)
            clear hcx
            clear x0 x1 x2 xf xl
            clear c2 c5 cl
            rintro e w2 ⟨x2, rfl, hr2, hp2, hb2⟩
            have hm2 := HBA.out.below hb2 HBA.out.lt
            have hx2 := HQ.out.1.blk.below hb2 HQ.out.1.blk.lt
            have hne : bm ≠ bx := Blk.ne_ hm2 hx2 (by decide)
            have hqx := HQ.out.1.setX hb2 hr2 hp2
            have hB3 := ((Below.refl (((w2.setCell ⟨bx, 0, none⟩ (.slice x2.a x2.an x2.ac)).setCell ⟨bx, 1, none⟩ (.slice x2.o x2.on x2.oc)).setCell ⟨bx, 2, none⟩ (.slice x2.r x2.rn x2.rc)).heap.size (((w2.setCell ⟨bx, 0, none⟩ (.slice x2.a x2.an x2.ac)).setCell ⟨bx, 1, none⟩ (.slice x2.o x2.on x2.oc)).setCell ⟨bx, 2, none⟩ (.slice x2.r x2.rn x2.rc))).alloc (Nat.le_refl _) (.cells #[.slice x2.a x2.an x2.ac, .slice x2.o x2.on x2.oc, .slice x2.r x2.rn x2.rc] 34)).alloc (by simp) (.cells (boxMsg q) 38)
            have hsz : ((((w2.setCell ⟨bx, 0, none⟩ (.slice x2.a x2.an x2.ac)).setCell ⟨bx, 1, none⟩ (.slice x2.o x2.on x2.oc)).setCell ⟨bx, 2, none⟩ (.slice x2.r x2.rn x2.rc)).alloc (.cells #[.slice x2.a x2.an x2.ac, .slice x2.o x2.on x2.oc, .slice x2.r x2.rn x2.rc] 34)).heap.size = w2.heap.size + 1 := by simp [World.setCell]
            have hb10 := Blk.new ((((w2.setCell ⟨bx, 0, none⟩ (.slice x2.a x2.an x2.ac)).setCell ⟨bx, 1, none⟩ (.slice x2.o x2.on x2.oc)).setCell ⟨bx, 2, none⟩ (.slice x2.r x2.rn x2.rc)).alloc (.cells #[.slice x2.a x2.an x2.ac, .slice x2.o x2.on x2.oc, .slice x2.r x2.rn x2.rc] 34)) 38 (boxMsg q)
            rw [hsz] at hb10
            have H3 := Lib.hid (And.intro (hqx.below hB3) (And.intro ((((hm2.far (p := ⟨bx, 0, none⟩) hne _).far (p := ⟨bx, 1, none⟩) hne _).far (p := ⟨bx, 2, none⟩) hne _).below hB3 (((hm2.far (p := ⟨bx, 0, none⟩) hne _).far (p := ⟨bx, 1, none⟩) hne _).far (p := ⟨bx, 2, none⟩) hne _).lt) hb10))
            have xf := hx2.frozen
            have xl := hx2.lt
            have x0 : w2.cell? ⟨bx, 0, none⟩ = some (.slice x.a x.an x.ac) := (hx2.cell 0).trans rfl
            have x1 : w2.cell? ⟨bx, 1, none⟩ = some (.slice x.o x.on x.oc) := (hx2.cell 1).trans rfl
            have x2 : w2.cell? ⟨bx, 2, none⟩ = some (.slice x.r x.rn x.rc) := (hx2.cell 2).trans rfl
            clear hr2 hp2 hb2 hm2 hx2 hqx hB3 hsz hb10
            go_upto_region 26 with fail
            clear hne x0 x1 x2 xf xl
            generalize ((((w2.setCell ⟨bx, 0, none⟩ (.slice x2.a x2.an x2.ac)).setCell ⟨bx, 1, none⟩ (.slice x2.o x2.on x2.oc)).setCell ⟨bx, 2, none⟩ (.slice x2.r x2.rn x2.rc)).alloc (.cells #[.slice x2.a x2.an x2.ac, .slice x2.o x2.on x2.oc, .slice x2.r x2.rn x2.rc] 34)).alloc (.cells (boxMsg q) 38) = w3 at H3 ⊢
            obtain ⟨b10, hb10⟩ : ∃ b10, w2.heap.size + 1 = b10 := ⟨_, rfl⟩
            rw [hb10] at H3
            try rw [hb10]
            clear hb10
            have c2 : w3.cell? ⟨bm, 2, none⟩ = some (.int .i64 a.msg.to_) := (H3.out.2.1.cell 2).trans rfl
            have c5 : w3.cell? ⟨bm, 5, none⟩ = some (.int .i64 a.msg.job) := (H3.out.2.1.cell 5).trans rfl
            have cl := H3.out.2.1.lt
            have hcx := oCancelM H3.out.1.c_ (Hh.out.2.2.below H3.out.1.bel) a.msg.to_ a.msg.job HW.out HQ.out.2 (by omega) q HM.out.1 er HM.out.2.1 s1 HM.out.2.2.1
            go_wp2_with fail
            (with_reducible refine hcx.mono ?_)
            clear hcx
            clear c2 c5 cl
            rintro e w4 ⟨rfl, v4, hc4, ht4⟩
            have hB4 := (Below.refl w4.heap.size w4).alloc (Nat.le_refl _) (.cells (boxMsg q) 38)
            have H5 := Lib.hid (And.intro ((H3.out.1.turnC hc4 ht4).below hB4) (And.intro ((H3.out.1.keepC ht4 H3.out.2.1 (by decide) (by decide) (by decide)).below hB4 (H3.out.1.keepC ht4 H3.out.2.1 (by decide) (by decide) (by decide)).lt) (And.intro ((H3.out.1.keepC ht4 H3.out.2.2 (by decide) (by decide) (by decide)).below hB4 (H3.out.1.keepC ht4 H3.out.2.2 (by decide) (by decide) (by decide)).lt) (Blk.new w4 38 (boxMsg q)))))
            clear hc4 ht4 hB4
            go_upto_region 27 with fail
            generalize w4.alloc (.cells (boxMsg q) 38) = w5 at H5 ⊢
            obtain ⟨b12, hb12⟩ : ∃ b12, w4.heap.size = b12 := ⟨_, rfl⟩
            rw [hb12] at H5
            try rw [hb12]
            clear hb12
            have c2 : w5.cell? ⟨bm, 2, none⟩ = some (.int .i64 a.msg.to_) := (H5.out.2.1.cell 2).trans rfl
            have c5 : w5.cell? ⟨bm, 5, none⟩ = some (.int .i64 a.msg.job) := (H5.out.2.1.cell 5).trans rfl
            have cl := H5.out.2.1.lt
            have hcx := oCancelM H5.out.1.z_ (Hh.out.2.2.below H5.out.1.bel) a.msg.to_ a.msg.job HW.out HQ.out.2 (by omega) q HM.out.1 er HM.out.2.1 s1 HM.out.2.2.1
            go_wp2_with fail
            (with_reducible refine hcx.mono ?_)
            clear hcx
            clear c2 c5 cl
            rintro e w6 ⟨rfl, v6, hc6, ht6⟩
            have hB6 := (Below.refl w6.heap.size w6).alloc (Nat.le_refl _) (.cells (boxMsg q) 38)
            have H7 := Lib.hid (And.intro ((H5.out.1.turnZ hc6 ht6).below hB6) (And.intro ((H5.out.1.keepZ ht6 H5.out.2.1 (by decide) (by decide) (by decide)).below hB6 (H5.out.1.keepZ ht6 H5.out.2.1 (by decide) (by decide) (by decide)).lt) (And.intro ((H5.out.1.keepZ ht6 H5.out.2.2.1 (by decide) (by decide) (by decide)).below hB6 (H5.out.1.keepZ ht6 H5.out.2.2.1 (by decide) (by decide) (by decide)).lt) (And.intro ((H5.out.1.keepZ ht6 H5.out.2.2.2 (by decide) (by decide) (by decide)).below hB6 (H5.out.1.keepZ ht6 H5.out.2.2.2 (by decide) (by decide) (by decide)).lt) (Blk.new w6 38 (boxMsg q))))))
            clear hc6 ht6 hB6
            go_upto_region 28 with fail
            generalize w6.alloc (.cells (boxMsg q) 38) = w7 at H7 ⊢
            obtain ⟨b14, hb14⟩ : ∃ b14, w6.heap.size = b14 := ⟨_, rfl⟩
            rw [hb14] at H7
            try rw [hb14]
            clear hb14
            have c2 : w7.cell? ⟨bm, 2, none⟩ = some (.int .i64 a.msg.to_) := (H7.out.2.1.cell 2).trans rfl
            have c5 : w7.cell? ⟨bm, 5, none⟩ = some (.int .i64 a.msg.job) := (H7.out.2.1.cell 5).trans rfl
            have cl := H7.out.2.1.lt
            have hcx := nCancel a.msg.to_ a.msg.job w7
            go_wp2_with fail
            (with_reducible refine hcx.mono ?_)
            clear hcx
            clear c2 c5 cl
            rintro e w8 ⟨rfl, hb8⟩
            have hB9 := hb8.trans (((Below.refl w8.heap.size w8).alloc (Nat.le_refl _) (.cells (boxMsg zeroLMsg) 38)).mono hb8.size)
            have H9 := Lib.hid (And.intro (H7.out.1.below hB9) (And.intro (H7.out.2.2.1.below hB9 H7.out.2.2.1.lt) (And.intro (H7.out.2.2.2.1.below hB9 H7.out.2.2.2.1.lt) (H7.out.2.2.2.2.below hB9 H7.out.2.2.2.2.lt))))
            clear hB9 hb8
            go_upto_region 29 with fail
            generalize w8.alloc (.cells (boxMsg zeroLMsg) 38) = w9 at H9 ⊢
            have hne := fun (W : World) => neqMsg q q W
            simp only [decide_true, Bool.not_true] at hne
            have hgu := fun (op : BinOp) (x y : Operand) (a b : LMsg) (W : World) => guardMsg op x y a b W
            refine wp_region_autoL 197 [.o (eqV (aggMsg q)), .o (eqV (aggMsg q)), .b false, .b false, .o (eqV (.int .i64 er)), .o (eqV (.int .i64 er)), .b false, .b false, .b false, .o (eqV (aggMsg q)), .o (eqV (aggMsg q)), .b false, .b false, .b false, .o (eqV (.int .i64 er)), .o (eqV (.int .i64 er)), .b false, .b false, .b false, .o (eqV (.int .i64 7)), .b false, .b false] [false, false, false, true, false, false, false, true, true, false, false, false, true, true, false, false, false, true, true, false, false, true] (by kernel_rfl) rfl (by kernel_rfl) (by kernel_rfl) ⟨?_, ?_, ?_, ?_, ?_, ?_, ?_, ?_, ?_, ?_, ?_, ?_, ?_, ?_, trivial⟩ ?fin
            · as_aux_lemma =>
                intro a w hb hoth hdep
                refine step_on (want_none rfl) ?_
                have e21 : a.tmps[21]? = some (.pointer (some ⟨b12, 0, none⟩)) := ev_other hoth 21 (by kernel_rfl) rfl
                obtain ⟨c0, c1, c2, c3, c4, c5, c6, c7, c8, c9, c10, c11⟩ := msgCells (H9.out.2.2.1.below hb H9.out.2.2.1.lt)
                refine step_val (x := aggMsg q) ?_ rfl
                simp [go_sem, e21, c0, c1, c2, c3, c4, c5, c6, c7, c8, c9, c10, c11, aggMsg]
            · as_aux_lemma =>
                intro a w hb hoth hdep
                refine step_on (want_none rfl) ?_
                have e19 : a.tmps[19]? = some (.pointer (some ⟨b10, 0, none⟩)) := ev_other hoth 19 (by kernel_rfl) rfl
                obtain ⟨c0, c1, c2, c3, c4, c5, c6, c7, c8, c9, c10, c11⟩ := msgCells (H9.out.2.1.below hb H9.out.2.1.lt)
                refine step_val (x := aggMsg q) ?_ rfl
                simp [go_sem, e19, c0, c1, c2, c3, c4, c5, c6, c7, c8, c9, c10, c11, aggMsg]
            · as_aux_lemma =>
                intro a w hb hoth hdep
                refine step_on (want_none rfl) ?_
                obtain ⟨v0, e197, hv0⟩ := ev_dep hdep 0 197 (by kernel_rfl) (by kernel_rfl)
                replace hv0 : v0 = aggMsg q := hv0
                subst hv0
                obtain ⟨v1, e198, hv1⟩ := ev_dep hdep 1 198 (by kernel_rfl) (by kernel_rfl)
                replace hv1 : v1 = aggMsg q := hv1
                subst hv1
                refine step_val (x := .bool false) ?_ rfl
                simp [go_sem, e197, e198, hne, hgu]
            · as_aux_lemma =>
                intro a w hb hoth hdep
                refine step_on ((want_dep hdep 3 200 false rfl (by kernel_rfl) (by kernel_rfl) (fun v h => h)).trans rfl) ?_
                have e22 : a.tmps[22]? = some (.int .i64 er) := ev_other hoth 22 (by kernel_rfl) rfl
                exact step_val ((BigFrame.run_move _ rfl w).trans (by rw [ev_of e22])) rfl
            · as_aux_lemma =>
                intro a w hb hoth hdep
                refine step_on ((want_dep hdep 3 200 false rfl (by kernel_rfl) (by kernel_rfl) (fun v h => h)).trans rfl) ?_
                have e20 : a.tmps[20]? = some (.int .i64 er) := ev_other hoth 20 (by kernel_rfl) rfl
                exact step_val ((BigFrame.run_move _ rfl w).trans (by rw [ev_of e20])) rfl
            · as_aux_lemma =>
                intro a w hb hoth hdep
                refine step_on ((want_dep hdep 3 200 false rfl (by kernel_rfl) (by kernel_rfl) (fun v h => h)).trans rfl) ?_
                obtain ⟨v4, e201, hv4⟩ := ev_dep hdep 4 201 (by kernel_rfl) (by kernel_rfl)
                replace hv4 : v4 = .int .i64 er := hv4
                subst hv4
                obtain ⟨v5, e202, hv5⟩ := ev_dep hdep 5 202 (by kernel_rfl) (by kernel_rfl)
                replace hv5 : v5 = .int .i64 er := hv5
                subst hv5
                refine step_val (x := .bool false) ?_ rfl
                simp [go_sem, e201, e202]
            · as_aux_lemma =>
                intro a w hb hoth hdep
                refine step_on ((want_dep hdep 8 205 false rfl (by kernel_rfl) (by kernel_rfl) (fun v h => h)).trans rfl) ?_
                have e23 : a.tmps[23]? = some (.pointer (some ⟨b14, 0, none⟩)) := ev_other hoth 23 (by kernel_rfl) rfl
                obtain ⟨c0, c1, c2, c3, c4, c5, c6, c7, c8, c9, c10, c11⟩ := msgCells (H9.out.2.2.2.below hb H9.out.2.2.2.lt)
                refine step_val (x := aggMsg q) ?_ rfl
                simp [go_sem, e23, c0, c1, c2, c3, c4, c5, c6, c7, c8, c9, c10, c11, aggMsg]
            · as_aux_lemma =>
                intro a w hb hoth hdep
                refine step_on ((want_dep hdep 8 205 false rfl (by kernel_rfl) (by kernel_rfl) (fun v h => h)).trans rfl) ?_
                have e19 : a.tmps[19]? = some (.pointer (some ⟨b10, 0, none⟩)) := ev_other hoth 19 (by kernel_rfl) rfl
                obtain ⟨c0, c1, c2, c3, c4, c5, c6, c7, c8, c9, c10, c11⟩ := msgCells (H9.out.2.1.below hb H9.out.2.1.lt)
                refine step_val (x := aggMsg q) ?_ rfl
                simp [go_sem, e19, c0, c1, c2, c3, c4, c5, c6, c7, c8, c9, c10, c11, aggMsg]
            · as_aux_lemma =>
                intro a w hb hoth hdep
                refine step_on ((want_dep hdep 8 205 false rfl (by kernel_rfl) (by kernel_rfl) (fun v h => h)).trans rfl) ?_
                obtain ⟨v9, e206, hv9⟩ := ev_dep hdep 9 206 (by kernel_rfl) (by kernel_rfl)
                replace hv9 : v9 = aggMsg q := hv9
                subst hv9
                obtain ⟨v10, e207, hv10⟩ := ev_dep hdep 10 207 (by kernel_rfl) (by kernel_rfl)
                replace hv10 : v10 = aggMsg q := hv10
                subst hv10
                refine step_val (x := .bool false) ?_ rfl
                simp [go_sem, e206, e207, hne, hgu]
            · as_aux_lemma =>
                intro a w hb hoth hdep
                refine step_on ((want_dep hdep 13 210 false rfl (by kernel_rfl) (by kernel_rfl) (fun v h => h)).trans rfl) ?_
                have e24 : a.tmps[24]? = some (.int .i64 er) := ev_other hoth 24 (by kernel_rfl) rfl
                exact step_val ((BigFrame.run_move _ rfl w).trans (by rw [ev_of e24])) rfl
            · as_aux_lemma =>
                intro a w hb hoth hdep
                refine step_on ((want_dep hdep 13 210 false rfl (by kernel_rfl) (by kernel_rfl) (fun v h => h)).trans rfl) ?_
                have e20 : a.tmps[20]? = some (.int .i64 er) := ev_other hoth 20 (by kernel_rfl) rfl
                exact step_val ((BigFrame.run_move _ rfl w).trans (by rw [ev_of e20])) rfl
            · as_aux_lemma =>
                intro a w hb hoth hdep
                refine step_on ((want_dep hdep 13 210 false rfl (by kernel_rfl) (by kernel_rfl) (fun v h => h)).trans rfl) ?_
                obtain ⟨v14, e211, hv14⟩ := ev_dep hdep 14 211 (by kernel_rfl) (by kernel_rfl)
                replace hv14 : v14 = .int .i64 er := hv14
                subst hv14
                obtain ⟨v15, e212, hv15⟩ := ev_dep hdep 15 212 (by kernel_rfl) (by kernel_rfl)
                replace hv15 : v15 = .int .i64 er := hv15
                subst hv15
                refine step_val (x := .bool false) ?_ rfl
                simp [go_sem, e211, e212]
            · as_aux_lemma =>
                intro a w hb hoth hdep
                refine step_on ((want_dep hdep 18 215 false rfl (by kernel_rfl) (by kernel_rfl) (fun v h => h)).trans rfl) ?_
                have e26 : a.tmps[26]? = some (.int .i64 7) := ev_other hoth 26 (by kernel_rfl) rfl
                exact step_val ((BigFrame.run_move _ rfl w).trans (by rw [ev_of e26])) rfl
            · as_aux_lemma =>
                intro a w hb hoth hdep
                refine step_on ((want_dep hdep 18 215 false rfl (by kernel_rfl) (by kernel_rfl) (fun v h => h)).trans rfl) ?_
                obtain ⟨v19, e216, hv19⟩ := ev_dep hdep 19 216 (by kernel_rfl) (by kernel_rfl)
                replace hv19 : v19 = .int .i64 7 := hv19
                subst hv19
                refine step_val (x := .bool false) ?_ rfl
                simp [go_sem, e216]
            case fin =>
              intro wz hbz
              iterate 22 (rintro _ rfl)
              refine FinC.nil ?_
              have HF := Lib.hid (H9.out.1.below hbz)
              clear hbz hne hgu
              go_wp2_with fail
              go_meet
              exact ⟨s1, _, _, x2, HF.out, HM.out.2.2.2⟩
          · have t2 : (a.kind == 2) = false := by simp [hk2]
            clear hk2
            as_aux_lemma =>
              obtain ⟨hv, hhv⟩ : ∃ hv, s.hears a.msg = hv := ⟨_, rfl⟩
              obtain ⟨s1, hs1⟩ : ∃ s1, s.hear a.msg = s1 := ⟨_, rfl⟩
              have hok1 : s1.Ok (k + 1) := by rw [← hs1]; exact HQ.out.2.hear HW.out
              have HM := Lib.hid (And.intro hhv (And.intro hs1 hok1))
              clear hhv hs1 hok1
              obtain ⟨c0, c1, c2, c3, c4, c5, c6, c7, c8, c9, c10, c11⟩ := msgCells HBA.out
              have cl := HBA.out.lt
              have x0 : wA.cell? ⟨bx, 0, none⟩ = some (.slice x.a x.an x.ac) := (HQ.out.1.blk.cell 0).trans rfl
              have x1 : wA.cell? ⟨bx, 1, none⟩ = some (.slice x.o x.on x.oc) := (HQ.out.1.blk.cell 1).trans rfl
              have x2 : wA.cell? ⟨bx, 2, none⟩ = some (.slice x.r x.rn x.rc) := (HQ.out.1.blk.cell 2).trans rfl
              have xf := HQ.out.1.blk.frozen
              have xl := HQ.out.1.blk.lt
              have hcx := rHearM HQ.out.1.rd HQ.out.2 (by omega) a.msg hv HM.out.1 s1 HM.out.2.1
              go_wp2_with fail
              (with_reducible refine hcx.mono ?_)
              clear hcx
              clear x0 x1 x2 xf xl
              clear c0 c1 c2 c3 c4 c5 c6 c7 c8 c9 c10 c11 cl
              rintro e w2 ⟨x2, rfl, hr2, hp2, hb2⟩
              have hm2 := HBA.out.below hb2 HBA.out.lt
              have hx2 := HQ.out.1.blk.below hb2 HQ.out.1.blk.lt
              have hne : bm ≠ bx := Blk.ne_ hm2 hx2 (by decide)
              have hqx := HQ.out.1.setX hb2 hr2 hp2
              have hB3 := (Below.refl (((w2.setCell ⟨bx, 0, none⟩ (.slice x2.a x2.an x2.ac)).setCell ⟨bx, 1, none⟩ (.slice x2.o x2.on x2.oc)).setCell ⟨bx, 2, none⟩ (.slice x2.r x2.rn x2.rc)).heap.size (((w2.setCell ⟨bx, 0, none⟩ (.slice x2.a x2.an x2.ac)).setCell ⟨bx, 1, none⟩ (.slice x2.o x2.on x2.oc)).setCell ⟨bx, 2, none⟩ (.slice x2.r x2.rn x2.rc))).alloc (Nat.le_refl _) (.cells #[.slice x2.a x2.an x2.ac, .slice x2.o x2.on x2.oc, .slice x2.r x2.rn x2.rc] 34)
              have H3 := Lib.hid (And.intro (hqx.below hB3) ((((hm2.far (p := ⟨bx, 0, none⟩) hne _).far (p := ⟨bx, 1, none⟩) hne _).far (p := ⟨bx, 2, none⟩) hne _).below hB3 (((hm2.far (p := ⟨bx, 0, none⟩) hne _).far (p := ⟨bx, 1, none⟩) hne _).far (p := ⟨bx, 2, none⟩) hne _).lt))
              have xf := hx2.frozen
              have xl := hx2.lt
              have x0 : w2.cell? ⟨bx, 0, none⟩ = some (.slice x.a x.an x.ac) := (hx2.cell 0).trans rfl
              have x1 : w2.cell? ⟨bx, 1, none⟩ = some (.slice x.o x.on x.oc) := (hx2.cell 1).trans rfl
              have x2 : w2.cell? ⟨bx, 2, none⟩ = some (.slice x.r x.rn x.rc) := (hx2.cell 2).trans rfl
              clear hr2 hp2 hb2 hm2 hx2 hqx hB3
              go_upto_region 13 with fail
              clear hne x0 x1 x2 xf xl
              generalize (((w2.setCell ⟨bx, 0, none⟩ (.slice x2.a x2.an x2.ac)).setCell ⟨bx, 1, none⟩ (.slice x2.o x2.on x2.oc)).setCell ⟨bx, 2, none⟩ (.slice x2.r x2.rn x2.rc)).alloc (.cells #[.slice x2.a x2.an x2.ac, .slice x2.o x2.on x2.oc, .slice x2.r x2.rn x2.rc] 34) = w3 at H3 ⊢
              have hbb : (hv != hv) = false := by cases hv <;> rfl
              obtain ⟨c0, c1, c2, c3, c4, c5, c6, c7, c8, c9, c10, c11⟩ := msgCells H3.out.2
              have cl := H3.out.2.lt
              have hcx := oHearM H3.out.1.c_ (Hh.out.2.2.below H3.out.1.bel) a.msg HW.out HQ.out.2 (by omega) hv HM.out.1 s1 HM.out.2.1
              go_wp2_with fail
              (with_reducible refine hcx.mono ?_)
              clear hcx
              clear c0 c1 c2 c3 c4 c5 c6 c7 c8 c9 c10 c11 cl
              rintro e w4 ⟨rfl, v4, hc4, ht4⟩
              have H4 := Lib.hid (And.intro (H3.out.1.turnC hc4 ht4) (H3.out.1.keepC ht4 H3.out.2 (by decide) (by decide) (by decide)))
              clear hc4 ht4
              obtain ⟨c0, c1, c2, c3, c4, c5, c6, c7, c8, c9, c10, c11⟩ := msgCells H4.out.2
              have cl := H4.out.2.lt
              have hcx := oHearM H4.out.1.z_ (Hh.out.2.2.below H4.out.1.bel) a.msg HW.out HQ.out.2 (by omega) hv HM.out.1 s1 HM.out.2.1
              go_wp2_with fail
              (with_reducible refine hcx.mono ?_)
              clear hcx
              clear c0 c1 c2 c3 c4 c5 c6 c7 c8 c9 c10 c11 cl
              rintro e w5 ⟨rfl, v5, hc5, ht5⟩
              have H5 := Lib.hid (And.intro (H4.out.1.turnZ hc5 ht5) (H4.out.1.keepZ ht5 H4.out.2 (by decide) (by decide) (by decide)))
              clear hc5 ht5
              obtain ⟨c0, c1, c2, c3, c4, c5, c6, c7, c8, c9, c10, c11⟩ := msgCells H5.out.2
              have cl := H5.out.2.lt
              have hcx := hear_nil a.msg w5
              go_wp2_with fail
              (with_reducible refine hcx.mono ?_)
              clear hcx
              clear c0 c1 c2 c3 c4 c5 c6 c7 c8 c9 c10 c11 cl
              rintro e w6 ⟨rfl, hb6⟩
              have HF := Lib.hid (H5.out.1.below hb6)
              clear hb6
              go_wp2_with fail
              go_meet
              exact ⟨s1, _, _, x2, HF.out, HM.out.2.2⟩
      case rest =>
        obtain ⟨s, v, vz, x, hq, hok⟩ := hcut
        clear HQ HBA HW
        have HQ := Lib.hid (And.intro hq hok)
        clear hq hok
        go_upto_region 31 with fail
        refine wp_region_autoD 219 [.o (eqV (.pointer (some ⟨c, 0, none⟩))), .o (rdV encReply 2 s.reps 1000), .o (eqV (.pointer (some ⟨bx, 2, none⟩))), .o (eqV (.slice x.r x.rn x.rc)), .b true, .b false, .b false, .o (eqV (.pointer (some ⟨c, 0, none⟩))), .o (rdV encI 1 (knownM s.reps) 1000), .o (eqV (.agg x.box)), .o (rdV encI 1 (knownM s.reps) 1000), .b true, .b false, .b false, .b false, .o (eqV (.pointer (some ⟨c, 0, none⟩))), .o (rdV encI 1 (s.opens) 1000), .o (eqV (.pointer (some ⟨bx, 1, none⟩))), .o (eqV (.slice x.o x.on x.oc)), .b true, .b false, .b false, .b false, .o (eqV (.pointer (some ⟨z, 0, none⟩))), .o (rdV encI 1 (s.opens) 1000), .o (eqV (.pointer (some ⟨bx, 1, none⟩))), .o (eqV (.slice x.o x.on x.oc)), .b true, .b false, .b false] [false, false, false, false, false, true, true, false, false, false, false, false, true, true, true, false, false, false, false, false, true, true, true, false, false, false, false, false, true, true] (by kernel_rfl) (by kernel_rfl) rfl (by kernel_rfl) (by kernel_rfl) ⟨?_, ?_, ?_, ?_, ?_, ?_, ?_, ?_, ?_, ?_, ?_, ?_, ?_, ?_, ?_, ?_, ?_, ?_, ?_, ?_, trivial⟩ ?fin
        · as_aux_lemma =>
            intro a w hb hoth hdep
            refine step_on (want_none rfl) ?_
            have e3 : a.tmps[3]? = some (.pointer (some ⟨c, 0, none⟩)) := ev_other hoth 3 (by kernel_rfl) rfl
            exact step_val ((BigFrame.run_move _ rfl w).trans (by rw [ev_of e3])) rfl
        · as_aux_lemma =>
            intro a w hb hoth hdep
            refine step_on (want_none rfl) ?_
            obtain ⟨v0, e219, hv0⟩ := ev_dep hdep 0 219 (by kernel_rfl) (by kernel_rfl)
            replace hv0 : v0 = .pointer (some ⟨c, 0, none⟩) := hv0
            subst hv0
            refine step_call (f := 16) (args := #[.pointer (some ⟨c, 0, none⟩)]) ?_ ?_
            · simp [go_sem, e219]
            · have hcx := oReplies (HQ.out.1.below hb).c_ HQ.out.2 (by omega)
              (with_reducible refine hcx.mono ?_)
              clear hcx
              rintro e w2 ⟨A, n, c', rfl, hO, hB⟩
              exact ⟨_, rfl, ⟨A, n, c', rfl, OwnL.rd (enc := encReply) (fun _ => rfl) hO, by have := hO.len; have := HQ.out.2.reps; omega⟩, hB⟩
        · as_aux_lemma =>
            intro a w hb hoth hdep
            refine step_on (want_none rfl) ?_
            have e6 : a.tmps[6]? = some (.pointer (some ⟨bx, 0, none⟩)) := ev_other hoth 6 (by kernel_rfl) rfl
            refine step_val (x := .pointer (some ⟨bx, 2, none⟩)) ?_ rfl
            simp [go_sem, e6]
        · as_aux_lemma =>
            intro a w hb hoth hdep
            refine step_on (want_none rfl) ?_
            obtain ⟨v2, e221, hv2⟩ := ev_dep hdep 2 221 (by kernel_rfl) (by kernel_rfl)
            replace hv2 : v2 = .pointer (some ⟨bx, 2, none⟩) := hv2
            subst hv2
            have x2 : w.cell? ⟨bx, 2, none⟩ = some (.slice x.r x.rn x.rc) := ((HQ.out.1.blk.below hb HQ.out.1.blk.lt).cell 2).trans rfl
            refine step_val (x := .slice x.r x.rn x.rc) ?_ rfl
            simp [go_sem, e221, x2]
        · as_aux_lemma =>
            intro a w hb hoth hdep
            refine step_on (want_none rfl) ?_
            obtain ⟨v1, e220, hv1⟩ := ev_dep hdep 1 220 (by kernel_rfl) (by kernel_rfl)
            obtain ⟨A1, n1, c1, hs1, hr1, hn1⟩ := hv1
            subst hs1
            obtain ⟨v3, e222, hv3⟩ := ev_dep hdep 3 222 (by kernel_rfl) (by kernel_rfl)
            replace hv3 : v3 = .slice x.r x.rn x.rc := hv3
            subst hv3
            refine step_call (f := 15) (args := #[.slice A1 n1 c1, .slice x.r x.rn x.rc]) ?_ ?_
            · simp [go_sem, e220, e222]
            · have hcx := sameR_t _ x.r _ c1 _ x.rc _ w hr1 (HQ.out.1.below hb).rd.r (by omega)
              (with_reducible refine hcx.mono ?_)
              clear hcx
              rintro e w2 ⟨rfl, hB⟩
              exact ⟨_, rfl, rfl, hB⟩
        · as_aux_lemma =>
            intro a w hb hoth hdep
            refine step_on ((want_dep hdep 6 225 false rfl (by kernel_rfl) (by kernel_rfl) (fun v h => h)).trans rfl) ?_
            have e3 : a.tmps[3]? = some (.pointer (some ⟨c, 0, none⟩)) := ev_other hoth 3 (by kernel_rfl) rfl
            exact step_val ((BigFrame.run_move _ rfl w).trans (by rw [ev_of e3])) rfl
        · as_aux_lemma =>
            intro a w hb hoth hdep
            refine step_on ((want_dep hdep 6 225 false rfl (by kernel_rfl) (by kernel_rfl) (fun v h => h)).trans rfl) ?_
            obtain ⟨v7, e226, hv7⟩ := ev_dep hdep 7 226 (by kernel_rfl) (by kernel_rfl)
            replace hv7 : v7 = .pointer (some ⟨c, 0, none⟩) := hv7
            subst hv7
            refine step_call (f := 18) (args := #[.pointer (some ⟨c, 0, none⟩)]) ?_ ?_
            · simp [go_sem, e226]
            · have hcx := oKnown (HQ.out.1.below hb).c_ HQ.out.2 (by omega)
              (with_reducible refine hcx.mono ?_)
              clear hcx
              rintro e w2 ⟨A, n, c', rfl, hO, hB⟩
              exact ⟨_, rfl, ⟨A, n, c', rfl, OwnL.rd (enc := encI) (fun _ => rfl) hO, by have := hO.len; have := (Nat.le_trans (knownM_len s.reps) HQ.out.2.reps); omega⟩, hB⟩
        · as_aux_lemma =>
            intro a w hb hoth hdep
            refine step_on ((want_dep hdep 6 225 false rfl (by kernel_rfl) (by kernel_rfl) (fun v h => h)).trans rfl) ?_
            have e6 : a.tmps[6]? = some (.pointer (some ⟨bx, 0, none⟩)) := ev_other hoth 6 (by kernel_rfl) rfl
            have x0 : w.cell? ⟨bx, 0, none⟩ = some (.slice x.a x.an x.ac) := ((HQ.out.1.blk.below hb HQ.out.1.blk.lt).cell 0).trans rfl
            have x1 : w.cell? ⟨bx, 1, none⟩ = some (.slice x.o x.on x.oc) := ((HQ.out.1.blk.below hb HQ.out.1.blk.lt).cell 1).trans rfl
            have x2 : w.cell? ⟨bx, 2, none⟩ = some (.slice x.r x.rn x.rc) := ((HQ.out.1.blk.below hb HQ.out.1.blk.lt).cell 2).trans rfl
            refine step_val (x := .agg x.box) ?_ rfl
            simp [go_sem, e6, x0, x1, x2]
        · as_aux_lemma =>
            intro a w hb hoth hdep
            refine step_on ((want_dep hdep 6 225 false rfl (by kernel_rfl) (by kernel_rfl) (fun v h => h)).trans rfl) ?_
            obtain ⟨v9, e228, hv9⟩ := ev_dep hdep 9 228 (by kernel_rfl) (by kernel_rfl)
            replace hv9 : v9 = .agg x.box := hv9
            subst hv9
            refine step_call (f := 19) (args := #[.agg x.box]) ?_ ?_
            · simp [go_sem, e228]
            · have hcx := rKnown (HQ.out.1.below hb).rd HQ.out.2 (by omega)
              (with_reducible refine hcx.mono ?_)
              clear hcx
              rintro e w2 ⟨A, n, c', rfl, hO, hB⟩
              exact ⟨_, rfl, ⟨A, n, c', rfl, hO, by have := hO.len; have := Nat.le_trans (knownM_len s.reps) HQ.out.2.reps; omega⟩, hB⟩
        · as_aux_lemma =>
            intro a w hb hoth hdep
            refine step_on ((want_dep hdep 6 225 false rfl (by kernel_rfl) (by kernel_rfl) (fun v h => h)).trans rfl) ?_
            obtain ⟨v8, e227, hv8⟩ := ev_dep hdep 8 227 (by kernel_rfl) (by kernel_rfl)
            obtain ⟨A8, n8, c8, hs8, hr8, hn8⟩ := hv8
            subst hs8
            obtain ⟨v10, e229, hv10⟩ := ev_dep hdep 10 229 (by kernel_rfl) (by kernel_rfl)
            obtain ⟨A10, n10, c10, hs10, hr10, hn10⟩ := hv10
            subst hs10
            refine step_call (f := 17) (args := #[.slice A8 n8 c8, .slice A10 n10 c10]) ?_ ?_
            · simp [go_sem, e227, e229]
            · have hnn := hn10
              have hcx := same01_t _ _ _ c8 _ c10 _ w hr8 hr10 (by omega) (by omega)
              (with_reducible refine hcx.mono ?_)
              clear hcx
              rintro e w2 ⟨rfl, q_, rfl⟩
              exact ⟨_, rfl, rfl, below_dN41 q_⟩
        · as_aux_lemma =>
            intro a w hb hoth hdep
            refine step_on ((want_dep hdep 14 233 false rfl (by kernel_rfl) (by kernel_rfl) (fun v h => h)).trans rfl) ?_
            have e3 : a.tmps[3]? = some (.pointer (some ⟨c, 0, none⟩)) := ev_other hoth 3 (by kernel_rfl) rfl
            exact step_val ((BigFrame.run_move _ rfl w).trans (by rw [ev_of e3])) rfl
        · as_aux_lemma =>
            intro a w hb hoth hdep
            refine step_on ((want_dep hdep 14 233 false rfl (by kernel_rfl) (by kernel_rfl) (fun v h => h)).trans rfl) ?_
            obtain ⟨v15, e234, hv15⟩ := ev_dep hdep 15 234 (by kernel_rfl) (by kernel_rfl)
            replace hv15 : v15 = .pointer (some ⟨c, 0, none⟩) := hv15
            subst hv15
            refine step_call (f := 20) (args := #[.pointer (some ⟨c, 0, none⟩)]) ?_ ?_
            · simp [go_sem, e234]
            · have hcx := oOpen (HQ.out.1.below hb).c_ HQ.out.2 (by omega)
              (with_reducible refine hcx.mono ?_)
              clear hcx
              rintro e w2 ⟨A, n, c', rfl, hO, hB⟩
              exact ⟨_, rfl, ⟨A, n, c', rfl, OwnL.rd (enc := encI) (fun _ => rfl) hO, by have := hO.len; have := HQ.out.2.opens; omega⟩, hB⟩
        · as_aux_lemma =>
            intro a w hb hoth hdep
            refine step_on ((want_dep hdep 14 233 false rfl (by kernel_rfl) (by kernel_rfl) (fun v h => h)).trans rfl) ?_
            have e6 : a.tmps[6]? = some (.pointer (some ⟨bx, 0, none⟩)) := ev_other hoth 6 (by kernel_rfl) rfl
            refine step_val (x := .pointer (some ⟨bx, 1, none⟩)) ?_ rfl
            simp [go_sem, e6]
        · as_aux_lemma =>
            intro a w hb hoth hdep
            refine step_on ((want_dep hdep 14 233 false rfl (by kernel_rfl) (by kernel_rfl) (fun v h => h)).trans rfl) ?_
            obtain ⟨v17, e236, hv17⟩ := ev_dep hdep 17 236 (by kernel_rfl) (by kernel_rfl)
            replace hv17 : v17 = .pointer (some ⟨bx, 1, none⟩) := hv17
            subst hv17
            have x1 : w.cell? ⟨bx, 1, none⟩ = some (.slice x.o x.on x.oc) := ((HQ.out.1.blk.below hb HQ.out.1.blk.lt).cell 1).trans rfl
            refine step_val (x := .slice x.o x.on x.oc) ?_ rfl
            simp [go_sem, e236, x1]
        · as_aux_lemma =>
            intro a w hb hoth hdep
            refine step_on ((want_dep hdep 14 233 false rfl (by kernel_rfl) (by kernel_rfl) (fun v h => h)).trans rfl) ?_
            obtain ⟨v16, e235, hv16⟩ := ev_dep hdep 16 235 (by kernel_rfl) (by kernel_rfl)
            obtain ⟨A16, n16, c16, hs16, hr16, hn16⟩ := hv16
            subst hs16
            obtain ⟨v18, e237, hv18⟩ := ev_dep hdep 18 237 (by kernel_rfl) (by kernel_rfl)
            replace hv18 : v18 = .slice x.o x.on x.oc := hv18
            subst hv18
            refine step_call (f := 17) (args := #[.slice A16 n16 c16, .slice x.o x.on x.oc]) ?_ ?_
            · simp [go_sem, e235, e237]
            · have hnn := (show x.on ≤ 1000 by have := HQ.out.1.rd.o.len; have := HQ.out.2.opens; omega)
              have hcx := same01_t _ x.o _ c16 x.on x.oc _ w hr16 (HQ.out.1.below hb).rd.o (by omega) (by omega)
              (with_reducible refine hcx.mono ?_)
              clear hcx
              rintro e w2 ⟨rfl, q_, rfl⟩
              exact ⟨_, rfl, rfl, below_dN41 q_⟩
        · as_aux_lemma =>
            intro a w hb hoth hdep
            refine step_on ((want_dep hdep 22 241 false rfl (by kernel_rfl) (by kernel_rfl) (fun v h => h)).trans rfl) ?_
            have e4 : a.tmps[4]? = some (.pointer (some ⟨z, 0, none⟩)) := ev_other hoth 4 (by kernel_rfl) rfl
            exact step_val ((BigFrame.run_move _ rfl w).trans (by rw [ev_of e4])) rfl
        · as_aux_lemma =>
            intro a w hb hoth hdep
            refine step_on ((want_dep hdep 22 241 false rfl (by kernel_rfl) (by kernel_rfl) (fun v h => h)).trans rfl) ?_
            obtain ⟨v23, e242, hv23⟩ := ev_dep hdep 23 242 (by kernel_rfl) (by kernel_rfl)
            replace hv23 : v23 = .pointer (some ⟨z, 0, none⟩) := hv23
            subst hv23
            refine step_call (f := 20) (args := #[.pointer (some ⟨z, 0, none⟩)]) ?_ ?_
            · simp [go_sem, e242]
            · have hcx := oOpen (HQ.out.1.below hb).z_ HQ.out.2 (by omega)
              (with_reducible refine hcx.mono ?_)
              clear hcx
              rintro e w2 ⟨A, n, c', rfl, hO, hB⟩
              exact ⟨_, rfl, ⟨A, n, c', rfl, OwnL.rd (enc := encI) (fun _ => rfl) hO, by have := hO.len; have := HQ.out.2.opens; omega⟩, hB⟩
        · as_aux_lemma =>
            intro a w hb hoth hdep
            refine step_on ((want_dep hdep 22 241 false rfl (by kernel_rfl) (by kernel_rfl) (fun v h => h)).trans rfl) ?_
            have e6 : a.tmps[6]? = some (.pointer (some ⟨bx, 0, none⟩)) := ev_other hoth 6 (by kernel_rfl) rfl
            refine step_val (x := .pointer (some ⟨bx, 1, none⟩)) ?_ rfl
            simp [go_sem, e6]
        · as_aux_lemma =>
            intro a w hb hoth hdep
            refine step_on ((want_dep hdep 22 241 false rfl (by kernel_rfl) (by kernel_rfl) (fun v h => h)).trans rfl) ?_
            obtain ⟨v25, e244, hv25⟩ := ev_dep hdep 25 244 (by kernel_rfl) (by kernel_rfl)
            replace hv25 : v25 = .pointer (some ⟨bx, 1, none⟩) := hv25
            subst hv25
            have x1 : w.cell? ⟨bx, 1, none⟩ = some (.slice x.o x.on x.oc) := ((HQ.out.1.blk.below hb HQ.out.1.blk.lt).cell 1).trans rfl
            refine step_val (x := .slice x.o x.on x.oc) ?_ rfl
            simp [go_sem, e244, x1]
        · as_aux_lemma =>
            intro a w hb hoth hdep
            refine step_on ((want_dep hdep 22 241 false rfl (by kernel_rfl) (by kernel_rfl) (fun v h => h)).trans rfl) ?_
            obtain ⟨v24, e243, hv24⟩ := ev_dep hdep 24 243 (by kernel_rfl) (by kernel_rfl)
            obtain ⟨A24, n24, c24, hs24, hr24, hn24⟩ := hv24
            subst hs24
            obtain ⟨v26, e245, hv26⟩ := ev_dep hdep 26 245 (by kernel_rfl) (by kernel_rfl)
            replace hv26 : v26 = .slice x.o x.on x.oc := hv26
            subst hv26
            refine step_call (f := 17) (args := #[.slice A24 n24 c24, .slice x.o x.on x.oc]) ?_ ?_
            · simp [go_sem, e243, e245]
            · have hnn := (show x.on ≤ 1000 by have := HQ.out.1.rd.o.len; have := HQ.out.2.opens; omega)
              have hcx := same01_t _ x.o _ c24 x.on x.oc _ w hr24 (HQ.out.1.below hb).rd.o (by omega) (by omega)
              (with_reducible refine hcx.mono ?_)
              clear hcx
              rintro e w2 ⟨rfl, q_, rfl⟩
              exact ⟨_, rfl, rfl, below_dN41 q_⟩
        case fin =>
          intro wz hbz
          iterate 1 (rintro _ rfl)
          rintro _ ⟨_, _, _, rfl, _, _⟩
          iterate 6 (rintro _ rfl)
          rintro _ ⟨_, _, _, rfl, _, _⟩
          iterate 1 (rintro _ rfl)
          rintro _ ⟨_, _, _, rfl, _, _⟩
          iterate 5 (rintro _ rfl)
          rintro _ ⟨_, _, _, rfl, _, _⟩
          iterate 7 (rintro _ rfl)
          rintro _ ⟨_, _, _, rfl, _, _⟩
          iterate 5 (rintro _ rfl)
          refine FinC.nil ?_
          have HF := Lib.hid (HQ.out.1.below hbz)
          clear hbz
          go_wp2_with fail
          go_roundw
          case rel => exact ⟨k + 1, by omega, by go_num, s, v, vz, x, HF.out, HQ.out.2⟩
          case measure => simp [intOf]; omega
    · have hkn : k = n := by omega
      subst hkn
      have HF := Lib.hid hQ.bel
      clear hQ hok
      go_wp2_with fail
      (with_reducible refine (clReplies_nil wr).mono ?_)
      rintro e wq ⟨rfl, hw_⟩
      subst hw_
      go_wp2_with fail
      (with_reducible refine (nKnown wq).mono ?_)
      rintro e w4 ⟨A4, n4, c4, rfl, hO4, hb4⟩
      have hn4 : n4 = 0 := by have := hO4.len; simpa using this.symm
      subst hn4
      clear hO4
      go_wp2_with fail
      (with_reducible refine (clOpen_nil w4).mono ?_)
      rintro e w5 ⟨rfl, hw_⟩
      subst hw_
      have HG := Lib.hid (HF.out.trans (hb4.mono HF.out.size))
      clear hb4
      go_wp2_with fail
      (with_reducible refine (awake41 _ (Hh.out.2.2.below HG.out)).mono ?_)
      rintro e w6 ⟨rfl, hb6⟩
      have HE := Lib.hid (HG.out.trans (hb6.mono HG.out.size))
      clear hb6
      go_wp2
      go_ret
      exact ⟨rfl, HE.out⟩
end Go.Proofs.YthhnocnkicoimaaDoor
