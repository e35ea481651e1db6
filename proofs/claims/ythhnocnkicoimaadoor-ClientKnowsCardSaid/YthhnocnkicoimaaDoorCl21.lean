/-
  LAYER 41 (client): what the law ClientKnows keeps: a client, what was asked for, what answers said.
  LAYER 41 (client): the law ClientKnows, walked.
-/
import Derived.Test.YthhnocnkicoimaaDoorCl18
import Derived.Test.YthhnocnkicoimaaDoorTAct41
import Derived.Test.YthhnocnkicoimaaDoorAnyTail
import Derived.Deep.CutRange
import Derived.Deep.CutBlock
set_option linter.unusedVariables false
set_option linter.unusedSimpArgs false
namespace Go.Proofs.YthhnocnkicoimaaDoor
open Go.RowKit Go.Maps

structure KN (s : CS) (asked said : List Int) (k : Nat) : Prop where
  ok : s.Ok k
  row : ∀ x ∈ s.row, x ∈ asked
  op : ∀ x ∈ s.opens, x ∈ asked
  rp : ∀ r ∈ s.reps, r.job ∈ said
  len : s.reps.length = said.length
  la : asked.length ≤ k
section
variable {s : CS} {asked said : List Int} {k : Nat} {m : LMsg}
theorem KN.zero : KN ⟨[], [], []⟩ [] [] 0 := ⟨CS.Ok.zero, fun _ h => by simp at h, fun _ h => by simp at h, fun _ h => by simp at h, rfl, Nat.le_refl _⟩
theorem KN.up (h : KN s asked said k) : KN s asked said (k + 1) := ⟨h.ok.up, h.row, h.op, h.rp, h.len, Nat.le_succ_of_le h.la⟩
theorem KN.ls (h : KN s asked said k) : said.length ≤ k := by rw [← h.len]; exact h.ok.reps
theorem KN.ask_yes (h : KN s asked said k) (hm : wf64 m.job) (hc : checkM m = 0) : KN (s.ask m) (asked ++ [m.job]) said (k + 1) := by
  have hok := h.ok.ask (m := m) hm
  have e : s.ask m = ⟨putR s.row m.job, putR s.opens m.job, s.reps⟩ := by unfold CS.ask; rw [if_pos hc]
  rw [e] at hok ⊢
  refine ⟨hok, fun x hx => ?_, fun x hx => ?_, h.rp, h.len, by simpa using h.la⟩
  · rcases (mem_putR _ _ _).1 hx with e | e
    · simp [e]
    · simp [h.row x e]
  · rcases (mem_putR _ _ _).1 hx with e | e
    · simp [e]
    · simp [h.op x e]
theorem KN.ask_no (h : KN s asked said k) (hc : ¬ checkM m = 0) : KN (s.ask m) asked said (k + 1) := by
  have e : s.ask m = s := by unfold CS.ask; rw [if_neg hc]
  rw [e]; exact h.up
theorem KN.hear_yes (h : KN s asked said k) (hm : wf64 m.job) (hh : s.hears m = true) : KN (s.hear m) asked (said ++ [m.job]) (k + 1) := by
  have hok := h.ok.hear (m := m) hm
  have e : s.hear m = ⟨s.row, s.opens.filter (· != m.job), s.reps ++ [⟨m.job, m.code⟩]⟩ := by unfold CS.hear; rw [hh, if_pos rfl]
  rw [e] at hok ⊢
  refine ⟨hok, h.row, fun x hx => h.op x (List.mem_filter.1 hx).1, fun r hr => ?_, by simp [h.len], Nat.le_succ_of_le h.la⟩
  rcases List.mem_append.1 hr with hr | hr
  · simp [h.rp r hr]
  · rw [List.mem_singleton.1 hr]; simp
theorem KN.hear_no (h : KN s asked said k) (hh : s.hears m = false) : KN (s.hear m) asked said (k + 1) := by
  have e : s.hear m = s := by unfold CS.hear; rw [hh, if_neg (by decide)]
  rw [e]; exact h.up
theorem ask_mem (hc : checkM m = 0) : m.job ∈ (s.ask m).opens := by
  unfold CS.ask; rw [if_pos hc]; exact (mem_putR _ _ _).2 (.inl rfl)
theorem hear_facts (h : KN s asked said k) (hh : s.hears m = true) : m.job ∈ asked ∧ m.kind = 8 ∧ m.job ∉ (s.hear m).opens := by
  have hd := of_decide_eq_true hh
  refine ⟨h.row _ hd.2.2, hd.2.1, ?_⟩
  unfold CS.hear
  rw [hh, if_pos rfl]
  simp
theorem knownM_sub : ∀ (l : List LReply) (x : Int), x ∈ knownM l → ∃ r ∈ l, r.job = x := by
  intro l x hx
  unfold knownM at hx
  rcases (mem_markAll _ _ _).1 hx with e | e
  · obtain ⟨r, hr, e⟩ := List.mem_map.1 e
    exact ⟨r, (List.mem_filter.1 hr).1, e⟩
  · simp at e
theorem KN.known (h : KN s asked said k) : ∀ x ∈ knownM s.reps, x ∈ said := fun x hx => by
  obtain ⟨r, hr, rfl⟩ := knownM_sub _ _ hx
  exact h.rp r hr
theorem knownM_rising (l : List LReply) : Rising (knownM l) := rising_markAll List.Pairwise.nil _
end
structure K41 (w0 wr : World) (c : Nat) (v : ClV) (s : CS) (A : Option Addr) (an ac : Nat) (asked : List Int) (B : Option Addr) (bn bc : Nat) (said : List Int) : Prop where
  cl : ClO wr c v s
  sb : ∀ k, clS c v k → w0.heap.size ≤ k
  oa : OwnL encI 3 1 wr w0.heap.size A an ac asked
  ob : OwnL encI 3 1 wr w0.heap.size B bn bc said
  na : ∀ ad, A = some ad → ¬ clS c v ad.block
  nb : ∀ ad, B = some ad → ¬ clS c v ad.block
  nab : ∀ ad ad', A = some ad → B = some ad' → ad.block ≠ ad'.block
  bel : Below w0.heap.size w0 wr
theorem own_at {A : Option Addr} {n c k : Nat} (h : (Value.slice A n c).ownBlock = some k) : ∃ ad, A = some ad ∧ ad.block = k := by
  cases A with
  | none => simp [Value.ownBlock] at h
  | some ad => exact ⟨ad, rfl, by simpa [Value.ownBlock] using h⟩
section
variable {w0 wr w' : World} {c : Nat} {v v' : ClV} {s s' : CS} {A A' : Option Addr} {an ac an' ac' : Nat} {asked l' : List Int} {B : Option Addr} {bn bc : Nat} {said : List Int}
theorem K41.below (h : K41 w0 wr c v s A an ac asked B bn bc said) (hb : Below wr.heap.size wr w') : K41 w0 w' c v s A an ac asked B bn bc said :=
  ⟨h.cl.below hb, h.sb, h.oa.below hb, h.ob.below hb, h.na, h.nb, h.nab, h.bel.trans (hb.mono h.bel.size)⟩
theorem K41.turn (h : K41 w0 wr c v s A an ac asked B bn bc said) (hc : ClO w' c v' s') (ht : Turned (clS c v) (clS c v') wr w') : K41 w0 w' c v' s' A an ac asked B bn bc said :=
  ⟨hc, ht.ge h.bel.size h.sb, h.oa.kept ht.kept h.na, h.ob.kept ht.kept h.nb,
    fun ad ha hs => (ht.new _ hs).elim (h.na ad ha) (fun hg => by have := (h.oa.at_base ad ha).2; omega), fun ad ha hs => (ht.new _ hs).elim (h.nb ad ha) (fun hg => by have := (h.ob.at_base ad ha).2; omega),
    h.nab, h.bel.trans (ht.below h.bel.size h.sb)⟩
theorem K41.appA (h : K41 w0 wr c v s A an ac asked B bn bc said) (ho : OwnL encI 3 1 w' w0.heap.size A' an' ac' l') (hg : wr.grownBy w' (Value.slice A an ac).ownBlock) (hp : ∀ ad, A' = some ad → A = some ad ∨ ad.block = wr.heap.size) : K41 w0 w' c v s A' an' ac' l' B bn bc said := by
  have hk : Kept (fun k => ∃ ad, A = some ad ∧ ad.block = k) wr w' := Kept.of_grown hg (fun k hk _ => own_at hk)
  refine ⟨ClAt.kept h.cl hk (fun k hk2 ⟨ad, ha, e⟩ => h.na ad ha (e ▸ hk2)), h.sb, ho, h.ob.kept hk (fun ad hb ⟨ad', ha, e⟩ => h.nab ad' ad ha hb e), fun ad ha hs => ?_, h.nb, fun ad ad' ha hb e => ?_, h.bel.trans (hk.below h.bel.size (fun b hb ⟨ad, ha, e⟩ => by have := (h.oa.at_base ad ha).1; omega))⟩
  · rcases hp ad ha with e | e
    · exact h.na ad e hs
    · have := ClAt.lt h.cl _ hs; omega
  · rcases hp ad ha with e2 | e2
    · exact h.nab ad ad' e2 hb e
    · have := (h.ob.at_base ad' hb).2; omega
theorem K41.appB (h : K41 w0 wr c v s A an ac asked B bn bc said) (ho : OwnL encI 3 1 w' w0.heap.size A' an' ac' l') (hg : wr.grownBy w' (Value.slice B bn bc).ownBlock) (hp : ∀ ad, A' = some ad → B = some ad ∨ ad.block = wr.heap.size) : K41 w0 w' c v s A an ac asked A' an' ac' l' := by
  have hk : Kept (fun k => ∃ ad, B = some ad ∧ ad.block = k) wr w' := Kept.of_grown hg (fun k hk _ => own_at hk)
  refine ⟨ClAt.kept h.cl hk (fun k hk2 ⟨ad, ha, e⟩ => h.nb ad ha (e ▸ hk2)), h.sb, h.oa.kept hk (fun ad ha ⟨ad', hb, e⟩ => h.nab ad ad' ha hb e.symm), ho, h.na, fun ad ha hs => ?_, fun ad ad' ha hb e => ?_, h.bel.trans (hk.below h.bel.size (fun b hb ⟨ad, ha, e⟩ => by have := (h.ob.at_base ad ha).1; omega))⟩
  · rcases hp ad ha with e | e
    · exact h.nb ad e hs
    · have := ClAt.lt h.cl _ hs; omega
  · rcases hp ad' hb with e2 | e2
    · exact h.nab ad ad' ha e2 e
    · have := (h.oa.at_base ad ha).2; omega
theorem K41.keep (h : K41 w0 wr c v s A an ac asked B bn bc said) {S' : Nat → Prop} (ht : Turned (clS c v) S' wr w') {b : Nat} {t : TypeId} {cs : Array Value} (hb : Blk wr b t cs) (h1 : t ≠ 32) (h2 : t ≠ 3) (h3 : t ≠ 98) : Blk w' b t cs := h.cl.keep ht hb h1 h2 h3
end
end Go.Proofs.YthhnocnkicoimaaDoor
namespace Go.Proofs.YthhnocnkicoimaaDoor
open Go.RowKit Go.Maps

theorem wfAct41_job' {dd : LAct41} (h : wfAct41 dd) : wf64 dd.msg.job := h.2.2.2.2.2.2.1
structure HQP (s1 : CS) (asked : List Int) (k : Nat) : Prop where
  ok : s1.Ok (k + 1)
  la : asked.length ≤ k
theorem rising_at41 {l : List Int} (h : Rising l) {i : Nat} {x y : Int} (hx : l[i]? = some x) (hy : l[i + 1]? = some y) : x < y := by
  obtain ⟨h1, rfl⟩ := List.getElem?_eq_some_iff.1 hx
  obtain ⟨h2, rfl⟩ := List.getElem?_eq_some_iff.1 hy
  exact List.pairwise_iff_getElem.1 h i (i + 1) h1 h2 (by omega)
theorem RdI.at_lt {w : World} {kb ko n : Nat} {l : List Int} (h : RdI w (some ⟨kb, ko, none⟩) n l) {j : Nat} (hj : j < n) : kb < w.heap.size := Rd.lt_ h (by omega) _ rfl
theorem askC_zero (m : LMsg) : askC m = 0 ↔ checkM m = 0 := by
  unfold askC
  by_cases h : checkM m = 0 <;> simp [h]
set_option maxRecDepth 100000 in
set_option maxHeartbeats 12800000 in
theorem knows41 (A : Option Addr) (n c0 : Nat) (l : List LAct41) (w : World) (h : Rd encAct41 13 w A n l) (hw : ∀ a ∈ l, wfAct41 a) (hwy : WaysAt w) :
    Calls Tryd.prog 4 #[.slice A n c0] w fun e w' => e = .returned (.bool true) ∧ Below w.heap.size w w' := by
  by_cases hb1 : 100 < n
  · go_enter Tryd.func4, Tryd.ntmps4
    go_wp2_with (go_at_call 8; with_reducible refine (awake41 _ hwy).mono ?_; rintro e w' ⟨rfl, hb⟩)
    go_ret
    exact ⟨rfl, hb⟩
  have hn : n ≤ 100 := by omega
  have Hh := Lib.hid (And.intro h (And.intro hw hwy))
  clear hb1 h hw hwy
  go_enter Tryd.func4, Tryd.ntmps4
  go_wp2_with fail
  (with_reducible refine (clNew_t w).mono ?_)
  rintro e w2 ⟨rfl, hw2⟩
  have hm1 := ClO.made w
  rw [← hw2] at hm1
  have hB2 : Below w.heap.size w w2 := by rw [hw2]; exact (Below.refl _ _).alloc (Nat.le_refl _) _
  have HQ0 : Hid (K41 w w2 w.heap.size ⟨.map none, none, 0, 0, none, 0, 0⟩ ⟨[], [], []⟩ none 0 0 [] none 0 0 []) := Lib.hid ⟨hm1, fun k e => by have h2 := clS_made _ _ e; omega, OwnL.nil _ _, OwnL.nil _ _, fun _ h => (by cases h), fun _ h => (by cases h), fun _ _ h => (by cases h), hB2⟩
  clear hw2 hm1 hB2
  go_wp2
  obtain ⟨c, hc⟩ : ∃ c, w.heap.size = c := ⟨_, rfl⟩
  have HC := Lib.hid hc
  rw [hc] at HQ0
  try rw [hc]
  clear hc
  go_loopw [4, 5, 6] (fun a4 a5 i wr => ∃ k : Nat, k ≤ n ∧ i = .int .i64 k ∧ ∃ (s : CS) (v : ClV) (A : Option Addr) (an ac : Nat) (asked : List Int) (B : Option Addr) (bn bc : Nat) (said : List Int), a4 = .slice A an ac ∧ a5 = .slice B bn bc ∧ K41 w wr c v s A an ac asked B bn bc said ∧ KN s asked said k) (fun _ _ i _ => n - (intOf i).toNat)
  case atStart => exact ⟨0, Nat.zero_le _, rfl, _, _, _, _, _, _, _, _, _, _, rfl, rfl, HQ0.out, KN.zero⟩
  case round =>
    obtain ⟨k, hk, rfl, s, v, A, an, ac, asked, B, bn, bc, said, rfl, rfl, hQ, hN⟩ := hrel
    by_cases hlt : k < n
    · obtain ⟨ab, ao, dd, rfl, haa, hal, hcells⟩ := (Hh.out.1.below hQ.bel).at_ hlt
      have g0 : wr.cell? ⟨ab, ao + k * 13, none⟩ = some (.int .i64 dd.kind) := hcells 0 _ rfl
      have g1 : wr.cell? ⟨ab, ao + k * 13 + 1, none⟩ = some (.int .i64 dd.msg.kind) := hcells 1 _ rfl
      have g2 : wr.cell? ⟨ab, ao + k * 13 + 2, none⟩ = some (.int .i64 dd.msg.frm) := hcells 2 _ rfl
      have g3 : wr.cell? ⟨ab, ao + k * 13 + 3, none⟩ = some (.int .i64 dd.msg.to_) := hcells 3 _ rfl
      have g4 : wr.cell? ⟨ab, ao + k * 13 + 4, none⟩ = some (.int .i64 dd.msg.epoch) := hcells 4 _ rfl
      have g5 : wr.cell? ⟨ab, ao + k * 13 + 5, none⟩ = some (.int .i64 dd.msg.inc) := hcells 5 _ rfl
      have g6 : wr.cell? ⟨ab, ao + k * 13 + 6, none⟩ = some (.int .i64 dd.msg.job) := hcells 6 _ rfl
      have g7 : wr.cell? ⟨ab, ao + k * 13 + 7, none⟩ = some (.int .i64 dd.msg.tick) := hcells 7 _ rfl
      have g8 : wr.cell? ⟨ab, ao + k * 13 + 8, none⟩ = some (.int .i64 dd.msg.prio) := hcells 8 _ rfl
      have g9 : wr.cell? ⟨ab, ao + k * 13 + 9, none⟩ = some (.int .i64 dd.msg.code) := hcells 9 _ rfl
      have g10 : wr.cell? ⟨ab, ao + k * 13 + 10, none⟩ = some (.int .i64 dd.msg.res.a) := hcells 10 _ rfl
      have g11 : wr.cell? ⟨ab, ao + k * 13 + 11, none⟩ = some (.int .i64 dd.msg.res.b) := hcells 11 _ rfl
      have g12 : wr.cell? ⟨ab, ao + k * 13 + 12, none⟩ = some (.int .i64 dd.msg.res.c) := hcells 12 _ rfl
      have hwa := wfAct41_job' (Hh.out.2.1 dd (List.mem_of_getElem? haa))
      have hbm := Blk.new wr 38 (boxMsg dd.msg)
      have hBA : Below wr.heap.size wr (wr.alloc (.cells (boxMsg dd.msg) 38)) := (Below.refl _ _).alloc (Nat.le_refl _) _
      have gA := (hBA.cell (p := ⟨ab, ao + k * 13, none⟩) hal).trans g0
      have hal2 : ab < (wr.alloc (.cells (boxMsg dd.msg) 38)).heap.size := Nat.lt_of_lt_of_le hal hBA.size
      have HQ := Lib.hid (And.intro (hQ.below hBA) hN)
      have HBA := Lib.hid hbm
      have HW := Lib.hid hwa
      have hk9 : k ≤ 900 := by omega
      clear hcells haa hwa hbm hBA hQ hN
      go_upto_block 2 with fail
      generalize wr.alloc (.cells (boxMsg dd.msg) 38) = wA at HQ HBA gA hal2 ⊢
      obtain ⟨bm, hbm⟩ : ∃ bm, wr.heap.size = bm := ⟨_, rfl⟩
      rw [hbm] at HBA
      try rw [hbm]
      clear hbm hal g0 g1 g2 g3 g4 g5 g6 g7 g8 g9 g10 g11 g12
      go_cut [4, 5, 8] from 18 to 154 (fun a4 a5 a8 wx => ∃ (s : CS) (v : ClV) (A : Option Addr) (an ac : Nat) (asked : List Int) (B : Option Addr) (bn bc : Nat) (said : List Int), a4 = .slice A an ac ∧ a5 = .slice B bn bc ∧ K41 w wx c v s A an ac asked B bn bc said ∧ KN s asked said (k + 1))
      case first =>
        by_cases hk1 : dd.kind = 1
        · have t1 : (dd.kind == 1) = true := by simp [hk1]
          clear hk1
          as_aux_lemma =>
            obtain ⟨M, hM⟩ : ∃ M : LMsg, (⟨6, 200, dd.msg.to_, 0, 0, dd.msg.job, 0, dd.msg.prio, 0, dd.msg.res⟩ : LMsg) = M := ⟨_, rfl⟩
            have hMj : M.job = dd.msg.job := by rw [← hM]
            obtain ⟨q, hq⟩ : ∃ q, askA M = q := ⟨_, rfl⟩
            obtain ⟨er, her⟩ : ∃ er, askC M = er := ⟨_, rfl⟩
            obtain ⟨s1, hs1⟩ : ∃ s1, s.ask M = s1 := ⟨_, rfl⟩
            have hcx := oSubmit HQ.out.1.cl (Hh.out.2.2.below HQ.out.1.bel) dd.msg.to_ dd.msg.job dd.msg.prio dd.msg.res HW.out HQ.out.2.ok (by omega) M hM
            rw [hq, her, hs1] at hcx
            have c2 : wA.cell? ⟨bm, 2, none⟩ = some (.int .i64 dd.msg.to_) := (HBA.out.cell 2).trans rfl
            have c5 : wA.cell? ⟨bm, 5, none⟩ = some (.int .i64 dd.msg.job) := (HBA.out.cell 5).trans rfl
            have c7 : wA.cell? ⟨bm, 7, none⟩ = some (.int .i64 dd.msg.prio) := (HBA.out.cell 7).trans rfl
            have c9 : wA.cell? ⟨bm, 9, none⟩ = some (.int .i64 dd.msg.res.a) := (HBA.out.cell 9).trans rfl
            have c10 : wA.cell? ⟨bm, 10, none⟩ = some (.int .i64 dd.msg.res.b) := (HBA.out.cell 10).trans rfl
            have c11 : wA.cell? ⟨bm, 11, none⟩ = some (.int .i64 dd.msg.res.c) := (HBA.out.cell 11).trans rfl
            have cl := HBA.out.lt
            by_cases he0 : checkM M = 0
            · have her0 : er = 0 := by rw [← her]; exact (askC_zero M).2 he0
              subst her0
              have hN1 : KN s1 (asked ++ [dd.msg.job]) said (k + 1) := by rw [← hs1, ← hMj]; exact HQ.out.2.ask_yes (by rw [hMj]; exact HW.out) he0
              have hmem : dd.msg.job ∈ s1.opens := by rw [← hs1, ← hMj]; exact ask_mem he0
              have HM := Lib.hid hmem
              have HN1 := Lib.hid hN1
              clear hM hMj hq her hs1 he0 hN1 hmem
              go_wp2_with fail
              (with_reducible refine hcx.mono ?_)
              clear hcx
              rintro e w4 ⟨rfl, v4, hc4, ht4⟩
              have H4 := Lib.hid (And.intro (HQ.out.1.turn hc4 ht4) (HQ.out.1.keep ht4 HBA.out (by decide) (by decide) (by decide)))
              clear c2 c5 c7 c9 c10 c11 cl hc4 ht4
              have c5 : w4.cell? ⟨bm, 5, none⟩ = some (.int .i64 dd.msg.job) := (H4.out.2.cell 5).trans rfl
              have cl := H4.out.2.lt
              have hla := H4.out.1.oa.len
              have hla2 := HQ.out.2.la
              go_upto_region 22 with (at_builtin; refine wp_app (enc := encI) (fun _ => rfl) (by simp [encI, Value.oneCell']) rfl (.tmp 92) (.tmp 95) 29 rfl 3 (.int .i64 0) 8 Tryd.underlying29 Tryd.infoInt rfl (by decide) w.heap.size _ an _ _ rfl (H4.out.1.oa.alloc _) _ 1 _ [dd.msg.job] rfl (Rd.new1 _ dd.msg.job _ _ _ rfl) (an + 1) rfl _ rfl (by omega) (by omega) (by have := H4.out.1.bel.size; simp; omega) ?_; intro A6 c6 w6 ho6 hg6 hp6; have H6 := Lib.hid (K41.appA (H4.out.1.below ((Below.refl _ _).alloc (Nat.le_refl _) (.cells #[.int .i64 dd.msg.job] 3))) ho6 hg6 hp6); have hap6 := (fun t cs (ht : t ≠ 3) (hb : Blk w4 bm t cs) => (Blk.alloc hb (.cells #[.int .i64 dd.msg.job] 3)).grown hg6 (fun e => by obtain ⟨ad, ha, e2⟩ := own_at e.symm; obtain ⟨cs2, hc2⟩ := OwnL.blk_ (H4.out.1.oa) ha; rw [e2] at hc2; exact ht (hb.ty hc2))); clear ho6 hg6 hp6)
              have H7 := Lib.hid (And.intro H6.out (And.intro (hap6 _ _ (by decide) H4.out.2) HN1.out))
              clear hap6 H6 H4 c5 cl hla hla2
              clear HQ HBA
              refine wp_region_autoD 97 [.o (eqV (.pointer (some ⟨c, 0, none⟩))), .o (rdV encI 1 s1.opens 1000), .o (eqV (.pointer (some ⟨bm, 5, none⟩))), .o (eqV (.int .i64 dd.msg.job)), .b true, .b false] [false, false, false, false, false, true] (by kernel_rfl) (by kernel_rfl) rfl (by kernel_rfl) (by kernel_rfl) ⟨?_, ?_, ?_, ?_, ?_, trivial⟩ ?fin
              · intro a w hb hoth hdep
                refine step_on (want_none rfl) ?_
                have e3 : a.tmps[3]? = some (.pointer (some ⟨c, 0, none⟩)) := ev_other hoth 3 (by kernel_rfl) rfl
                exact step_val ((BigFrame.run_move _ rfl w).trans (by rw [ev_of e3])) rfl
              · intro a w hb hoth hdep
                refine step_on (want_none rfl) ?_
                obtain ⟨v0, e97, hv0⟩ := ev_dep hdep 0 97 (by kernel_rfl) (by kernel_rfl)
                replace hv0 : v0 = .pointer (some ⟨c, 0, none⟩) := hv0
                subst hv0
                refine step_call (f := 20) (args := #[.pointer (some ⟨c, 0, none⟩)]) ?_ ?_
                · simp [go_sem, e97]
                · have hcx := oOpen (H7.out.1.below hb).cl H7.out.2.2.ok (by omega)
                  (with_reducible refine hcx.mono ?_)
                  clear hcx
                  rintro e w2 ⟨A2, n2, c2, rfl, hO, hB⟩
                  exact ⟨_, rfl, ⟨A2, n2, c2, rfl, OwnL.rd (enc := encI) (fun _ => rfl) hO, by have := hO.len; have := H7.out.2.2.ok.opens; omega⟩, hB⟩
              · intro a w hb hoth hdep
                refine step_on (want_none rfl) ?_
                have e7 : a.tmps[7]? = some (.pointer (some ⟨bm, 0, none⟩)) := ev_other hoth 7 (by kernel_rfl) rfl
                refine step_val (x := .pointer (some ⟨bm, 5, none⟩)) ?_ rfl
                simp [go_sem, e7]
              · intro a w hb hoth hdep
                refine step_on (want_none rfl) ?_
                obtain ⟨v2, e99, hv2⟩ := ev_dep hdep 2 99 (by kernel_rfl) (by kernel_rfl)
                replace hv2 : v2 = .pointer (some ⟨bm, 5, none⟩) := hv2
                subst hv2
                have c5 : w.cell? ⟨bm, 5, none⟩ = some (.int .i64 dd.msg.job) := ((H7.out.2.1.below hb H7.out.2.1.lt).cell 5).trans rfl
                refine step_val (x := .int .i64 dd.msg.job) ?_ rfl
                simp [go_sem, e99, c5]
              · intro a w hb hoth hdep
                refine step_on (want_none rfl) ?_
                obtain ⟨v1, e98, hv1⟩ := ev_dep hdep 1 98 (by kernel_rfl) (by kernel_rfl)
                obtain ⟨A1, n1, c1, hs1, hr1, hn1⟩ := hv1
                subst hs1
                obtain ⟨v3, e100, hv3⟩ := ev_dep hdep 3 100 (by kernel_rfl) (by kernel_rfl)
                replace hv3 : v3 = .int .i64 dd.msg.job := hv3
                subst hv3
                refine step_call (f := 21) (args := #[.slice A1 n1 c1, .int .i64 dd.msg.job]) ?_ ?_
                · simp [go_sem, e98, e100]
                · have hcx := has12 _ _ c1 s1.opens dd.msg.job w hr1 (by omega)
                  rw [decide_eq_true HM.out] at hcx
                  (with_reducible refine hcx.mono ?_)
                  clear hcx
                  rintro e w2 ⟨rfl, rfl⟩
                  exact ⟨_, rfl, rfl, Below.refl _ _⟩
              case fin =>
                intro wz hbz
                iterate 1 (rintro _ rfl)
                rintro _ ⟨_, _, _, rfl, _, _⟩
                iterate 4 (rintro _ rfl)
                refine FinC.nil ?_
                have HF := Lib.hid (H7.out.1.below hbz)
                clear hbz
                go_wp2_with fail
                go_meet
                exact ⟨s1, _, _, _, _, _, _, _, _, _, rfl, rfl, HF.out, HN1.out⟩
            · have her1 : (er == 0) = false := by rw [← her]; simp [askC_zero, he0]
              have hN1 : KN s1 asked said (k + 1) := by rw [← hs1]; exact HQ.out.2.ask_no he0
              have HN1 := Lib.hid hN1
              clear hM hMj hq her hs1 he0 hN1
              go_wp2_with fail
              (with_reducible refine hcx.mono ?_)
              clear hcx
              rintro e w4 ⟨rfl, v4, hc4, ht4⟩
              have HF := Lib.hid (HQ.out.1.turn hc4 ht4)
              clear c2 c5 c7 c9 c10 c11 cl hc4 ht4
              go_wp2_with fail
              go_meet
              exact ⟨s1, _, _, _, _, _, _, _, _, _, rfl, rfl, HF.out, HN1.out⟩
        · have t1 : (dd.kind == 1) = false := by simp [hk1]
          clear hk1
          by_cases hk2 : dd.kind = 2
          · have t2 : (dd.kind == 2) = true := by simp [hk2]
            clear hk2
            as_aux_lemma =>
              obtain ⟨M, hM⟩ : ∃ M : LMsg, (⟨7, 200, dd.msg.to_, 0, 0, dd.msg.job, 0, 0, 0, ⟨0, 0, 0⟩⟩ : LMsg) = M := ⟨_, rfl⟩
              have hMj : M.job = dd.msg.job := by rw [← hM]
              obtain ⟨q, hq⟩ : ∃ q, askA M = q := ⟨_, rfl⟩
              obtain ⟨er, her⟩ : ∃ er, askC M = er := ⟨_, rfl⟩
              obtain ⟨s1, hs1⟩ : ∃ s1, s.ask M = s1 := ⟨_, rfl⟩
              have hcx := oCancel HQ.out.1.cl (Hh.out.2.2.below HQ.out.1.bel) dd.msg.to_ dd.msg.job HW.out HQ.out.2.ok (by omega) M hM
              rw [hq, her, hs1] at hcx
              have c2 : wA.cell? ⟨bm, 2, none⟩ = some (.int .i64 dd.msg.to_) := (HBA.out.cell 2).trans rfl
              have c5 : wA.cell? ⟨bm, 5, none⟩ = some (.int .i64 dd.msg.job) := (HBA.out.cell 5).trans rfl
              have cl := HBA.out.lt
              by_cases he0 : checkM M = 0
              · have her0 : er = 0 := by rw [← her]; exact (askC_zero M).2 he0
                subst her0
                have hN1 : KN s1 (asked ++ [dd.msg.job]) said (k + 1) := by rw [← hs1, ← hMj]; exact HQ.out.2.ask_yes (by rw [hMj]; exact HW.out) he0
                have hmem : dd.msg.job ∈ s1.opens := by rw [← hs1, ← hMj]; exact ask_mem he0
                have HM := Lib.hid hmem
                have HN1 := Lib.hid hN1
                clear hM hMj hq her hs1 he0 hN1 hmem
                go_wp2_with fail
                (with_reducible refine hcx.mono ?_)
                clear hcx
                rintro e w4 ⟨rfl, v4, hc4, ht4⟩
                have H4 := Lib.hid (And.intro (HQ.out.1.turn hc4 ht4) (HQ.out.1.keep ht4 HBA.out (by decide) (by decide) (by decide)))
                clear c2 c5 cl hc4 ht4
                have c5 : w4.cell? ⟨bm, 5, none⟩ = some (.int .i64 dd.msg.job) := (H4.out.2.cell 5).trans rfl
                have cl := H4.out.2.lt
                have hla := H4.out.1.oa.len
                have hla2 := HQ.out.2.la
                go_upto_region 22 with (at_builtin; refine wp_app (enc := encI) (fun _ => rfl) (by simp [encI, Value.oneCell']) rfl (.tmp 92) (.tmp 95) 29 rfl 3 (.int .i64 0) 8 Tryd.underlying29 Tryd.infoInt rfl (by decide) w.heap.size _ an _ _ rfl (H4.out.1.oa.alloc _) _ 1 _ [dd.msg.job] rfl (Rd.new1 _ dd.msg.job _ _ _ rfl) (an + 1) rfl _ rfl (by omega) (by omega) (by have := H4.out.1.bel.size; simp; omega) ?_; intro A6 c6 w6 ho6 hg6 hp6; have H6 := Lib.hid (K41.appA (H4.out.1.below ((Below.refl _ _).alloc (Nat.le_refl _) (.cells #[.int .i64 dd.msg.job] 3))) ho6 hg6 hp6); have hap6 := (fun t cs (ht : t ≠ 3) (hb : Blk w4 bm t cs) => (Blk.alloc hb (.cells #[.int .i64 dd.msg.job] 3)).grown hg6 (fun e => by obtain ⟨ad, ha, e2⟩ := own_at e.symm; obtain ⟨cs2, hc2⟩ := OwnL.blk_ (H4.out.1.oa) ha; rw [e2] at hc2; exact ht (hb.ty hc2))); clear ho6 hg6 hp6)
                have H7 := Lib.hid (And.intro H6.out (And.intro (hap6 _ _ (by decide) H4.out.2) HN1.out))
                clear hap6 H6 H4 c5 cl hla hla2
                clear HQ HBA
                refine wp_region_autoD 97 [.o (eqV (.pointer (some ⟨c, 0, none⟩))), .o (rdV encI 1 s1.opens 1000), .o (eqV (.pointer (some ⟨bm, 5, none⟩))), .o (eqV (.int .i64 dd.msg.job)), .b true, .b false] [false, false, false, false, false, true] (by kernel_rfl) (by kernel_rfl) rfl (by kernel_rfl) (by kernel_rfl) ⟨?_, ?_, ?_, ?_, ?_, trivial⟩ ?fin
                · intro a w hb hoth hdep
                  refine step_on (want_none rfl) ?_
                  have e3 : a.tmps[3]? = some (.pointer (some ⟨c, 0, none⟩)) := ev_other hoth 3 (by kernel_rfl) rfl
                  exact step_val ((BigFrame.run_move _ rfl w).trans (by rw [ev_of e3])) rfl
                · intro a w hb hoth hdep
                  refine step_on (want_none rfl) ?_
                  obtain ⟨v0, e97, hv0⟩ := ev_dep hdep 0 97 (by kernel_rfl) (by kernel_rfl)
                  replace hv0 : v0 = .pointer (some ⟨c, 0, none⟩) := hv0
                  subst hv0
                  refine step_call (f := 20) (args := #[.pointer (some ⟨c, 0, none⟩)]) ?_ ?_
                  · simp [go_sem, e97]
                  · have hcx := oOpen (H7.out.1.below hb).cl H7.out.2.2.ok (by omega)
                    (with_reducible refine hcx.mono ?_)
                    clear hcx
                    rintro e w2 ⟨A2, n2, c2, rfl, hO, hB⟩
                    exact ⟨_, rfl, ⟨A2, n2, c2, rfl, OwnL.rd (enc := encI) (fun _ => rfl) hO, by have := hO.len; have := H7.out.2.2.ok.opens; omega⟩, hB⟩
                · intro a w hb hoth hdep
                  refine step_on (want_none rfl) ?_
                  have e7 : a.tmps[7]? = some (.pointer (some ⟨bm, 0, none⟩)) := ev_other hoth 7 (by kernel_rfl) rfl
                  refine step_val (x := .pointer (some ⟨bm, 5, none⟩)) ?_ rfl
                  simp [go_sem, e7]
                · intro a w hb hoth hdep
                  refine step_on (want_none rfl) ?_
                  obtain ⟨v2, e99, hv2⟩ := ev_dep hdep 2 99 (by kernel_rfl) (by kernel_rfl)
                  replace hv2 : v2 = .pointer (some ⟨bm, 5, none⟩) := hv2
                  subst hv2
                  have c5 : w.cell? ⟨bm, 5, none⟩ = some (.int .i64 dd.msg.job) := ((H7.out.2.1.below hb H7.out.2.1.lt).cell 5).trans rfl
                  refine step_val (x := .int .i64 dd.msg.job) ?_ rfl
                  simp [go_sem, e99, c5]
                · intro a w hb hoth hdep
                  refine step_on (want_none rfl) ?_
                  obtain ⟨v1, e98, hv1⟩ := ev_dep hdep 1 98 (by kernel_rfl) (by kernel_rfl)
                  obtain ⟨A1, n1, c1, hs1, hr1, hn1⟩ := hv1
                  subst hs1
                  obtain ⟨v3, e100, hv3⟩ := ev_dep hdep 3 100 (by kernel_rfl) (by kernel_rfl)
                  replace hv3 : v3 = .int .i64 dd.msg.job := hv3
                  subst hv3
                  refine step_call (f := 21) (args := #[.slice A1 n1 c1, .int .i64 dd.msg.job]) ?_ ?_
                  · simp [go_sem, e98, e100]
                  · have hcx := has12 _ _ c1 s1.opens dd.msg.job w hr1 (by omega)
                    rw [decide_eq_true HM.out] at hcx
                    (with_reducible refine hcx.mono ?_)
                    clear hcx
                    rintro e w2 ⟨rfl, rfl⟩
                    exact ⟨_, rfl, rfl, Below.refl _ _⟩
                case fin =>
                  intro wz hbz
                  iterate 1 (rintro _ rfl)
                  rintro _ ⟨_, _, _, rfl, _, _⟩
                  iterate 4 (rintro _ rfl)
                  refine FinC.nil ?_
                  have HF := Lib.hid (H7.out.1.below hbz)
                  clear hbz
                  go_wp2_with fail
                  go_meet
                  exact ⟨s1, _, _, _, _, _, _, _, _, _, rfl, rfl, HF.out, HN1.out⟩
              · have her1 : (er == 0) = false := by rw [← her]; simp [askC_zero, he0]
                have hN1 : KN s1 asked said (k + 1) := by rw [← hs1]; exact HQ.out.2.ask_no he0
                have HN1 := Lib.hid hN1
                clear hM hMj hq her hs1 he0 hN1
                go_wp2_with fail
                (with_reducible refine hcx.mono ?_)
                clear hcx
                rintro e w4 ⟨rfl, v4, hc4, ht4⟩
                have HF := Lib.hid (HQ.out.1.turn hc4 ht4)
                clear c2 c5 cl hc4 ht4
                go_wp2_with fail
                go_meet
                exact ⟨s1, _, _, _, _, _, _, _, _, _, rfl, rfl, HF.out, HN1.out⟩
          · have t2 : (dd.kind == 2) = false := by simp [hk2]
            clear hk2
            as_aux_lemma =>
              obtain ⟨s1, hs1⟩ : ∃ s1, s.hear dd.msg = s1 := ⟨_, rfl⟩
              have hcx := oHear HQ.out.1.cl (Hh.out.2.2.below HQ.out.1.bel) dd.msg HW.out HQ.out.2.ok (by omega)
              rw [hs1] at hcx
              obtain ⟨c0, c1, c2, c3, c4, c5, c6, c7, c8, c9, c10, c11⟩ := msgCells HBA.out
              have cl := HBA.out.lt
              rcases Bool.eq_false_or_eq_true (s.hears dd.msg) with hh | hh
              · rw [hh] at hcx
                have hN1 : KN s1 asked (said ++ [dd.msg.job]) (k + 1) := by rw [← hs1]; exact HQ.out.2.hear_yes HW.out hh
                have hf := hear_facts HQ.out.2 hh
                rw [hs1] at hf
                have hok1 : s1.Ok (k + 1) := hN1.ok
                have hk8 : (dd.msg.kind != 8) = false := by simp [hf.2.1]
                have HM := Lib.hid (And.intro hf.1 hf.2.2)
                have HN1 := Lib.hid hN1
                have hla2 := HQ.out.2.la
                have hls2 := HQ.out.2.ls
                clear hs1 hN1 hf hh
                go_wp2_with fail
                (with_reducible refine hcx.mono ?_)
                clear hcx
                rintro e w4 ⟨rfl, v4, hc4, ht4⟩
                have H4 := Lib.hid (And.intro (HQ.out.1.turn hc4 ht4) (And.intro (HQ.out.1.keep ht4 HBA.out (by decide) (by decide) (by decide)) (HQP.mk hok1 hla2)))
                clear c0 c1 c2 c3 c4 c5 c6 c7 c8 c9 c10 c11 cl hc4 ht4 hok1
                clear HQ HBA
                go_upto_region 11 with fail
                refine wp_region_autoD 37 [.o (eqV (.slice A an ac)), .o (eqV (.pointer (some ⟨bm, 5, none⟩))), .o (eqV (.int .i64 dd.msg.job)), .b true, .b false, .b false, .o (eqV (.pointer (some ⟨bm, 0, none⟩))), .o (eqV (.int .i64 dd.msg.kind)), .b false, .b false, .b false, .o (eqV (.pointer (some ⟨c, 0, none⟩))), .o (rdV encI 1 s1.opens 1000), .o (eqV (.pointer (some ⟨bm, 5, none⟩))), .o (eqV (.int .i64 dd.msg.job)), .b false, .b false] [false, false, false, false, true, true, false, false, false, true, true, false, false, false, false, false, true] (by kernel_rfl) (by kernel_rfl) rfl (by kernel_rfl) (by kernel_rfl) ⟨?_, ?_, ?_, ?_, ?_, ?_, ?_, ?_, ?_, ?_, ?_, ?_, trivial⟩ ?fin
                · intro a w hb hoth hdep
                  refine step_on (want_none rfl) ?_
                  have e4 : a.tmps[4]? = some (.slice A an ac) := ev_other hoth 4 (by kernel_rfl) rfl
                  exact step_val ((BigFrame.run_move _ rfl w).trans (by rw [ev_of e4])) rfl
                · intro a w hb hoth hdep
                  refine step_on (want_none rfl) ?_
                  have e7 : a.tmps[7]? = some (.pointer (some ⟨bm, 0, none⟩)) := ev_other hoth 7 (by kernel_rfl) rfl
                  refine step_val (x := .pointer (some ⟨bm, 5, none⟩)) ?_ rfl
                  simp [go_sem, e7]
                · intro a w hb hoth hdep
                  refine step_on (want_none rfl) ?_
                  obtain ⟨v1, e38, hv1⟩ := ev_dep hdep 1 38 (by kernel_rfl) (by kernel_rfl)
                  replace hv1 : v1 = .pointer (some ⟨bm, 5, none⟩) := hv1
                  subst hv1
                  have c5 : w.cell? ⟨bm, 5, none⟩ = some (.int .i64 dd.msg.job) := ((H4.out.2.1.below hb H4.out.2.1.lt).cell 5).trans rfl
                  refine step_val (x := .int .i64 dd.msg.job) ?_ rfl
                  simp [go_sem, e38, c5]
                · intro a w hb hoth hdep
                  refine step_on (want_none rfl) ?_
                  obtain ⟨v0, e37, hv0⟩ := ev_dep hdep 0 37 (by kernel_rfl) (by kernel_rfl)
                  replace hv0 : v0 = .slice A an ac := hv0
                  subst hv0
                  obtain ⟨v2, e39, hv2⟩ := ev_dep hdep 2 39 (by kernel_rfl) (by kernel_rfl)
                  replace hv2 : v2 = .int .i64 dd.msg.job := hv2
                  subst hv2
                  refine step_call (f := 21) (args := #[.slice A an ac, .int .i64 dd.msg.job]) ?_ ?_
                  · simp [go_sem, e37, e39]
                  · have hln := H4.out.2.2.la
                    have hcx := has12 _ _ ac asked dd.msg.job w ((H4.out.1.below hb).oa.rd (enc := encI) (sz := 1) (fun _ => rfl)) (by have := H4.out.1.oa.len; omega)
                    rw [decide_eq_true HM.out.1] at hcx
                    (with_reducible refine hcx.mono ?_)
                    clear hcx
                    rintro e w2 ⟨rfl, rfl⟩
                    exact ⟨_, rfl, rfl, Below.refl _ _⟩
                · intro a w hb hoth hdep
                  refine step_on ((want_dep hdep 5 42 false rfl (by kernel_rfl) (by kernel_rfl) (fun v h => h)).trans rfl) ?_
                  have e7 : a.tmps[7]? = some (.pointer (some ⟨bm, 0, none⟩)) := ev_other hoth 7 (by kernel_rfl) rfl
                  refine step_val (x := .pointer (some ⟨bm, 0, none⟩)) ?_ rfl
                  simp [go_sem, e7]
                · intro a w hb hoth hdep
                  refine step_on ((want_dep hdep 5 42 false rfl (by kernel_rfl) (by kernel_rfl) (fun v h => h)).trans rfl) ?_
                  obtain ⟨v6, e43, hv6⟩ := ev_dep hdep 6 43 (by kernel_rfl) (by kernel_rfl)
                  replace hv6 : v6 = .pointer (some ⟨bm, 0, none⟩) := hv6
                  subst hv6
                  have c0 : w.cell? ⟨bm, 0, none⟩ = some (.int .i64 dd.msg.kind) := ((H4.out.2.1.below hb H4.out.2.1.lt).cell 0).trans rfl
                  refine step_val (x := .int .i64 dd.msg.kind) ?_ rfl
                  simp [go_sem, e43, c0]
                · intro a w hb hoth hdep
                  refine step_on ((want_dep hdep 5 42 false rfl (by kernel_rfl) (by kernel_rfl) (fun v h => h)).trans rfl) ?_
                  obtain ⟨v7, e44, hv7⟩ := ev_dep hdep 7 44 (by kernel_rfl) (by kernel_rfl)
                  replace hv7 : v7 = .int .i64 dd.msg.kind := hv7
                  subst hv7
                  refine step_val (x := .bool false) ?_ rfl
                  simp [go_sem, e44, hk8]
                · intro a w hb hoth hdep
                  refine step_on ((want_dep hdep 10 47 false rfl (by kernel_rfl) (by kernel_rfl) (fun v h => h)).trans rfl) ?_
                  have e3 : a.tmps[3]? = some (.pointer (some ⟨c, 0, none⟩)) := ev_other hoth 3 (by kernel_rfl) rfl
                  exact step_val ((BigFrame.run_move _ rfl w).trans (by rw [ev_of e3])) rfl
                · intro a w hb hoth hdep
                  refine step_on ((want_dep hdep 10 47 false rfl (by kernel_rfl) (by kernel_rfl) (fun v h => h)).trans rfl) ?_
                  obtain ⟨v11, e48, hv11⟩ := ev_dep hdep 11 48 (by kernel_rfl) (by kernel_rfl)
                  replace hv11 : v11 = .pointer (some ⟨c, 0, none⟩) := hv11
                  subst hv11
                  refine step_call (f := 20) (args := #[.pointer (some ⟨c, 0, none⟩)]) ?_ ?_
                  · simp [go_sem, e48]
                  · have hcx := oOpen (H4.out.1.below hb).cl H4.out.2.2.ok (by omega)
                    (with_reducible refine hcx.mono ?_)
                    clear hcx
                    rintro e w2 ⟨A2, n2, c2, rfl, hO, hB⟩
                    exact ⟨_, rfl, ⟨A2, n2, c2, rfl, OwnL.rd (enc := encI) (fun _ => rfl) hO, by have := hO.len; have := H4.out.2.2.ok.opens; omega⟩, hB⟩
                · intro a w hb hoth hdep
                  refine step_on ((want_dep hdep 10 47 false rfl (by kernel_rfl) (by kernel_rfl) (fun v h => h)).trans rfl) ?_
                  have e7 : a.tmps[7]? = some (.pointer (some ⟨bm, 0, none⟩)) := ev_other hoth 7 (by kernel_rfl) rfl
                  refine step_val (x := .pointer (some ⟨bm, 5, none⟩)) ?_ rfl
                  simp [go_sem, e7]
                · intro a w hb hoth hdep
                  refine step_on ((want_dep hdep 10 47 false rfl (by kernel_rfl) (by kernel_rfl) (fun v h => h)).trans rfl) ?_
                  obtain ⟨v13, e50, hv13⟩ := ev_dep hdep 13 50 (by kernel_rfl) (by kernel_rfl)
                  replace hv13 : v13 = .pointer (some ⟨bm, 5, none⟩) := hv13
                  subst hv13
                  have c5 : w.cell? ⟨bm, 5, none⟩ = some (.int .i64 dd.msg.job) := ((H4.out.2.1.below hb H4.out.2.1.lt).cell 5).trans rfl
                  refine step_val (x := .int .i64 dd.msg.job) ?_ rfl
                  simp [go_sem, e50, c5]
                · intro a w hb hoth hdep
                  refine step_on ((want_dep hdep 10 47 false rfl (by kernel_rfl) (by kernel_rfl) (fun v h => h)).trans rfl) ?_
                  obtain ⟨v12, e49, hv12⟩ := ev_dep hdep 12 49 (by kernel_rfl) (by kernel_rfl)
                  obtain ⟨A12, n12, c12, hs12, hr12, hn12⟩ := hv12
                  subst hs12
                  obtain ⟨v14, e51, hv14⟩ := ev_dep hdep 14 51 (by kernel_rfl) (by kernel_rfl)
                  replace hv14 : v14 = .int .i64 dd.msg.job := hv14
                  subst hv14
                  refine step_call (f := 21) (args := #[.slice A12 n12 c12, .int .i64 dd.msg.job]) ?_ ?_
                  · simp [go_sem, e49, e51]
                  · have hcx := has12 _ _ c12 s1.opens dd.msg.job w hr12 (by omega)
                    rw [decide_eq_false HM.out.2] at hcx
                    (with_reducible refine hcx.mono ?_)
                    clear hcx
                    rintro e w2 ⟨rfl, rfl⟩
                    exact ⟨_, rfl, rfl, Below.refl _ _⟩
                case fin =>
                  intro wz hbz
                  iterate 12 (rintro _ rfl)
                  rintro _ ⟨_, _, _, rfl, _, _⟩
                  iterate 4 (rintro _ rfl)
                  refine FinC.nil ?_
                  have HZ := Lib.hid (And.intro (H4.out.1.below hbz) (H4.out.2.1.below hbz H4.out.2.1.lt))
                  clear hbz hk8 H4
                  have c5 : wz.cell? ⟨bm, 5, none⟩ = some (.int .i64 dd.msg.job) := (HZ.out.2.cell 5).trans rfl
                  have cl := HZ.out.2.lt
                  have hlb := HZ.out.1.ob.len
                  go_wp2_with (at_builtin; refine wp_app (enc := encI) (fun _ => rfl) (by simp [encI, Value.oneCell']) rfl (.tmp 54) (.tmp 57) 29 rfl 3 (.int .i64 0) 8 Tryd.underlying29 Tryd.infoInt rfl (by decide) w.heap.size _ bn _ _ rfl (HZ.out.1.ob.alloc _) _ 1 _ [dd.msg.job] rfl (Rd.new1 _ dd.msg.job _ _ _ rfl) (bn + 1) rfl _ rfl (by omega) (by omega) (by have := HZ.out.1.bel.size; simp; omega) ?_; intro A6 c6 w6 ho6 hg6 hp6; have H6 := Lib.hid (K41.appB (HZ.out.1.below ((Below.refl _ _).alloc (Nat.le_refl _) (.cells #[.int .i64 dd.msg.job] 3))) ho6 hg6 hp6); have hap6 := (fun t cs (ht : t ≠ 3) (hb : Blk wz bm t cs) => (Blk.alloc hb (.cells #[.int .i64 dd.msg.job] 3)).grown hg6 (fun e => by obtain ⟨ad, ha, e2⟩ := own_at e.symm; obtain ⟨cs2, hc2⟩ := OwnL.blk_ (HZ.out.1.ob) ha; rw [e2] at hc2; exact ht (hb.ty hc2))); clear ho6 hg6 hp6)
                  clear hap6 c5 cl hlb
                  go_meet
                  exact ⟨s1, _, _, _, _, _, _, _, _, _, rfl, rfl, H6.out, HN1.out⟩
              · rw [hh] at hcx
                have hN1 : KN s1 asked said (k + 1) := by rw [← hs1]; exact HQ.out.2.hear_no hh
                have HN1 := Lib.hid hN1
                clear hs1 hN1 hh
                go_wp2_with fail
                (with_reducible refine hcx.mono ?_)
                clear hcx
                rintro e w4 ⟨rfl, v4, hc4, ht4⟩
                have HF := Lib.hid (HQ.out.1.turn hc4 ht4)
                clear c0 c1 c2 c3 c4 c5 c6 c7 c8 c9 c10 c11 cl hc4 ht4
                go_wp2_with fail
                go_meet
                exact ⟨s1, _, _, _, _, _, _, _, _, _, rfl, rfl, HF.out, HN1.out⟩
      case rest =>
        obtain ⟨s, v, A, an, ac, asked, B, bn, bc, said, rfl, rfl, hq, hn_⟩ := hcut
        clear HQ HBA HW gA hal2
        have HQ := Lib.hid (And.intro hq hn_)
        clear hq hn_
        have hcx := oKnown HQ.out.1.cl HQ.out.2.ok (by omega)
        go_wp2_with fail
        (with_reducible refine hcx.mono ?_)
        clear hcx
        rintro e w3 ⟨K3, kn, kc, rfl, ho3, hb3⟩
        have H3 := Lib.hid (HQ.out.1.below hb3)
        have HK3 := Lib.hid (ho3.rd (enc := encI) (sz := 1) (fun _ => rfl))
        clear ho3 hb3
        have hcx := oOpen H3.out.cl HQ.out.2.ok (by omega)
        go_wp2_with fail
        (with_reducible refine hcx.mono ?_)
        clear hcx
        rintro e w4 ⟨O4, on4, oc4, rfl, ho4, hb4⟩
        have HQ4 := Lib.hid (And.intro (H3.out.below hb4) HQ.out.2)
        have HK := Lib.hid (HK3.out.below hb4)
        have HO := Lib.hid (ho4.rd (enc := encI) (sz := 1) (fun _ => rfl))
        have hkl := HK.out.len
        have hol := HO.out.len
        have hk1 := Nat.le_trans (knownM_len s.reps) HQ.out.2.ok.reps
        have hk2 := HQ.out.2.ok.opens
        clear ho4 hb4 HK3 H3 HQ
        have HQ := HQ4
        clear HQ4
        go_wp2_with fail
        go_loopw [11] (fun i wx => ∃ j : Nat, j ≤ kn ∧ i = .int .i64 j ∧ Below w4.heap.size w4 wx) (fun i _ => kn - (intOf i).toNat)
        case atStart => exact ⟨0, Nat.zero_le _, rfl, Below.refl _ _⟩
        case round =>
          obtain ⟨j, hj, rfl, hbj⟩ := hrel
          have HB := Lib.hid hbj
          by_cases hjn : j < kn
          · obtain ⟨kb, ko, y, rfl, hy, hcy⟩ := RdI.at_ (HK.out.below hbj) hjn
            have hmem := HQ.out.2.known y (List.mem_of_getElem? hy)
            clear hbj
            have hltb := RdI.at_lt (HK.out.below HB.out) hjn
            rcases j with _ | j
            · have hj0 : decide ((0 : Int) < ((0 : Nat) : Int)) = false := rfl
              have HY := Lib.hid (And.intro hltb (And.intro hcy hmem))
              clear hcy hmem hy hltb
              go_upto_region 28 with fail
              refine wp_region_autoD 113 [.o (eqV (.slice B bn bc)), .o (eqV (.slice (some ⟨kb, ko, none⟩) kn kc)), .o (eqV (.int .i64 ((0 : Nat) : Int))), .o (eqV (.pointer (some ⟨kb, ko + 0, none⟩))), .o (eqV (.int .i64 y)), .b true, .b false, .b false, .o (eqV (.int .i64 ((0 : Nat) : Int))), .b false, .b false, .u, .u, .u, .u, .u, .u, .u, .u, .u, .u, .b false, .b false] [false, false, false, false, false, false, true, true, false, false, true, true, true, true, true, true, true, true, true, true, true, true, true] (by kernel_rfl) (by kernel_rfl) rfl (by kernel_rfl) (by kernel_rfl) ⟨?_, ?_, ?_, ?_, ?_, ?_, ?_, ?_, trivial⟩ ?fin
              · intro a w hb hoth hdep
                refine step_on (want_none rfl) ?_
                have e5 : a.tmps[5]? = some (.slice B bn bc) := ev_other hoth 5 (by kernel_rfl) rfl
                exact step_val ((BigFrame.run_move _ rfl w).trans (by rw [ev_of e5])) rfl
              · intro a w hb hoth hdep
                refine step_on (want_none rfl) ?_
                have e9 : a.tmps[9]? = some (.slice (some ⟨kb, ko, none⟩) kn kc) := ev_other hoth 9 (by kernel_rfl) rfl
                exact step_val ((BigFrame.run_move _ rfl w).trans (by rw [ev_of e9])) rfl
              · intro a w hb hoth hdep
                refine step_on (want_none rfl) ?_
                have e11 : a.tmps[11]? = some (.int .i64 ((0 : Nat) : Int)) := ev_other hoth 11 (by kernel_rfl) rfl
                exact step_val ((BigFrame.run_move _ rfl w).trans (by rw [ev_of e11])) rfl
              · intro a w hb hoth hdep
                refine step_on (want_none rfl) ?_
                obtain ⟨v1, e114, hv1⟩ := ev_dep hdep 1 114 (by kernel_rfl) (by kernel_rfl)
                replace hv1 : v1 = .slice (some ⟨kb, ko, none⟩) kn kc := hv1
                subst hv1
                obtain ⟨v2, e115, hv2⟩ := ev_dep hdep 2 115 (by kernel_rfl) (by kernel_rfl)
                replace hv2 : v2 = .int .i64 ((0 : Nat) : Int) := hv2
                subst hv2
                refine step_val (x := .pointer (some ⟨kb, ko + 0, none⟩)) ?_ rfl
                simp [go_sem, e114, e115, hjn, hj0]
              · intro a w hb hoth hdep
                refine step_on (want_none rfl) ?_
                obtain ⟨v3, e116, hv3⟩ := ev_dep hdep 3 116 (by kernel_rfl) (by kernel_rfl)
                replace hv3 : v3 = .pointer (some ⟨kb, ko + 0, none⟩) := hv3
                subst hv3
                have cy : w.cell? ⟨kb, ko, none⟩ = some (.int .i64 y) := (hb.cell (p := ⟨kb, ko, none⟩) HY.out.1).trans HY.out.2.1
                refine step_val (x := .int .i64 y) ?_ rfl
                simp [go_sem, e116, cy]
              · intro a w hb hoth hdep
                refine step_on (want_none rfl) ?_
                obtain ⟨v0, e113, hv0⟩ := ev_dep hdep 0 113 (by kernel_rfl) (by kernel_rfl)
                replace hv0 : v0 = .slice B bn bc := hv0
                subst hv0
                obtain ⟨v4, e117, hv4⟩ := ev_dep hdep 4 117 (by kernel_rfl) (by kernel_rfl)
                replace hv4 : v4 = .int .i64 y := hv4
                subst hv4
                refine step_call (f := 21) (args := #[.slice B bn bc, .int .i64 y]) ?_ ?_
                · simp [go_sem, e113, e117]
                · have hcx := has12 _ _ bc said y w (((HQ.out.1.below HB.out).below hb).ob.rd (enc := encI) (sz := 1) (fun _ => rfl)) (by have := HQ.out.1.ob.len; have := HQ.out.2.ls; omega)
                  rw [decide_eq_true HY.out.2.2] at hcx
                  (with_reducible refine hcx.mono ?_)
                  clear hcx
                  rintro e w2 ⟨rfl, rfl⟩
                  exact ⟨_, rfl, rfl, Below.refl _ _⟩
              · intro a w hb hoth hdep
                refine step_on ((want_dep hdep 7 120 false rfl (by kernel_rfl) (by kernel_rfl) (fun v h => h)).trans rfl) ?_
                have e11 : a.tmps[11]? = some (.int .i64 ((0 : Nat) : Int)) := ev_other hoth 11 (by kernel_rfl) rfl
                exact step_val ((BigFrame.run_move _ rfl w).trans (by rw [ev_of e11])) rfl
              · intro a w hb hoth hdep
                refine step_on ((want_dep hdep 7 120 false rfl (by kernel_rfl) (by kernel_rfl) (fun v h => h)).trans rfl) ?_
                obtain ⟨v8, e121, hv8⟩ := ev_dep hdep 8 121 (by kernel_rfl) (by kernel_rfl)
                replace hv8 : v8 = .int .i64 ((0 : Nat) : Int) := hv8
                subst hv8
                refine step_val (x := .bool false) ?_ rfl
                simp [go_sem, e121, hj0]
              case fin =>
                intro wz hbz
                iterate 23 (rintro _ rfl)
                refine FinC.nil ?_
                have HB2 := Lib.hid (HB.out.trans (hbz.mono HB.out.size))
                clear hbz
                go_wp2_with fail
                go_roundw
                case rel => exact ⟨1, by omega, by go_num, HB2.out⟩
                case measure => simp [intOf]; omega
            · have hj0 : decide ((0 : Int) < ((j + 1 : Nat) : Int)) = true := decide_eq_true (by omega)
              have hnk : ¬ ((kn : Int) ≤ ((j : Int) + 1)) := by omega
              have h0k : (0 : Int) ≤ (j : Int) + 1 := by omega
              have hsub : IntKind.i64.wrap (j : Int) = (j : Int) := IntWalk.i64_in _ (by omega)
              have hjn0 : j < kn := by omega
              obtain ⟨kb2, ko2, y0, hkk, hy0, hcy0⟩ := RdI.at_ (HK.out.below HB.out) hjn0
              cases hkk
              have hlt0 : y0 < y := rising_at41 (knownM_rising s.reps) hy0 hy
              have hge : decide (y ≤ y0) = false := decide_eq_false (by omega)
              have HY := Lib.hid (And.intro hltb (And.intro hcy hmem))
              have HY0 := Lib.hid hcy0
              clear hcy hmem hy hltb hy0 hcy0 hlt0
              go_upto_region 28 with fail
              refine wp_region_autoD 113 [.o (eqV (.slice B bn bc)), .o (eqV (.slice (some ⟨kb, ko, none⟩) kn kc)), .o (eqV (.int .i64 ((j + 1 : Nat) : Int))), .o (eqV (.pointer (some ⟨kb, ko + (j + 1), none⟩))), .o (eqV (.int .i64 y)), .b true, .b false, .b false, .o (eqV (.int .i64 ((j + 1 : Nat) : Int))), .b true, .b true, .o (eqV (.slice (some ⟨kb, ko, none⟩) kn kc)), .o (eqV (.int .i64 ((j + 1 : Nat) : Int))), .o (eqV (.int .i64 ((j : Nat) : Int))), .o (eqV (.pointer (some ⟨kb, ko + j, none⟩))), .o (eqV (.int .i64 y0)), .o (eqV (.slice (some ⟨kb, ko, none⟩) kn kc)), .o (eqV (.int .i64 ((j + 1 : Nat) : Int))), .o (eqV (.pointer (some ⟨kb, ko + (j + 1), none⟩))), .o (eqV (.int .i64 y)), .b false, .b false, .b false] [false, false, false, false, false, false, true, true, false, false, true, false, false, false, false, false, false, false, false, false, false, true, true] (by kernel_rfl) (by kernel_rfl) rfl (by kernel_rfl) (by kernel_rfl) ⟨?_, ?_, ?_, ?_, ?_, ?_, ?_, ?_, ?_, ?_, ?_, ?_, ?_, ?_, ?_, ?_, ?_, ?_, trivial⟩ ?fin
              · intro a w hb hoth hdep
                refine step_on (want_none rfl) ?_
                have e5 : a.tmps[5]? = some (.slice B bn bc) := ev_other hoth 5 (by kernel_rfl) rfl
                exact step_val ((BigFrame.run_move _ rfl w).trans (by rw [ev_of e5])) rfl
              · intro a w hb hoth hdep
                refine step_on (want_none rfl) ?_
                have e9 : a.tmps[9]? = some (.slice (some ⟨kb, ko, none⟩) kn kc) := ev_other hoth 9 (by kernel_rfl) rfl
                exact step_val ((BigFrame.run_move _ rfl w).trans (by rw [ev_of e9])) rfl
              · intro a w hb hoth hdep
                refine step_on (want_none rfl) ?_
                have e11 : a.tmps[11]? = some (.int .i64 ((j + 1 : Nat) : Int)) := ev_other hoth 11 (by kernel_rfl) rfl
                exact step_val ((BigFrame.run_move _ rfl w).trans (by rw [ev_of e11])) rfl
              · intro a w hb hoth hdep
                refine step_on (want_none rfl) ?_
                obtain ⟨v1, e114, hv1⟩ := ev_dep hdep 1 114 (by kernel_rfl) (by kernel_rfl)
                replace hv1 : v1 = .slice (some ⟨kb, ko, none⟩) kn kc := hv1
                subst hv1
                obtain ⟨v2, e115, hv2⟩ := ev_dep hdep 2 115 (by kernel_rfl) (by kernel_rfl)
                replace hv2 : v2 = .int .i64 ((j + 1 : Nat) : Int) := hv2
                subst hv2
                refine step_val (x := .pointer (some ⟨kb, ko + (j + 1), none⟩)) ?_ rfl
                simp [go_sem, e114, e115, hnk, h0k]
              · intro a w hb hoth hdep
                refine step_on (want_none rfl) ?_
                obtain ⟨v3, e116, hv3⟩ := ev_dep hdep 3 116 (by kernel_rfl) (by kernel_rfl)
                replace hv3 : v3 = .pointer (some ⟨kb, ko + (j + 1), none⟩) := hv3
                subst hv3
                have cy : w.cell? ⟨kb, ko + (j + 1), none⟩ = some (.int .i64 y) := (hb.cell (p := ⟨kb, ko + (j + 1), none⟩) HY.out.1).trans HY.out.2.1
                refine step_val (x := .int .i64 y) ?_ rfl
                simp [go_sem, e116, cy]
              · intro a w hb hoth hdep
                refine step_on (want_none rfl) ?_
                obtain ⟨v0, e113, hv0⟩ := ev_dep hdep 0 113 (by kernel_rfl) (by kernel_rfl)
                replace hv0 : v0 = .slice B bn bc := hv0
                subst hv0
                obtain ⟨v4, e117, hv4⟩ := ev_dep hdep 4 117 (by kernel_rfl) (by kernel_rfl)
                replace hv4 : v4 = .int .i64 y := hv4
                subst hv4
                refine step_call (f := 21) (args := #[.slice B bn bc, .int .i64 y]) ?_ ?_
                · simp [go_sem, e113, e117]
                · have hcx := has12 _ _ bc said y w (((HQ.out.1.below HB.out).below hb).ob.rd (enc := encI) (sz := 1) (fun _ => rfl)) (by have := HQ.out.1.ob.len; have := HQ.out.2.ls; omega)
                  rw [decide_eq_true HY.out.2.2] at hcx
                  (with_reducible refine hcx.mono ?_)
                  clear hcx
                  rintro e w2 ⟨rfl, rfl⟩
                  exact ⟨_, rfl, rfl, Below.refl _ _⟩
              · intro a w hb hoth hdep
                refine step_on ((want_dep hdep 7 120 false rfl (by kernel_rfl) (by kernel_rfl) (fun v h => h)).trans rfl) ?_
                have e11 : a.tmps[11]? = some (.int .i64 ((j + 1 : Nat) : Int)) := ev_other hoth 11 (by kernel_rfl) rfl
                exact step_val ((BigFrame.run_move _ rfl w).trans (by rw [ev_of e11])) rfl
              · intro a w hb hoth hdep
                refine step_on ((want_dep hdep 7 120 false rfl (by kernel_rfl) (by kernel_rfl) (fun v h => h)).trans rfl) ?_
                obtain ⟨v8, e121, hv8⟩ := ev_dep hdep 8 121 (by kernel_rfl) (by kernel_rfl)
                replace hv8 : v8 = .int .i64 ((j + 1 : Nat) : Int) := hv8
                subst hv8
                refine step_val (x := .bool true) ?_ rfl
                simp [go_sem, e121, hj0]
              · intro a w hb hoth hdep
                refine step_on ((want_dep hdep 10 123 true rfl (by kernel_rfl) (by kernel_rfl) (fun v h => h)).trans rfl) ?_
                have e9 : a.tmps[9]? = some (.slice (some ⟨kb, ko, none⟩) kn kc) := ev_other hoth 9 (by kernel_rfl) rfl
                exact step_val ((BigFrame.run_move _ rfl w).trans (by rw [ev_of e9])) rfl
              · intro a w hb hoth hdep
                refine step_on ((want_dep hdep 10 123 true rfl (by kernel_rfl) (by kernel_rfl) (fun v h => h)).trans rfl) ?_
                have e11 : a.tmps[11]? = some (.int .i64 ((j + 1 : Nat) : Int)) := ev_other hoth 11 (by kernel_rfl) rfl
                exact step_val ((BigFrame.run_move _ rfl w).trans (by rw [ev_of e11])) rfl
              · intro a w hb hoth hdep
                refine step_on ((want_dep hdep 10 123 true rfl (by kernel_rfl) (by kernel_rfl) (fun v h => h)).trans rfl) ?_
                obtain ⟨v12, e125, hv12⟩ := ev_dep hdep 12 125 (by kernel_rfl) (by kernel_rfl)
                replace hv12 : v12 = .int .i64 ((j + 1 : Nat) : Int) := hv12
                subst hv12
                refine step_val (x := .int .i64 ((j : Nat) : Int)) ?_ rfl
                simp [go_sem, e125, hsub]
              · intro a w hb hoth hdep
                refine step_on ((want_dep hdep 10 123 true rfl (by kernel_rfl) (by kernel_rfl) (fun v h => h)).trans rfl) ?_
                obtain ⟨v11, e124, hv11⟩ := ev_dep hdep 11 124 (by kernel_rfl) (by kernel_rfl)
                replace hv11 : v11 = .slice (some ⟨kb, ko, none⟩) kn kc := hv11
                subst hv11
                obtain ⟨v13, e126, hv13⟩ := ev_dep hdep 13 126 (by kernel_rfl) (by kernel_rfl)
                replace hv13 : v13 = .int .i64 ((j : Nat) : Int) := hv13
                subst hv13
                refine step_val (x := .pointer (some ⟨kb, ko + j, none⟩)) ?_ rfl
                simp [go_sem, e124, e126, hjn0]
              · intro a w hb hoth hdep
                refine step_on ((want_dep hdep 10 123 true rfl (by kernel_rfl) (by kernel_rfl) (fun v h => h)).trans rfl) ?_
                obtain ⟨v14, e127, hv14⟩ := ev_dep hdep 14 127 (by kernel_rfl) (by kernel_rfl)
                replace hv14 : v14 = .pointer (some ⟨kb, ko + j, none⟩) := hv14
                subst hv14
                have cy0 : w.cell? ⟨kb, ko + j, none⟩ = some (.int .i64 y0) := (hb.cell (p := ⟨kb, ko + j, none⟩) HY.out.1).trans HY0.out
                refine step_val (x := .int .i64 y0) ?_ rfl
                simp [go_sem, e127, cy0]
              · intro a w hb hoth hdep
                refine step_on ((want_dep hdep 10 123 true rfl (by kernel_rfl) (by kernel_rfl) (fun v h => h)).trans rfl) ?_
                have e9 : a.tmps[9]? = some (.slice (some ⟨kb, ko, none⟩) kn kc) := ev_other hoth 9 (by kernel_rfl) rfl
                exact step_val ((BigFrame.run_move _ rfl w).trans (by rw [ev_of e9])) rfl
              · intro a w hb hoth hdep
                refine step_on ((want_dep hdep 10 123 true rfl (by kernel_rfl) (by kernel_rfl) (fun v h => h)).trans rfl) ?_
                have e11 : a.tmps[11]? = some (.int .i64 ((j + 1 : Nat) : Int)) := ev_other hoth 11 (by kernel_rfl) rfl
                exact step_val ((BigFrame.run_move _ rfl w).trans (by rw [ev_of e11])) rfl
              · intro a w hb hoth hdep
                refine step_on ((want_dep hdep 10 123 true rfl (by kernel_rfl) (by kernel_rfl) (fun v h => h)).trans rfl) ?_
                obtain ⟨v16, e129, hv16⟩ := ev_dep hdep 16 129 (by kernel_rfl) (by kernel_rfl)
                replace hv16 : v16 = .slice (some ⟨kb, ko, none⟩) kn kc := hv16
                subst hv16
                obtain ⟨v17, e130, hv17⟩ := ev_dep hdep 17 130 (by kernel_rfl) (by kernel_rfl)
                replace hv17 : v17 = .int .i64 ((j + 1 : Nat) : Int) := hv17
                subst hv17
                refine step_val (x := .pointer (some ⟨kb, ko + (j + 1), none⟩)) ?_ rfl
                simp [go_sem, e129, e130, hnk, h0k]
              · intro a w hb hoth hdep
                refine step_on ((want_dep hdep 10 123 true rfl (by kernel_rfl) (by kernel_rfl) (fun v h => h)).trans rfl) ?_
                obtain ⟨v18, e131, hv18⟩ := ev_dep hdep 18 131 (by kernel_rfl) (by kernel_rfl)
                replace hv18 : v18 = .pointer (some ⟨kb, ko + (j + 1), none⟩) := hv18
                subst hv18
                have cy : w.cell? ⟨kb, ko + (j + 1), none⟩ = some (.int .i64 y) := (hb.cell (p := ⟨kb, ko + (j + 1), none⟩) HY.out.1).trans HY.out.2.1
                refine step_val (x := .int .i64 y) ?_ rfl
                simp [go_sem, e131, cy]
              · intro a w hb hoth hdep
                refine step_on ((want_dep hdep 10 123 true rfl (by kernel_rfl) (by kernel_rfl) (fun v h => h)).trans rfl) ?_
                obtain ⟨v15, e128, hv15⟩ := ev_dep hdep 15 128 (by kernel_rfl) (by kernel_rfl)
                replace hv15 : v15 = .int .i64 y0 := hv15
                subst hv15
                obtain ⟨v19, e132, hv19⟩ := ev_dep hdep 19 132 (by kernel_rfl) (by kernel_rfl)
                replace hv19 : v19 = .int .i64 y := hv19
                subst hv19
                refine step_val (x := .bool false) ?_ rfl
                simp [go_sem, e128, e132, hge]
              case fin =>
                intro wz hbz
                iterate 23 (rintro _ rfl)
                refine FinC.nil ?_
                have HB2 := Lib.hid (HB.out.trans (hbz.mono HB.out.size))
                clear hbz
                go_wp2_with fail
                go_roundw
                case rel => exact ⟨(j + 1 + 1), by omega, by go_num, HB2.out⟩
                case measure => simp [intOf]; omega
          · clear hbj
            have HE := Lib.hid HB.out
            go_wp2_with fail
            have HO2 := Lib.hid (HO.out.below HE.out)
            have HQ2 := Lib.hid (HQ.out.1.below HE.out)
            go_loopw [12] (fun i wx => ∃ j : Nat, j ≤ on4 ∧ i = .int .i64 j ∧ Below w4.heap.size w4 wx) (fun i _ => on4 - (intOf i).toNat)
            case atStart => exact ⟨0, Nat.zero_le _, rfl, HE.out⟩
            case round =>
              obtain ⟨j, hj, rfl, hbj⟩ := hrel
              have HB := Lib.hid hbj
              by_cases hjn : j < on4
              · obtain ⟨ob, oo, y, rfl, hy, hcy⟩ := RdI.at_ (HO.out.below hbj) hjn
                have hmem := HQ.out.2.op y (List.mem_of_getElem? hy)
                have hltb := RdI.at_lt (HO.out.below hbj) hjn
                rename_i wx
                have hcx := has12 _ _ ac asked y _ ((HQ.out.1.below hbj).oa.rd (enc := encI) (sz := 1) (fun _ => rfl)) (by have := HQ.out.1.oa.len; have := HQ.out.2.la; omega)
                rw [decide_eq_true hmem] at hcx
                clear hbj hmem hy
                go_wp2_with fail
                (with_reducible refine hcx.mono ?_)
                clear hcx
                rintro e w7 ⟨rfl, rfl⟩
                go_wp2_with fail
                go_roundw
                case rel => exact ⟨j + 1, by omega, by go_num, HB.out⟩
                case measure => simp [intOf]; omega
              · clear hbj
                have HQ5 := Lib.hid (HQ.out.1.below HB.out)
                have hcx := oReplies HQ5.out.cl HQ.out.2.ok (by omega)
                go_wp2_with fail
                (with_reducible refine hcx.mono ?_)
                clear hcx
                rintro e w8 ⟨R8, rn8, rc8, rfl, ho8, hb8⟩
                have hrl : rn8 = bn := by have h1 := ho8.len; have h2 := HQ.out.2.len; have h3 := HQ.out.1.ob.len; omega
                subst hrl
                have HF := Lib.hid (HQ5.out.below hb8)
                clear ho8 hb8
                go_wp2_with fail
                go_roundw
                case rel => exact ⟨k + 1, by omega, by go_num, s, v, A, an, ac, asked, B, _, bc, said, rfl, rfl, HF.out, HQ.out.2⟩
                case measure => simp [intOf]; omega
    · have hkn : k = n := by omega
      subst hkn
      have HF := Lib.hid hQ.bel
      clear hQ hN
      go_wp2_with fail
      (with_reducible refine (awake41 _ (Hh.out.2.2.below HF.out)).mono ?_)
      rintro e w6 ⟨rfl, hb6⟩
      have HE := Lib.hid (HF.out.trans (hb6.mono HF.out.size))
      clear hb6
      go_wp2
      go_ret
      exact ⟨rfl, HE.out⟩
end Go.Proofs.YthhnocnkicoimaaDoor
