/-
  LAYER 41 (client): what a client knows, as a plain value; the object, call by call.
  LAYER 41 (client): the document's client, call by call; two clients and the document's, side by side in memory.
  LAYER 41 (client): awake.
-/
import Derived.Test.YthhnocnkicoimaaDoorCl9
import Derived.Test.YthhnocnkicoimaaDoorCl15
import Derived.Test.YthhnocnkicoimaaDoorSame01
set_option linter.unusedVariables false
set_option linter.unusedSimpArgs false
namespace Go.Proofs.YthhnocnkicoimaaDoor
open Go.RowKit Go.Maps

/-- What a client knows. -/
structure CS where
  row : List Int
  opens : List Int
  reps : List LReply
  deriving DecidableEq
def CS.ask (s : CS) (m : LMsg) : CS := if checkM m = 0 then ⟨putR s.row m.job, putR s.opens m.job, s.reps⟩ else s
def CS.hears (s : CS) (m : LMsg) : Bool := decide (checkM m = 0 ∧ m.kind = 8 ∧ m.job ∈ s.row)
def CS.hear (s : CS) (m : LMsg) : CS := if s.hears m then ⟨s.row, s.opens.filter (· != m.job), s.reps ++ [⟨m.job, m.code⟩]⟩ else s
def askA (m : LMsg) : LMsg := if checkM m = 0 then m else zeroLMsg
def askC (m : LMsg) : Int := if checkM m = 0 then 0 else 1
def ClO (w : World) (c : Nat) (v : ClV) (s : CS) : Prop := ClAt w c v s.row s.opens s.reps
/-- What a law asks of the lists. -/
structure CS.Ok (s : CS) (k : Nat) : Prop where
  row : s.row.length ≤ k
  opens : s.opens.length ≤ k
  reps : s.reps.length ≤ k
  rr : Rising s.row
  ro : Rising s.opens
  wr : ∀ x ∈ s.row, wf64 x
  wo : ∀ x ∈ s.opens, wf64 x
  wp : ∀ r ∈ s.reps, wf64 r.job
theorem putR_len (l : List Int) (x : Int) : (putR l x).length ≤ l.length + 1 := by
  have := (length_markAll_le l [x]).2
  simpa [markAll] using this
theorem CS.Ok.zero : CS.Ok ⟨[], [], []⟩ 0 := ⟨Nat.le_refl _, Nat.le_refl _, Nat.le_refl _, List.Pairwise.nil, List.Pairwise.nil, fun _ h => by simp at h, fun _ h => by simp at h, fun _ h => by simp at h⟩
theorem CS.Ok.up {s : CS} {k : Nat} (h : s.Ok k) : s.Ok (k + 1) := ⟨Nat.le_succ_of_le h.row, Nat.le_succ_of_le h.opens, Nat.le_succ_of_le h.reps, h.rr, h.ro, h.wr, h.wo, h.wp⟩
theorem CS.Ok.ask {s : CS} {k : Nat} (h : s.Ok k) {m : LMsg} (hm : wf64 m.job) : (s.ask m).Ok (k + 1) := by
  unfold CS.ask
  split
  · exact ⟨Nat.le_trans (putR_len _ _) (Nat.succ_le_succ h.row), Nat.le_trans (putR_len _ _) (Nat.succ_le_succ h.opens), Nat.le_succ_of_le h.reps, rising_putR h.rr _, rising_putR h.ro _,
      fun x hx => ((mem_putR _ _ _).1 hx).elim (fun e => e ▸ hm) (h.wr x), fun x hx => ((mem_putR _ _ _).1 hx).elim (fun e => e ▸ hm) (h.wo x), h.wp⟩
  · exact h.up
theorem CS.Ok.hear {s : CS} {k : Nat} (h : s.Ok k) {m : LMsg} (hm : wf64 m.job) : (s.hear m).Ok (k + 1) := by
  unfold CS.hear
  split
  · refine ⟨Nat.le_succ_of_le h.row, Nat.le_trans (List.length_filter_le _ _) (Nat.le_succ_of_le h.opens), by simpa using h.reps, h.rr, List.Pairwise.filter _ h.ro, h.wr, fun x hx => h.wo x (List.mem_filter.1 hx).1, fun r hr => ?_⟩
    rcases List.mem_append.1 hr with hr | hr
    · exact h.wp r hr
    · rw [List.mem_singleton.1 hr]; exact hm
  · exact h.up
section
variable {w w' : World} {c : Nat} {v : ClV} {s : CS}
theorem ClO.on_le (h : ClO w c v s) {k : Nat} (hk : s.Ok k) : v.on ≤ k := by rw [← h.own.len]; exact hk.opens
theorem ClO.rn_le (h : ClO w c v s) {k : Nat} (hk : s.Ok k) : v.rn ≤ k := by rw [← h.rep.len]; exact hk.reps
theorem ClO.below (h : ClO w c v s) (hb : Below w.heap.size w w') : ClO w' c v s := ClAt.below h hb
theorem ClO.turn_below (h : ClO w c v s) (hb : Below w.heap.size w w') : ∃ v', ClO w' c v' s ∧ Turned (clS c v) (clS c v') w w' := ⟨v, h.below hb, .of_below hb⟩
/-- Ask, whatever is asked for. -/
theorem oAsk (h : ClO w c v s) (hw : WaysAt w) (m : LMsg) (hm : wf64 m.job) {k : Nat} (hk : s.Ok k) (hk9 : k ≤ 1000) :
    Calls Tryd.prog 45 #[.pointer (some ⟨c, 0, none⟩), aggMsg m] w fun e w' => e = .returned (.tuple #[aggMsg (askA m), .int .i64 (askC m)]) ∧ ∃ v', ClO w' c v' (s.ask m) ∧ Turned (clS c v) (clS c v') w w' := by
  unfold askA askC CS.ask
  by_cases hc : checkM m = 0
  · rw [if_pos hc, if_pos hc, if_pos hc]
    exact ask_yes c v s.row s.opens s.reps m w h hw hc hm (Nat.le_trans hk.row hk9) (Nat.le_trans (h.on_le hk) hk9) hk.ro
  · rw [if_neg hc, if_neg hc, if_neg hc]
    refine (ask_no c m w hw hc).mono ?_
    rintro e w' ⟨rfl, hb⟩
    exact ⟨rfl, h.turn_below hb⟩
/-- From ask to the two calls around it. -/
theorem ask_wrap {W w1 : World} {v1 : ClV} {s1 : CS} {q : Nat} (hh : ClO w c v s) (hB : Below w.heap.size w W) (hq : w.heap.size ≤ q) (hqW : q < W.heap.size) (h1 : ClO w1 c v1 s1) (ht : Turned (clS c v) (clS c v1) W w1) (hk : Kept (fun k => k = q) w1 w') :
    ∃ v', ClO w' c v' s1 ∧ Turned (clS c v) (clS c v') w w' := by
  refine ⟨v1, ClAt.kept h1 hk ?_, (ht.after_below hB).kept.trans hk ?_, ?_⟩
  · rintro k hkS rfl
    rcases ht.new _ hkS with h2 | h2
    · have := ClAt.lt hh _ h2; omega
    · omega
  · rintro i hi rfl
    omega
  · intro k hkS
    exact (ht.after_below hB).new k hkS
theorem keep_new {W w1 : World} {v1 : ClV} (hh : ClO w c v s) (hB : Below w.heap.size w W) (ht : Turned (clS c v) (clS c v1) W w1) : ∀ k t cs, w.heap.size ≤ k → Blk W k t cs → Blk w1 k t cs := fun k t cs hk hb =>
  (ht.out hb.lt (fun hs => by have := ClAt.lt hh _ hs; omega)).trans hb
theorem oSubmit (h : ClO w c v s) (hw : WaysAt w) (to_ job prio : Int) (need : LRes) (hm : wf64 job) {k : Nat} (hk : s.Ok k) (hk9 : k ≤ 1000) (M : LMsg) (hM : (⟨6, 200, to_, 0, 0, job, 0, prio, 0, need⟩ : LMsg) = M) :
    Calls Tryd.prog 11 #[.pointer (some ⟨c, 0, none⟩), .int .i64 to_, .int .i64 job, .int .i64 prio, aggRes need] w fun e w' => e = .returned (.tuple #[aggMsg (askA M), .int .i64 (askC M)]) ∧ ∃ v', ClO w' c v' (s.ask M) ∧ Turned (clS c v) (clS c v') w w' := by
  subst hM
  refine (clSubmit_t (.pointer (some ⟨c, 0, none⟩)) to_ job prio need (askA ⟨6, 200, to_, 0, 0, job, 0, prio, 0, need⟩) (askC ⟨6, 200, to_, 0, 0, job, 0, prio, 0, need⟩) w (fun W w1 => ∃ v', ClO w1 c v' (s.ask ⟨6, 200, to_, 0, 0, job, 0, prio, 0, need⟩) ∧ Turned (clS c v) (clS c v') W w1) (fun W hB => ?_)).mono ?_
  · refine (oAsk (h.below hB) (hw.below hB) _ hm hk hk9).mono ?_
    rintro e w1 ⟨rfl, v1, h1, ht⟩
    exact ⟨rfl, ⟨v1, h1, ht⟩, keep_new h hB ht⟩
  · rintro e w2 ⟨rfl, W, w1, hB, ⟨v1, h1, ht⟩, hlt, hkp⟩
    exact ⟨rfl, ask_wrap h hB (by omega) hlt h1 ht hkp⟩
theorem oCancel (h : ClO w c v s) (hw : WaysAt w) (to_ job : Int) (hm : wf64 job) {k : Nat} (hk : s.Ok k) (hk9 : k ≤ 1000) (M : LMsg) (hM : (⟨7, 200, to_, 0, 0, job, 0, 0, 0, ⟨0, 0, 0⟩⟩ : LMsg) = M) :
    Calls Tryd.prog 12 #[.pointer (some ⟨c, 0, none⟩), .int .i64 to_, .int .i64 job] w fun e w' => e = .returned (.tuple #[aggMsg (askA M), .int .i64 (askC M)]) ∧ ∃ v', ClO w' c v' (s.ask M) ∧ Turned (clS c v) (clS c v') w w' := by
  subst hM
  refine (clCancel_t (.pointer (some ⟨c, 0, none⟩)) to_ job (askA ⟨7, 200, to_, 0, 0, job, 0, 0, 0, ⟨0, 0, 0⟩⟩) (askC ⟨7, 200, to_, 0, 0, job, 0, 0, 0, ⟨0, 0, 0⟩⟩) w (fun W w1 => ∃ v', ClO w1 c v' (s.ask ⟨7, 200, to_, 0, 0, job, 0, 0, 0, ⟨0, 0, 0⟩⟩) ∧ Turned (clS c v) (clS c v') W w1) (fun W hB => ?_)).mono ?_
  · refine (oAsk (h.below hB) (hw.below hB) _ hm hk hk9).mono ?_
    rintro e w1 ⟨rfl, v1, h1, ht⟩
    exact ⟨rfl, ⟨v1, h1, ht⟩, keep_new h hB ht⟩
  · rintro e w2 ⟨rfl, W, w1, hB, ⟨v1, h1, ht⟩, hlt, hkp⟩
    exact ⟨rfl, ask_wrap h hB (by omega) hlt h1 ht hkp⟩
theorem oHear (h : ClO w c v s) (hw : WaysAt w) (m : LMsg) (hm : wf64 m.job) {k : Nat} (hk : s.Ok k) (hk9 : k ≤ 1000) :
    Calls Tryd.prog 14 #[.pointer (some ⟨c, 0, none⟩), aggMsg m] w fun e w' => e = .returned (.bool (s.hears m)) ∧ ∃ v', ClO w' c v' (s.hear m) ∧ Turned (clS c v) (clS c v') w w' := by
  unfold CS.hear
  by_cases hc : checkM m = 0 ∧ m.kind = 8 ∧ m.job ∈ s.row
  · have hb : s.hears m = true := decide_eq_true hc
    rw [hb, if_pos rfl]
    exact hear_yes c v s.row s.opens s.reps m w h hw hm hc.1 hc.2.1 hc.2.2 (Nat.le_trans (h.on_le hk) hk9) (Nat.le_trans (h.rn_le hk) hk9)
  · have hb : s.hears m = false := decide_eq_false hc
    rw [hb, if_neg (by decide)]
    refine (hear_no c v s.row s.opens s.reps m w h hw hm ?_).mono ?_
    · by_cases h1 : checkM m = 0
      · by_cases h2 : m.kind = 8
        · exact .inr (.inr fun h3 => hc ⟨h1, h2, h3⟩)
        · exact .inr (.inl h2)
      · exact .inl h1
    · rintro e w' ⟨rfl, hb⟩
      exact ⟨rfl, h.turn_below hb⟩
theorem oOpen (h : ClO w c v s) {k : Nat} (hk : s.Ok k) (hk9 : k ≤ 1000) : Calls Tryd.prog 20 #[.pointer (some ⟨c, 0, none⟩)] w fun e w' => ∃ A' n' c', e = .returned (.slice A' n' c') ∧ OwnL encI 3 1 w' w.heap.size A' n' c' s.opens ∧ Below w.heap.size w w' := by
  refine (clOpen_t h (by have := h.on_le hk; omega)).mono ?_
  rintro e w' ⟨A', c', rfl, h1, h2⟩
  exact ⟨A', _, c', rfl, h1, h2⟩
theorem oReplies (h : ClO w c v s) {k : Nat} (hk : s.Ok k) (hk9 : k ≤ 1000) : Calls Tryd.prog 16 #[.pointer (some ⟨c, 0, none⟩)] w fun e w' => ∃ A' n' c', e = .returned (.slice A' n' c') ∧ OwnL encReply 98 2 w' w.heap.size A' n' c' s.reps ∧ Below w.heap.size w w' := by
  refine (clReplies_t h (by have := h.rn_le hk; omega)).mono ?_
  rintro e w' ⟨A', c', rfl, h1, h2⟩
  exact ⟨A', _, c', rfl, h1, h2⟩
theorem oKnown (h : ClO w c v s) {k : Nat} (hk : s.Ok k) (hk9 : k ≤ 1000) : Calls Tryd.prog 18 #[.pointer (some ⟨c, 0, none⟩)] w fun e w' => ∃ A' n' c', e = .returned (.slice A' n' c') ∧ OwnL encI 3 1 w' w.heap.size A' n' c' (knownM s.reps) ∧ Below w.heap.size w w' := by
  refine known_t _ v.rn s.reps w (fun W hB => ?_) (by have := h.rn_le hk; omega) hk.wp
  exact clReplies_t (h.below hB) (by have := h.rn_le hk; omega)
end
/-- None. -/
theorem nSubmit (to_ job prio : Int) (need : LRes) (w : World) : Calls Tryd.prog 11 #[.pointer none, .int .i64 to_, .int .i64 job, .int .i64 prio, aggRes need] w fun e w' => e = .returned (.tuple #[aggMsg zeroLMsg, .int .i64 7]) ∧ Below w.heap.size w w' := by
  refine (clSubmit_t (.pointer none) to_ job prio need zeroLMsg 7 w (fun W w1 => Below W.heap.size W w1) (fun W hB => ?_)).mono ?_
  · refine (ask_nil _ W).mono ?_
    rintro e w1 ⟨rfl, hb⟩
    exact ⟨rfl, hb, fun k t cs _ h => h.below hb h.lt⟩
  · rintro e w2 ⟨rfl, W, w1, hB, hb, hlt, hkp⟩
    exact ⟨rfl, (hB.trans (hb.mono hB.size)).trans (hkp.below (Nat.le_trans hB.size hb.size) (fun b hb e => by omega))⟩
theorem nCancel (to_ job : Int) (w : World) : Calls Tryd.prog 12 #[.pointer none, .int .i64 to_, .int .i64 job] w fun e w' => e = .returned (.tuple #[aggMsg zeroLMsg, .int .i64 7]) ∧ Below w.heap.size w w' := by
  refine (clCancel_t (.pointer none) to_ job zeroLMsg 7 w (fun W w1 => Below W.heap.size W w1) (fun W hB => ?_)).mono ?_
  · refine (ask_nil _ W).mono ?_
    rintro e w1 ⟨rfl, hb⟩
    exact ⟨rfl, hb, fun k t cs _ h => h.below hb h.lt⟩
  · rintro e w2 ⟨rfl, W, w1, hB, hb, hlt, hkp⟩
    exact ⟨rfl, (hB.trans (hb.mono hB.size)).trans (hkp.below (Nat.le_trans hB.size hb.size) (fun b hb e => by omega))⟩
theorem nKnown (w : World) : Calls Tryd.prog 18 #[.pointer none] w fun e w' => ∃ A' n' c', e = .returned (.slice A' n' c') ∧ OwnL encI 3 1 w' w.heap.size A' n' c' [] ∧ Below w.heap.size w w' := by
  refine known_t _ 0 [] w (fun W hB => ?_) (by decide) (fun _ h => by simp at h)
  refine (clReplies_nil W).mono ?_
  rintro e w' ⟨rfl, rfl⟩
  exact ⟨none, 0, rfl, OwnL.nil _ _, Below.refl _ _⟩
/-- A client that has just been made. -/
theorem ClO.made (w : World) : ClO (w.alloc (.cells #[.map none, .slice none 0 0, .slice none 0 0] 32)) w.heap.size ⟨.map none, none, 0, 0, none, 0, 0⟩ ⟨[], [], []⟩ := ClAt.made w
theorem clS_made (c k : Nat) : clS c ⟨.map none, none, 0, 0, none, 0, 0⟩ k → k = c := by
  rintro (h | h | ⟨ad, h, _⟩ | ⟨ad, h, _⟩)
  · exact h
  · cases h
  · cases h
  · cases h
end Go.Proofs.YthhnocnkicoimaaDoor
namespace Go.Proofs.YthhnocnkicoimaaDoor
open Go.RowKit Go.Maps

/-- The document's client, as a value. -/
structure XV where
  a : Option Addr
  an : Nat
  ac : Nat
  o : Option Addr
  on : Nat
  oc : Nat
  r : Option Addr
  rn : Nat
  rc : Nat
abbrev XV.box (x : XV) : Array Value := #[.slice x.a x.an x.ac, .slice x.o x.on x.oc, .slice x.r x.rn x.rc]
def XV.ad (x : XV) (ad : Addr) : Prop := x.a = some ad ∨ x.o = some ad ∨ x.r = some ad
structure XRd (w : World) (x : XV) (s : CS) : Prop where
  a : RdI w x.a x.an s.row
  o : RdI w x.o x.on s.opens
  r : Rd encReply 2 w x.r x.rn s.reps
  ac : x.an ≤ x.ac
  oc : x.on ≤ x.oc
theorem XRd.below {w w' : World} {x : XV} {s : CS} (h : XRd w x s) (hb : Below w.heap.size w w') : XRd w' x s := ⟨h.a.below hb, h.o.below hb, h.r.below hb, h.ac, h.oc⟩
theorem XRd.kept {w w' : World} {x : XV} {s : CS} {F : Nat → Prop} (h : XRd w x s) (hk : Kept F w w') (hF : ∀ ad, x.ad ad → ¬ F ad.block) : XRd w' x s :=
  ⟨h.a.kept hk (fun _ ad ha => hF ad (.inl ha)), h.o.kept hk (fun _ ad ha => hF ad (.inr (.inl ha))), h.r.kept hk (fun _ ad ha => hF ad (.inr (.inr ha))), h.ac, h.oc⟩
/-- Where the new value's rows lie. -/
def XPl (w w' : World) (x x' : XV) : Prop := ∀ ad, x'.ad ad → x.ad ad ∨ (w.heap.size ≤ ad.block ∧ ad.block < w'.heap.size)
section
variable {w : World} {x : XV} {s : CS}
theorem rAsk (h : XRd w x s) {k : Nat} (hk : s.Ok k) (hk9 : k ≤ 1000) (m : LMsg) :
    Calls Tryd.prog 10 #[.agg x.box, aggMsg m] w fun e w' => ∃ x', e = .returned (.tuple #[.agg x'.box, aggMsg (askA m), .int .i64 (askC m)]) ∧ XRd w' x' (s.ask m) ∧ XPl w w' x x' ∧ Below w.heap.size w w' := by
  have ha := h.a.len
  have ho := h.o.len
  have h1 := hk.row
  have h2 := hk.opens
  unfold askA askC CS.ask
  by_cases hc : checkM m = 0
  · rw [if_pos hc, if_pos hc, if_pos hc]
    refine (refAsk_yes x.a x.an x.ac x.o x.on x.oc x.r x.rn x.rc s.row s.opens m w hc h.a h.o h.ac h.oc (by omega) (by omega)).mono ?_
    rintro e w' ⟨A', an', ac', O', on', oc', rfl, hA, hO, hac, hoc, hpA, hpO, hb⟩
    refine ⟨⟨A', an', ac', O', on', oc', x.r, x.rn, x.rc⟩, rfl, ⟨hA, hO, h.r.below hb, hac, hoc⟩, ?_, hb⟩
    rintro ad (hh | hh | hh)
    · rcases hpA with ⟨e1, _⟩ | e1
      · left; left; rw [← e1]; exact hh
      · exact .inr (e1 ad hh)
    · rcases hpO with ⟨e1, _⟩ | e1
      · left; right; left; rw [← e1]; exact hh
      · exact .inr (e1 ad hh)
    · exact .inl (.inr (.inr hh))
  · rw [if_neg hc, if_neg hc, if_neg hc]
    refine (refAsk_no x.a x.an x.ac x.o x.on x.oc x.r x.rn x.rc m w hc).mono ?_
    rintro e w' ⟨rfl, hb⟩
    exact ⟨x, rfl, h.below hb, fun ad ha => .inl ha, hb⟩
theorem rHear (h : XRd w x s) {k : Nat} (hk : s.Ok k) (hk9 : k ≤ 1000) (m : LMsg) :
    Calls Tryd.prog 13 #[.agg x.box, aggMsg m] w fun e w' => ∃ x', e = .returned (.tuple #[.agg x'.box, .bool (s.hears m)]) ∧ XRd w' x' (s.hear m) ∧ XPl w w' x x' ∧ Below w.heap.size w w' := by
  have ha := h.a.len
  have ho := h.o.len
  have hr := h.r.len
  have h1 := hk.row
  have h2 := hk.opens
  have h3 := hk.reps
  unfold CS.hear
  by_cases hc : checkM m = 0 ∧ m.kind = 8 ∧ m.job ∈ s.row
  · have hb : s.hears m = true := decide_eq_true hc
    rw [hb, if_pos rfl]
    refine (refHear_yes x.a x.an x.ac x.o x.on x.oc x.r x.rn x.rc s.row s.opens s.reps m w h.a h.o h.r (by omega) (by omega) (by omega) hc.1 hc.2.1 hc.2.2).mono ?_
    rintro e w' ⟨O', on', oc', R', rc', rfl, hO, hoc, hR, hpO, hpR, hb⟩
    refine ⟨⟨x.a, x.an, x.ac, O', on', oc', R', x.rn + 1, rc'⟩, rfl, ⟨h.a.below hb, hO, hR, h.ac, hoc⟩, ?_, hb⟩
    rintro ad (hh | hh | hh)
    · exact .inl (.inl hh)
    · exact .inr (hpO ad hh)
    · exact .inr (hpR ad hh)
  · have hb : s.hears m = false := decide_eq_false hc
    rw [hb, if_neg (by decide)]
    refine (refHear_no x.a x.an x.ac x.o x.on x.oc x.r x.rn x.rc s.row m w h.a (by omega) ?_).mono ?_
    · by_cases h1 : checkM m = 0
      · by_cases h2 : m.kind = 8
        · exact .inr (.inr fun h3 => hc ⟨h1, h2, h3⟩)
        · exact .inr (.inl h2)
      · exact .inl h1
    · rintro e w' ⟨rfl, hb⟩
      exact ⟨x, rfl, h.below hb, fun ad ha => .inl ha, hb⟩
theorem rKnown (h : XRd w x s) {k : Nat} (hk : s.Ok k) (hk9 : k ≤ 1000) :
    Calls Tryd.prog 19 #[.agg x.box] w fun e w' => ∃ A' n' c', e = .returned (.slice A' n' c') ∧ RdI w' A' n' (knownM s.reps) ∧ Below w.heap.size w w' := by
  have hr := h.r.len
  have h3 := hk.reps
  exact refKnown_t x.a x.an x.ac x.o x.on x.oc x.r x.rn x.rc s.reps w h.r (by omega)
end
theorem ClO.not_blk {w : World} {c : Nat} {v : ClV} {s : CS} (h : ClO w c v s) {b : Nat} {t : TypeId} {cs : Array Value} (hb : Blk w b t cs) (h1 : t ≠ 32) (h2 : t ≠ 3) (h3 : t ≠ 98) : ¬ clS c v b := by
  rintro (rfl | hm | ⟨ad, ha, rfl⟩ | ⟨ad, ha, rfl⟩)
  · exact h1 (hb.ty h.blk)
  · exact h.set.ne_blk hb hm
  · obtain ⟨cs', hcs⟩ := h.own.blk_ ha; exact h2 (hb.ty hcs)
  · obtain ⟨cs', hcs⟩ := h.rep.blk_ ha; exact h3 (hb.ty hcs)
structure Q41 (w0 wr : World) (c z bx : Nat) (v vz : ClV) (sc sz sx : CS) (x : XV) : Prop where
  c_ : ClO wr c v sc
  z_ : ClO wr z vz sz
  dis : ∀ k, clS c v k → ¬ clS z vz k
  sb : ∀ k, clS c v k → w0.heap.size ≤ k
  zb : ∀ k, clS z vz k → w0.heap.size ≤ k
  xb : w0.heap.size ≤ bx
  blk : Blk wr bx 34 x.box
  rd : XRd wr x sx
  xp : ∀ ad, x.ad ad → ¬ clS c v ad.block ∧ ¬ clS z vz ad.block ∧ ad.block < wr.heap.size ∧ ad.block ≠ bx
  bel : Below w0.heap.size w0 wr
section
variable {w0 wr w' : World} {c z bx : Nat} {v vz v' : ClV} {sc sz sx s' : CS} {x x' : XV}
theorem Q41.xS (h : Q41 w0 wr c z bx v vz sc sz sx x) : ¬ clS c v bx := h.c_.not_blk h.blk (by decide) (by decide) (by decide)
theorem Q41.xZ (h : Q41 w0 wr c z bx v vz sc sz sx x) : ¬ clS z vz bx := h.z_.not_blk h.blk (by decide) (by decide) (by decide)
theorem Q41.below (h : Q41 w0 wr c z bx v vz sc sz sx x) (hb : Below wr.heap.size wr w') : Q41 w0 w' c z bx v vz sc sz sx x where
  c_ := h.c_.below hb
  z_ := h.z_.below hb
  dis := h.dis
  sb := h.sb
  zb := h.zb
  xb := h.xb
  blk := h.blk.below hb h.blk.lt
  rd := h.rd.below hb
  xp := fun ad ha => ⟨(h.xp ad ha).1, (h.xp ad ha).2.1, Nat.lt_of_lt_of_le (h.xp ad ha).2.2.1 hb.size, (h.xp ad ha).2.2.2⟩
  bel := h.bel.trans (hb.mono h.bel.size)
theorem Q41.turnC (h : Q41 w0 wr c z bx v vz sc sz sx x) (hc : ClO w' c v' s') (ht : Turned (clS c v) (clS c v') wr w') : Q41 w0 w' c z bx v' vz s' sz sx x where
  c_ := hc
  z_ := ClAt.kept h.z_ ht.kept (fun k hk hs => h.dis k hs hk)
  dis := ht.apart (ClAt.lt h.z_) h.dis
  sb := ht.ge h.bel.size h.sb
  zb := h.zb
  xb := h.xb
  blk := (ht.out h.blk.lt h.xS).trans h.blk
  rd := h.rd.kept ht.kept (fun ad ha => (h.xp ad ha).1)
  xp := fun ad ha => ⟨fun hs => (ht.new _ hs).elim (h.xp ad ha).1 (fun hg => by have := (h.xp ad ha).2.2.1; omega), (h.xp ad ha).2.1, Nat.lt_of_lt_of_le (h.xp ad ha).2.2.1 ht.size, (h.xp ad ha).2.2.2⟩
  bel := h.bel.trans (ht.below h.bel.size h.sb)
theorem Q41.turnZ (h : Q41 w0 wr c z bx v vz sc sz sx x) (hc : ClO w' z v' s') (ht : Turned (clS z vz) (clS z v') wr w') : Q41 w0 w' c z bx v v' sc s' sx x where
  c_ := ClAt.kept h.c_ ht.kept (fun k hk hs => h.dis k hk hs)
  z_ := hc
  dis := fun k hs hz => ht.apart (ClAt.lt h.c_) (fun k hk hs => h.dis k hs hk) k hz hs
  sb := h.sb
  zb := ht.ge h.bel.size h.zb
  xb := h.xb
  blk := (ht.out h.blk.lt h.xZ).trans h.blk
  rd := h.rd.kept ht.kept (fun ad ha => (h.xp ad ha).2.1)
  xp := fun ad ha => ⟨(h.xp ad ha).1, fun hs => (ht.new _ hs).elim (h.xp ad ha).2.1 (fun hg => by have := (h.xp ad ha).2.2.1; omega), Nat.lt_of_lt_of_le (h.xp ad ha).2.2.1 ht.size, (h.xp ad ha).2.2.2⟩
  bel := h.bel.trans (ht.below h.bel.size h.zb)
/-- The document's client is written anew. -/
theorem Q41.setX {w1 : World} (h : Q41 w0 wr c z bx v vz sc sz sx x) (hb : Below wr.heap.size wr w1) (hr : XRd w1 x' s') (hp : XPl wr w1 x x') :
    Q41 w0 (((w1.setCell ⟨bx, 0, none⟩ (.slice x'.a x'.an x'.ac)).setCell ⟨bx, 1, none⟩ (.slice x'.o x'.on x'.oc)).setCell ⟨bx, 2, none⟩ (.slice x'.r x'.rn x'.rc)) c z bx v vz sc sz s' x' := by
  have h1 := h.below hb
  have hxp : ∀ ad, x'.ad ad → ¬ clS c v ad.block ∧ ¬ clS z vz ad.block ∧ ad.block < w1.heap.size ∧ ad.block ≠ bx := fun ad ha => by
    rcases hp ad ha with e | e
    · exact h1.xp ad e
    · refine ⟨fun hs => ?_, fun hs => ?_, e.2, ?_⟩
      · have := ClAt.lt h.c_ _ hs; omega
      · have := ClAt.lt h.z_ _ hs; omega
      · have := h.blk.lt; omega
  obtain ⟨w2, hw2⟩ : ∃ w2, ((w1.setCell ⟨bx, 0, none⟩ (.slice x'.a x'.an x'.ac)).setCell ⟨bx, 1, none⟩ (.slice x'.o x'.on x'.oc)).setCell ⟨bx, 2, none⟩ (.slice x'.r x'.rn x'.rc) = w2 := ⟨_, rfl⟩
  have hk : Kept (fun b => b = bx) w1 w2 := by
    rw [← hw2]
    exact Kept.setCell (p := ⟨bx, 2, none⟩) (Kept.setCell (p := ⟨bx, 1, none⟩) (Kept.setCell (p := ⟨bx, 0, none⟩) (Kept.refl (fun b => b = bx) w1) (fun _ => rfl) _) (fun _ => rfl) _) (fun _ => rfl) _
  have hs : w2.heap.size = w1.heap.size := by rw [← hw2]; simp [World.setCell]
  have hbl : Blk w2 bx 34 x'.box := by
    rw [← hw2]
    have h2 := ((h1.blk.set_ 0 (.slice x'.a x'.an x'.ac)).set_ 1 (.slice x'.o x'.on x'.oc)).set_ 2 (.slice x'.r x'.rn x'.rc)
    simp only [List.setIfInBounds_toArray, List.set_cons_zero, List.set_cons_succ] at h2
    exact h2
  rw [hw2]
  refine ⟨ClAt.kept h1.c_ hk (fun k hk2 e => h1.xS (e ▸ hk2)), ClAt.kept h1.z_ hk (fun k hk2 e => h1.xZ (e ▸ hk2)), h.dis, h.sb, h.zb, h.xb, hbl, hr.kept hk (fun ad ha => (hxp ad ha).2.2.2), fun ad ha => ?_, ?_⟩
  · rw [hs]; exact hxp ad ha
  · exact h1.bel.trans (hk.below h1.bel.size (fun b hb e => by have := h.xb; omega))
/-- What else stands in memory stays. -/
theorem Q41.keepC (h : Q41 w0 wr c z bx v vz sc sz sx x) {S' : Nat → Prop} (ht : Turned (clS c v) S' wr w') {b : Nat} {t : TypeId} {cs : Array Value} (hb : Blk wr b t cs) (h1 : t ≠ 32) (h2 : t ≠ 3) (h3 : t ≠ 98) : Blk w' b t cs :=
  (ht.out hb.lt (h.c_.not_blk hb h1 h2 h3)).trans hb
theorem Q41.keepZ (h : Q41 w0 wr c z bx v vz sc sz sx x) {S' : Nat → Prop} (ht : Turned (clS z vz) S' wr w') {b : Nat} {t : TypeId} {cs : Array Value} (hb : Blk wr b t cs) (h1 : t ≠ 32) (h2 : t ≠ 3) (h3 : t ≠ 98) : Blk w' b t cs :=
  (ht.out hb.lt (h.z_.not_blk hb h1 h2 h3)).trans hb
end
end Go.Proofs.YthhnocnkicoimaaDoor
namespace Go.Proofs.YthhnocnkicoimaaDoor
open Go.RowKit Go.Maps

theorem encI_get41 (x : Int) : (encI x)[0]? = some (.int .i64 x) := rfl
theorem RdI.lit41 (w : World) (G : Nat) (hG : G = w.heap.size) (cs : Array Value) (t : TypeId) (fz : Nat × Nat) (l : List Int) (h : cs.toList = l.map (Value.int .i64)) : RdI (w.alloc (.cells cs t fz)) (some ⟨G, 0, none⟩) l.length l := by
  subst hG
  refine ⟨rfl, fun _ => ⟨_, _, rfl, by simp, fun i y hy j v hv => ?_⟩⟩
  have hj : j = 0 := by
    cases j with
    | zero => rfl
    | succ j => simp [encI] at hv
  subst hj
  rw [encI_get41] at hv
  cases hv
  rw [show 0 + (i * 1 + 0) = i by omega, cell_of_row _ _ _ cs t fz (heap_alloc_new w _), ← Array.getElem?_toList, h, List.getElem?_map, hy]
  rfl
theorem below_dN41 {B : Nat} {w : World} (n : Nat) : Below B w (w.drewN n) := ⟨rfl, rfl, rfl, Nat.le_refl _, fun _ _ => rfl⟩
theorem ClO.keep {w w' : World} {c : Nat} {v : ClV} {s : CS} (h : ClO w c v s) {S' : Nat → Prop} (ht : Turned (clS c v) S' w w') {b : Nat} {t : TypeId} {cs : Array Value} (hb : Blk w b t cs) (h1 : t ≠ 32) (h2 : t ≠ 3) (h3 : t ≠ 98) : Blk w' b t cs :=
  (ht.out hb.lt (h.not_blk hb h1 h2 h3)).trans hb
/-- A client that was made since w0, a message, and a row that stands apart from it. -/
structure WK (w0 w : World) (c b : Nat) (q : LMsg) (s : CS) (k : Nat) (A : Option Addr) (n ca base : Nat) (l : List Int) : Prop where
  ok : s.Ok k
  cl : ∃ v, ClO w c v s ∧ Turned (fun _ => False) (clS c v) w0 w ∧ ∀ ad, A = some ad → ¬ clS c v ad.block
  msg : Blk w b 38 (boxMsg q)
  own : OwnL encI 3 1 w base A n ca l
section
variable {w0 w w' : World} {c b k n ca base : Nat} {q : LMsg} {s : CS} {A : Option Addr} {l : List Int}
theorem WK.then (h : WK w0 w c b q s k A n ca base l) (hb : Below w.heap.size w w') : WK w0 w' c b q s k A n ca base l := by
  obtain ⟨v, h1, h2, h3⟩ := h.cl
  exact ⟨h.ok, ⟨v, h1.below hb, h2.then_below hb, h3⟩, h.msg.below hb h.msg.lt, h.own.below hb⟩
theorem WK.bel (h : WK w0 w c b q s k A n ca base l) : Below w0.heap.size w0 w := by
  obtain ⟨v, _, h2, _⟩ := h.cl
  exact h2.below (Nat.le_refl _) (fun _ h => h.elim)
theorem WK.hear (h : WK w0 w c b q s k A n ca base l) (hw : WaysAt w0) (m : LMsg) (hm : wf64 m.job) (hk : k ≤ 900) (s' : CS) (hs : s.hear m = s') (bb : Bool) (hbb : s.hears m = bb) :
    Calls Tryd.prog 14 #[.pointer (some ⟨c, 0, none⟩), aggMsg m] w fun e w' => e = .returned (.bool bb) ∧ WK w0 w' c b q s' (k + 1) A n ca base l := by
  subst hs
  subst hbb
  obtain ⟨v, h1, h2, h3⟩ := h.cl
  refine (oHear h1 (hw.below h.bel) m hm h.ok (by omega)).mono ?_
  rintro e w' ⟨rfl, v', h4, h5⟩
  exact ⟨rfl, ⟨h.ok.hear hm, ⟨v', h4, h2.trans h5, fun ad ha hs => (h5.new _ hs).elim (h3 ad ha) (fun hg => by have := (h.own.at_base ad ha).2; omega)⟩, h1.keep h5 h.msg (by decide) (by decide) (by decide), h.own.kept h5.kept h3⟩⟩
theorem WK.cancel (h : WK w0 w c b q s k A n ca base l) (hw : WaysAt w0) (to_ job : Int) (hm : wf64 job) (hk : k ≤ 900) (M : LMsg) (hM : (⟨7, 200, to_, 0, 0, job, 0, 0, 0, ⟨0, 0, 0⟩⟩ : LMsg) = M) (s' : CS) (hs : s.ask M = s') (p : LMsg) (hp : askA M = p) (x : Int) (hx : askC M = x) :
    Calls Tryd.prog 12 #[.pointer (some ⟨c, 0, none⟩), .int .i64 to_, .int .i64 job] w fun e w' => e = .returned (.tuple #[aggMsg p, .int .i64 x]) ∧ WK w0 w' c b q s' (k + 1) A n ca base l := by
  subst hs
  subst hp
  subst hx
  obtain ⟨v, h1, h2, h3⟩ := h.cl
  refine (oCancel h1 (hw.below h.bel) to_ job hm h.ok (by omega) M hM).mono ?_
  rintro e w' ⟨rfl, v', h4, h5⟩
  have hmj : wf64 M.job := by rw [← hM]; exact hm
  exact ⟨rfl, ⟨h.ok.ask hmj, ⟨v', h4, h2.trans h5, fun ad ha hs => (h5.new _ hs).elim (h3 ad ha) (fun hg => by have := (h.own.at_base ad ha).2; omega)⟩, h1.keep h5 h.msg (by decide) (by decide) (by decide), h.own.kept h5.kept h3⟩⟩
theorem WK.open_ (h : WK w0 w c b q s k A n ca base l) (hk : k ≤ 900) (l' : List Int) (hl : s.opens = l') :
    Calls Tryd.prog 20 #[.pointer (some ⟨c, 0, none⟩)] w fun e w' => ∃ A' n' ca', e = .returned (.slice A' n' ca') ∧ WK w0 w' c b q s k A' n' ca' w.heap.size l' ∧ Below w.heap.size w w' := by
  subst hl
  obtain ⟨v, h1, h2, h3⟩ := h.cl
  refine (oOpen h1 h.ok (by omega)).mono ?_
  rintro e w' ⟨A', n', c', rfl, ho, hb⟩
  exact ⟨A', n', c', rfl, ⟨h.ok, ⟨v, h1.below hb, h2.then_below hb, fun ad ha hs => by have := ClAt.lt h1 _ hs; have := (ho.at_base ad ha).1; omega⟩, h.msg.below hb h.msg.lt, ho⟩, hb⟩
theorem WK.known (h : WK w0 w c b q s k A n ca base l) (hk : k ≤ 900) (l' : List Int) (hl : knownM s.reps = l') :
    Calls Tryd.prog 18 #[.pointer (some ⟨c, 0, none⟩)] w fun e w' => ∃ A' n' ca', e = .returned (.slice A' n' ca') ∧ RdI w' A' n' l' ∧ Below w.heap.size w w' := by
  subst hl
  obtain ⟨v, h1, h2, h3⟩ := h.cl
  refine (oKnown h1 h.ok (by omega)).mono ?_
  rintro e w' ⟨A', n', c', rfl, ho, hb⟩
  exact ⟨A', n', c', rfl, ho.rd (fun _ => rfl), hb⟩
theorem WK.replies (h : WK w0 w c b q s k A n ca base l) (hk : k ≤ 900) (l' : List LReply) (hl : s.reps = l') :
    Calls Tryd.prog 16 #[.pointer (some ⟨c, 0, none⟩)] w fun e w' => ∃ A' n' ca', e = .returned (.slice A' n' ca') ∧ Rd encReply 2 w' A' n' l' ∧ Below w.heap.size w w' := by
  subst hl
  obtain ⟨v, h1, h2, h3⟩ := h.cl
  refine (oReplies h1 h.ok (by omega)).mono ?_
  rintro e w' ⟨A', n', c', rfl, ho, hb⟩
  exact ⟨A', n', c', rfl, ho.rd (fun _ => rfl), hb⟩
end
set_option maxRecDepth 100000 in
set_option maxHeartbeats 3200000 in
theorem awake41 (w : World) (hw : WaysAt w) : Calls Tryd.prog 8 #[] w fun e w' => e = .returned (.bool true) ∧ Below w.heap.size w w' := by
  obtain ⟨q, hq⟩ : ∃ q : LMsg, (⟨6, 200, 1, 0, 0, 5, 0, 3, 0, ⟨1, 2, 3⟩⟩ : LMsg) = q := ⟨_, rfl⟩
  have hqa : askA q = q ∧ askC q = 0 ∧ (⟨[], [], []⟩ : CS).ask q = ⟨[5], [5], []⟩ := by subst hq; decide +kernel
  have hqe : decide (q = (⟨6, 200, 1, 0, 0, 5, 0, 3, 0, ⟨1, 2, 3⟩⟩ : LMsg)) = true := by subst hq; decide +kernel
  have heq := fun (W : World) => eqlMsg q ⟨6, 200, 1, 0, 0, 5, 0, 3, 0, ⟨1, 2, 3⟩⟩ W
  rw [hqe] at heq
  have hgd := fun (x y : Operand) (W : World) => guardMsg .eql x y q ⟨6, 200, 1, 0, 0, 5, 0, 3, 0, ⟨1, 2, 3⟩⟩ W
  have HQ := Lib.hid (And.intro hq hqa)
  have HE := Lib.hid (And.intro heq hgd)
  have HW := Lib.hid hw
  clear hqa hqe heq hgd hw hq
  go_enter Tryd.func8, Tryd.ntmps8
  go_wp2_with fail
  (with_reducible refine (clNew_t w).mono ?_)
  rintro e w1 ⟨rfl, hw1⟩
  have hm1 := ClO.made w
  have ht1 : Turned (fun _ => False) (clS w.heap.size ⟨.map none, none, 0, 0, none, 0, 0⟩) w w1 := by
    rw [hw1]
    exact ⟨Kept.of_below ((Below.refl _ _).alloc (Nat.le_refl _) _), fun k hk => .inr (by rw [clS_made _ _ hk]; exact Nat.le_refl _)⟩
  rw [← hw1] at hm1
  have HI1 := Lib.hid (And.intro hm1 ht1)
  clear hw1 hm1 ht1
  obtain ⟨c, hc⟩ : ∃ c, w.heap.size = c := ⟨_, rfl⟩
  rw [hc] at HI1
  have HC := Lib.hid hc
  try rw [hc]
  clear hc
  go_wp2_with fail
  have hcx := oSubmit HI1.out.1 (HW.out.below (HI1.out.2.below (Nat.le_refl _) (fun _ h => h.elim))) 1 5 3 ⟨1, 2, 3⟩ (by decide) CS.Ok.zero (by omega) q HQ.out.1
  rw [HQ.out.2.1, HQ.out.2.2.1, HQ.out.2.2.2] at hcx
  (with_reducible refine hcx.mono ?_)
  clear hcx
  rintro e w2 ⟨rfl, v2, h2, t2⟩
  have hok2 : CS.Ok ⟨[5], [5], []⟩ 1 := by
    have h := CS.Ok.zero.ask (m := q) (by rw [← HQ.out.1]; decide)
    rw [HQ.out.2.2.2] at h
    exact h
  have hB3 : Below w2.heap.size w2 (w2.alloc (.cells (boxMsg q) 38)) := (Below.refl _ _).alloc (Nat.le_refl _) _
  have HI3 : Hid (WK w (w2.alloc (.cells (boxMsg q) 38)) c w2.heap.size q ⟨[5], [5], []⟩ 1 none 0 0 0 []) := Lib.hid ⟨hok2, ⟨v2, h2.below hB3, (HI1.out.2.trans t2).then_below hB3, fun _ h => by cases h⟩, Blk.new w2 _ _, OwnL.nil _ _⟩
  clear hok2 hB3 h2 t2 HI1
  go_upto_region 3 with fail
  generalize w2.alloc (.cells (boxMsg q) 38) = w3 at HI3 ⊢
  obtain ⟨b, hb⟩ : ∃ b, w2.heap.size = b := ⟨_, rfl⟩
  rw [hb] at HI3
  try rw [hb]
  clear hb
  go_wp2_with fail
  have hcx := HI3.out.cancel HW.out 9 5 (by decide) (by omega) _ rfl ⟨[5], [5], []⟩ (by decide +kernel) zeroLMsg (by decide +kernel) 1 (by decide +kernel)
  (with_reducible refine hcx.mono ?_)
  clear hcx
  rintro e w4 ⟨rfl, h4⟩
  have HI4 := Lib.hid (h4.then ((Below.refl _ _).alloc (Nat.le_refl _) (.cells (boxMsg zeroLMsg) 38)))
  clear h4
  go_upto_region 4 with fail
  generalize w4.alloc (.cells (boxMsg zeroLMsg) 38) = w5 at HI4 ⊢
  obtain ⟨b4, hb4⟩ : ∃ b4, w4.heap.size = b4 := ⟨_, rfl⟩
  try rw [hb4]
  clear hb4
  go_wp2_with fail
  have hcx := HI4.out.open_ (by omega) [5] rfl
  (with_reducible refine hcx.mono ?_)
  clear hcx
  rintro e w6 ⟨A6, n6, c6, rfl, h6, _⟩
  have HI6 := Lib.hid h6
  clear h6
  go_wp2_with fail
  have hcx := HI6.out.hear HW.out ⟨8, 1, 200, 0, 0, 5, 0, 0, 0, ⟨0, 0, 0⟩⟩ (by decide) (by omega) ⟨[5], [], [⟨5, 0⟩]⟩ (by decide +kernel) true (by decide +kernel)
  (with_reducible refine hcx.mono ?_)
  clear hcx
  rintro e w7 ⟨rfl, h7⟩
  have HI7 := Lib.hid h7
  clear h7
  go_wp2_with fail
  have hcx := HI7.out.hear HW.out ⟨8, 1, 200, 0, 0, 6, 0, 0, 0, ⟨0, 0, 0⟩⟩ (by decide) (by omega) ⟨[5], [], [⟨5, 0⟩]⟩ (by decide +kernel) false (by decide +kernel)
  (with_reducible refine hcx.mono ?_)
  clear hcx
  rintro e w8 ⟨rfl, h8⟩
  have HI8 := Lib.hid h8
  obtain ⟨c0, c1, c2, c3, c4, c5, c6, c7, c8, c9, c10, c11⟩ := msgCells HI8.out.msg
  have lb := HI8.out.msg.lt
  have heq := HE.out.1
  have hgd := HE.out.2
  clear h8
  go_wp2_with fail
  clear heq hgd lb c0 c1 c2 c3 c4 c5 c6 c7 c8 c9 c10 c11
  have hr6 := HI8.out.own.rd (enc := encI) (sz := 1) (fun _ => rfl)
  have hn6 : n6 ≤ 10 := by have := hr6.len; simp at this; omega
  have hcx := same01_t A6 (some ⟨w8.heap.size, 0, none⟩) n6 c6 1 1 [5] (w8.alloc (.cells #[.int .i64 5] 3)) (hr6.alloc _) (RdI.lit41 w8 w8.heap.size rfl _ _ _ [5] rfl) (by omega) (by omega)
  (with_reducible refine hcx.mono ?_)
  clear hcx hr6
  rintro e w9 ⟨rfl, q9, rfl⟩
  have HI9 := Lib.hid (HI8.out.then (w' := (w8.alloc (.cells #[.int .i64 5] 3)).drewN q9) (((Below.refl _ _).alloc (Nat.le_refl _) _).trans (below_dN41 q9)))
  generalize (w8.alloc (.cells #[.int .i64 5] 3)).drewN q9 = w9 at HI9 ⊢
  go_wp2_with fail
  have hcx := HI9.out.open_ (by omega) [] rfl
  (with_reducible refine hcx.mono ?_)
  clear hcx
  rintro e w10 ⟨A10, n10, c10, rfl, h10, _⟩
  have hn10 : n10 = 0 := by have := h10.own.len; simpa using this.symm
  subst hn10
  have HI10 := Lib.hid h10
  clear h10
  go_wp2_with fail
  have hcx := HI10.out.known (by omega) [5] (by decide +kernel)
  (with_reducible refine hcx.mono ?_)
  clear hcx
  rintro e w11 ⟨A11, n11, c11, rfl, hr11, hb11⟩
  have HI11 := Lib.hid (And.intro (HI10.out.then hb11) hr11)
  have hn11 : n11 ≤ 10 := by have := hr11.len; simp at this; omega
  clear hr11 hb11
  go_wp2_with fail
  have hcx := same01_t A11 (some ⟨w11.heap.size, 0, none⟩) n11 c11 1 1 [5] (w11.alloc (.cells #[.int .i64 5] 3)) (HI11.out.2.alloc _) (RdI.lit41 w11 w11.heap.size rfl _ _ _ [5] rfl) (by omega) (by omega)
  (with_reducible refine hcx.mono ?_)
  clear hcx
  rintro e w12 ⟨rfl, q12, rfl⟩
  have HI12 := Lib.hid (HI11.out.1.then (w' := (w11.alloc (.cells #[.int .i64 5] 3)).drewN q12) (((Below.refl _ _).alloc (Nat.le_refl _) _).trans (below_dN41 q12)))
  generalize (w11.alloc (.cells #[.int .i64 5] 3)).drewN q12 = w12 at HI12 ⊢
  go_wp2_with fail
  have hcx := HI12.out.replies (by omega) [⟨5, 0⟩] rfl
  (with_reducible refine hcx.mono ?_)
  clear hcx
  rintro e w13 ⟨A13, n13, c13, rfl, hr13, hb13⟩
  have HI13 := Lib.hid (And.intro (HI12.out.then hb13) hr13)
  have hn13 : n13 ≤ 10 := by have := hr13.len; simp at this; omega
  clear hr13 hb13
  go_wp2_with fail
  have hcx := sameR_t A13 (some ⟨w13.heap.size, 0, none⟩) n13 c13 1 1 [⟨5, 0⟩] (w13.alloc (.cells #[.int .i64 5, .int .i64 0] 98)) (HI13.out.2.below ((Below.refl _ _).alloc (Nat.le_refl _) _)) (Rd.new1 _ _ _ _ _ rfl) (by omega)
  (with_reducible refine hcx.mono ?_)
  clear hcx
  rintro e w14 ⟨rfl, hb14⟩
  have HF := Lib.hid (HI13.out.1.bel.trans ((((Below.refl w13.heap.size w13).alloc (Nat.le_refl _) (.cells #[.int .i64 5, .int .i64 0] 98)).trans (hb14.mono (by simp))).mono HI13.out.1.bel.size))
  clear hb14
  go_wp2
  go_ret
  exact ⟨rfl, HF.out⟩
end Go.Proofs.YthhnocnkicoimaaDoor
