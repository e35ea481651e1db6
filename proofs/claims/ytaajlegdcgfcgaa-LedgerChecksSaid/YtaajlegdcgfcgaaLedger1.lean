/-
  LAYER 45 (ledger): the four rules, each by the contract of its closure.
-/
import Derived.Test.YtaajlegdcgfcgaaMapKV
set_option linter.unusedVariables false
set_option linter.unusedSimpArgs false
namespace Go.Proofs.Ytaajlegdcgfcgaa
open Go.RowKit Go.Maps

/-- A row of a trace. -/
structure LRow where
  tick : Int
  kind : Int
  place : Int
  epoch : Int
  inc : Int
  job : Int
  code : Int
  deriving DecidableEq
def encR (r : LRow) : List Value := [.int .i64 r.tick, .int .i64 r.kind, .int .i64 r.place, .int .i64 r.epoch, .int .i64 r.inc, .int .i64 r.job, .int .i64 r.code]
def wfR (r : LRow) : Prop := wf64 r.tick ∧ wf64 r.kind ∧ wf64 r.place ∧ wf64 r.epoch ∧ wf64 r.inc ∧ wf64 r.job ∧ wf64 r.code
/-- A row as a value. -/
abbrev aggR (r : LRow) : Value := .agg #[.int .i64 r.tick, .int .i64 r.kind, .int .i64 r.place, .int .i64 r.epoch, .int .i64 r.inc, .int .i64 r.job, .int .i64 r.code]

def kindsE (r : LRow) : Int := if r.kind < 1 ∨ 5 < r.kind then 5 else 0
def ticksE (last : Int) (some : Bool) (r : LRow) : Int := if some = true ∧ r.tick < last then 10 else 0
def epochsE (led : Int) (row : List Int) (f : Int → Int) (r : LRow) : Int :=
  if r.kind = 1 then (if r.epoch = wrap64 (led + 1) then 0 else 11)
  else if r.kind = 2 then (if (r.place ∈ row ∧ r.epoch < f r.place) ∨ led < r.epoch then 11 else 0) else 0
def holdsE (row : List Int) (f : Int → Int) (r : LRow) : Int :=
  if r.kind = 4 then (if r.job ∈ row then 12 else 0)
  else if r.kind = 5 then (if r.job ∈ row ∧ f r.job = r.place then 0 else 7) else 0

set_option maxHeartbeats 400000 in
theorem kinds1 (r : LRow) (w : World) : Calls Try.prog 107 #[aggR r] w fun e w' => e = .returned (.int .i64 (kindsE r)) ∧ Below w.heap.size w w' := by
  by_cases h1 : r.kind < 1
  · have hv : kindsE r = 5 := by simp [kindsE, h1]
    have HV := Lib.hid hv
    have hd : decide (r.kind < 1) = true := decide_eq_true h1
    clear hv
    go_enter Try.func107, Try.ntmps107
    go_wp2
    go_ret
    exact ⟨by rw [HV.out]; rfl, (Below.refl _ _).alloc (Nat.le_refl _) _⟩
  · have hd : decide (r.kind < 1) = false := decide_eq_false h1
    by_cases h2 : 5 < r.kind
    · have hv : kindsE r = 5 := by simp [kindsE, h2]
      have HV := Lib.hid hv
      have hd2 : decide (5 < r.kind) = true := decide_eq_true h2
      clear hv
      go_enter Try.func107, Try.ntmps107
      go_wp2
      go_ret
      exact ⟨by rw [HV.out]; rfl, (Below.refl _ _).alloc (Nat.le_refl _) _⟩
    · have hv : kindsE r = 0 := by simp [kindsE, h1, h2]
      have HV := Lib.hid hv
      have hd2 : decide (5 < r.kind) = false := decide_eq_false h2
      clear hv
      go_enter Try.func107, Try.ntmps107
      go_wp2
      go_ret
      exact ⟨by rw [HV.out]; rfl, (Below.refl _ _).alloc (Nat.le_refl _) _⟩

set_option maxHeartbeats 400000 in
theorem ticks1 (bs bl : Nat) (tb ti : TypeId) (some_ : Bool) (last : Int) (r : LRow) (w : World) (hs : Blk w bs tb #[.bool some_]) (hl : Blk w bl ti #[.int .i64 last]) (hne : bs ≠ bl) :
    Calls Try.prog 108 #[aggR r, .pointer (some ⟨bs, 0, none⟩), .pointer (some ⟨bl, 0, none⟩)] w fun e w' => e = .returned (.int .i64 (ticksE last some_ r)) ∧
      (ticksE last some_ r = 0 → Blk w' bs tb #[.bool true] ∧ Blk w' bl ti #[.int .i64 r.tick]) ∧ Kept (fun k => k = bs ∨ k = bl) w w' := by
  have c1 : w.cell? ⟨bs, 0, none⟩ = some (.bool some_) := hs.cell 0
  have c2 : w.cell? ⟨bl, 0, none⟩ = some (.int .i64 last) := hl.cell 0
  have f1 := hs.frozen 0
  have f2 := hl.frozen 0
  have hsl := hs.lt
  have hll := hl.lt
  have HB := Lib.hid (And.intro hs hl)
  clear hs hl
  by_cases h : some_ = true ∧ r.tick < last
  · obtain ⟨rfl, h2⟩ := h
    have HV := Lib.hid (show ticksE last true r = 10 by simp [ticksE, h2])
    have hd : decide (r.tick < last) = true := decide_eq_true h2
    go_enter Try.func108, Try.ntmps108
    go_wp2
    go_ret
    refine ⟨by rw [HV.out]; rfl, ?_⟩
    rw [HV.out]
    exact ⟨fun h => absurd h (by decide), Kept.of_below ((Below.refl _ _).alloc (Nat.le_refl _) _)⟩
  · have HV := Lib.hid (show ticksE last some_ r = 0 by simp only [ticksE, if_neg h])
    have hfin : ∀ o, (Blk (((w.setCell ⟨bl, 0, none⟩ (.int .i64 r.tick)).setCell ⟨bs, 0, none⟩ (.bool true)).alloc o) bs tb #[.bool true] ∧ Blk (((w.setCell ⟨bl, 0, none⟩ (.int .i64 r.tick)).setCell ⟨bs, 0, none⟩ (.bool true)).alloc o) bl ti #[.int .i64 r.tick]) ∧
        Kept (fun k => k = bs ∨ k = bl) w (((w.setCell ⟨bl, 0, none⟩ (.int .i64 r.tick)).setCell ⟨bs, 0, none⟩ (.bool true)).alloc o) := by
      intro o
      refine ⟨⟨?_, ?_⟩, ?_⟩
      · exact ((HB.out.1.far (p := ⟨bl, 0, none⟩) hne _).set_ 0 _).alloc _
      · exact ((HB.out.2.set_ 0 _).far (p := ⟨bs, 0, none⟩) (fun e => hne e.symm) _).alloc _
      · exact ((((Kept.refl _ _)).setCell (fun _ => .inr rfl) _).setCell (fun _ => .inl rfl) _).alloc _
    have HF := Lib.hid hfin
    clear hfin
    cases some_ with
    | true =>
      have hd : decide (r.tick < last) = false := decide_eq_false (fun h2 => h ⟨rfl, h2⟩)
      clear h
      go_enter Try.func108, Try.ntmps108
      go_wp2
      go_ret
      exact ⟨by rw [HV.out]; rfl, ⟨fun _ => (HF.out _).1, (HF.out _).2⟩⟩
    | false =>
      clear h
      go_enter Try.func108, Try.ntmps108
      go_wp2
      go_ret
      exact ⟨by rw [HV.out]; rfl, ⟨fun _ => (HF.out _).1, (HF.out _).2⟩⟩

end Go.Proofs.Ytaajlegdcgfcgaa
