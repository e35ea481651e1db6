/-
  LAYER 45 (ledger): the four rules' makers, and Check.
-/
import Derived.Test.YtaajlegdcgfcgaaLedger2
set_option linter.unusedVariables false
set_option linter.unusedSimpArgs false
namespace Go.Proofs.Ytaajlegdcgfcgaa
open Go.RowKit Go.Maps

theorem kinds0 (w : World) : Calls Try.prog 81 #[] w fun e w' => e = .returned (.func (.func 107) #[] #[]) ∧ w' = w := by
  go_enter Try.func81, Try.ntmps81
  go_wp2
  go_ret
  exact ⟨rfl, rfl⟩
theorem ticks0 (w : World) : Calls Try.prog 82 #[] w fun e w' => ∃ b1 b2, e = .returned (.func (.func 108) #[] #[.pointer (some ⟨b2, 0, none⟩), .pointer (some ⟨b1, 0, none⟩)]) ∧
    Blk w' b1 3 #[.int .i64 0] ∧ Blk w' b2 4 #[.bool false] ∧ w.heap.size ≤ b1 ∧ w.heap.size ≤ b2 ∧ b1 ≠ b2 ∧ Below w.heap.size w w' := by
  have hmf : ∀ (fn : Fn) (first cap : Array Value) (w : World), (Instr.makeFunc fn first cap).run Try.prog w = .ok (.func fn first cap) w := fun _ _ _ _ => rfl
  go_enter Try.func82, Try.ntmps82
  go_wp2
  go_ret
  refine ⟨w.heap.size, w.heap.size + 1, rfl, ?_⟩
  refine ⟨(Blk.new w _ _).alloc _, ?_, Nat.le_refl _, by omega, by omega, ((Below.refl w.heap.size w).alloc (Nat.le_refl _) _).alloc (by simp) _⟩
  have := Blk.new (w.alloc (.cells #[.int .i64 0] 3)) 4 #[.bool false]
  simpa using this
theorem epochs0 (w : World) : Calls Try.prog 83 #[] w fun e w' => ∃ b3 m b4, e = .returned (.func (.func 109) #[] #[.pointer (some ⟨b3, 0, none⟩), .pointer (some ⟨b4, 0, none⟩)]) ∧
    Blk w' b3 3 #[.int .i64 0] ∧ Blk w' b4 45 #[.map (some m)] ∧ MapKV w' (.map (some m)) [] (fun _ => 0) ∧ w.heap.size ≤ b3 ∧ w.heap.size ≤ m ∧ w.heap.size ≤ b4 ∧ b3 ≠ b4 ∧ Below w.heap.size w w' := by
  have hmf : ∀ (fn : Fn) (first cap : Array Value) (w : World), (Instr.makeFunc fn first cap).run Try.prog w = .ok (.func fn first cap) w := fun _ _ _ _ => rfl
  have hmm := @run_makeMap Try.prog
  go_enter Try.func83, Try.ntmps83
  go_wp2
  go_ret
  refine ⟨w.heap.size, w.heap.size + 1, w.heap.size + 2, rfl, ?_⟩
  refine ⟨((Blk.new w _ _).alloc _).alloc _, ?_, ?_, Nat.le_refl _, by omega, by omega, by omega, (((Below.refl w.heap.size w).alloc (Nat.le_refl _) _).alloc (by simp) _).alloc (by simp; omega) _⟩
  · have := Blk.new ((w.alloc (.cells #[.int .i64 0] 3)).alloc (.map #[] 0)) 45 #[.map (some (w.heap.size + 1))]
    simpa using this
  · have := (MapKV.made (w.alloc (.cells #[.int .i64 0] 3)) (fun _ => 0)).alloc (.cells #[.map (some (w.heap.size + 1))] 45)
    simpa using this
theorem holds0 (w : World) : Calls Try.prog 84 #[] w fun e w' => ∃ m b5, e = .returned (.func (.func 110) #[] #[.pointer (some ⟨b5, 0, none⟩)]) ∧
    Blk w' b5 45 #[.map (some m)] ∧ MapKV w' (.map (some m)) [] (fun _ => 0) ∧ w.heap.size ≤ m ∧ w.heap.size ≤ b5 ∧ Below w.heap.size w w' := by
  have hmf : ∀ (fn : Fn) (first cap : Array Value) (w : World), (Instr.makeFunc fn first cap).run Try.prog w = .ok (.func fn first cap) w := fun _ _ _ _ => rfl
  have hmm := @run_makeMap Try.prog
  go_enter Try.func84, Try.ntmps84
  go_wp2
  go_ret
  refine ⟨w.heap.size, w.heap.size + 1, rfl, ?_⟩
  refine ⟨?_, ?_, Nat.le_refl _, by omega, ((Below.refl w.heap.size w).alloc (Nat.le_refl _) _).alloc (by simp) _⟩
  · have := Blk.new (w.alloc (.map #[] 0)) 45 #[.map (some w.heap.size)]
    simpa using this
  · exact (MapKV.made w (fun _ => 0)).alloc (.cells #[.map (some w.heap.size)] 45)

/-! ### the state of the four rules -/
structure LSt where
  last : Int
  some_ : Bool
  led : Int
  hr : List Int
  hf : Int → Int
  dr : List Int
  df : Int → Int
def LSt.zero : LSt := ⟨0, false, 0, [], fun _ => 0, [], fun _ => 0⟩
/-- What rule k answers. -/
def askE (k : Nat) (s : LSt) (r : LRow) : Int :=
  match k with
  | 0 => kindsE r
  | 1 => ticksE s.last s.some_ r
  | 2 => epochsE s.led s.hr s.hf r
  | _ => holdsE s.dr s.df r
/-- The state behind rule k. -/
def askS (k : Nat) (s : LSt) (r : LRow) : LSt :=
  match k with
  | 0 => s
  | 1 => { s with last := r.tick, some_ := true }
  | 2 => { s with led := epochsL s.led r, hr := epochsR s.hr r, hf := epochsF s.hf r }
  | _ => { s with dr := holdsR s.dr r, df := holdsF s.df r }
/-- The rules from k on, one behind the other: the first answer that is not 0, and the state. -/
def asksE : Nat → Nat → LSt → LRow → Int
  | 0, _, _, _ => 0
  | n + 1, k, s, r => if askE k s r = 0 then asksE n (k + 1) (askS k s r) r else askE k s r
def asksS : Nat → Nat → LSt → LRow → LSt
  | 0, _, s, _ => s
  | n + 1, k, s, r => asksS n (k + 1) (askS k s r) r
def checkL : Nat → LSt → List LRow → Nat × Int
  | _, _, [] => (0, 0)
  | i, s, r :: l => if asksE 4 0 s r = 0 then checkL (i + 1) (asksS 4 0 s r) l else (i, asksE 4 0 s r)

structure LB where
  b1 : Nat
  b2 : Nat
  b3 : Nat
  m1 : Nat
  b4 : Nat
  m2 : Nat
  b5 : Nat
def LB.has (b : LB) (k : Nat) : Prop := k = b.b1 ∨ k = b.b2 ∨ k = b.b3 ∨ k = b.m1 ∨ k = b.m2
structure LInv (w : World) (b : LB) (s : LSt) : Prop where
  c1 : Blk w b.b1 3 #[.int .i64 s.last]
  c2 : Blk w b.b2 4 #[.bool s.some_]
  c3 : Blk w b.b3 3 #[.int .i64 s.led]
  c4 : Blk w b.b4 45 #[.map (some b.m1)]
  c5 : Blk w b.b5 45 #[.map (some b.m2)]
  v1 : MapKV w (.map (some b.m1)) s.hr s.hf
  v2 : MapKV w (.map (some b.m2)) s.dr s.df
  ne : b.b1 ≠ b.b2 ∧ b.b1 ≠ b.b3 ∧ b.b2 ≠ b.b3 ∧ b.b1 ≠ b.b4 ∧ b.b2 ≠ b.b4 ∧ b.b3 ≠ b.b4 ∧ b.b1 ≠ b.b5 ∧ b.b2 ≠ b.b5 ∧ b.b3 ≠ b.b5 ∧ b.b4 ≠ b.b5 ∧ b.m1 ≠ b.m2
section
variable {w w' : World} {b : LB} {s : LSt}
theorem LInv.nm (h : LInv w b s) : (b.b1 ≠ b.m1 ∧ b.b2 ≠ b.m1 ∧ b.b3 ≠ b.m1 ∧ b.b4 ≠ b.m1 ∧ b.b5 ≠ b.m1) ∧ (b.b1 ≠ b.m2 ∧ b.b2 ≠ b.m2 ∧ b.b3 ≠ b.m2 ∧ b.b4 ≠ b.m2 ∧ b.b5 ≠ b.m2) := by
  refine ⟨⟨?_, ?_, ?_, ?_, ?_⟩, ⟨?_, ?_, ?_, ?_, ?_⟩⟩
  · intro e; exact h.v1.ne_blk h.c1 (by rw [e])
  · intro e; exact h.v1.ne_blk h.c2 (by rw [e])
  · intro e; exact h.v1.ne_blk h.c3 (by rw [e])
  · intro e; exact h.v1.ne_blk h.c4 (by rw [e])
  · intro e; exact h.v1.ne_blk h.c5 (by rw [e])
  · intro e; exact h.v2.ne_blk h.c1 (by rw [e])
  · intro e; exact h.v2.ne_blk h.c2 (by rw [e])
  · intro e; exact h.v2.ne_blk h.c3 (by rw [e])
  · intro e; exact h.v2.ne_blk h.c4 (by rw [e])
  · intro e; exact h.v2.ne_blk h.c5 (by rw [e])
theorem LInv.step (h : LInv w b s) (hk : ∀ k, k < w.heap.size → (k = b.b1 ∨ k = b.b2 ∨ k = b.b3 ∨ k = b.b4 ∨ k = b.b5 ∨ k = b.m1 ∨ k = b.m2) → w'.heap[k]? = w.heap[k]?) : LInv w' b s :=
  ⟨(hk _ h.c1.lt (.inl rfl)).trans h.c1, (hk _ h.c2.lt (.inr (.inl rfl))).trans h.c2, (hk _ h.c3.lt (.inr (.inr (.inl rfl)))).trans h.c3, (hk _ h.c4.lt (.inr (.inr (.inr (.inl rfl))))).trans h.c4,
    (hk _ h.c5.lt (.inr (.inr (.inr (.inr (.inl rfl)))))).trans h.c5, h.v1.step fun k e hl => hk k hl (by cases e; simp), h.v2.step fun k e hl => hk k hl (by cases e; simp), h.ne⟩
theorem LInv.below (h : LInv w b s) (hb : Below w.heap.size w w') : LInv w' b s := h.step fun k hl _ => hb.block k hl
theorem LInv.alloc (h : LInv w b s) (o : Obj) : LInv (w.alloc o) b s := h.below ((Below.refl _ _).alloc (Nat.le_refl _) o)

theorem ask0 (h : LInv w b s) (r : LRow) : Calls Try.prog 107 #[aggR r] w fun e w' => e = .returned (.int .i64 (askE 0 s r)) ∧ (askE 0 s r = 0 → LInv w' b (askS 0 s r)) ∧ Kept b.has w w' :=
  (kinds1 r w).mono fun e w' ⟨he, hb⟩ => ⟨he, fun _ => h.below hb, Kept.of_below hb⟩
theorem ask1 (h : LInv w b s) (r : LRow) : Calls Try.prog 108 #[aggR r, .pointer (some ⟨b.b2, 0, none⟩), .pointer (some ⟨b.b1, 0, none⟩)] w fun e w' => e = .returned (.int .i64 (askE 1 s r)) ∧ (askE 1 s r = 0 → LInv w' b (askS 1 s r)) ∧ Kept b.has w w' := by
  refine (ticks1 b.b2 b.b1 _ _ s.some_ s.last r w h.c2 h.c1 (fun e => h.ne.1 e.symm)).mono fun e w' ⟨he, hc, hk⟩ => ⟨he, fun h0 => ?_, hk.mono fun i _ hi => ?_⟩
  · obtain ⟨hc2, hc1⟩ := hc h0
    obtain ⟨n12, n13, n23, n14, n24, n34, n15, n25, n35, n45, nm⟩ := h.ne
    obtain ⟨⟨m1, m2, m3, m4, m5⟩, ⟨k1, k2, k3, k4, k5⟩⟩ := h.nm
    exact ⟨hc1, hc2, h.c3.kept hk (by rintro (e | e); exact n23 e.symm; exact n13 e.symm), h.c4.kept hk (by rintro (e | e); exact n24 e.symm; exact n14 e.symm), h.c5.kept hk (by rintro (e | e); exact n25 e.symm; exact n15 e.symm),
      h.v1.kept hk (by intro i e; cases e; rintro (e | e); exact m2 e.symm; exact m1 e.symm), h.v2.kept hk (by intro i e; cases e; rintro (e | e); exact k2 e.symm; exact k1 e.symm), h.ne⟩
  · rcases hi with rfl | rfl
    · exact .inr (.inl rfl)
    · exact .inl rfl
theorem ask2 (h : LInv w b s) (r : LRow) (hr : wfR r) (hl : s.hr.length < 1000000) : Calls Try.prog 109 #[aggR r, .pointer (some ⟨b.b3, 0, none⟩), .pointer (some ⟨b.b4, 0, none⟩)] w fun e w' => e = .returned (.int .i64 (askE 2 s r)) ∧ (askE 2 s r = 0 → LInv w' b (askS 2 s r)) ∧ Kept b.has w w' := by
  refine (epochs1 b.b3 b.b4 b.m1 _ _ s.led s.hr s.hf r w h.c3 h.c4 h.v1 h.ne.2.2.2.2.2.1 hr hl).mono fun e w' ⟨he, hc, hk⟩ => ⟨he, fun h0 => ?_, hk.mono fun i _ hi => ?_⟩
  · obtain ⟨hc3, hc4, hv⟩ := hc h0
    obtain ⟨n12, n13, n23, n14, n24, n34, n15, n25, n35, n45, nm⟩ := h.ne
    obtain ⟨⟨m1, m2, m3, m4, m5⟩, ⟨k1, k2, k3, k4, k5⟩⟩ := h.nm
    exact ⟨h.c1.kept hk (by rintro (e | e); exact n13 e; exact m1 e), h.c2.kept hk (by rintro (e | e); exact n23 e; exact m2 e), hc3, hc4, h.c5.kept hk (by rintro (e | e); exact n35 e.symm; exact m5 e),
      hv, h.v2.kept hk (by intro i e; cases e; rintro (e | e); exact k3 e.symm; exact nm e.symm), h.ne⟩
  · rcases hi with rfl | rfl
    · exact .inr (.inr (.inl rfl))
    · exact .inr (.inr (.inr (.inl rfl)))
theorem ask3 (h : LInv w b s) (r : LRow) (hr : wfR r) (hl : s.dr.length < 1000000) : Calls Try.prog 110 #[aggR r, .pointer (some ⟨b.b5, 0, none⟩)] w fun e w' => e = .returned (.int .i64 (askE 3 s r)) ∧ (askE 3 s r = 0 → LInv w' b (askS 3 s r)) ∧ Kept b.has w w' := by
  refine (holds1 b.b5 b.m2 _ s.dr s.df r w h.c5 h.v2 hr hl).mono fun e w' ⟨he, hc, hk⟩ => ⟨he, fun h0 => ?_, hk.mono fun i _ hi => ?_⟩
  · obtain ⟨hc5, hv⟩ := hc h0
    obtain ⟨n12, n13, n23, n14, n24, n34, n15, n25, n35, n45, nm⟩ := h.ne
    obtain ⟨⟨m1, m2, m3, m4, m5⟩, ⟨k1, k2, k3, k4, k5⟩⟩ := h.nm
    exact ⟨h.c1.kept hk k1, h.c2.kept hk k2, h.c3.kept hk k3, h.c4.kept hk k4, hc5, h.v1.kept hk (by intro i e; cases e; exact nm), hv, h.ne⟩
  · exact .inr (.inr (.inr (.inr hi)))
end

end Go.Proofs.Ytaajlegdcgfcgaa
