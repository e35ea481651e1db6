/-
  LAYER 12 (dirty): the statements' walks.
-/
import Derived.Test.YtaajlegdcgfcgaaDrain
import Derived.Deep.RegionHeld3
set_option linter.unusedVariables false
set_option linter.unusedSimpArgs false
namespace Go.Proofs.Ytaajlegdcgfcgaa
open Go.RowKit Go.Maps Go.Sort

/-- A set of its own: block s is a dirty.Set whose map lies in block mb (none: there is none yet). -/
structure SetAt (w : World) (s : Nat) (mb : Option Nat) (row : List Int) : Prop where
  blk : Blk w s 47 #[.map mb]
  set_ : MapSet w (.map mb) row
section
variable {w w' : World} {s z : Nat} {mb mz : Option Nat} {row row' rz : List Int}
theorem SetAt.lt (h : SetAt w s mb row) : s < w.heap.size := h.blk.lt
theorem SetAt.map_lt (h : SetAt w s mb row) : ∀ b, mb = some b → b < w.heap.size := fun b e => h.set_.lt b (by rw [e])
theorem SetAt.ne (h : SetAt w s mb row) {g : Nat} {t : TypeId} {cs : Array Value} (hb : Blk w g t cs) : mb ≠ some g := fun e => h.set_.ne_blk hb (by rw [e])
theorem SetAt.turn (h : SetAt w s mb row) (ht : SetTurn s 0 (.map mb) row' w w') : ∃ mb', SetAt w' s mb' row' ∧ (mb' = mb ∨ ∃ b, mb' = some b ∧ w.heap.size ≤ b) ∧ Kept (fun k => k = s ∨ mb = some k) w w' := by
  obtain ⟨⟨mv', h1, h2, h3⟩, hk⟩ := ht
  have hk' : Kept (fun k => k = s ∨ mb = some k) w w' := hk.mono (fun k _ e => e.imp id (fun e => by cases e; rfl))
  rcases h3 with rfl | ⟨b, rfl, hb⟩
  · exact ⟨mb, ⟨h2 _ _ h.blk, h1⟩, .inl rfl, hk'⟩
  · exact ⟨some b, ⟨h2 _ _ h.blk, h1⟩, .inr ⟨b, rfl, hb⟩, hk'⟩
theorem SetAt.below (h : SetAt w s mb row) (hb : Below w.heap.size w w') : SetAt w' s mb row := ⟨h.blk.below hb h.lt, h.set_.below hb⟩
theorem SetAt.drewN (h : SetAt w s mb row) (n : Nat) : SetAt (w.drewN n) s mb row := ⟨h.blk, h.set_.drewN n⟩
/-- Another set's call. -/
theorem SetAt.other (h : SetAt w z mz rz) (hs : SetAt w s mb row) (hk : Kept (fun k => k = s ∨ mb = some k) w w') (hne : z ≠ s) (hm : ∀ b, mb = some b → mz ≠ some b) : SetAt w' z mz rz := by
  refine ⟨h.blk.kept hk (fun e => e.elim hne (fun e => hs.ne h.blk e)), h.set_.kept hk (fun b e e2 => ?_)⟩
  cases e
  rcases e2 with e2 | e2
  · exact h.ne hs.blk (by rw [e2])
  · exact hm b e2 rfl
end

theorem below_drewN {B : Nat} {w : World} (n : Nat) : Below B w (w.drewN n) := ⟨rfl, rfl, rfl, Nat.le_refl _, fun _ _ => rfl⟩
theorem encI_get (x : Int) : (encI x)[0]? = some (.int .i64 x) := rfl
/-- A slice that a literal just made. -/
theorem RdI.lit (w : World) (G : Nat) (hG : G = w.heap.size) (cs : Array Value) (t : TypeId) (fz : Nat × Nat) (l : List Int) (h : cs.toList = l.map (Value.int .i64)) : RdI (w.alloc (.cells cs t fz)) (some ⟨G, 0, none⟩) l.length l := by
  subst hG
  refine ⟨rfl, fun _ => ⟨_, _, rfl, by simp, fun i y hy j v hv => ?_⟩⟩
  have hj : j = 0 := by
    cases j with
    | zero => rfl
    | succ j => simp [encI] at hv
  subst hj
  rw [encI_get] at hv
  cases hv
  rw [show 0 + (i * 1 + 0) = i by omega, cell_of_row _ _ _ cs t fz (heap_alloc_new w _), ← Array.getElem?_toList, h, List.getElem?_map, hy]
  rfl

theorem wf64_lit {l : List Int} (h : (l.all fun x => (Lit.int .i64 x).wf) = true) : ∀ x ∈ l, wf64 x := fun x hx => List.all_eq_true.1 h x hx

theorem new_map {mb mb' : Option Nat} {B n : Nat} (h : mb' = mb ∨ ∃ b, mb' = some b ∧ n ≤ b) (hmb : ∀ b, mb = some b → ¬ b < B) (hB : B ≤ n) : ∀ b, mb' = some b → ¬ b < B := by
  rintro b rfl hlt
  rcases h with h | ⟨b', h, hge⟩
  · exact hmb b h.symm hlt
  · cases h; omega

set_option maxRecDepth 100000 in
set_option maxHeartbeats 400000 in
/-- reevelaw12.awake -/
theorem awake12 (w : World) : Calls Try.prog 19 #[] w fun e w' => e = .returned (.bool true) ∧ Below w.heap.size w w' := by
  go_enter Try.func19, Try.ntmps19
  go_wp2_with fail
  with_reducible refine (dNew _).mono ?_
  rintro e w1 ⟨rfl, rfl⟩
  go_wp2_with fail
  have hq0 : SetAt (w.alloc (.cells #[.map none] 47)) w.heap.size none [] := ⟨Blk.new _ _ _, MapSet.nil _⟩
  have hq1 := hq0.below ((Below.refl _ _).alloc (Nat.le_refl _) (.cells #[.int .i64 3, .int .i64 1, .int .i64 3] 3))
  have hb1 : Below w.heap.size w _ := ((Below.refl w.heap.size w).alloc (Nat.le_refl _) (.cells #[.map none] 47)).alloc (by simp) (.cells #[.int .i64 3, .int .i64 1, .int .i64 3] 3)
  have hc := dMark w.heap.size 0 _ _ _ [] _ 3 3 [3, 1, 3] _ hq1.blk rfl hq1.set_ (RdI.lit _ (w.heap.size + 1) (by simp) _ 3 (0, 0) [3, 1, 3] rfl) (wf64_lit (by decide)) (by decide)
  rw [show markAll [] [3, 1, 3] = [1, 3] by decide] at hc
  with_reducible refine hc.mono ?_
  clear hc
  rintro e w2 ⟨rfl, ht⟩
  obtain ⟨mb, hs2, hm2, hk2⟩ := hq1.turn ht
  have hmb : ∀ b, mb = some b → ¬ b < w.heap.size := by
    rintro b rfl hlt
    rcases hm2 with e | ⟨b', e, hge⟩
    · cases e
    · cases e
      simp at hge
      omega
  clear hm2
  have hb2 := hb1.trans (hk2.below (by simp; omega) (by rintro i hi (e | e) <;> first | omega | cases e))
  clear ht hk2 hb1 hq0 hq1
  go_wp2_with fail
  have hc := dHas w.heap.size 0 _ _ _ _ 3 w2 hs2.blk rfl hs2.set_ (by decide)
  rw [show decide ((3 : Int) ∈ [1, 3]) = true by decide] at hc
  with_reducible refine hc.mono ?_
  clear hc
  rintro e w' ⟨rfl, rfl⟩
  go_wp2_with fail
  with_reducible refine (dLen w.heap.size 0 _ _ _ _ w2 hs2.blk rfl hs2.set_).mono ?_
  rintro e w' ⟨rfl, rfl⟩
  go_wp2_with fail
  with_reducible refine (dDrain w.heap.size 0 _ _ _ _ w2 hs2.blk rfl hs2.set_ (by decide)).mono ?_
  rintro e w3 ⟨A, n, c, rfl, ho3, ht3⟩
  obtain ⟨mb3, hs3, hm3, hk3⟩ := hs2.turn ht3
  have hmb3 := new_map hm3 hmb hb2.size
  have hb3 := hb2.trans (hk3.below (by have := hb2.size; omega) (fun i hi e => e.elim (fun e => by omega) (fun e => hmb _ e hi)))
  have hn := ho3.len
  have hr3 := ho3.rd (sz := 1) (enc := encI) (fun _ => rfl)
  clear ht3 hk3 hb2 hs2 ho3 hm3 hmb
  go_wp2_with fail
  have hc := same01 A (some ⟨w3.heap.size, 0, none⟩) n c 2 2 [1, 3] [1, 3] _ (hr3.alloc _) (RdI.lit w3 _ rfl #[.int .i64 1, .int .i64 3] 3 (0, 0) [1, 3] rfl) (by simp at hn; omega) (by decide)
  rw [show decide (([1, 3] : List Int) = [1, 3]) = true by decide] at hc
  with_reducible refine hc.mono ?_
  clear hc
  rintro e w' ⟨rfl, q, rfl⟩
  have hs4 := (hs3.below ((Below.refl _ _).alloc (Nat.le_refl _) (.cells #[.int .i64 1, .int .i64 3] 3))).drewN q
  have hb4 : Below w.heap.size w _ := (hb3.alloc hb3.size (.cells #[.int .i64 1, .int .i64 3] 3)).trans (below_drewN q)
  clear hs3 hb3 hr3
  go_wp2_with fail
  with_reducible refine (dDrain w.heap.size 0 _ _ _ _ _ hs4.blk rfl hs4.set_ (by decide)).mono ?_
  rintro e w5 ⟨A5, n5, c5, rfl, ho5, ht5⟩
  obtain ⟨mb5, hs5, hm5, hk5⟩ := hs4.turn ht5
  have hmb5 := new_map hm5 hmb3 hb4.size
  have hb5 := hb4.trans (hk5.below hb4.size (fun i hi e => e.elim (fun e => by omega) (fun e => hmb3 _ e hi)))
  obtain rfl : n5 = 0 := ho5.len.symm
  clear ht5 hk5 hb4 hs4 ho5 hm5 hmb3
  go_wp2_with fail
  have hc := dClean w.heap.size 0 _ _ _ _ 1 _ hs5.blk rfl hs5.set_ (by decide)
  rw [show decide ((1 : Int) ∈ []) = false by decide] at hc
  with_reducible refine hc.mono ?_
  clear hc
  rintro e w6 ⟨rfl, ht6⟩
  obtain ⟨mb6, hs6, _, hk6⟩ := hs5.turn ht6
  have hb6 := hb5.trans (hk6.below hb5.size (fun i hi e => e.elim (fun e => by omega) (fun e => hmb5 _ e hi)))
  clear ht6 hk6 hb5 hs5 hs6 hmb5
  go_wp2
  go_ret
  exact ⟨rfl, hb6⟩

/-- A call of the law. -/
structure Act12 where
  kind : Int
  n : Int
  m : Int
def encA12 (a : Act12) : List Value := [.int .i64 a.kind, .int .i64 a.n, .int .i64 a.m]
def wfA12 (a : Act12) : Prop := wf64 a.n ∧ wf64 a.m

theorem put_len {w w' : World} {A A' : Option Addr} {m m' : Nat} {l : List Int} {x : Int} (h : RdI w A m l) (h' : RdI w' A' m' (putR l x)) : m' ≤ m + 1 := by
  have := length_putR l x
  have h1 := h.len
  have h2 := h'.len
  split at this <;> omega
theorem drop_len {w w' : World} {A A' : Option Addr} {m m' : Nat} {l : List Int} {x : Int} (h : RdI w A m l) (h' : RdI w' A' m' (l.filter (· != x))) : m' ≤ m := by
  have := List.length_filter_le (· != x) l
  have h1 := h.len
  have h2 := h'.len
  omega

theorem quiet_l {P : Program} {f : FuncId} {args : Array Value} {w : World} {n : Nat} {v : Value} (h : Calls P f args (w.drewN n) fun e w' => e = .returned v ∧ w.drewN n = w') : Calls P f args (w.drewN n) fun e w'' => e = .returned v ∧ ∃ m, w'' = w.drewN m :=
  h.mono fun _ _ ⟨he, hm⟩ => ⟨he, n, hm.symm⟩

/-- Two sets of the call's own, and nothing old turned. -/
structure Two12 (w : World) (s z : Nat) (rs rz : List Int) (ms mz : Option Nat) (wr : World) : Prop where
  s_ : SetAt wr s ms rs
  z_ : SetAt wr z mz rz
  sep : ∀ b, ms = some b → mz ≠ some b
  news : ∀ b, ms = some b → ¬ b < w.heap.size
  newz : ∀ b, mz = some b → ¬ b < w.heap.size
  low : w.heap.size ≤ s ∧ w.heap.size ≤ z ∧ s ≠ z
  below : Below w.heap.size w wr
section
variable {w wr w' : World} {s z : Nat} {rs rz rs' : List Int} {ms mz : Option Nat}
theorem Two12.swap (h : Two12 w s z rs rz ms mz wr) : Two12 w z s rz rs mz ms wr :=
  ⟨h.z_, h.s_, fun b e e2 => h.sep b e2 e, h.newz, h.news, ⟨h.low.2.1, h.low.1, fun e => h.low.2.2 e.symm⟩, h.below⟩
theorem Two12.step (h : Two12 w s z rs rz ms mz wr) (hb : Below wr.heap.size wr w') : Two12 w s z rs rz ms mz w' :=
  ⟨h.s_.below hb, h.z_.below hb, h.sep, h.news, h.newz, h.low, h.below.trans (hb.mono h.below.size)⟩
theorem Two12.drewN (h : Two12 w s z rs rz ms mz wr) (n : Nat) : Two12 w s z rs rz ms mz (wr.drewN n) := h.step (below_drewN n)
theorem Two12.turn (h : Two12 w s z rs rz ms mz wr) (ht : SetTurn s 0 (.map ms) rs' wr w') : ∃ ms', Two12 w s z rs' rz ms' mz w' ∧ ∀ A m row, RdI wr A m row → RdI w' A m row := by
  obtain ⟨ms', hs', hm, hk⟩ := h.s_.turn ht
  refine ⟨ms', ⟨hs', h.z_.other h.s_ hk (fun e => h.low.2.2 e.symm) h.sep, ?_, new_map hm h.news h.below.size, h.newz, h.low, ?_⟩, ?_⟩
  · intro b e e2
    rcases hm with hm | ⟨b', hm, hge⟩
    · exact h.sep b (by rw [← hm, e]) e2
    · rw [hm] at e
      cases e
      have := h.z_.map_lt b e2
      omega
  · exact h.below.trans (hk.below h.below.size (fun i hi e => e.elim (fun e => by have := h.low.1; omega) (fun e => h.news _ e hi)))
  · intro A m row hr
    refine hr.kept hk (fun hm0 ad hA => ?_)
    obtain ⟨b', o', x, hA', _, hc⟩ := RdI.at_ hr hm0
    rw [hA] at hA'
    cases hA'
    rintro (e | e)
    · have hblk := h.s_.blk
      have e' : b' = s := e
      subst e'
      rw [hblk.cell] at hc
      rcases Nat.eq_zero_or_pos (o' + 0) with h0 | h0
      · rw [h0] at hc; cases hc
      · rw [Array.getElem?_eq_none (by simp; omega)] at hc; cases hc
    · exact h.s_.set_.ne_cell hc (by rw [e])
/-- Mark, Clean, Drain, Has, Len of the first of two. -/
theorem two_mark (h : Two12 w s z rs rz ms mz wr) {A : Option Addr} {n c : Nat} {l : List Int} (hl : RdI wr A n l) (hw : ∀ x ∈ l, wf64 x) (hn : rs.length + n ≤ 1000000) (r2 : List Int) (hr2 : markAll rs l = r2) (N : Int) (hN : (r2.length : Int) - rs.length = N) :
    Calls Try.prog 23 #[.pointer (some ⟨s, 0, none⟩), .slice A n c] wr fun e w' => e = .returned (.int .i64 N) ∧ ∃ ms', Two12 w s z r2 rz ms' mz w' ∧ ∀ A m row, RdI wr A m row → RdI w' A m row := by
  subst hr2
  refine (dMark s 0 _ _ _ rs A n c l wr h.s_.blk rfl h.s_.set_ hl hw hn).mono ?_
  rintro e w' ⟨rfl, ht⟩
  exact ⟨ret_int hN, h.turn ht⟩
theorem two_clean (h : Two12 w s z rs rz ms mz wr) (x : Int) (hx : wf64 x) :
    Calls Try.prog 25 #[.pointer (some ⟨s, 0, none⟩), .int .i64 x] wr fun e w' => e = .returned (.bool (decide (x ∈ rs))) ∧ ∃ ms', Two12 w s z (rs.filter (· != x)) rz ms' mz w' ∧ ∀ A m row, RdI wr A m row → RdI w' A m row := by
  refine (dClean s 0 _ _ _ rs x wr h.s_.blk rfl h.s_.set_ hx).mono ?_
  rintro e w' ⟨rfl, ht⟩
  exact ⟨rfl, h.turn ht⟩
theorem two_drain (h : Two12 w s z rs rz ms mz wr) (hn : rs.length ≤ 1000000) :
    Calls Try.prog 26 #[.pointer (some ⟨s, 0, none⟩)] wr fun e w' => ∃ A n c, e = .returned (.slice A n c) ∧ RdI w' A n rs ∧ ∃ ms', Two12 w s z [] rz ms' mz w' ∧ ∀ A m row, RdI wr A m row → RdI w' A m row := by
  refine (dDrain s 0 _ _ _ rs wr h.s_.blk rfl h.s_.set_ hn).mono ?_
  rintro e w' ⟨A, n, c, rfl, ho, ht⟩
  exact ⟨A, n, c, rfl, ho.rd (sz := 1) (enc := encI) (fun _ => rfl), h.turn ht⟩
theorem two_has (h : Two12 w s z rs rz ms mz wr) (x : Int) (hx : wf64 x) :
    Calls Try.prog 27 #[.pointer (some ⟨s, 0, none⟩), .int .i64 x] wr fun e w' => e = .returned (.bool (decide (x ∈ rs))) ∧ wr = w' := dHas s 0 _ _ _ rs x wr h.s_.blk rfl h.s_.set_ hx
theorem two_len (h : Two12 w s z rs rz ms mz wr) (N : Nat) (hN : rs.length = N) :
    Calls Try.prog 28 #[.pointer (some ⟨s, 0, none⟩)] wr fun e w' => e = .returned (.int .i64 N) ∧ wr = w' := by
  subst hN
  exact dLen s 0 _ _ _ rs wr h.s_.blk rfl h.s_.set_
end

set_option maxRecDepth 100000 in
set_option maxHeartbeats 4000000 in
/-- reevelaw12.DirtyPlays -/
theorem plays12 (A : Option Addr) (n c : Nat) (l : List Act12) (w : World) (h : Rd encA12 3 w A n l) (hw : ∀ a ∈ l, wfA12 a) :
    Calls Try.prog 5 #[.slice A n c] w fun e w' => e = .returned (.bool true) ∧ Below w.heap.size w w' := by
  by_cases hbig : 120 < n
  · go_enter Try.func5, Try.ntmps5
    go_wp2_with (go_at_call 19; with_reducible refine (awake12 _).mono ?_; rintro e w' ⟨rfl, hb⟩)
    go_ret
    exact ⟨rfl, hb⟩
  · have hsm : n ≤ 120 := by omega
    have hn : n ≤ 140737488351232 := by omega
    clear hbig
    go_enter Try.func5, Try.ntmps5
    go_wp2_with (go_at_call 20; with_reducible refine (dNew _).mono ?_; rintro e w' ⟨rfl, rfl⟩)
    go_loopw [5, 6] (fun v i wr => ∃ (k m cr : Nat) (Ar : Option Addr) (row : List Int) (ms mz : Option Nat), k ≤ n ∧ i = .int .i64 k ∧ v = .slice Ar m cr ∧ Hid (m ≤ 2 * k) ∧ RdI wr Ar m row ∧ m ≤ cr ∧ Two12 w w.heap.size (w.heap.size + 1) row row ms mz wr) (fun _ i _ => n - (intOf i).toNat)
    case atStart =>
      refine ⟨0, 0, 0, none, [], none, none, Nat.zero_le _, rfl, rfl, Lib.hid (by omega), Rd.nil _ _, Nat.le_refl _, ?_⟩
      exact ⟨⟨(Blk.new w _ _).alloc _, MapSet.nil _⟩, ⟨by have := Blk.new (w.alloc (.cells #[.map none] 47)) 47 #[.map none]; simpa using this, MapSet.nil _⟩, (fun b e => by cases e), (fun b e => by cases e), (fun b e => by cases e),
        ⟨Nat.le_refl _, by omega, by omega⟩, ((Below.refl w.heap.size w).alloc (Nat.le_refl _) _).alloc (by simp) _⟩
    case round =>
      obtain ⟨k, m, cr, Ar, row, ms, mz, hk, rfl, rfl, hm2, hrow, hcap, hI⟩ := hrel
      by_cases hlt : k < n
      · obtain ⟨ab, ao, a, rfl, ha, hal, hcells⟩ := h.at_ hlt
        have hc0 : ∀ W, Below w.heap.size w W → W.cell? ⟨ab, ao + k * 3, none⟩ = some (.int .i64 a.kind) := fun W hb => (hb.cell (p := ⟨ab, ao + k * 3, none⟩) hal).trans (hcells 0 _ rfl)
        have hc1 : ∀ W, Below w.heap.size w W → W.cell? ⟨ab, ao + k * 3 + 1, none⟩ = some (.int .i64 a.n) := fun W hb => (hb.cell (p := ⟨ab, ao + k * 3 + 1, none⟩) hal).trans (hcells 1 _ rfl)
        have hc2 : ∀ W, Below w.heap.size w W → W.cell? ⟨ab, ao + k * 3 + 2, none⟩ = some (.int .i64 a.m) := fun W hb => (hb.cell (p := ⟨ab, ao + k * 3 + 2, none⟩) hal).trans (hcells 2 _ rfl)
        obtain ⟨hw1, hw2⟩ := hw a (List.mem_of_getElem? ha)
        have hm3 := hm2.out
        have hmN : m ≤ 1000 := by omega
        have hd0 := hc0 wr hI.below
        have hd1 := hc1 wr hI.below
        have hd2 := hc2 wr hI.below
        have HC := Lib.hid (And.intro hc1 hc2)
        have HM := Lib.hid (And.intro hm3 (And.intro hw ha))
        clear hcells hm3 hc0 hc1 hc2 hw ha hm2 hal
        have hlen := hrow.len
        have HLEN := Lib.hid hlen
        clear hlen
        -- what stands behind the switch
        have fin : True := trivial
        by_cases hk1 : a.kind = 1
        · have hq1 : (a.kind == 1) = true := beq_iff_eq.2 hk1
          clear hk1
          go_wp2_with (go_at_call 21; with_reducible refine (has12 _ _ _ _ _ _ hrow (by omega)).mono ?_; rintro e w' ⟨rfl, rfl⟩)
          go_region_held3 (fun w' => w'.cell? ⟨ab, ao + k * 3 + 1, none⟩ = some (.int .i64 a.n) ∧ w'.cell? ⟨ab, ao + k * 3 + 2, none⟩ = some (.int .i64 a.m)) (first | exact ⟨hd1, hd2⟩ | exact ⟨HC.out.1 _ hB1, HC.out.2 _ hB1⟩ | exact ⟨HC.out.1 _ hB2, HC.out.2 _ hB2⟩)
            (first
              | (go_at_call 22; have hcx := put12 Ar m cr row a.n _ hrow.drew (by omega) hcap; (with_reducible refine hcx.mono ?_); clear hcx; rintro e w1 ⟨A1, m1, c1, rfl, hr1, hcp1, hb1⟩; have hI1 := hI.step (w' := w1) ((Below.refl wr.heap.size wr).drew.trans hb1); have hB1 := hI1.below; have hm1 := put_len hrow hr1)
              | (go_at_call 22; have hcx := put12 A1 m1 c1 (putR row a.n) a.m _ hr1 (by omega) hcp1; (with_reducible refine hcx.mono ?_); clear hcx; rintro e w2 ⟨A2, m2, c2, rfl, hr2, hcp2, hb2⟩; have hI2 := hI1.step (w' := w2) hb2; have hB2 := hI2.below; have hm2 := put_len hr1 hr2))
          have HLEN2 := Lib.hid hr2.len
          have hd1 := HC.out.1 _ hB2
          have hd2 := HC.out.2 _ hB2
          clear hI1 hB1 hb1 hb2 hr1 hcp1 hI hrow
          go_wp2_with fail
          have hsub : IntKind.i64.wrap ((m2 : Int) - (m : Int)) = (m2 : Int) - (m : Int) := IntWalk.i64_in _ (by omega)
          have hneq : (((m2 : Int) - (m : Int)) != ((m2 : Int) - (m : Int))) = false := by simp
          go_region_held3 (fun w' => w'.cell? ⟨ab, ao + k * 3 + 1, none⟩ = some (.int .i64 a.n) ∧ w'.cell? ⟨ab, ao + k * 3 + 2, none⟩ = some (.int .i64 a.m)) (first | exact ⟨HC.out.1 _ hI4.below, HC.out.2 _ hI4.below⟩ | exact ⟨hd1, hd2⟩ | exact ⟨he1, he2⟩ | exact ⟨HC.out.1 _ (hI3.below.alloc hI3.below.size _), HC.out.2 _ (hI3.below.alloc hI3.below.size _)⟩ | exact ⟨HC.out.1 _ (hI2.below.alloc hI2.below.size _).drew, HC.out.2 _ (hI2.below.alloc hI2.below.size _).drew⟩)
            (first
              | (go_at_call 23; have hcx := two_mark (hI2.step (w' := (w2.alloc (.cells #[.int .i64 a.n, .int .i64 a.m] 3)).drew) (((Below.refl _ w2).alloc (Nat.le_refl _) _).drew)) (A := some ⟨w2.heap.size, 0, none⟩) (n := 2) (c := 2) (l := [a.n, a.m]) ((RdI.lit w2 _ rfl _ 3 (0, 0) [a.n, a.m] rfl).drew) (by simp [hw1, hw2]) (by have := HLEN.out; omega) (putR (putR row a.n) a.m) rfl ((m2 : Int) - m) (by have := HLEN.out; have := HLEN2.out; omega); (with_reducible refine hcx.mono ?_); clear hcx; rintro e w3 ⟨rfl, ms3, hI3, hr3⟩; have hr3' := hr3 _ _ _ ((hr2.alloc _).drew); have he1 := HC.out.1 _ hI3.below; have he2 := HC.out.2 _ hI3.below; clear hr3)
              | (go_at_call 23; have hcx := two_mark (hI3.swap.step (w' := w3.alloc (.cells #[.int .i64 a.n, .int .i64 a.m] 3)) ((Below.refl _ w3).alloc (Nat.le_refl _) _)) (A := some ⟨w3.heap.size, 0, none⟩) (n := 2) (c := 2) (l := [a.n, a.m]) (RdI.lit w3 _ rfl _ 3 (0, 0) [a.n, a.m] rfl) (by simp [hw1, hw2]) (by have := HLEN.out; omega) (putR (putR row a.n) a.m) rfl ((m2 : Int) - m) (by have := HLEN.out; have := HLEN2.out; omega); (with_reducible refine hcx.mono ?_); clear hcx; rintro e w4 ⟨rfl, mz4, hI4, hr4⟩; have hr4' := hr4 _ _ _ (hr3'.alloc _); have hB4 := hI4.below; clear hr4))
          clear hd1 hd2 he1 he2 hI2 hI3 hr3' hr2 hB2 hsub hneq
          have hI5 := hI4.swap
          have hr5 := hr4'
          have hl5 := HLEN2.out
          have hmd := HC.out.2 _ hI5.below
          have hbb : (decide (a.m ∈ putR (putR row a.n) a.m) != decide (a.m ∈ putR (putR row a.n) a.m)) = false := bne_self_eq_false _
          have hii : (((m2 : Nat) : Int) != ((m2 : Nat) : Int)) = false := bne_self_eq_false _
          have HL5 := Lib.hid hl5
          clear hl5
          go_wp2_with fail
          skip
          go_quiet ((first
            | (go_at_call 27; with_reducible exact quiet_l (two_has (hI5.drewN _) a.m hw2))
            | (go_at_call 21; with_reducible exact quiet_l (has12 A2 m2 c2 (putR (putR row a.n) a.m) a.m _ (hr5.drewN _) (by omega)))
            | (go_at_call 28; with_reducible exact quiet_l (two_len (hI5.drewN _) m2 HL5.out))
            | (go_at_call 28; with_reducible exact quiet_l (two_len (hI5.swap.drewN _) m2 HL5.out))))
          go_wp2
          go_roundw
          case rel => exact ⟨k + 1, m2, c2, A2, _, _, _, by omega, by go_num, rfl, Lib.hid (by have := HM.out.1; omega), hr5.drewN _, hcp2, hI5.drewN _⟩
          case measure => simp [intOf]; omega
        · have hq1 : (a.kind == 1) = false := beq_eq_false_iff_ne.2 hk1
          clear hk1
          by_cases hk2 : a.kind = 2
          · have hq2 : (a.kind == 2) = true := beq_iff_eq.2 hk2
            clear hk2
            go_wp2_with (first
              | (go_at_call 21; with_reducible refine (has12 _ _ _ _ _ _ hrow (by omega)).mono ?_; rintro e w' ⟨rfl, rfl⟩)
              | (go_at_call 24; have hcx := drop12 Ar m cr row a.n _ hrow (by omega); (with_reducible refine hcx.mono ?_); clear hcx; rintro e w1 ⟨A1, m1, c1, rfl, hr1, hcp1, hb1⟩; have hI1 := hI.step (w' := w1) hb1; have hm1 := drop_len hrow hr1; have he1 := HC.out.1 _ hI1.below)
              | (go_at_call 25; have hcx := two_clean hI1 a.n hw1; (with_reducible refine hcx.mono ?_); clear hcx; rintro e w2 ⟨rfl, ms2, hI2, hr2⟩; have hr2' := hr2 _ _ _ hr1; have he2 := HC.out.1 _ hI2.below; have hbq : (decide (a.n ∈ row) != decide (a.n ∈ row)) = false := bne_self_eq_false _; clear hr2)
              | (go_at_call 25; have hcx := two_clean hI2.swap a.n hw1; (with_reducible refine hcx.mono ?_); clear hcx; rintro e w3 ⟨rfl, mz3, hI3, hr3⟩; have hr3' := hr3 _ _ _ hr2'; clear hr3))
            clear hd1 hd2 he1 he2 hI hI1 hI2 hr1 hr2'
            have hI5 := hI3.swap
            have hr5 := hr3'
            have hl5 := hr3'.len
            have hmd := HC.out.2 _ hI5.below
            have hbb : (decide (a.m ∈ row.filter (· != a.n)) != decide (a.m ∈ row.filter (· != a.n))) = false := bne_self_eq_false _
            have hii : (((m1 : Nat) : Int) != ((m1 : Nat) : Int)) = false := bne_self_eq_false _
            have HL5 := Lib.hid hl5
            clear hl5
            go_wp2_with fail
            skip
            go_quiet ((first
              | (go_at_call 27; with_reducible exact quiet_l (two_has (hI5.drewN _) a.m hw2))
              | (go_at_call 21; with_reducible exact quiet_l (has12 A1 m1 c1 (row.filter (· != a.n)) a.m _ (hr5.drewN _) (by omega)))
              | (go_at_call 28; with_reducible exact quiet_l (two_len (hI5.drewN _) m1 HL5.out))
              | (go_at_call 28; with_reducible exact quiet_l (two_len (hI5.swap.drewN _) m1 HL5.out))))
            go_wp2
            go_roundw
            case rel => exact ⟨k + 1, m1, c1, A1, _, _, _, by omega, by go_num, rfl, Lib.hid (by have := HM.out.1; omega), hr5.drewN _, hcp1, hI5.drewN _⟩
            case measure => simp [intOf]; omega
          · have hq2 : (a.kind == 2) = false := beq_eq_false_iff_ne.2 hk2
            clear hk2
            by_cases hk3 : a.kind = 3
            · have hq3 : (a.kind == 3) = true := beq_iff_eq.2 hk3
              clear hk3
              go_wp2_with (first
                | (go_at_call 21; with_reducible refine (has12 _ _ _ _ _ _ hrow (by omega)).mono ?_; rintro e w' ⟨rfl, rfl⟩)
                | (go_at_call 26; have hcx := two_drain hI (by have := HLEN.out; omega); (with_reducible refine hcx.mono ?_); clear hcx; rintro e w1 ⟨A1, m1, c1, rfl, ho1, ms1, hI1, hr1⟩; have hr1' := hr1 _ _ _ hrow; have hn1 := ho1.len; have HN1 := Lib.hid hn1; clear hr1 hn1)
                | (go_at_call 16; have hcx := same01_t A1 Ar m1 c1 m cr row _ ho1 hr1' (by have := HN1.out; have := HLEN.out; omega) (by omega); (with_reducible refine hcx.mono ?_); clear hcx; rintro e w' ⟨rfl, q1, rfl⟩)
                | (go_at_call 26; have hcx := two_drain (hI1.swap.drewN q1) (by have := HLEN.out; omega); (with_reducible refine hcx.mono ?_); clear hcx; rintro e w2 ⟨A2, m2, c2, rfl, ho2, mz2, hI2, hr2⟩; have hr2' := hr2 _ _ _ (hr1'.drewN q1); have hn2 := ho2.len; have HN2 := Lib.hid hn2; clear hr2 hn2)
                | (go_at_call 16; have hcx := same01_t A2 Ar m2 c2 m cr row _ ho2 hr2' (by have := HN2.out; have := HLEN.out; omega) (by omega); (with_reducible refine hcx.mono ?_); clear hcx; rintro e w' ⟨rfl, q2, rfl⟩))
              clear hd1 hd2 hI hI1 hr1' ho1 ho2 hr2' hrow
              have hI5 := hI2.swap.drewN q2
              have hr5 := (Rd.nil _ _ : RdI (w2.drewN q2) none 0 [])
              have hl5 := (rfl : ([] : List Int).length = 0)
              have hmd := HC.out.2 _ hI5.below
              have hbb : (decide (a.m ∈ ([] : List Int)) != decide (a.m ∈ ([] : List Int))) = false := bne_self_eq_false _
              have hii : (((0 : Nat) : Int) != ((0 : Nat) : Int)) = false := bne_self_eq_false _
              have HL5 := Lib.hid hl5
              clear hl5
              go_wp2_with fail
              generalize w2.drewN q2 = w5 at hI5 hr5 hmd ⊢
              go_quiet ((first
                | (go_at_call 27; with_reducible exact quiet_l (two_has (hI5.drewN _) a.m hw2))
                | (go_at_call 21; with_reducible exact quiet_l (has12 none 0 0 (([] : List Int)) a.m _ (hr5.drewN _) (by omega)))
                | (go_at_call 28; with_reducible exact quiet_l (two_len (hI5.drewN _) 0 rfl))
                | (go_at_call 28; with_reducible exact quiet_l (two_len (hI5.swap.drewN _) 0 rfl))))
              go_wp2
              go_roundw
              case rel => exact ⟨k + 1, 0, 0, none, _, _, _, by omega, by go_num, rfl, Lib.hid (by have := HM.out.1; omega), hr5.drewN _, Nat.le_refl _, hI5.drewN _⟩
              case measure => simp [intOf]; omega
            · have hq3 : (a.kind == 3) = false := beq_eq_false_iff_ne.2 hk3
              clear hk3
              go_wp2_with (go_at_call 21; with_reducible refine (has12 _ _ _ _ _ _ hrow (by omega)).mono ?_; rintro e w' ⟨rfl, rfl⟩)
              clear hd1 hd2
              have hI5 := hI
              have hr5 := hrow
              have hl5 := HLEN.out
              have hmd := HC.out.2 _ hI5.below
              have hbb : (decide (a.m ∈ row) != decide (a.m ∈ row)) = false := bne_self_eq_false _
              have hii : (((m : Nat) : Int) != ((m : Nat) : Int)) = false := bne_self_eq_false _
              have HL5 := Lib.hid hl5
              clear hl5
              go_wp2_with fail
              skip
              go_quiet ((first
                | (go_at_call 27; with_reducible exact quiet_l (two_has (hI5.drewN _) a.m hw2))
                | (go_at_call 21; with_reducible exact quiet_l (has12 Ar m cr (row) a.m _ (hr5.drewN _) (by omega)))
                | (go_at_call 28; with_reducible exact quiet_l (two_len (hI5.drewN _) m HL5.out))
                | (go_at_call 28; with_reducible exact quiet_l (two_len (hI5.swap.drewN _) m HL5.out))))
              go_wp2
              go_roundw
              case rel => exact ⟨k + 1, m, cr, Ar, _, _, _, by omega, by go_num, rfl, Lib.hid (by have := HM.out.1; omega), hr5.drewN _, hcap, hI5.drewN _⟩
              case measure => simp [intOf]; omega
      · have hB0 := hI.below
        clear hI hrow hm2
        go_wp2_with (first
          | (go_at_call 23; with_reducible refine (dMark_nil _ _ _ _).mono ?_; rintro e w' ⟨rfl, rfl⟩)
          | (go_at_call 28; with_reducible refine (dLen_nil _).mono ?_; rintro e w' ⟨rfl, rfl⟩)
          | (go_at_call 25; with_reducible refine (dClean_nil _ _).mono ?_; rintro e w' ⟨rfl, rfl⟩)
          | (go_at_call 27; with_reducible refine (dHas_nil _ _).mono ?_; rintro e w' ⟨rfl, rfl⟩)
          | (go_at_call 26; with_reducible refine (dDrain_nil _).mono ?_; rintro e w' ⟨rfl, rfl⟩)
          | (go_at_call 19; with_reducible refine (awake12 _).mono ?_; rintro e w' ⟨rfl, hb9⟩))
        go_ret
        exact ⟨rfl, hB0.trans ((Below.refl _ _).alloc hB0.size _ |>.trans (hb9.mono (by have := hB0.size; simp; omega)))⟩

end Go.Proofs.Ytaajlegdcgfcgaa
