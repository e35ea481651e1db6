/-
  LAYER 9 (heap): which of two things is less.
  LAYER 9 (heap): Less, less.
  LAYER 9 (heap): the order of things; the row as a function.
-/
import Derived.Test.YtcafmodenbifhaaHeapW
import Derived.Test.YtcafmodenbifhaaShelf
import Derived.Test.YtcafmodenbifhaaTRes
import Derived.ChangeKeysEq
import Derived.Laws.StructEq
set_option linter.unusedVariables false
set_option linter.unusedSimpArgs false
namespace Go.Proofs.Ytcafmodenbifhaa
open Go.RowKit Go.Maps

/-- A block of whole numbers, read as a list. -/
theorem rdI9_of_blk {w : World} {g : Nat} {t : TypeId} {l : List Int} {n : Nat} (h : Blk w g t (l.map (Value.int .i64)).toArray) (hn : l.length = n) : RdI w (some ⟨g, 0, none⟩) n l := by
  refine ⟨hn, fun _ => ⟨g, 0, rfl, h.lt, fun i x hx j v hv => ?_⟩⟩
  have hj : j = 0 ∧ v = .int .i64 x := by
    cases j with
    | zero => simp [encI] at hv; exact ⟨rfl, hv.symm⟩
    | succ j => simp [encI] at hv
  obtain ⟨rfl, rfl⟩ := hj
  rw [show 0 + (i * 1 + 0) = i by omega, h.cell i]
  simp [hx]
def cmpI9 (a b : Int) : Int := if a < b then -1 else if b < a then 1 else 0
theorem cmpCmp9_t (a b : Int) (w : World) : Calls Try.prog 59 #[.int .i64 a, .int .i64 b] w fun e w' => e = .returned (.int .i64 (cmpI9 a b)) ∧ w' = w := by
  refine (Try.cmp_Compare_int a b w).mono ?_
  rintro e w' ⟨rfl, rfl⟩
  exact ⟨ret_int (by unfold cmpI9; first | rfl | (simp only [Lib.compareInt]; omega)), rfl⟩
def cmpLs : List Int → List Int → Int
  | [], [] => 0
  | [], _ :: _ => -1
  | _ :: _, [] => 1
  | a :: l, b :: r => if cmpI9 a b ≠ 0 then cmpI9 a b else cmpLs l r
theorem cmpLs_drop {l r : List Int} {k : Nat} {a b : Int} (ha : l[k]? = some a) (hb : r[k]? = some b) : cmpLs (l.drop k) (r.drop k) = if cmpI9 a b ≠ 0 then cmpI9 a b else cmpLs (l.drop (k + 1)) (r.drop (k + 1)) := by
  obtain ⟨h1, e1⟩ := List.getElem?_eq_some_iff.1 ha
  obtain ⟨h2, e2⟩ := List.getElem?_eq_some_iff.1 hb
  rw [List.drop_eq_getElem_cons h1, List.drop_eq_getElem_cons h2, e1, e2]
  rfl
set_option maxRecDepth 100000 in
set_option maxHeartbeats 1600000 in
theorem cmpSlices_t (A B : Option Addr) (n c d : Nat) (l r : List Int) (w : World) (h : RdI w A n l) (h' : RdI w B n r) (hn : n ≤ 1000000) :
    Calls Try.prog 140 #[.slice A n c, .slice B n d] w fun e w' => e = .returned (.int .i64 (cmpLs l r)) ∧ w' = w := by
  have HH := Lib.hid (And.intro h h')
  clear h h'
  go_enter Try.func140, Try.ntmps140
  go_wp2
  go_loopw [11] (fun i wr => ∃ k : Nat, k ≤ n ∧ i = .int .i64 k ∧ Hid (cmpLs l r = cmpLs (l.drop k) (r.drop k)) ∧ wr = w) (fun i _ => n - (intOf i).toNat)
  case atStart => exact ⟨0, Nat.zero_le _, rfl, Lib.hid rfl, rfl⟩
  case round =>
    obtain ⟨k, hk, rfl, HC, hw⟩ := hrel
    replace hw := hw.symm
    subst hw
    by_cases hlt : k < n
    · obtain ⟨ab, ao, x, rfl, hx, hcx⟩ := RdI.at_ HH.out.1 hlt
      obtain ⟨bb, bo, y, rfl, hy, hcy⟩ := RdI.at_ HH.out.2 hlt
      have hd := cmpLs_drop hx hy
      have HD := Lib.hid (And.intro hd HC.out)
      clear hx hy hd HC
      have hcc := cmpCmp9_t x y w
      obtain ⟨z, hz⟩ : ∃ z, cmpI9 x y = z := ⟨_, rfl⟩
      rw [hz] at hcc HD
      clear hz
      by_cases h0 : z = 0
      · have t0 : (z != 0) = false := by simp [h0]
        have HN : Hid (cmpLs l r = cmpLs (l.drop (k + 1)) (r.drop (k + 1))) := Lib.hid (by rw [HD.out.2, HD.out.1, if_neg (by simp [h0])])
        clear h0 HD
        go_wp2_with (go_at_call 59; (with_reducible refine hcc.mono ?_); rintro e w2 ⟨rfl, hw⟩; replace hw := hw.symm; subst hw)
        go_roundw
        case rel => exact ⟨k + 1, by omega, by go_num, HN, by first | rfl | trivial⟩
        case measure => simp [intOf]; omega
      · have t0 : (z != 0) = true := by simp [h0]
        have HN : Hid (cmpLs l r = z) := Lib.hid (by rw [HD.out.2, HD.out.1, if_pos h0])
        clear h0 HD
        go_wp2_with (go_at_call 59; (with_reducible refine hcc.mono ?_); rintro e w2 ⟨rfl, hw⟩; replace hw := hw.symm; subst hw)
        go_ret
        exact ⟨by rw [HN.out]; rfl, rfl⟩
    · have HN : Hid (cmpLs l r = 0) := Lib.hid (by rw [HC.out, List.drop_eq_nil_of_le (by have := HH.out.1.len; omega), List.drop_eq_nil_of_le (by have := HH.out.2.len; omega)]; rfl)
      clear HC
      go_wp2
      go_ret
      exact ⟨by rw [HN.out]; rfl, rfl⟩
end Go.Proofs.Ytcafmodenbifhaa
namespace Go.Proofs.Ytcafmodenbifhaa
open Go.RowKit Go.Maps

theorem LRes.ext_iffK (a b : LRes) : a = b ↔ a.a = b.a ∧ a.b = b.b ∧ a.c = b.c := by
 cases a; cases b; simp
theorem equalKey (d : Nat) (a b : LRes) (w : World) : (Op.equalIn (d + 2) 111 (aggRes a) (aggRes b)).run Try.prog w = .ok (decide (a = b)) w := by
 obtain ⟨i, hi, hz⟩ := Option.map_eq_some_iff.1 Try.infoInt
 have hc : Try.prog.cellsOf 3 = 1 := by kernel_rfl
 rw [run_equalIn_array w (d + 1) _ _ Try.underlying111 hi, hc, show List.range 3 = [0, 1, 2] from rfl]
 have hk : Try.prog.plainKey 3 = true := by kernel_rfl
 have hq := fun (x y : Int) (W : World) => run_equalIn_int (P := Try.prog) W d 3 .i64 .i64 x y Try.underlying3
 have p0 := fun (c : LRes) (W : World) => run_part_plain (w := W) (P := Try.prog) hk (xs := #[.int .i64 c.a, .int .i64 c.b, .int .i64 c.c]) (off := 0) (v := .int .i64 c.a) rfl
 have p1 := fun (c : LRes) (W : World) => run_part_plain (w := W) (P := Try.prog) hk (xs := #[.int .i64 c.a, .int .i64 c.b, .int .i64 c.c]) (off := 1) (v := .int .i64 c.b) rfl
 have p2 := fun (c : LRes) (W : World) => run_part_plain (w := W) (P := Try.prog) hk (xs := #[.int .i64 c.a, .int .i64 c.b, .int .i64 c.c]) (off := 2) (v := .int .i64 c.c) rfl
 simp only [Op.eqItems, Sem.run_bind, Sem.run_ite, Sem.run_pure, Nat.zero_mul, Nat.mul_one, p0, p1, p2, Result.andThen_ok, hq]
 have hd : decide (a = b) = ((a.a == b.a) && (a.b == b.b) && (a.c == b.c)) := by
  rw [Bool.eq_iff_iff]
  simp [LRes.ext_iffK, and_assoc]
 rw [hd]
 cases (a.a == b.a) <;> cases (a.b == b.b) <;> cases (a.c == b.c) <;> simp
theorem eqlKey (a b : LRes) (w : World) : (binOp .eql 111 (aggRes a) (aggRes b)).run Try.prog w = .ok (.bool (decide (a = b))) w := by
 rw [run_eql_struct, equalKey]; rfl
theorem neqKey (a b : LRes) (w : World) : (binOp .neq 111 (aggRes a) (aggRes b)).run Try.prog w = .ok (.bool (!decide (a = b))) w := by
 rw [run_neq_struct, equalKey]; rfl
theorem guardKey (op : BinOp) (x y : Operand) (a b : LRes) (w : World) : (eqGuard op 111 x y (aggRes a) (aggRes b)).run Try.prog w = .ok () w :=
 run_eqGuard_agg w op 111 x y _ _ (by kernel_rfl)

abbrev keyTh (x : LTh) : LRes := ⟨x.a, x.b, x.c⟩
def ltK (x y : LRes) : Bool := decide (cmpLs [x.a, x.b, x.c] [y.a, y.b, y.c] < 0)
def ltTh (x y : LTh) : Bool := ltK (keyTh x) (keyTh y) || (decide (keyTh x = keyTh y) && decide (x.id < y.id))
set_option maxRecDepth 100000 in
set_option maxHeartbeats 1600000 in
theorem hLess_t (x y : LRes) (w : World) : Calls Try.prog 139 #[aggRes x, aggRes y] w fun e w' => e = .returned (.bool (ltK x y)) ∧ Below w.heap.size w w' := by
  go_enter Try.func139, Try.ntmps139
  go_upto_region 1 with fail
  have h1 := (Blk.new w 111 (boxRes x)).alloc (.cells (boxRes y) 111)
  have h2 := Blk.new (w.alloc (.cells (boxRes x) 111)) 111 (boxRes y)
  have hs : (w.alloc (.cells (boxRes x) 111)).heap.size = w.heap.size + 1 := by simp
  rw [hs] at h2
  have hB : Below w.heap.size w ((w.alloc (.cells (boxRes x) 111)).alloc (.cells (boxRes y) 111)) := ((Below.refl _ _).alloc (Nat.le_refl _) _).alloc (by simp) _
  have H1 := Lib.hid (And.intro h1 h2)
  have HB1 := Lib.hid hB
  clear h1 h2 hs hB
  obtain ⟨b, hb0⟩ : ∃ b, w.heap.size = b := ⟨_, rfl⟩
  generalize ((w.alloc (.cells (boxRes x) 111)).alloc (.cells (boxRes y) 111)) = w1 at H1 HB1 ⊢
  rw [hb0] at H1
  try rw [hb0]
  clear hb0
  refine Cont.start (by kernel_rfl) ?_
  have HD := Lib.hid (And.intro (H1.out.1.below (Below.refl w1.heap.size w1).drew H1.out.1.lt) (And.intro (H1.out.2.below (Below.refl w1.heap.size w1).drew H1.out.2.lt) (HB1.out.trans ((Below.refl w1.heap.size w1).drew.mono HB1.out.size))))
  generalize w1.drew = wd at HD ⊢
  refine cont_free2 0 5 5 [] [.o (eqV (.slice (some ⟨b, 0, none⟩) 3 3)), .o (eqV (.slice (some ⟨b + 1, 0, none⟩) 3 3)), .o (eqV (.int .i64 (cmpLs [x.a, x.b, x.c] [y.a, y.b, y.c]))), .o (eqV (.bool (ltK x y)))] [4] [.o (eqV (.bool (ltK x y)))] [false, false, false, false, false] (by kernel_rfl) (by kernel_rfl) (by kernel_rfl) (by kernel_rfl) (by kernel_rfl) (by kernel_rfl) (by kernel_rfl) rfl (by kernel_rfl) (by kernel_rfl) ⟨?_, ?_, ?_, ?_, ?_, trivial⟩ ?fin
  · intro a w hb hoth hdep
    refine step_on (want_none rfl) ?_
    have e2 : a.tmps[2]? = some (.pointer (some ⟨b, 0, none⟩)) := ev_seg hoth 2 (by kernel_rfl) rfl
    refine step_val (x := .slice (some ⟨b, 0, none⟩) 3 3) ?_ rfl
    simp [go_sem, e2, Try.underlying111]
  · intro a w hb hoth hdep
    refine step_on (want_none rfl) ?_
    have e3 : a.tmps[3]? = some (.pointer (some ⟨b + 1, 0, none⟩)) := ev_seg hoth 3 (by kernel_rfl) rfl
    refine step_val (x := .slice (some ⟨b + 1, 0, none⟩) 3 3) ?_ rfl
    simp [go_sem, e3, Try.underlying111]
  · intro a w hb hoth hdep
    refine step_on (want_none rfl) ?_
    obtain ⟨v0, e5, hv0⟩ := ev_dep hdep 0 5 (by kernel_rfl) (by kernel_rfl)
    replace hv0 : v0 = .slice (some ⟨b, 0, none⟩) 3 3 := hv0
    subst hv0
    obtain ⟨v1, e6, hv1⟩ := ev_dep hdep 1 6 (by kernel_rfl) (by kernel_rfl)
    replace hv1 : v1 = .slice (some ⟨b + 1, 0, none⟩) 3 3 := hv1
    subst hv1
    refine step_call (f := 140) (args := #[.slice (some ⟨b, 0, none⟩) 3 3, .slice (some ⟨b + 1, 0, none⟩) 3 3]) ?_ ?_
    · simp [go_sem, e5, e6]
    · have hcx := cmpSlices_t (some ⟨b, 0, none⟩) (some ⟨b + 1, 0, none⟩) 3 3 3 [x.a, x.b, x.c] [y.a, y.b, y.c] w (rdI9_of_blk (l := [x.a, x.b, x.c]) (HD.out.1.below hb HD.out.1.lt) rfl) (rdI9_of_blk (l := [y.a, y.b, y.c]) (HD.out.2.1.below hb HD.out.2.1.lt) rfl) (by omega)
      (with_reducible refine hcx.mono ?_)
      clear hcx
      rintro e w2 ⟨rfl, hw⟩
      subst hw
      exact ⟨_, rfl, rfl, Below.refl _ _⟩
  · intro a w hb hoth hdep
    refine step_on (want_none rfl) ?_
    obtain ⟨v2, e7, hv2⟩ := ev_dep hdep 2 7 (by kernel_rfl) (by kernel_rfl)
    replace hv2 : v2 = .int .i64 (cmpLs [x.a, x.b, x.c] [y.a, y.b, y.c]) := hv2
    subst hv2
    refine step_val (x := .bool (ltK x y)) ?_ rfl
    simp [go_sem, e7, ltK]
  · intro a w hb hoth hdep
    refine step_on (want_none rfl) ?_
    obtain ⟨v3, e8, hv3⟩ := ev_dep hdep 3 8 (by kernel_rfl) (by kernel_rfl)
    replace hv3 : v3 = .bool (ltK x y) := hv3
    subst hv3
    exact step_val ((BigFrame.run_assign _ rfl w).trans (by rw [ev_of e8])) rfl
  case fin =>
    intro wz hbz
    iterate 4 (rintro _ rfl)
    refine FinC.nil ?_
    iterate 1 (rintro _ rfl)
    refine FinL.nil ?_
    refine cont_end (by kernel_rfl) ?_
    have HE := Lib.hid (HD.out.2.2.trans (hbz.mono HD.out.2.2.size))
    clear hbz
    go_wp2_with fail
    go_ret
    exact ⟨rfl, HE.out⟩
set_option maxRecDepth 100000 in
set_option maxHeartbeats 1600000 in
theorem thLess_t (x y : LTh) (w : World) : Calls Try.prog 136 #[aggTh x, aggTh y] w fun e w' => e = .returned (.bool (ltTh x y)) ∧ Below w.heap.size w w' := by
  obtain ⟨lk, hlk⟩ : ∃ lk, ltK (keyTh x) (keyTh y) = lk := ⟨_, rfl⟩
  obtain ⟨ek, hek⟩ : ∃ ek, decide (keyTh x = keyTh y) = ek := ⟨_, rfl⟩
  have HV : Hid (ltTh x y = (lk || (ek && decide (x.id < y.id)))) := Lib.hid (by unfold ltTh; rw [hlk, hek])
  have hqe : ∀ W : World, (binOp .eql 111 (.agg #[.int .i64 x.a, .int .i64 x.b, .int .i64 x.c]) (.agg #[.int .i64 y.a, .int .i64 y.b, .int .i64 y.c])).run Try.prog W = .ok (.bool ek) W := fun W => by have h9 := eqlKey (keyTh x) (keyTh y) W; rw [hek] at h9; exact h9
  have hgu := fun (op : BinOp) (p q : Operand) (W : World) => guardKey op p q (keyTh x) (keyTh y) W
  go_enter Try.func136, Try.ntmps136
  go_upto_region 1 with fail
  have h1 := (Blk.new w 137 (boxTh x)).alloc (.cells (boxTh y) 137)
  have h2 := Blk.new (w.alloc (.cells (boxTh x) 137)) 137 (boxTh y)
  have hs : (w.alloc (.cells (boxTh x) 137)).heap.size = w.heap.size + 1 := by simp
  rw [hs] at h2
  have hB : Below w.heap.size w ((w.alloc (.cells (boxTh x) 137)).alloc (.cells (boxTh y) 137)) := ((Below.refl _ _).alloc (Nat.le_refl _) _).alloc (by simp) _
  have H1 := Lib.hid (And.intro h1 h2)
  have HB1 := Lib.hid hB
  clear h1 h2 hs hB
  obtain ⟨b, hb0⟩ : ∃ b, w.heap.size = b := ⟨_, rfl⟩
  generalize ((w.alloc (.cells (boxTh x) 137)).alloc (.cells (boxTh y) 137)) = w1 at H1 HB1 ⊢
  rw [hb0] at H1
  try rw [hb0]
  clear hb0
  have x0 : w1.cell? ⟨b, 0, none⟩ = some (.int .i64 x.id) := (H1.out.1.cell 0).trans rfl
  have x1 : w1.cell? ⟨b, 1, none⟩ = some (.int .i64 x.a) := (H1.out.1.cell 1).trans rfl
  have x2 : w1.cell? ⟨b, 2, none⟩ = some (.int .i64 x.b) := (H1.out.1.cell 2).trans rfl
  have x3 : w1.cell? ⟨b, 3, none⟩ = some (.int .i64 x.c) := (H1.out.1.cell 3).trans rfl
  have y0 : w1.cell? ⟨b + 1, 0, none⟩ = some (.int .i64 y.id) := (H1.out.2.cell 0).trans rfl
  have y1 : w1.cell? ⟨b + 1, 1, none⟩ = some (.int .i64 y.a) := (H1.out.2.cell 1).trans rfl
  have y2 : w1.cell? ⟨b + 1, 2, none⟩ = some (.int .i64 y.b) := (H1.out.2.cell 2).trans rfl
  have y3 : w1.cell? ⟨b + 1, 3, none⟩ = some (.int .i64 y.c) := (H1.out.2.cell 3).trans rfl
  have xl := H1.out.1.lt
  have yl := H1.out.2.lt
  have hcx := hLess_t (keyTh x) (keyTh y) w1
  rw [hlk] at hcx
  clear hlk hek
  go_wp2_with fail
  (with_reducible refine hcx.mono ?_)
  clear hcx x0 y0 x1 y1 x2 y2 x3 y3 xl yl
  rintro e w2 ⟨rfl, hb2⟩
  have H2 := Lib.hid (And.intro (H1.out.1.below hb2 H1.out.1.lt) (H1.out.2.below hb2 H1.out.2.lt))
  have HB2 := Lib.hid (HB1.out.trans (hb2.mono HB1.out.size))
  clear hb2 H1 HB1
  have x0 : w2.cell? ⟨b, 0, none⟩ = some (.int .i64 x.id) := (H2.out.1.cell 0).trans rfl
  have x1 : w2.cell? ⟨b, 1, none⟩ = some (.int .i64 x.a) := (H2.out.1.cell 1).trans rfl
  have x2 : w2.cell? ⟨b, 2, none⟩ = some (.int .i64 x.b) := (H2.out.1.cell 2).trans rfl
  have x3 : w2.cell? ⟨b, 3, none⟩ = some (.int .i64 x.c) := (H2.out.1.cell 3).trans rfl
  have y0 : w2.cell? ⟨b + 1, 0, none⟩ = some (.int .i64 y.id) := (H2.out.2.cell 0).trans rfl
  have y1 : w2.cell? ⟨b + 1, 1, none⟩ = some (.int .i64 y.a) := (H2.out.2.cell 1).trans rfl
  have y2 : w2.cell? ⟨b + 1, 2, none⟩ = some (.int .i64 y.b) := (H2.out.2.cell 2).trans rfl
  have y3 : w2.cell? ⟨b + 1, 3, none⟩ = some (.int .i64 y.c) := (H2.out.2.cell 3).trans rfl
  have xl := H2.out.1.lt
  have yl := H2.out.2.lt
  cases lk
  · cases ek
    · go_wp2_with fail
      go_ret
      exact ⟨by rw [HV.out]; rfl, HB2.out⟩
    · go_wp2_with fail
      go_ret
      exact ⟨by rw [HV.out]; simp, HB2.out⟩
  · go_wp2_with fail
    go_ret
    exact ⟨by rw [HV.out]; rfl, HB2.out⟩
end Go.Proofs.Ytcafmodenbifhaa
namespace Go.Proofs.Ytcafmodenbifhaa
open Go.RowKit Go.Maps

def lexTh (x y : LTh) : Prop := x.a < y.a ∨ (x.a = y.a ∧ (x.b < y.b ∨ (x.b = y.b ∧ (x.c < y.c ∨ (x.c = y.c ∧ x.id < y.id)))))
theorem cmpI_lt {a b : Int} (h : a < b) : cmpI9 a b = -1 := by unfold cmpI9; rw [if_pos h]
theorem cmpI_gt {a b : Int} (h : b < a) : cmpI9 a b = 1 := by unfold cmpI9; rw [if_neg (by omega), if_pos h]
theorem cmpI_eq (a : Int) : cmpI9 a a = 0 := by unfold cmpI9; rw [if_neg (by omega), if_neg (by omega)]
theorem cmpLs_cons (a b : Int) (l r : List Int) : cmpLs (a :: l) (b :: r) = if a < b then -1 else if b < a then 1 else cmpLs l r := by
  show (if cmpI9 a b ≠ 0 then cmpI9 a b else cmpLs l r) = _
  by_cases h1 : a < b
  · rw [cmpI_lt h1, if_pos (by decide), if_pos h1]
  · by_cases h2 : b < a
    · rw [cmpI_gt h2, if_pos (by decide), if_neg h1, if_pos h2]
    · have e : a = b := by omega
      subst e
      rw [cmpI_eq, if_neg (by decide), if_neg h1, if_neg h2]
theorem ltTh_iff (x y : LTh) : ltTh x y = true ↔ lexTh x y := by
  unfold ltTh ltK lexTh
  simp only [Bool.or_eq_true, Bool.and_eq_true, decide_eq_true_eq, LRes.ext_iffK]
  rw [cmpLs_cons, cmpLs_cons, cmpLs_cons]
  have e : cmpLs [] [] = 0 := rfl
  rw [e]
  constructor
  · rintro (h | h)
    · split at h
      · omega
      · split at h
        · omega
        · split at h
          · omega
          · split at h
            · omega
            · split at h
              · omega
              · split at h <;> omega
    · omega
  · intro h
    by_cases e1 : x.a < y.a
    · rw [if_pos e1]; left; decide
    · by_cases e2 : y.a < x.a
      · omega
      · rw [if_neg e1, if_neg e2]
        by_cases e3 : x.b < y.b
        · rw [if_pos e3]; left; decide
        · by_cases e4 : y.b < x.b
          · omega
          · rw [if_neg e3, if_neg e4]
            by_cases e5 : x.c < y.c
            · rw [if_pos e5]; left; decide
            · by_cases e6 : y.c < x.c
              · omega
              · right; omega
abbrev ltP (x y : LTh) : Prop := ltTh x y = true
theorem ltP_tr (a b c : LTh) (h1 : ¬ ltP b a) (h2 : ¬ ltP c b) : ¬ ltP c a := by
  unfold ltP at *
  rw [ltTh_iff] at *
  unfold lexTh at *
  omega
theorem ltP_an (a b : LTh) (h : ltP a b) : ¬ ltP b a := by
  unfold ltP at *
  rw [ltTh_iff] at *
  unfold lexTh at *
  omega
def uL (l : List LTh) : Nat → LTh := fun i => (l[i]?).getD default
theorem uL_set {l : List LTh} {k : Nat} (x : LTh) (hk : k < l.length) : uL (l.set k x) = updF (uL l) k x := by
  funext i
  unfold uL updF
  by_cases h : i = k
  · subst h; rw [if_pos rfl, List.getElem?_set_self hk]; rfl
  · rw [if_neg h, List.getElem?_set_ne (fun e => h e.symm)]
theorem uL_get {l : List LTh} {i : Nat} {x : LTh} (h : l[i]? = some x) : uL l i = x := by unfold uL; rw [h]; rfl
end Go.Proofs.Ytcafmodenbifhaa
