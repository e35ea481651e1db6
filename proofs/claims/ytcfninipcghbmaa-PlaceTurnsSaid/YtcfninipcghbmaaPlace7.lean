/-
  LAYER 23 (node): must, step, what mine asks first, what Take does.
-/
import Derived.Test.YtcfninipcghbmaaPlace6
import Derived.Test.YtcfninipcghbmaaIns
import Derived.Deep.RegionWith
import Derived.Laws.EntriesVeiled
set_option linter.unusedVariables false
set_option linter.unusedSimpArgs false
namespace Go.Proofs.Ytcfninipcghbmaa
open Go.RowKit Go.Sort

/-- A test: its closure (function g, bound to cap), the error, and whether it is so. -/
structure LTest where
  g : Nat
  cap : Array Value
  e : Int
  so : Bool
def encTest (t : LTest) : List Value := [.func (.func t.g) #[] t.cap, .int .i64 t.e]
abbrev boxTest (t : LTest) : Array Value := #[.func (.func t.g) #[] t.cap, .int .i64 t.e]
theorem Test_len (t : LTest) : (encTest t).length = 2 := rfl
theorem Test_one (t : LTest) : ∀ u ∈ encTest t, u.oneCell' = true := by
  intro u hu
  simp [encTest] at hu
  rcases hu with rfl | rfl <;> rfl
def mustE (l : List LTest) : Int := ((l.find? (fun t => !t.so)).map (·.e)).getD 0
def TestOk (w : World) (t : LTest) : Prop := (∀ args W, (callFunc t.g args).run Try.prog W = .ok (.enter t.g args) W) ∧ ∀ W, Below w.heap.size w W → Calls Try.prog t.g t.cap W fun e W' => e = .returned (.bool t.so) ∧ Below W.heap.size W W'
set_option maxRecDepth 100000 in
set_option maxHeartbeats 1600000 in
theorem must_t (A : Option Addr) (n c : Nat) (l : List LTest) (w : World) (h : Rd encTest 2 w A n l) (hn : n ≤ 1000) (ht : ∀ t ∈ l, TestOk w t) :
    Calls Try.prog 146 #[.slice A n c] w fun e w' => e = .returned (.int .i64 (mustE l)) ∧ Below w.heap.size w w' := by
  have HT := Lib.hid (And.intro ht h)
  clear ht h
  go_enter Try.func146, Try.ntmps146
  go_wp2
  go_loopw [7] (fun i wr => ∃ k : Nat, k ≤ n ∧ i = .int .i64 k ∧ Hid (∀ t ∈ l.take k, t.so = true) ∧ Below w.heap.size w wr) (fun i _ => n - (intOf i).toNat)
  case atStart => exact ⟨0, Nat.zero_le _, rfl, Lib.hid (by simp), Below.refl _ _⟩
  case round =>
    obtain ⟨k, hk, rfl, HC, hB⟩ := hrel
    have hs := hB.size
    by_cases hlt : k < n
    · obtain ⟨ab, ao, t, rfl, htt, hal, hcells⟩ := (HT.out.2.below hB).at_ hlt
      have x0 := hcells 0 _ rfl
      have x1 := hcells 1 _ rfl
      simp only [Nat.add_zero] at x0
      have hto := HT.out.1 t (List.mem_of_getElem? htt)
      have heg := hto.1
      have hb := Blk.new wr 216 (boxTest t)
      have hBb := hB.alloc hs (.cells (boxTest t) 216)
      have t0 := hb.cells_in (v := .func (.func t.g) #[] t.cap) 0 rfl
      have t1 := hb.cells_in (v := .int .i64 t.e) 1 rfl
      have hrr := Below.refl (wr.alloc (.cells (boxTest t) 216)).heap.size (wr.alloc (.cells (boxTest t) 216))
      have hcx := hto.2 _ hBb
      have htk := take_succ_of _ _ _ htt
      have hsp := split_at htt
      have HX := Lib.hid (And.intro htk hsp)
      clear hto hcells hb htt htk hsp
      go_wp2_with fail
      simp only [boxTest] at t0 t1 hrr hcx hBb
      generalize wr.alloc (.cells _ 216) = w1 at t0 t1 hrr hcx hBb ⊢
      have hs1 := hBb.size
      (with_reducible refine hcx.mono ?_)
      clear hcx x0 x1 heg
      rintro e w2 ⟨rfl, hB2⟩
      have hr2 := hrr.trans hB2
      have hB3 := hBb.trans (hB2.mono hs1)
      clear hB2 hBb
      cases hso : t.so
      · have HS := Lib.hid (show mustE l = t.e by
          rw [mustE, HX.out.2, List.find?_append, List.find?_eq_none.2 (fun u hu => by simp [HC.out u hu])]
          simp [List.find?_cons, hso])
        have HB3 := Lib.hid hB3
        clear hso hB3
        go_wp2
        go_ret
        exact ⟨ret_int HS.out.symm, HB3.out⟩
      · have HS := Lib.hid (show ∀ u ∈ l.take (k + 1), u.so = true from fun u hu => by
          rw [HX.out.1] at hu
          rcases List.mem_append.1 hu with hu | hu
          · exact HC.out u hu
          · rw [List.mem_singleton.1 hu]; exact hso)
        clear hso
        go_wp2
        go_roundw
        case rel => exact ⟨k + 1, by omega, by go_num, HS, hB3⟩
        case measure => simp [intOf]; omega
    · have hall : l.take k = l := take_all l k n HT.out.2.len hlt
      have HS := Lib.hid (show mustE l = 0 by rw [mustE, List.find?_eq_none.2 (fun u hu => by rw [← hall] at hu; simp [HC.out u hu])]; rfl)
      have HB3 := Lib.hid hB
      clear hall hB
      go_wp2
      go_ret
      exact ⟨ret_int HS.out.symm, HB3.out⟩
set_option maxRecDepth 100000 in
set_option maxHeartbeats 1600000 in
/-- What mine asks first: all that is told may be, the node may be, x may be an incarnation. -/
theorem mineRight_t {w : World} {sb nb xb : Nat} {n : LNode} {x : Int} {A : Option Addr} {m c : Nat} {l : List LRes} (hs : Blk w sb 50 #[.slice A m c]) (hl : Rd encRes 3 w A m l) (hm : m ≤ 1000) (h : Blk w nb 38 (boxNode n)) (hx : Blk w xb 3 #[.int .i64 x]) :
    Calls Try.prog 153 #[.pointer (some ⟨sb, 0, none⟩), .pointer (some ⟨nb, 0, none⟩), .pointer (some ⟨xb, 0, none⟩)] w fun e w' => e = .returned (.bool (l.all rightR && rightN n && numR x 1 2147483647)) ∧ Below w.heap.size w w' := by
  have c0 := h.cells_in (v := .int .i64 n.id) 0 rfl
  have c1 := h.cells_in (v := .int .i64 n.inc) 1 rfl
  have c2 := h.cells_in (v := .int .i64 n.load) 2 rfl
  have c3 := h.cells_in (v := .int .i64 n.cap.a) 3 rfl
  have c4 := h.cells_in (v := .int .i64 n.cap.b) 4 rfl
  have c5 := h.cells_in (v := .int .i64 n.cap.c) 5 rfl
  have c6 := h.cells_in (v := .int .i64 n.used.a) 6 rfl
  have c7 := h.cells_in (v := .int .i64 n.used.b) 7 rfl
  have c8 := h.cells_in (v := .int .i64 n.used.c) 8 rfl
  have c9 := h.cells_in (v := .bool n.up) 9 rfl
  have x0 := hx.cells_in (v := .int .i64 x) 0 rfl
  have s0 := hs.cell 0
  simp only [List.getElem?_toArray, List.getElem?_cons_zero, List.getElem?_cons_succ] at s0
  have HL := Lib.hid hl
  clear hs hl h hx
  go_enter Try.func153, Try.ntmps153
  go_wp2
  go_loopw [8] (fun i wr => ∃ k : Nat, k ≤ m ∧ i = .int .i64 k ∧ Hid (∀ r ∈ l.take k, rightR r = true) ∧ Below w.heap.size w wr) (fun i _ => m - (intOf i).toNat)
  case atStart => exact ⟨0, Nat.zero_le _, rfl, Lib.hid (by simp), Below.refl _ _⟩
  case round =>
    obtain ⟨k, hk, rfl, HC, hB⟩ := hrel
    have hsz := hB.size
    by_cases hlt : k < m
    · obtain ⟨ab, ao, r, rfl, hrr, hal, hcells⟩ := (HL.out.below hB).at_ hlt
      have r0 := hcells 0 _ rfl
      have r1 := hcells 1 _ rfl
      have r2 := hcells 2 _ rfl
      simp only [Nat.add_zero] at r0
      have htk := take_succ_of _ _ _ hrr
      have hmem := List.mem_of_getElem? hrr
      have HX := Lib.hid (And.intro htk hmem)
      have hBb := hB.alloc hsz (.cells (boxRes r) 36)
      have hcx := resRight_t r (wr.alloc (.cells (boxRes r) 36))
      clear hcells hrr htk hmem
      cases hq : rightR r
      · rw [hq] at hcx
        have HQ := Lib.hid hq
        clear hq
        go_wp2_with fail
        simp only [boxRes] at hBb hcx
        generalize wr.alloc (.cells _ 36) = w1 at hBb hcx ⊢
        have hs1 := hBb.size
        (with_reducible refine hcx.mono ?_)
        clear hcx r0 r1 r2
        rintro e w2 ⟨rfl, hB2⟩
        have HB3 := Lib.hid (hBb.trans (hB2.mono hs1))
        clear hB2 hBb
        go_wp2
        go_ret
        exact ⟨ret_bool (by
          have : l.all rightR = false := by rw [List.all_eq_false]; exact ⟨r, HX.out.2, by simp [HQ.out]⟩
          rw [this]; rfl), HB3.out⟩
      · rw [hq] at hcx
        have HQ := Lib.hid hq
        clear hq
        go_wp2_with fail
        simp only [boxRes] at hBb hcx
        generalize wr.alloc (.cells _ 36) = w1 at hBb hcx ⊢
        have hs1 := hBb.size
        (with_reducible refine hcx.mono ?_)
        clear hcx r0 r1 r2
        rintro e w2 ⟨rfl, hB2⟩
        have hB3 := hBb.trans (hB2.mono hs1)
        clear hB2 hBb
        go_wp2
        go_roundw
        case rel => exact ⟨k + 1, by omega, by go_num, Lib.hid (fun u hu => by
          rw [HX.out.1] at hu
          rcases List.mem_append.1 hu with hu | hu
          · exact HC.out u hu
          · rw [List.mem_singleton.1 hu]; exact HQ.out), hB3⟩
        case measure => simp [intOf]; omega
    · have hall : l.take k = l := take_all l k m HL.out.len hlt
      have HA := Lib.hid (show l.all rightR = true by rw [List.all_eq_true]; intro u hu; rw [← hall] at hu; exact HC.out u hu)
      clear hall
      have hcx := nodeRight_t n wr
      cases hq : rightN n
      · rw [hq] at hcx
        have HQ := Lib.hid hq
        clear hq
        go_wp2_with fail
        (with_reducible refine hcx.mono ?_)
        clear hcx
        rintro e w2 ⟨rfl, hB2⟩
        have HB3 := Lib.hid (hB.trans (hB2.mono hsz))
        clear hB2 hB
        go_wp2
        go_ret
        exact ⟨ret_bool (by rw [HQ.out]; simp), HB3.out⟩
      · rw [hq] at hcx
        have HQ := Lib.hid hq
        clear hq
        go_wp2_with fail
        (with_reducible refine hcx.mono ?_)
        clear hcx
        rintro e w2 ⟨rfl, hB2⟩
        have hB3 := hB.trans (hB2.mono hsz)
        clear hB2 hB
        go_wp2_with fail
        (with_reducible refine (inc_t x w2).mono ?_)
        rintro e w3 ⟨rfl, hw⟩
        subst hw
        have HB3 := Lib.hid hB3
        clear hB3
        go_wp2
        go_ret
        exact ⟨ret_bool (by rw [HA.out, HQ.out]; simp), HB3.out⟩
/-- A node that took a job on. -/
def tookN (n : LNode) (need : LRes) : LNode := { n with used := (addR n.used need).getD res0, load := wrap64 (n.load + 1) }
set_option maxRecDepth 100000 in
set_option maxHeartbeats 1600000 in
theorem takeDo_t {w : World} {nb rb : Nat} {n : LNode} {need : LRes} (h : Blk w nb 38 (boxNode n)) (hr : Blk w rb 36 (boxRes need)) :
    Calls Try.prog 147 #[.pointer (some ⟨nb, 0, none⟩), .pointer (some ⟨rb, 0, none⟩)] w fun e w' => e = .returned (.tuple #[]) ∧ Blk w' nb 38 (boxNode (tookN n need)) ∧ Kept (fun b => b = nb) w w' := by
  have c2 := h.cell 2
  have c6 := h.cell 6
  have c7 := h.cell 7
  have c8 := h.cell 8
  have r0 := hr.cell 0
  have r1 := hr.cell 1
  have r2 := hr.cell 2
  simp only [List.getElem?_toArray, List.getElem?_cons_zero, List.getElem?_cons_succ] at c2 c6 c7 c8 r0 r1 r2
  have hl := h.lt
  obtain ⟨u, hu⟩ : ∃ u, (addR n.used need).getD res0 = u := ⟨_, rfl⟩
  have hcx := fun W => resAdd_t n.used need W
  simp only [hu] at hcx
  have HCX := Lib.hid (And.intro hcx (And.intro hu h))
  clear hcx hu h hr
  go_enter Try.func147, Try.ntmps147
  go_wp2
  go_region_with (go_at_call 148; have hcx := HCX.out.1 w.drew; (with_reducible refine hcx.mono ?_); clear hcx; rintro e w2 ⟨rfl, hB2⟩; have hB3 : Below w.heap.size w w2 := ⟨hB2.os, hB2.tape, hB2.output, hB2.size, hB2.block⟩; have hn2 := HCX.out.2.2.below hB3 hl; have f2 := hn2.frozen; have d2 := hn2.cell 2; have d6 := hn2.cell 6; have d7 := hn2.cell 7; have d8 := hn2.cell 8; simp only [List.getElem?_toArray, List.getElem?_cons_zero, List.getElem?_cons_succ] at d2 d6 d7 d8)
  all_goals
    have hk0 : Kept (fun b => b = nb) w w2 := Kept.of_below hB3
    have hz := (((hn2.set_ 6 (.int .i64 u.a)).set_ 7 (.int .i64 u.b)).set_ 8 (.int .i64 u.c)).set_ 2 (.int .i64 (wrap64 (n.load + 1)))
    have hk := (((hk0.setCell (p := ⟨nb, 6, none⟩) (fun _ => rfl) (.int .i64 u.a)).setCell (p := ⟨nb, 7, none⟩) (fun _ => rfl) (.int .i64 u.b)).setCell (p := ⟨nb, 8, none⟩) (fun _ => rfl) (.int .i64 u.c)).setCell (p := ⟨nb, 2, none⟩) (fun _ => rfl) (.int .i64 (wrap64 (n.load + 1)))
    have HZ := Lib.hid (And.intro hz hk)
    clear hz hk hk0 hn2 hB2 hB3
    go_wp2
    go_end0
    refine ⟨rfl, ?_, HZ.out.2⟩
    have := HZ.out.1
    simpa [boxNode, tookN, HCX.out.2.1] using this
end Go.Proofs.Ytcfninipcghbmaa
