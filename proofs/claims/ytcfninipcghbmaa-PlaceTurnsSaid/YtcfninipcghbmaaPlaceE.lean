/-
  LAYER 28 (place): waiting, placer.
  LAYER 28 (place): whole, Place, Left.
-/
import Derived.Test.YtcfninipcghbmaaPlaceC
set_option linter.unusedVariables false
set_option linter.unusedSimpArgs false
namespace Go.Proofs.Ytcfninipcghbmaa
open Go.Shelf Go.RowKit Go.Sort

def waitJ (l : List LJob) : List LJob := ssort jobLt (l.filter (fun j => j.phase == 1))
set_option maxRecDepth 100000 in
set_option maxHeartbeats 1600000 in
theorem waiting_t (A : Option Addr) (n c : Nat) (l : List LJob) (w : World) (h : Rd encJob 8 w A n l) (hn : n ≤ 1000000) :
    Calls Try.prog 74 #[.slice A n c] w fun e w' => ∃ A' n' c', e = .returned (.slice A' n' c') ∧ n' ≤ n ∧ OwnL encJob 40 8 w' w.heap.size A' n' c' (waitJ l) ∧ Below w.heap.size w w' := by
  have HH := Lib.hid h
  clear h
  go_enter Try.func74, Try.ntmps74
  go_wp2
  go_loopw [3, 8] (fun v i wr => ∃ (k q : Nat) (A' : Option Addr) (c' : Nat), k ≤ n ∧ i = .int .i64 k ∧ v = .slice A' q c' ∧ q ≤ k ∧ OwnL encJob 40 8 wr w.heap.size A' q c' ((l.take k).filter (fun j => j.phase == 1)) ∧ Below w.heap.size w wr) (fun _ i _ => n - (intOf i).toNat)
  case atStart => exact ⟨0, 0, none, 0, Nat.zero_le _, rfl, rfl, Nat.le_refl _, OwnL.nil _ _, Below.refl _ _⟩
  case round =>
    obtain ⟨k, q, A', c', hk, rfl, rfl, hqk, hO, hBq⟩ := hrel
    have hsq := hBq.size
    by_cases hlt : k < n
    · obtain ⟨ab, ao, x, rfl, hxx, hal, hcells⟩ := (HH.out.below hBq).at_ hlt
      have x0 := hcells 0 _ rfl
      have x1 := hcells 1 _ rfl
      have x2 := hcells 2 _ rfl
      have x3 := hcells 3 _ rfl
      have x4 := hcells 4 _ rfl
      have x5 := hcells 5 _ rfl
      have x6 := hcells 6 _ rfl
      have x7 := hcells 7 _ rfl
      simp only [Nat.add_zero] at x0
      have hst := filter_snoc_n (fun j : LJob => j.phase == 1) hxx
      have hbx := Blk.new wr 40 (boxJob x)
      have hBx : Below wr.heap.size wr (wr.alloc (.cells (boxJob x) 40)) := (Below.refl _ _).alloc (Nat.le_refl _) _
      have y0 := hbx.cell 0
      have y1 := hbx.cell 1
      have y2 := hbx.cell 2
      have y3 := hbx.cell 3
      have y4 := hbx.cell 4
      have y5 := hbx.cell 5
      have y6 := hbx.cell 6
      have y7 := hbx.cell 7
      simp only [List.getElem?_toArray, List.getElem?_cons_zero, List.getElem?_cons_succ] at y0 y1 y2 y3 y4 y5 y6 y7
      have HX := Lib.hid (And.intro hst (And.intro (hO.below hBx) (hBq.trans (hBx.mono hsq))))
      have hlx := hbx.lt
      clear hcells hxx hst hbx hBx hO hBq
      go_upto_region 5 with fail
      clear x0 x1 x2 x3 x4 x5 x6 x7
      simp only [boxJob] at HX hlx y0 y1 y2 y3 y4 y5 y6 y7
      generalize wr.alloc (.cells _ 40) = w2 at y0 y1 y2 y3 y4 y5 y6 y7 HX hlx ⊢
      cases hp : (x.phase == 1)
      · have HS := Lib.hid (show (l.take (k + 1)).filter (fun j => j.phase == 1) = (l.take k).filter (fun j => j.phase == 1) by rw [HX.out.1, hp]; simp)
        go_wp2
        go_roundw
        case rel => exact ⟨k + 1, q, A', c', by omega, by go_num, rfl, by omega, by rw [HS.out]; exact HX.out.2.1, HX.out.2.2⟩
        case measure => simp [intOf]; omega
      · have HS := Lib.hid (show (l.take (k + 1)).filter (fun j => j.phase == 1) = (l.take k).filter (fun j => j.phase == 1) ++ [x] by rw [HX.out.1, hp]; rfl)
        go_wp2_with (at_builtin; refine wp_app (enc := encJob) Job_len Job_one rfl (.tmp 15) (.tmp 17) 23 rfl 40 _ 64 Try.underlying23 Try.infoJob rfl (by decide) w.heap.size _ q _ _ rfl (HX.out.2.1.alloc _) _ 1 _ [x] (by rfl) (Rd.new1 _ x _ _ _ rfl) (q + 1) rfl _ rfl (by omega) (by omega) (by have := HX.out.2.2.size; simp; omega) ?_; intro A4 c4 w4 ho4 hg4 _; have hb4 := (HX.out.2.2.alloc HX.out.2.2.size _).grown hg4 (by have := HX.out.2.2.size; simp; omega) (own_block_ge HX.out.2.1))
        go_roundw
        case rel => exact ⟨k + 1, q + 1, A4, c4, by omega, by go_num, rfl, by omega, by rw [HS.out]; exact ho4, hb4⟩
        case measure => simp [intOf]; omega
    · have hfull : l.take k = l := List.take_of_length_le (by have := HH.out.len; omega)
      rw [hfull] at hO
      have HO := Lib.hid (And.intro hO hBq)
      have hcx := rankJobs_t A' q c' _ wr (hO.rd Job_len) (by omega)
      clear hO hBq hfull
      go_wp2_with fail
      (with_reducible refine hcx.mono ?_)
      clear hcx
      rintro e w2 ⟨A2, c2, rfl, hO2, hB2⟩
      have H2 := Lib.hid (And.intro (hO2.lower hsq) (HO.out.2.trans (hB2.mono hsq)))
      clear hO2 hB2
      go_wp2
      go_ret
      exact ⟨A2, q, c2, rfl, by omega, H2.out.1, H2.out.2⟩
theorem placer_t (A : Option Addr) (n c : Nat) (w : World) :
    Calls Try.prog 73 #[.slice A n c] w fun e w' => e = .returned (.func (.func 95) #[] #[.pointer (some ⟨w.heap.size, 0, none⟩)]) ∧ w' = w.alloc (.cells #[.slice A n c] 22) := by
  have hmf : ∀ (fn : Fn) (first cap : Array Value) (w : World), (Instr.makeFunc fn first cap).run Try.prog w = .ok (.func fn first cap) w := fun _ _ _ _ => rfl
  go_enter Try.func73, Try.ntmps73
  go_wp2
  go_ret
  exact ⟨rfl, rfl⟩
section
variable {w : World} {bn n c : Nat} {A : Option Addr} {l : List LNode} (j : LJob)
set_option maxRecDepth 100000 in
set_option maxHeartbeats 1600000 in
theorem placer_none (hb : Blk w bn 22 #[.slice A n c]) (hl : Rd encNode 10 w A n l) (hn : n ≤ 1000000) (hbest : bestN j.need l = none) :
    Calls Try.prog 95 #[aggJob j, .pointer (some ⟨bn, 0, none⟩)] w fun e w' => e = .returned (.tuple #[aggAssign ⟨0, 0⟩, .bool false]) ∧ Below w.heap.size w w' := by
  have hs1 : (w.alloc (.cells (boxJob j) 40)).heap.size = w.heap.size + 1 := by simp
  have h0 := (Blk.new w 40 (boxJob j)).alloc (.cells #[.int .i64 0, .int .i64 0] 112)
  have h1 := Blk.new (w.alloc (.cells (boxJob j) 40)) 112 #[.int .i64 0, .int .i64 0]
  rw [hs1] at h1
  have hB : Below w.heap.size w ((w.alloc (.cells (boxJob j) 40)).alloc (.cells #[.int .i64 0, .int .i64 0] 112)) := ((Below.refl _ _).alloc (Nat.le_refl _) _).alloc (by simp) _
  have hb1 := hb.below hB hb.lt
  have s0 := hb1.cell 0
  simp only [List.getElem?_toArray, List.getElem?_cons_zero, List.getElem?_cons_succ] at s0
  have j0 := h0.cells_in (v := .int .i64 j.id) 0 rfl
  have j1 := h0.cells_in (v := .int .i64 j.prio) 1 rfl
  have j2 := h0.cells_in (v := .int .i64 j.seq) 2 rfl
  have j3 := h0.cells_in (v := .int .i64 j.phase) 3 rfl
  have j4 := h0.cells_in (v := .int .i64 j.node) 4 rfl
  have j5 := h0.cells_in (v := .int .i64 j.need.a) 5 rfl
  have j6 := h0.cells_in (v := .int .i64 j.need.b) 6 rfl
  have j7 := h0.cells_in (v := .int .i64 j.need.c) 7 rfl
  have HB := Lib.hid (And.intro h1 (And.intro hB (And.intro (hl.below hB) hb1)))
  have hrr := Below.refl ((w.alloc (.cells (boxJob j) 40)).alloc (.cells #[.int .i64 0, .int .i64 0] 112)).heap.size ((w.alloc (.cells (boxJob j) 40)).alloc (.cells #[.int .i64 0, .int .i64 0] 112))
  have hbl := hb.lt
  clear h0 h1 hB hs1 hb hl hb1
  go_enter Try.func95, Try.ntmps95
  go_upto_region 1 with fail
  simp only [boxJob] at HB s0 hrr j0 j1 j2 j3 j4 j5 j6 j7
  generalize (w.alloc (.cells _ 40)).alloc (.cells _ 112) = w1 at HB s0 hrr j0 j1 j2 j3 j4 j5 j6 j7 ⊢
  have hcx := best_t A n c l j.need w1 HB.out.2.2.1 hn
  rw [hbest] at hcx
  have HBEST := Lib.hid hbest
  clear hbest
  go_wp2_with fail
  (with_reducible refine hcx.mono ?_)
  clear hcx s0
  rintro e w2 ⟨rfl, hB2⟩
  have hb3 := (hrr.trans hB2).alloc (hrr.trans hB2).size (.cells (boxNode zeroN) 38)
  have h3 := HB.out.1.below hb3 HB.out.1.lt
  have z0 := h3.cell 0
  have z1 := h3.cell 1
  have zf := h3.frozen
  simp only [List.getElem?_toArray, List.getElem?_cons_zero, List.getElem?_cons_succ] at z0 z1
  have hz := (h3.set_ 0 (.int .i64 0)).set_ 1 (.int .i64 0)
  have hy := ((HB.out.2.1.trans (hb3.mono HB.out.2.1.size)).setCell (p := ⟨w.heap.size + 1, 0, none⟩) (show w.heap.size ≤ w.heap.size + 1 by omega) (.int .i64 0)).setCell (p := ⟨w.heap.size + 1, 1, none⟩) (show w.heap.size ≤ w.heap.size + 1 by omega) (.int .i64 0)
  have HL := Lib.hid (And.intro hz hy)
  clear hz hy h3 hB2
  go_upto_if 15 with fail
  simp only [boxNode, zeroN, Option.getD_none] at hb3 z0 z1 zf HL ⊢
  generalize w2.alloc (.cells _ 38) = w3 at hb3 z0 z1 zf HL ⊢
  go_wp2
  obtain ⟨hZ, hY⟩ := HL.out
  generalize (w3.setCell ⟨w.heap.size + 1, 0, none⟩ (.int .i64 0)).setCell ⟨w.heap.size + 1, 1, none⟩ (.int .i64 0) = W3 at hZ hY ⊢
  have v0 : W3.cell? ⟨w.heap.size + 1, 0, none⟩ = some (.int .i64 0) := hZ.cell 0
  have v1 : W3.cell? ⟨w.heap.size + 1, 1, none⟩ = some (.int .i64 0) := hZ.cell 1
  exact bodyPost_ret (v := .tuple #[aggAssign ⟨0, 0⟩, .bool false]) (by simp [results, Try.results95, go_sem, v0, v1]) rfl ⟨rfl, hY⟩
set_option maxRecDepth 100000 in
set_option maxHeartbeats 3200000 in
theorem placer_some (b : LNode) (hb : Blk w bn 22 #[.slice A n c]) (hl : Rd encNode 10 w A n l) (hn : n ≤ 1000000) (hbest : bestN j.need l = some b) :
    Calls Try.prog 95 #[aggJob j, .pointer (some ⟨bn, 0, none⟩)] w fun e w' => ∃ A' c', e = .returned (.tuple #[aggAssign ⟨j.id, b.id⟩, .bool true]) ∧ Blk w' bn 22 #[.slice A' n c'] ∧ OwnL encNode 38 10 w' w.heap.size A' n c' (withN l b.id j.need) ∧ Kept (fun k => k = bn) w w' := by
  have hs1 : (w.alloc (.cells (boxJob j) 40)).heap.size = w.heap.size + 1 := by simp
  have h0 := (Blk.new w 40 (boxJob j)).alloc (.cells #[.int .i64 0, .int .i64 0] 112)
  have h1 := Blk.new (w.alloc (.cells (boxJob j) 40)) 112 #[.int .i64 0, .int .i64 0]
  rw [hs1] at h1
  have hB : Below w.heap.size w ((w.alloc (.cells (boxJob j) 40)).alloc (.cells #[.int .i64 0, .int .i64 0] 112)) := ((Below.refl _ _).alloc (Nat.le_refl _) _).alloc (by simp) _
  have hb1 := hb.below hB hb.lt
  have s0 := hb1.cell 0
  simp only [List.getElem?_toArray, List.getElem?_cons_zero, List.getElem?_cons_succ] at s0
  have j0 := h0.cells_in (v := .int .i64 j.id) 0 rfl
  have j1 := h0.cells_in (v := .int .i64 j.prio) 1 rfl
  have j2 := h0.cells_in (v := .int .i64 j.seq) 2 rfl
  have j3 := h0.cells_in (v := .int .i64 j.phase) 3 rfl
  have j4 := h0.cells_in (v := .int .i64 j.node) 4 rfl
  have j5 := h0.cells_in (v := .int .i64 j.need.a) 5 rfl
  have j6 := h0.cells_in (v := .int .i64 j.need.b) 6 rfl
  have j7 := h0.cells_in (v := .int .i64 j.need.c) 7 rfl
  have HB := Lib.hid (And.intro h1 (And.intro hB (And.intro (hl.below hB) hb1)))
  have hrr := Below.refl ((w.alloc (.cells (boxJob j) 40)).alloc (.cells #[.int .i64 0, .int .i64 0] 112)).heap.size ((w.alloc (.cells (boxJob j) 40)).alloc (.cells #[.int .i64 0, .int .i64 0] 112))
  have hbl := hb.lt
  clear h0 h1 hB hs1 hb hl hb1
  go_enter Try.func95, Try.ntmps95
  go_upto_region 1 with fail
  simp only [boxJob] at HB s0 hrr j0 j1 j2 j3 j4 j5 j6 j7
  generalize (w.alloc (.cells _ 40)).alloc (.cells _ 112) = w1 at HB s0 hrr j0 j1 j2 j3 j4 j5 j6 j7 ⊢
  have hcx := best_t A n c l j.need w1 HB.out.2.2.1 hn
  rw [hbest] at hcx
  have HBEST := Lib.hid hbest
  clear hbest
  go_wp2_with fail
  (with_reducible refine hcx.mono ?_)
  clear hcx s0
  rintro e w2 ⟨rfl, hB2⟩
  have hbw2 : w1.heap.size ≤ w2.heap.size := (hrr.trans hB2).size
  have hb3 := (hrr.trans hB2).alloc (hrr.trans hB2).size (.cells (boxNode b) 38)
  have hbx := Blk.new w2 38 (boxNode b)
  have b0 := hbx.cells_in (v := .int .i64 b.id) 0 rfl
  have b1 := hbx.cells_in (v := .int .i64 b.inc) 1 rfl
  have b2 := hbx.cells_in (v := .int .i64 b.load) 2 rfl
  have b3 := hbx.cells_in (v := .int .i64 b.cap.a) 3 rfl
  have b4 := hbx.cells_in (v := .int .i64 b.cap.b) 4 rfl
  have b5 := hbx.cells_in (v := .int .i64 b.cap.c) 5 rfl
  have b6 := hbx.cells_in (v := .int .i64 b.used.a) 6 rfl
  have b7 := hbx.cells_in (v := .int .i64 b.used.b) 7 rfl
  have b8 := hbx.cells_in (v := .int .i64 b.used.c) 8 rfl
  have b9 := hbx.cells_in (v := .bool b.up) 9 rfl
  have hr3 := Below.refl (w2.alloc (.cells (boxNode b) 38)).heap.size (w2.alloc (.cells (boxNode b) 38))
  have hn3 := HB.out.2.2.2.below hb3 HB.out.2.2.2.lt
  have s0 := hn3.cell 0
  simp only [List.getElem?_toArray, List.getElem?_cons_zero, List.getElem?_cons_succ] at s0
  clear hbx hB2 hn3
  go_upto_if 15 with fail
  simp only [boxNode, Option.getD_some] at hb3 s0 hr3 b0 b1 b2 b3 b4 b5 b6 b7 b8 b9 ⊢
  generalize w2.alloc (.cells _ 38) = w3 at hb3 s0 hr3 b0 b1 b2 b3 b4 b5 b6 b7 b8 b9 ⊢
  go_wp2_with fail
  have hcx := with_t A n c l b.id j.need w3 (HB.out.2.2.1.below hb3) hn
  (with_reducible refine hcx.mono ?_)
  clear hcx s0
  rintro e w4 ⟨A4, c4, rfl, hO4, hB4⟩
  have hb4 := hb3.trans (hB4.mono hb3.size)
  have hr4 := hr3.trans hB4
  have hn4 := HB.out.2.2.2.below hb4 HB.out.2.2.2.lt
  have hz4 := HB.out.1.below hb4 HB.out.1.lt
  have hBw : Below w.heap.size w w4 := HB.out.2.1.trans (hb4.mono HB.out.2.1.size)
  have hne : bn ≠ w.heap.size + 1 := by omega
  have hsz : w.heap.size + 1 < w3.heap.size := by have := HB.out.1.lt; have := hb3.size; omega
  have hk : Kept (fun k => k = bn) w (((w4.setCell ⟨bn, 0, none⟩ (.slice A4 n c4)).setCell ⟨w.heap.size + 1, 0, none⟩ (.int .i64 j.id)).setCell ⟨w.heap.size + 1, 1, none⟩ (.int .i64 b.id)) :=
    (((Kept.of_below (F := fun k => k = bn) hBw).setCell (p := ⟨bn, 0, none⟩) (fun _ => rfl) _).setCell (p := ⟨w.heap.size + 1, 0, none⟩) (fun h => absurd h (by show ¬ w.heap.size + 1 < w.heap.size; omega)) _).setCell (p := ⟨w.heap.size + 1, 1, none⟩) (fun h => absurd h (by show ¬ w.heap.size + 1 < w.heap.size; omega)) _
  have hk4 : Kept (fun k => k = bn ∨ k = w.heap.size + 1) w4 (((w4.setCell ⟨bn, 0, none⟩ (.slice A4 n c4)).setCell ⟨w.heap.size + 1, 0, none⟩ (.int .i64 j.id)).setCell ⟨w.heap.size + 1, 1, none⟩ (.int .i64 b.id)) :=
    (((Kept.refl _ w4).setCell (p := ⟨bn, 0, none⟩) (fun _ => .inl rfl) _).setCell (p := ⟨w.heap.size + 1, 0, none⟩) (fun _ => .inr rfl) _).setCell (p := ⟨w.heap.size + 1, 1, none⟩) (fun _ => .inr rfl) _
  have hd1 : w2.heap.size ≠ bn := by have h1 := HB.out.1.lt; have h2 := HB.out.2.1.size; have h3 := hbw2; omega
  have hd2 : w2.heap.size ≠ w.heap.size + 1 := by have h1 := HB.out.1.lt; have h3 := hbw2; omega
  have hZb := ((hn4.set_ 0 (.slice A4 n c4)).far (p := ⟨w.heap.size + 1, 0, none⟩) (show bn ≠ w.heap.size + 1 from hne) (.int .i64 j.id)).far (p := ⟨w.heap.size + 1, 1, none⟩) (show bn ≠ w.heap.size + 1 from hne) (.int .i64 b.id)
  have hZr := ((hz4.far (p := ⟨bn, 0, none⟩) (show w.heap.size + 1 ≠ bn from hne.symm) (.slice A4 n c4)).set_ 0 (.int .i64 j.id)).set_ 1 (.int .i64 b.id)
  have hO5 := (hO4.kept hk4 (fun ad ha => by have := (hO4.at_base ad ha).1; omega)).lower (show w.heap.size ≤ w3.heap.size by omega)
  have HL := Lib.hid (And.intro hZb (And.intro hZr (And.intro hO5 hk)))
  have z0 := hz4.cell 0
  have z1 := hz4.cell 1
  have zf := hz4.frozen
  have s0 := hn4.cell 0
  have sf := hn4.frozen
  have hl4 := hz4.lt
  have hl5 := hn4.lt
  simp only [List.getElem?_toArray, List.getElem?_cons_zero, List.getElem?_cons_succ] at z0 z1 s0
  clear hZb hZr hO5 hk hk4 hz4 hn4 hO4 hBw hB4
  have k0 := b0 _ hr4
  have k1 := b1 _ hr4
  have k2 := b2 _ hr4
  have k3 := b3 _ hr4
  have k4 := b4 _ hr4
  have k5 := b5 _ hr4
  have k6 := b6 _ hr4
  have k7 := b7 _ hr4
  have k8 := b8 _ hr4
  have k9 := b9 _ hr4
  have i0 := j0 _ hb4
  clear b0 b1 b2 b3 b4 b5 b6 b7 b8 b9 j0 j1 j2 j3 j4 j5 j6 j7
  go_wp2
  obtain ⟨hZb, hZr, hO5, hk⟩ := HL.out
  generalize ((w4.setCell ⟨bn, 0, none⟩ (.slice A4 n c4)).setCell ⟨w.heap.size + 1, 0, none⟩ (.int .i64 j.id)).setCell ⟨w.heap.size + 1, 1, none⟩ (.int .i64 b.id) = W3 at hZb hZr hO5 hk ⊢
  have v0 : W3.cell? ⟨w.heap.size + 1, 0, none⟩ = some (.int .i64 j.id) := hZr.cell 0
  have v1 : W3.cell? ⟨w.heap.size + 1, 1, none⟩ = some (.int .i64 b.id) := hZr.cell 1
  exact bodyPost_ret (v := .tuple #[aggAssign ⟨j.id, b.id⟩, .bool true]) (by simp [results, Try.results95, go_sem, v0, v1]) rfl ⟨A4, c4, rfl, hZb, hO5, hk⟩
end
end Go.Proofs.Ytcfninipcghbmaa
namespace Go.Proofs.Ytcfninipcghbmaa
open Go.Shelf Go.RowKit Go.Sort

structure PSt where
  nodes : List LNode
  out : List LAssign
  left : List Int
def placeStep (s : PSt) (j : LJob) : PSt := match bestN j.need s.nodes with
  | some b => ⟨withN s.nodes b.id j.need, s.out ++ [⟨j.id, b.id⟩], s.left⟩
  | none => ⟨s.nodes, s.out, s.left ++ [j.id]⟩
def placeAll (nodes : List LNode) (js : List LJob) : PSt := js.foldl placeStep ⟨nodes, [], []⟩
def placeP (nodes : List LNode) (jobs : List LJob) : PSt := placeAll nodes (waitJ jobs)
theorem placeAll_snoc (nodes : List LNode) (js : List LJob) (j : LJob) : placeAll nodes (js ++ [j]) = placeStep (placeAll nodes js) j := by simp [placeAll, List.foldl_append]
theorem rd_block_lt {α : Type} {enc : α → List Value} {sz : Nat} {w : World} {A : Option Addr} {n : Nat} {l : List α} (h : Rd enc sz w A n l) (b o : Nat) (e : A = some ⟨b, o, none⟩) (hn : 0 < n) : b < w.heap.size := by
  obtain ⟨b', o', e', hb, _⟩ := h.cells hn
  rw [e] at e'
  injection e' with e'
  injection e' with e1 _
  omega
/-- What lies in memory while jobs are placed: w1 the world in which the nodes' box bn had been made. -/
structure PW (w1 : World) (bn n : Nat) (s : PSt) (wr : World) (An : Option Addr) (cn : Nat) (O : Option Addr) (on oc : Nat) (L : Option Addr) (ln lc : Nat) (J : Option Addr) (m d : Nat) (js : List LJob) : Prop where
  bl : bn < w1.heap.size
  box : Blk wr bn 22 #[.slice An n cn]
  nodes : (Rd encNode 10 w1 An n s.nodes ∧ ∀ b o, An = some ⟨b, o, none⟩ → 0 < n → b ≠ bn) ∨ OwnL encNode 38 10 wr w1.heap.size An n cn s.nodes
  out : OwnL encAssign 112 2 wr w1.heap.size O on oc s.out
  left : OwnL encI 3 1 wr w1.heap.size L ln lc s.left
  jobs : OwnL encJob 40 8 wr w1.heap.size J m d js
  kept : Kept (fun k => k = bn) w1 wr
section
variable {w1 wr w' : World} {bn n : Nat} {s : PSt} {An : Option Addr} {cn : Nat} {O : Option Addr} {on oc : Nat} {L : Option Addr} {ln lc : Nat} {J : Option Addr} {m d : Nat} {js : List LJob}
theorem PW.rd (h : PW w1 bn n s wr An cn O on oc L ln lc J m d js) : Rd encNode 10 wr An n s.nodes := by
  rcases h.nodes with ⟨h1, h2⟩ | h1
  · exact h1.kept1 h.kept (fun b o e hn hb => h2 b o e hn hb)
  · exact h1.rd Node_len
theorem PW.below (h : PW w1 bn n s wr An cn O on oc L ln lc J m d js) (hb : Below wr.heap.size wr w') : PW w1 bn n s w' An cn O on oc L ln lc J m d js :=
  ⟨h.bl, h.box.below hb h.box.lt, h.nodes.imp id (fun h1 => h1.below hb), h.out.below hb, h.left.below hb, h.jobs.below hb, h.kept.trans (Kept.of_below hb : Kept (fun k => k = bn) wr w') (fun _ _ e => e)⟩
theorem base_ne {α : Type} {enc : α → List Value} {e sz : Nat} {w : World} {base : Nat} {A : Option Addr} {n c : Nat} {l : List α} (h : OwnL enc e sz w base A n c l) {bn : Nat} (hb : bn < base) : ∀ ad, A = some ad → ¬ ad.block = bn := fun ad ha e => by have := (h.at_base ad ha).1; omega
theorem box_ne {α : Type} {enc : α → List Value} {e sz : Nat} {w : World} {base : Nat} {A : Option Addr} {n c : Nat} {l : List α} (h : OwnL enc e sz w base A n c l) {bn : Nat} (hb : bn < base) : some bn ≠ (Value.slice A n c).ownBlock := fun e => by
  have := own_block_ge h bn e.symm; omega
theorem kept_grown {α : Type} {enc : α → List Value} {e sz : Nat} {w : World} {A : Option Addr} {n c : Nat} {l : List α} (h : OwnL enc e sz w w1.heap.size A n c l) (hk : Kept (fun k => k = bn) w1 w) (hg : w.grownBy w' (Value.slice A n c).ownBlock) : Kept (fun k => k = bn) w1 w' :=
  hk.trans (Kept.of_grown (F := fun k => some k = (Value.slice A n c).ownBlock) hg (fun k e _ => e.symm)) (fun i hi e => by have := own_block_ge h i e.symm; omega)
theorem PW.left_app (h : PW w1 bn n s wr An cn O on oc L ln lc J m d js) {L' : Option Addr} {ln' lc' : Nat} {x : Int} (hO : OwnL encI 3 1 w' w1.heap.size L' ln' lc' (s.left ++ [x])) (hg : wr.grownBy w' (Value.slice L ln lc).ownBlock) : PW w1 bn n ⟨s.nodes, s.out, s.left ++ [x]⟩ w' An cn O on oc L' ln' lc' J m d js :=
  ⟨h.bl, h.box.grown hg (box_ne h.left h.bl), h.nodes.imp id (fun h1 => h1.grown_apart hg (own_apart h1 h.left (by decide))), h.out.grown_apart hg (own_apart h.out h.left (by decide)), hO, h.jobs.grown_apart hg (own_apart h.jobs h.left (by decide)), kept_grown h.left h.kept hg⟩
theorem PW.out_app (h : PW w1 bn n s wr An cn O on oc L ln lc J m d js) {O' : Option Addr} {on' oc' : Nat} {x : LAssign} (hO : OwnL encAssign 112 2 w' w1.heap.size O' on' oc' (s.out ++ [x])) (hg : wr.grownBy w' (Value.slice O on oc).ownBlock) : PW w1 bn n ⟨s.nodes, s.out ++ [x], s.left⟩ w' An cn O' on' oc' L ln lc J m d js :=
  ⟨h.bl, h.box.grown hg (box_ne h.out h.bl), h.nodes.imp id (fun h1 => h1.grown_apart hg (own_apart h1 h.out (by decide))), hO, h.left.grown_apart hg (own_apart h.left h.out (by decide)), h.jobs.grown_apart hg (own_apart h.jobs h.out (by decide)), kept_grown h.out h.kept hg⟩
theorem PW.took (h : PW w1 bn n s wr An cn O on oc L ln lc J m d js) {An' : Option Addr} {cn' : Nat} {ns : List LNode} (hb : Blk w' bn 22 #[.slice An' n cn']) (hO : OwnL encNode 38 10 w' wr.heap.size An' n cn' ns) (hk : Kept (fun k => k = bn) wr w') : PW w1 bn n ⟨ns, s.out, s.left⟩ w' An' cn' O on oc L ln lc J m d js :=
  ⟨h.bl, hb, .inr (hO.lower h.kept.size), h.out.kept hk (base_ne h.out h.bl), h.left.kept hk (base_ne h.left h.bl), h.jobs.kept hk (base_ne h.jobs h.bl), h.kept.trans hk (fun _ _ e => e)⟩
end
set_option maxRecDepth 100000 in
set_option maxHeartbeats 3200000 in
theorem whole_t (A : Option Addr) (n c : Nat) (l : List LNode) (J : Option Addr) (m d : Nat) (js : List LJob) (w : World) (hl : Rd encNode 10 w A n l) (hj : Rd encJob 8 w J m js) (hn : n ≤ 1000) (hm : m ≤ 1000) :
    Calls Try.prog 49 #[.slice A n c, .slice J m d] w fun e w' => ∃ O on oc L ln lc, e = .returned (.tuple #[.slice O on oc, .slice L ln lc]) ∧ on ≤ m ∧ ln ≤ m ∧ OwnL encAssign 112 2 w' w.heap.size O on oc (placeP l js).out ∧ OwnL encI 3 1 w' w.heap.size L ln lc (placeP l js).left ∧ Below w.heap.size w w' := by
  have hb := Blk.new w 22 #[.slice A n c]
  have hB : Below w.heap.size w (w.alloc (.cells #[.slice A n c] 22)) := (Below.refl _ _).alloc (Nat.le_refl _) _
  have hbn : ∀ b o, A = some ⟨b, o, none⟩ → 0 < n → b ≠ w.heap.size := fun b o e h0 => by have := rd_block_lt hl b o e h0; omega
  have HB := Lib.hid (And.intro hb (And.intro hB (And.intro (hl.below hB) (And.intro (hj.below hB) hbn))))
  clear hb hB hl hj hbn
  go_enter Try.func49, Try.ntmps49
  go_wp2_with fail
  (with_reducible refine (placer_t A n c w).mono ?_)
  rintro e w0 ⟨rfl, rfl⟩
  generalize w.alloc (.cells #[.slice A n c] 22) = w1 at HB ⊢
  go_wp2_with fail
  have hcx := waiting_t J m d js w1 HB.out.2.2.2.1 (by omega)
  (with_reducible refine hcx.mono ?_)
  clear hcx
  rintro e w2 ⟨J2, m2, d2, rfl, hm2, hO2, hB2⟩
  obtain ⟨wj, hwj⟩ : ∃ wj, waitJ js = wj := ⟨_, rfl⟩
  rw [hwj] at hO2
  have HPW : Hid (PW w1 w.heap.size n (placeAll l (wj.take 0)) w2 A c none 0 0 none 0 0 J2 m2 d2 wj) := Lib.hid ⟨HB.out.1.lt, HB.out.1.below hB2 HB.out.1.lt, .inl ⟨HB.out.2.2.1, HB.out.2.2.2.2⟩, OwnL.nil _ _, OwnL.nil _ _, hO2, Kept.of_below hB2⟩
  have HWJ := Lib.hid hwj
  clear hwj hO2 hB2
  go_wp2
  go_loopw [6, 7, 18] (fun v6 v7 i wr => ∃ (k on oc ln lc cn : Nat) (O L An : Option Addr), k ≤ m2 ∧ i = .int .i64 k ∧ v6 = .slice O on oc ∧ v7 = .slice L ln lc ∧ on ≤ k ∧ ln ≤ k ∧ Hid (PW w1 w.heap.size n (placeAll l (wj.take k)) wr An cn O on oc L ln lc J2 m2 d2 wj)) (fun _ _ i _ => m2 - (intOf i).toNat)
  case atStart => exact ⟨0, 0, 0, 0, 0, c, none, none, A, Nat.zero_le _, rfl, rfl, rfl, Nat.le_refl _, Nat.le_refl _, HPW⟩
  case round =>
    clear HPW
    obtain ⟨k, on, oc, ln, lc, cn, O, L, An, hk, rfl, rfl, rfl, hon, hln, HP⟩ := hrel
    by_cases hlt : k < m2
    · obtain ⟨ab, ao, x, rfl, hxx, hal, hcells⟩ := (HP.out.jobs.rd Job_len).at_ hlt
      have x0 := hcells 0 _ rfl
      have x1 := hcells 1 _ rfl
      have x2 := hcells 2 _ rfl
      have x3 := hcells 3 _ rfl
      have x4 := hcells 4 _ rfl
      have x5 := hcells 5 _ rfl
      have x6 := hcells 6 _ rfl
      have x7 := hcells 7 _ rfl
      simp only [Nat.add_zero] at x0
      have hst : placeAll l (wj.take (k + 1)) = placeStep (placeAll l (wj.take k)) x := by rw [take_succ_of _ _ _ hxx, placeAll_snoc]
      obtain ⟨s, hs⟩ : ∃ s, placeAll l (wj.take k) = s := ⟨_, rfl⟩
      rw [hs] at HP hst
      have hbx := Blk.new wr 40 (boxJob x)
      have y0 := hbx.cell 0
      have y1 := hbx.cell 1
      have y2 := hbx.cell 2
      have y3 := hbx.cell 3
      have y4 := hbx.cell 4
      have y5 := hbx.cell 5
      have y6 := hbx.cell 6
      have y7 := hbx.cell 7
      simp only [List.getElem?_toArray, List.getElem?_cons_zero, List.getElem?_cons_succ] at y0 y1 y2 y3 y4 y5 y6 y7
      have j0 := hbx.cells_in (v := .int .i64 x.id) 0 rfl
      have HX := Lib.hid (And.intro hst (HP.out.below ((Below.refl _ _).alloc (Nat.le_refl _) (.cells (boxJob x) 40))))
      have hrr := Below.refl (wr.alloc (.cells (boxJob x) 40)).heap.size (wr.alloc (.cells (boxJob x) 40))
      clear hcells hxx hst hbx hs
      go_upto_region 7 with fail
      clear x0 x1 x2 x3 x4 x5 x6 x7
      simp only [boxJob] at HX hrr j0 y0 y1 y2 y3 y4 y5 y6 y7
      generalize wr.alloc (.cells _ 40) = w3 at HX hrr j0 y0 y1 y2 y3 y4 y5 y6 y7 ⊢
      cases hb : bestN x.need s.nodes with
      | none =>
        have hcx := placer_none x HX.out.2.box HX.out.2.rd (by omega) hb
        have HS := Lib.hid (show placeAll l (wj.take (k + 1)) = ⟨s.nodes, s.out, s.left ++ [x.id]⟩ by rw [HX.out.1, placeStep, hb])
        clear hb
        go_wp2_with fail
        (with_reducible refine hcx.mono ?_)
        clear hcx y0 y1 y2 y3 y4 y5 y6 y7
        rintro e w4 ⟨rfl, hB4⟩
        have hb4 := (hrr.trans hB4).alloc (hrr.trans hB4).size (.cells #[.int .i64 0, .int .i64 0] 112)
        have HZ := Lib.hid (HX.out.2.below hb4)
        clear hB4
        go_upto_if 28 with fail
        generalize w4.alloc (.cells _ 112) = w5 at hb4 HZ ⊢
        go_wp2_with (at_builtin; refine wp_app (enc := encI) (fun _ => rfl) (by simp [encI, Value.oneCell']) rfl (.tmp 33) (.tmp 36) 27 rfl 3 (.int .i64 0) 8 Try.underlying27 Try.infoInt rfl (by decide) w1.heap.size _ ln _ _ rfl (HZ.out.left.alloc _) _ 1 _ [x.id] (by rfl) (Rd.new1 _ x.id _ _ _ rfl) (ln + 1) rfl _ rfl (by omega) (by omega) (by have := HZ.out.kept.size; simp; omega) ?_; intro L6 lc6 w6 ho6 hg6 _; have HPN := Lib.hid ((HZ.out.below ((Below.refl _ _).alloc (Nat.le_refl _) _)).left_app ho6 hg6); clear ho6 hg6)
        go_roundw
        case rel => exact ⟨k + 1, on, oc, ln + 1, lc6, cn, O, L6, An, by omega, by go_num, rfl, rfl, by omega, by omega, by rw [HS.out]; exact HPN⟩
        case measure => simp [intOf]; omega
      | some b =>
        have hcx := placer_some x b HX.out.2.box HX.out.2.rd (by omega) hb
        have HS := Lib.hid (show placeAll l (wj.take (k + 1)) = ⟨withN s.nodes b.id x.need, s.out ++ [⟨x.id, b.id⟩], s.left⟩ by rw [HX.out.1, placeStep, hb])
        clear hb
        go_wp2_with fail
        (with_reducible refine hcx.mono ?_)
        clear hcx y0 y1 y2 y3 y4 y5 y6 y7
        rintro e w4 ⟨An4, cn4, rfl, hbx4, hO4, hk4⟩
        have hT := HX.out.2.took hbx4 hO4 hk4
        have hba := Blk.new w4 112 #[.int .i64 x.id, .int .i64 b.id]
        have a0 := hba.cell 0
        have a1 := hba.cell 1
        simp only [List.getElem?_toArray, List.getElem?_cons_zero, List.getElem?_cons_succ] at a0 a1
        have HZ := Lib.hid (hT.below ((Below.refl _ _).alloc (Nat.le_refl _) (.cells #[.int .i64 x.id, .int .i64 b.id] 112)))
        clear hbx4 hO4 hk4 hT hba j0 hrr
        go_upto_if 28 with fail
        generalize w4.alloc (.cells _ 112) = w5 at a0 a1 HZ ⊢
        go_wp2_with (at_builtin; refine wp_app (enc := encAssign) Assign_len Assign_one rfl (.tmp 29) (.tmp 31) 24 rfl 112 _ 16 Try.underlying24 Try.infoAssign rfl (by decide) w1.heap.size _ on _ _ rfl (HZ.out.out.alloc _) _ 1 _ [⟨x.id, b.id⟩] (by rfl) (Rd.new1 _ (⟨x.id, b.id⟩ : LAssign) _ _ _ rfl) (on + 1) rfl _ rfl (by omega) (by omega) (by have := HZ.out.kept.size; simp; omega) ?_; intro O6 oc6 w6 ho6 hg6 _; have HPN := Lib.hid ((HZ.out.below ((Below.refl _ _).alloc (Nat.le_refl _) _)).out_app ho6 hg6); clear ho6 hg6)
        go_roundw
        case rel => exact ⟨k + 1, on + 1, oc6, ln, lc, cn4, O6, L, An4, by omega, by go_num, rfl, rfl, by omega, by omega, by rw [HS.out]; exact HPN⟩
        case measure => simp [intOf]; omega
    · have hfull : wj.take k = wj := List.take_of_length_le (by have := HP.out.jobs.len; omega)
      rw [hfull] at HP
      have HF := Lib.hid (show placeAll l wj = placeP l js by rw [placeP, HWJ.out])
      clear hfull
      go_wp2
      go_ret2
      rw [← HF.out]
      exact ⟨O, on, oc, L, ln, lc, rfl, by omega, by omega, HP.out.out.lower HB.out.2.1.size, HP.out.left.lower HB.out.2.1.size, HB.out.2.1.trans (HP.out.kept.below HB.out.2.1.size (fun i hi e => by omega))⟩
section
variable {w : World} {A J : Option Addr} {n c m d : Nat} {l : List LNode} {js : List LJob}
theorem place_t (hl : Rd encNode 10 w A n l) (hj : Rd encJob 8 w J m js) (hn : n ≤ 1000) (hm : m ≤ 1000) :
    Calls Try.prog 11 #[.slice A n c, .slice J m d] w fun e w' => ∃ O on oc, e = .returned (.slice O on oc) ∧ on ≤ m ∧ OwnL encAssign 112 2 w' w.heap.size O on oc (placeP l js).out ∧ Below w.heap.size w w' := by
  have hcx := whole_t A n c l J m d js w hl hj hn hm
  go_enter Try.func11, Try.ntmps11
  go_wp2_with fail
  (with_reducible refine hcx.mono ?_)
  clear hcx
  rintro e w2 ⟨O, on, oc, L, ln, lc, rfl, h1, h2, hO, hL, hB⟩
  have HX := Lib.hid (And.intro hO hB)
  clear hO hL hB
  go_wp2
  go_ret
  exact ⟨O, on, oc, rfl, h1, HX.out.1, HX.out.2⟩
theorem left_t (hl : Rd encNode 10 w A n l) (hj : Rd encJob 8 w J m js) (hn : n ≤ 1000) (hm : m ≤ 1000) :
    Calls Try.prog 15 #[.slice A n c, .slice J m d] w fun e w' => ∃ L ln lc, e = .returned (.slice L ln lc) ∧ ln ≤ m ∧ OwnL encI 3 1 w' w.heap.size L ln lc (placeP l js).left ∧ Below w.heap.size w w' := by
  have hcx := whole_t A n c l J m d js w hl hj hn hm
  go_enter Try.func15, Try.ntmps15
  go_wp2_with fail
  (with_reducible refine hcx.mono ?_)
  clear hcx
  rintro e w2 ⟨O, on, oc, L, ln, lc, rfl, h1, h2, hO, hL, hB⟩
  have HX := Lib.hid (And.intro hL hB)
  clear hO hL hB
  go_wp2
  go_ret
  exact ⟨L, ln, lc, rfl, h2, HX.out.1, HX.out.2⟩
end
end Go.Proofs.Ytcfninipcghbmaa
