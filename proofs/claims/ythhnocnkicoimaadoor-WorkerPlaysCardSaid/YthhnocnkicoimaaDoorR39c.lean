/-
 LAYER 39 (worker): the document's worker: its value, its boxes, Live, empty, anew, Crash, Boot, New.
 LAYER 39 (worker): the document's worker: New, Finish.
 LAYER 39 (worker): the document's worker: what a value's rows read as; Finish; the numbers and the fence that it asks.
-/
import Derived.Test.YthhnocnkicoimaaDoorWk11
import Derived.Test.YthhnocnkicoimaaDoorRow12s
import Derived.Deep.MidRow
import Derived.Deep.Cut
import Derived.Test.YthhnocnkicoimaaDoorAnySeg
set_option linter.unusedVariables false
set_option linter.unusedSimpArgs false
namespace Go.Proofs.YthhnocnkicoimaaDoor
open Go.RowKit Go.Maps

/-- What a worker's value holds beside what it is: the fence's counts, and where its rows lie. -/
structure RV where
 y : Int
 n : Int
 ha : Option Addr
 hn : Nat
 hc : Nat
 da : Option Addr
 dn : Nat
 dc : Nat
 ta : Option Addr
 tn : Nat
 tc : Nat
abbrev boxR (s : WS) (v : RV) : Array Value := #[.int .i64 s.node, .int .i64 s.span, .int .i64 s.inc, .int .i64 s.until_, .int .i64 s.first, .int .i64 s.cap.a, .int .i64 s.cap.b, .int .i64 s.cap.c, .bool s.up, .int .i64 s.epoch, .int .i64 v.y, .int .i64 v.n, .slice v.ha v.hn v.hc, .slice v.da v.dn v.dc, .slice v.ta v.tn v.tc]
abbrev aggR (s : WS) (v : RV) : Value := .agg #[.int .i64 s.node, .int .i64 s.span, .int .i64 s.inc, .int .i64 s.until_, .int .i64 s.first, .int .i64 s.cap.a, .int .i64 s.cap.b, .int .i64 s.cap.c, .bool s.up, .int .i64 s.epoch, .int .i64 v.y, .int .i64 v.n, .slice v.ha v.hn v.hc, .slice v.da v.dn v.dc, .slice v.ta v.tn v.tc]
abbrev zboxR : Array Value := #[.int .i64 0, .int .i64 0, .int .i64 0, .int .i64 0, .int .i64 0, .int .i64 0, .int .i64 0, .int .i64 0, .bool false, .int .i64 0, .int .i64 0, .int .i64 0, .slice none 0 0, .slice none 0 0, .slice none 0 0]
def RV.nil (v : RV) : RV := ⟨v.y, v.n, none, 0, 0, none, 0, 0, none, 0, 0⟩
def RV.zero : RV := ⟨0, 0, none, 0, 0, none, 0, 0, none, 0, 0⟩
def WS.zero : WS := ⟨0, 0, 0, 0, 0, 0, ⟨0, 0, 0⟩, false, [], [], []⟩
theorem Tryd.infoR39 : (Tryd.prog.info? 74).map (fun i => (i.zero, i.size)) = some (some (.agg zboxR), 15) := by kernel_rfl
theorem Tryd.sizeR39 : (Tryd.prog.info? 74).map (·.size) = some 15 := by kernel_rfl
/-- A worker is read as a whole. -/
theorem loadR {ops : Array Oper} {rest : List Oper} {op : Oper} {a : Act} {w : World} {Q : Exit → Act → World → Prop} (hgd : op.guard = none) (x : Operand) (ho : op.op = .load 74 x) {b : Nat} (hx : a.eval x = .pointer (some ⟨b, 0, none⟩)) {s : WS} {v : RV} (hb : Blk w b 74 (boxR s v)) (h : wpList Tryd.prog ops Q rest (a.put op.dst (.agg (boxR s v))) w) : wpList Tryd.prog ops Q (op :: rest) a w :=
 wpList_load_mid hgd 74 x ho b 0 hx (boxR s v).toList _ (fun j u hu => by rw [Nat.zero_add]; exact (hb.cell j).trans ((List.getElem?_toArray).trans hu)) Tryd.underlying74 rfl (by kernel_rfl) h
theorem setRow_kept (w : World) (b : Nat) (cs : Array Value) : Kept (fun k => k = b) w (w.setRow b cs) := by
 refine ⟨rfl, rfl, rfl, by simp [World.setRow], fun i hi hn => ?_⟩
 show (w.heap.modify b _)[i]? = _
 rw [Array.getElem?_modify, if_neg (fun e => hn e.symm)]
theorem setRow_size (w : World) (b : Nat) (cs : Array Value) : (w.setRow b cs).heap.size = w.heap.size := by simp [World.setRow]
/-- A worker is laid as a whole into a box. -/
theorem storeR {ops : Array Oper} {rest : List Oper} {op : Oper} {a : Act} {w : World} {Q : Exit → Act → World → Prop} (hgd : op.guard = none) (hd : op.dst = none) (x y : Operand) (ho : op.op = .store 74 x y) {b : Nat} (hx : a.eval x = .pointer (some ⟨b, 0, none⟩)) {s : WS} {v : RV} (hy : a.eval y = .agg (boxR s v)) {c : Array Value} (hb : Blk w b 74 c) (hc : c.size = 15)
  (h : ∀ w', Blk w' b 74 (boxR s v) → Kept (fun k => k = b) w w' → w'.heap.size = w.heap.size → wpList Tryd.prog ops Q rest a w') : wpList Tryd.prog ops Q (op :: rest) a w :=
 wpList_plain hgd fun K9 hK => by
  unfold Oper.wp execOp
  have hr : (Instr.storeAt 74 (.pointer (some ⟨b, 0, none⟩)) (.agg (boxR s v))).run Tryd.prog w = .ok () (w.setRow b (boxR s v)) := by
   simp only [Instr.storeAt, Instr.sureAddr, Sem.run_bind, Sem.run_pure, Result.andThen]
   exact run_storeVar_row w b 74 74 c (boxR s v) hb Tryd.sizeR39 hc (by simp [boxR, Value.oneCell'])
  simp only [ho, hx, hy, Sem.run_bind, Sem.run_pure, Result.andThen_ok, hr]
  have h2 : ∀ d, d = none → K9 (a.put d undef) (w.setRow b (boxR s v)) := fun d e => by subst e; exact hK _ _ (h _ (setRow_heap w b _ _ _ _ hb) (setRow_kept w b _) (setRow_size w b _))
  exact h2 _ hd
theorem rCells {w : World} {b : Nat} {s : WS} {v : RV} (h : Blk w b 74 (boxR s v)) : w.cell? ⟨b, 0, none⟩ = some (.int .i64 s.node) ∧ w.cell? ⟨b, 1, none⟩ = some (.int .i64 s.span) ∧ w.cell? ⟨b, 2, none⟩ = some (.int .i64 s.inc) ∧ w.cell? ⟨b, 3, none⟩ = some (.int .i64 s.until_) ∧ w.cell? ⟨b, 4, none⟩ = some (.int .i64 s.first) ∧ w.cell? ⟨b, 5, none⟩ = some (.int .i64 s.cap.a) ∧ w.cell? ⟨b, 6, none⟩ = some (.int .i64 s.cap.b) ∧ w.cell? ⟨b, 7, none⟩ = some (.int .i64 s.cap.c) ∧ w.cell? ⟨b, 8, none⟩ = some (.bool s.up) ∧ w.cell? ⟨b, 9, none⟩ = some (.int .i64 s.epoch) ∧ w.cell? ⟨b, 10, none⟩ = some (.int .i64 v.y) ∧ w.cell? ⟨b, 11, none⟩ = some (.int .i64 v.n) ∧ w.cell? ⟨b, 12, none⟩ = some (.slice v.ha v.hn v.hc) ∧ w.cell? ⟨b, 13, none⟩ = some (.slice v.da v.dn v.dc) ∧ w.cell? ⟨b, 14, none⟩ = some (.slice v.ta v.tn v.tc) := by
 refine ⟨(h.cell 0).trans rfl, (h.cell 1).trans rfl, (h.cell 2).trans rfl, (h.cell 3).trans rfl, (h.cell 4).trans rfl, (h.cell 5).trans rfl, (h.cell 6).trans rfl, (h.cell 7).trans rfl, (h.cell 8).trans rfl, (h.cell 9).trans rfl, (h.cell 10).trans rfl, (h.cell 11).trans rfl, (h.cell 12).trans rfl, (h.cell 13).trans rfl, (h.cell 14).trans rfl⟩
/-- The two boxes of a function that a worker is handed to: the value, the result. -/
structure RI (w0 w : World) (b : Nat) (s : WS) (v : RV) : Prop where
 x : Blk w b 74 (boxR s v)
 r : Blk w (b + 1) 74 zboxR
 ge : w0.heap.size ≤ b
 bel : Below w0.heap.size w0 w
theorem RI.start (s : WS) (v : RV) (w : World) : RI w ((w.alloc (.cells (boxR s v) 74)).alloc (.cells zboxR 74)) w.heap.size s v := by
 have h2 := Blk.new (w.alloc (.cells (boxR s v) 74)) 74 zboxR
 have s1 : (w.alloc (.cells (boxR s v) 74)).heap.size = w.heap.size + 1 := by simp
 rw [s1] at h2
 exact ⟨(Blk.new w 74 (boxR s v)).alloc _, h2, Nat.le_refl _, ((Below.refl _ _).alloc (Nat.le_refl _) _).alloc (by simp) _⟩
theorem RI.below {w0 w w' : World} {b : Nat} {s : WS} {v : RV} (h : RI w0 w b s v) (hb : Below w.heap.size w w') : RI w0 w' b s v :=
 ⟨h.x.below hb h.x.lt, h.r.below hb h.r.lt, h.ge, h.bel.trans (hb.mono h.bel.size)⟩
/-- The value's box has been laid anew. -/
theorem RI.laid {w0 w w' : World} {b : Nat} {s s' : WS} {v v' : RV} (h : RI w0 w b s v) (hb : Blk w' b 74 (boxR s' v')) (hk : Kept (fun k => k = b) w w') : RI w0 w' b s' v' :=
 ⟨hb, h.r.kept hk (by omega), h.ge, h.bel.trans (hk.below h.bel.size (fun i hi e => by have := h.ge; omega))⟩
/-- The result's box has been laid: the value is handed back. -/
theorem RI.done {w0 w w' : World} {b : Nat} {s : WS} {v : RV} (h : RI w0 w b s v) (hk : Kept (fun k => k = b + 1) w w') : Below w0.heap.size w0 w' :=
 h.bel.trans (hk.below h.bel.size (fun i hi e => by have := h.ge; omega))
set_option maxRecDepth 100000 in
set_option maxHeartbeats 3200000 in
theorem rLive_t (s : WS) (v : RV) (now : Int) (w : World) : Calls Tryd.prog 73 #[aggR s v, .int .i64 now] w fun e w' => e = .returned (.bool (s.live now)) ∧ Below w.heap.size w w' := by
 go_enter Tryd.func73, Tryd.ntmps73
 go_upto_region 1 with fail
 have hb := Blk.new w 74 (boxR s v)
 have hB : Below w.heap.size w (w.alloc (.cells (boxR s v) 74)) := (Below.refl _ _).alloc (Nat.le_refl _) _
 obtain ⟨b, hb0⟩ : ∃ b, w.heap.size = b := ⟨_, rfl⟩
 have HB := Lib.hid hB
 generalize w.alloc (.cells (boxR s v) 74) = w1 at hb HB ⊢
 rw [hb0] at hb
 try rw [hb0]
 have x8 : w1.cell? ⟨b, 8, none⟩ = some (.bool s.up) := (hb.cell 8).trans rfl
 have x3 : w1.cell? ⟨b, 3, none⟩ = some (.int .i64 s.until_) := (hb.cell 3).trans rfl
 have xl := hb.lt
 clear hb hB hb0
 rcases Bool.eq_false_or_eq_true s.up with hu | hu
 ·rw [hu] at x8
  go_wp2_with fail
  go_ret
  exact ⟨by simp [WS.live, hu], HB.out⟩
 ·rw [hu] at x8
  go_wp2_with fail
  go_ret
  exact ⟨by simp [WS.live, hu], HB.out⟩
set_option maxRecDepth 100000 in
set_option maxHeartbeats 3200000 in
theorem rEmpty_t (s : WS) (v : RV) (w : World) : Calls Tryd.prog 74 #[aggR s v] w fun e w' => e = .returned (aggR s.empty v.nil) ∧ Below w.heap.size w w' := by
 go_enter Tryd.func74, Tryd.ntmps74
 go_upto_region 1 with fail
 have HI := Lib.hid (RI.start s v w)
 obtain ⟨b, hb0⟩ : ∃ b, w.heap.size = b := ⟨_, rfl⟩
 generalize ((w.alloc (.cells (boxR s v) 74)).alloc (.cells zboxR 74)) = w1 at HI ⊢
 try simp only [World.alloc_size, hb0]
 rw [hb0] at HI
 try rw [hb0]
 clear hb0
 obtain ⟨x0, x1, x2, x3, x4, x5, x6, x7, x8, x9, x10, x11, x12, x13, x14⟩ := rCells HI.out.x
 have xl := HI.out.x.lt
 have xf := HI.out.x.frozen
 go_upto_region 2 with fail
 clear xl xf x0 x1 x2 x3 x4 x5 x6 x7 x8 x9 x10 x11 x12 x13 x14
 have hx : Blk (((((w1.setCell ⟨b, 12, none⟩ (.slice none 0 0)).setCell ⟨b, 13, none⟩ (.slice none 0 0)).setCell ⟨b, 14, none⟩ (.slice none 0 0)).setCell ⟨b, 3, none⟩ (.int .i64 0)).setCell ⟨b, 4, none⟩ (.int .i64 0)) b 74 (boxR s.empty v.nil) := by
  have h2 := (((((HI.out.x.set_ 12 (.slice none 0 0)).set_ 13 (.slice none 0 0)).set_ 14 (.slice none 0 0)).set_ 3 (.int .i64 0)).set_ 4 (.int .i64 0))
  simp only [List.setIfInBounds_toArray, List.set_cons_zero, List.set_cons_succ] at h2
  exact h2
 have hk : Kept (fun k => k = b) w1 (((((w1.setCell ⟨b, 12, none⟩ (.slice none 0 0)).setCell ⟨b, 13, none⟩ (.slice none 0 0)).setCell ⟨b, 14, none⟩ (.slice none 0 0)).setCell ⟨b, 3, none⟩ (.int .i64 0)).setCell ⟨b, 4, none⟩ (.int .i64 0)) := (Kept.setCell (F := fun k => k = b) (Kept.setCell (F := fun k => k = b) (Kept.setCell (F := fun k => k = b) (Kept.setCell (F := fun k => k = b) (Kept.setCell (F := fun k => k = b) (Kept.refl _ w1) (p := ⟨b, 12, none⟩) (fun _ => rfl) (.slice none 0 0)) (p := ⟨b, 13, none⟩) (fun _ => rfl) (.slice none 0 0)) (p := ⟨b, 14, none⟩) (fun _ => rfl) (.slice none 0 0)) (p := ⟨b, 3, none⟩) (fun _ => rfl) (.int .i64 0)) (p := ⟨b, 4, none⟩) (fun _ => rfl) (.int .i64 0))
 have H2 := Lib.hid (HI.out.laid hx hk)
 clear hx hk HI
 generalize (((((w1.setCell ⟨b, 12, none⟩ (.slice none 0 0)).setCell ⟨b, 13, none⟩ (.slice none 0 0)).setCell ⟨b, 14, none⟩ (.slice none 0 0)).setCell ⟨b, 3, none⟩ (.int .i64 0)).setCell ⟨b, 4, none⟩ (.int .i64 0)) = w2 at H2 ⊢
 go_wp2_with (first | (refine loadR rfl (.tmp 1) rfl rfl (s := s.empty) (v := v.nil) H2.out.x ?_) | (refine storeR rfl rfl (.tmp 2) (.tmp 8) rfl rfl (s := s.empty) (v := v.nil) rfl H2.out.r rfl ?_; intro w9 hb9 hk9 hs9))
 have HE := Lib.hid (H2.out.done hk9)
 obtain ⟨x0, x1, x2, x3, x4, x5, x6, x7, x8, x9, x10, x11, x12, x13, x14⟩ := rCells hb9
 clear hk9 hs9 hb9
 refine bodyPost_ret (v := aggR s.empty v.nil) (by simp [results, Tryd.results74, go_sem, x0, x1, x2, x3, x4, x5, x6, x7, x8, x9, x10, x11, x12, x13, x14]) rfl ⟨rfl, HE.out⟩
set_option maxRecDepth 100000 in
set_option maxHeartbeats 3200000 in
theorem rAnew_t (s : WS) (v : RV) (w : World) (hi : 0 ≤ s.inc ∧ s.inc ≤ 2147483647) : Calls Tryd.prog 69 #[aggR s v] w fun e w' => e = .returned (aggR s.anew v.nil) ∧ Below w.heap.size w w' := by
 go_enter Tryd.func69, Tryd.ntmps69
 go_upto_region 1 with fail
 have HI := Lib.hid (RI.start s v w)
 obtain ⟨b, hb0⟩ : ∃ b, w.heap.size = b := ⟨_, rfl⟩
 generalize ((w.alloc (.cells (boxR s v) 74)).alloc (.cells zboxR 74)) = w1 at HI ⊢
 try simp only [World.alloc_size, hb0]
 rw [hb0] at HI
 try rw [hb0]
 clear hb0
 have hcx := rEmpty_t s v w1
 go_upto_region 2 with (first | (refine loadR rfl (.tmp 1) rfl rfl (s := s) (v := v) HI.out.x ?_) | (go_at_call 74; (with_reducible refine hcx.mono ?_); rintro e w3 ⟨rfl, hb3⟩; have H3 := Lib.hid (HI.out.below hb3)) | (refine storeR rfl rfl (.tmp 1) (.tmp 4) rfl rfl (s := s.empty) (v := v.nil) rfl H3.out.x rfl ?_; intro w4 hb4 hk4 hs4))
 have H4 := Lib.hid (H3.out.laid hb4 hk4)
 clear hb3 hb4 hk4 hs4 H3 hcx HI
 have x2 : w4.cell? ⟨b, 2, none⟩ = some (.int .i64 s.inc) := (H4.out.x.cell 2).trans rfl
 have xl := H4.out.x.lt
 have xf := H4.out.x.frozen
 have t2 : IntKind.i64.wrap (s.inc + 1) = s.inc + 1 := IntWalk.i64_in _ (by omega)
 go_upto_region 3 with fail
 clear xl xf x2 t2
 have hx : Blk (w4.setCell ⟨b, 2, none⟩ (.int .i64 (min (s.inc + 1) 2147483647))) b 74 (boxR s.anew v.nil) := by
  have h2 := (H4.out.x.set_ 2 (.int .i64 (min (s.inc + 1) 2147483647)))
  simp only [List.setIfInBounds_toArray, List.set_cons_zero, List.set_cons_succ] at h2
  exact h2
 have hk : Kept (fun k => k = b) w4 (w4.setCell ⟨b, 2, none⟩ (.int .i64 (min (s.inc + 1) 2147483647))) := (Kept.setCell (F := fun k => k = b) (Kept.refl _ w4) (p := ⟨b, 2, none⟩) (fun _ => rfl) (.int .i64 (min (s.inc + 1) 2147483647)))
 have H5 := Lib.hid (H4.out.laid hx hk)
 clear hx hk H4
 generalize (w4.setCell ⟨b, 2, none⟩ (.int .i64 (min (s.inc + 1) 2147483647))) = w5 at H5 ⊢
 go_wp2_with (first | (refine loadR rfl (.tmp 1) rfl rfl (s := s.anew) (v := v.nil) H5.out.x ?_) | (refine storeR rfl rfl (.tmp 2) (.tmp 10) rfl rfl (s := s.anew) (v := v.nil) rfl H5.out.r rfl ?_; intro w9 hb9 hk9 hs9))
 have HE := Lib.hid (H5.out.done hk9)
 obtain ⟨x0, x1, x2, x3, x4, x5, x6, x7, x8, x9, x10, x11, x12, x13, x14⟩ := rCells hb9
 clear hk9 hs9 hb9
 refine bodyPost_ret (v := aggR s.anew v.nil) (by simp [results, Tryd.results69, go_sem, x0, x1, x2, x3, x4, x5, x6, x7, x8, x9, x10, x11, x12, x13, x14]) rfl ⟨rfl, HE.out⟩
set_option maxRecDepth 100000 in
set_option maxHeartbeats 3200000 in
theorem rCrash_no (s : WS) (v : RV) (w : World) (hu : s.up = false) : Calls Tryd.prog 40 #[aggR s v] w fun e w' => e = .returned (.tuple #[aggR s v, .bool false]) ∧ Below w.heap.size w w' := by
 have HU := Lib.hid hu
 clear hu
 go_enter Tryd.func40, Tryd.ntmps40
 go_upto_region 1 with fail
 have HI := Lib.hid (RI.start s v w)
 obtain ⟨b, hb0⟩ : ∃ b, w.heap.size = b := ⟨_, rfl⟩
 generalize ((w.alloc (.cells (boxR s v) 74)).alloc (.cells zboxR 74)) = w1 at HI ⊢
 try simp only [World.alloc_size, hb0]
 rw [hb0] at HI
 try rw [hb0]
 clear hb0
 have hu := HU.out
 have x8 : w1.cell? ⟨b, 8, none⟩ = some (.bool s.up) := (HI.out.x.cell 8).trans rfl
 have xl := HI.out.x.lt
 rw [hu] at x8
 go_upto_region 2 with fail
 clear x8 xl
 go_wp2_with (first | (refine loadR rfl (.tmp 1) rfl rfl (s := s) (v := v) HI.out.x ?_) | (refine storeR rfl rfl (.tmp 2) (.tmp 7) rfl rfl (s := s) (v := v) rfl HI.out.r rfl ?_; intro w9 hb9 hk9 hs9))
 have HE := Lib.hid (HI.out.done hk9)
 obtain ⟨x0, x1, x2, x3, x4, x5, x6, x7, x8, x9, x10, x11, x12, x13, x14⟩ := rCells hb9
 clear hk9 hs9 hb9
 refine bodyPost_ret (v := .tuple #[aggR s v, .bool false]) (by simp [results, Tryd.results40, go_sem, x0, x1, x2, x3, x4, x5, x6, x7, x8, x9, x10, x11, x12, x13, x14]) rfl ⟨rfl, HE.out⟩
set_option maxRecDepth 100000 in
set_option maxHeartbeats 3200000 in
theorem rCrash_yes (s : WS) (v : RV) (w : World) (hu : s.up = true) : Calls Tryd.prog 40 #[aggR s v] w fun e w' => e = .returned (.tuple #[aggR s.crash v.nil, .bool true]) ∧ Below w.heap.size w w' := by
 have HU := Lib.hid hu
 clear hu
 go_enter Tryd.func40, Tryd.ntmps40
 go_upto_region 1 with fail
 have HI := Lib.hid (RI.start s v w)
 obtain ⟨b, hb0⟩ : ∃ b, w.heap.size = b := ⟨_, rfl⟩
 generalize ((w.alloc (.cells (boxR s v) 74)).alloc (.cells zboxR 74)) = w1 at HI ⊢
 try simp only [World.alloc_size, hb0]
 rw [hb0] at HI
 try rw [hb0]
 clear hb0
 have hu := HU.out
 have x8 : w1.cell? ⟨b, 8, none⟩ = some (.bool s.up) := (HI.out.x.cell 8).trans rfl
 have xl := HI.out.x.lt
 rw [hu] at x8
 go_upto_region 3 with fail
 clear x8 xl
 have hcx := rEmpty_t s v w1
 go_upto_region 4 with (first | (refine loadR rfl (.tmp 1) rfl rfl (s := s) (v := v) HI.out.x ?_) | (go_at_call 74; (with_reducible refine hcx.mono ?_); rintro e w3 ⟨rfl, hb3⟩; have H3 := Lib.hid (HI.out.below hb3)) | (refine storeR rfl rfl (.tmp 1) (.tmp 9) rfl rfl (s := s.empty) (v := v.nil) rfl H3.out.x rfl ?_; intro w4 hb4 hk4 hs4))
 have H4 := Lib.hid (H3.out.laid hb4 hk4)
 clear hb3 hb4 hk4 hs4 H3 hcx HI
 have xl := H4.out.x.lt
 have xf := H4.out.x.frozen
 have x8 : w4.cell? ⟨b, 8, none⟩ = some (.bool s.up) := (H4.out.x.cell 8).trans rfl
 go_upto_region 5 with fail
 clear xl xf x8
 have hx : Blk (w4.setCell ⟨b, 8, none⟩ (.bool false)) b 74 (boxR s.crash v.nil) := by
  have h2 := (H4.out.x.set_ 8 (.bool false))
  simp only [List.setIfInBounds_toArray, List.set_cons_zero, List.set_cons_succ] at h2
  exact h2
 have hk : Kept (fun k => k = b) w4 (w4.setCell ⟨b, 8, none⟩ (.bool false)) := (Kept.setCell (F := fun k => k = b) (Kept.refl _ w4) (p := ⟨b, 8, none⟩) (fun _ => rfl) (.bool false))
 have H5 := Lib.hid (H4.out.laid hx hk)
 clear hx hk H4
 generalize (w4.setCell ⟨b, 8, none⟩ (.bool false)) = w5 at H5 ⊢
 go_wp2_with (first | (refine loadR rfl (.tmp 1) rfl rfl (s := s.crash) (v := v.nil) H5.out.x ?_) | (refine storeR rfl rfl (.tmp 2) (.tmp 11) rfl rfl (s := s.crash) (v := v.nil) rfl H5.out.r rfl ?_; intro w9 hb9 hk9 hs9))
 have HE := Lib.hid (H5.out.done hk9)
 obtain ⟨x0, x1, x2, x3, x4, x5, x6, x7, x8, x9, x10, x11, x12, x13, x14⟩ := rCells hb9
 clear hk9 hs9 hb9
 refine bodyPost_ret (v := .tuple #[aggR s.crash v.nil, .bool true]) (by simp [results, Tryd.results40, go_sem, x0, x1, x2, x3, x4, x5, x6, x7, x8, x9, x10, x11, x12, x13, x14]) rfl ⟨rfl, HE.out⟩
set_option maxRecDepth 100000 in
set_option maxHeartbeats 3200000 in
theorem rBoot_up (s : WS) (v : RV) (w : World) (hu : s.up = true) : Calls Tryd.prog 41 #[aggR s v] w fun e w' => e = .returned (.tuple #[aggR s v, .bool false]) ∧ Below w.heap.size w w' := by
 have HU := Lib.hid hu
 clear hu
 go_enter Tryd.func41, Tryd.ntmps41
 go_upto_region 1 with fail
 have HI := Lib.hid (RI.start s v w)
 obtain ⟨b, hb0⟩ : ∃ b, w.heap.size = b := ⟨_, rfl⟩
 generalize ((w.alloc (.cells (boxR s v) 74)).alloc (.cells zboxR 74)) = w1 at HI ⊢
 try simp only [World.alloc_size, hb0]
 rw [hb0] at HI
 try rw [hb0]
 clear hb0
 have hu := HU.out
 have x8 : w1.cell? ⟨b, 8, none⟩ = some (.bool s.up) := (HI.out.x.cell 8).trans rfl
 have xl := HI.out.x.lt
 rw [hu] at x8
 go_upto_region 2 with fail
 clear x8 xl
 go_wp2_with (first | (refine loadR rfl (.tmp 1) rfl rfl (s := s) (v := v) HI.out.x ?_) | (refine storeR rfl rfl (.tmp 2) (.tmp 11) rfl rfl (s := s) (v := v) rfl HI.out.r rfl ?_; intro w9 hb9 hk9 hs9))
 have HE := Lib.hid (HI.out.done hk9)
 obtain ⟨x0, x1, x2, x3, x4, x5, x6, x7, x8, x9, x10, x11, x12, x13, x14⟩ := rCells hb9
 clear hk9 hs9 hb9
 refine bodyPost_ret (v := .tuple #[aggR s v, .bool false]) (by simp [results, Tryd.results41, go_sem, x0, x1, x2, x3, x4, x5, x6, x7, x8, x9, x10, x11, x12, x13, x14]) rfl ⟨rfl, HE.out⟩
set_option maxRecDepth 100000 in
set_option maxHeartbeats 3200000 in
theorem rBoot_none (s : WS) (v : RV) (w : World) (hu : s.up = false) (h0 : s.span = 0) : Calls Tryd.prog 41 #[aggR s v] w fun e w' => e = .returned (.tuple #[aggR s v, .bool false]) ∧ Below w.heap.size w w' := by
 have HU := Lib.hid hu
 clear hu
 have H00 := Lib.hid h0
 clear h0
 go_enter Tryd.func41, Tryd.ntmps41
 go_upto_region 1 with fail
 have HI := Lib.hid (RI.start s v w)
 obtain ⟨b, hb0⟩ : ∃ b, w.heap.size = b := ⟨_, rfl⟩
 generalize ((w.alloc (.cells (boxR s v) 74)).alloc (.cells zboxR 74)) = w1 at HI ⊢
 try simp only [World.alloc_size, hb0]
 rw [hb0] at HI
 try rw [hb0]
 clear hb0
 have hu := HU.out
 have x8 : w1.cell? ⟨b, 8, none⟩ = some (.bool s.up) := (HI.out.x.cell 8).trans rfl
 have xl := HI.out.x.lt
 rw [hu] at x8
 have x1 : w1.cell? ⟨b, 1, none⟩ = some (.int .i64 s.span) := (HI.out.x.cell 1).trans rfl
 rw [H00.out] at x1
 go_upto_region 2 with fail
 clear x8 x1 xl
 go_wp2_with (first | (refine loadR rfl (.tmp 1) rfl rfl (s := s) (v := v) HI.out.x ?_) | (refine storeR rfl rfl (.tmp 2) (.tmp 11) rfl rfl (s := s) (v := v) rfl HI.out.r rfl ?_; intro w9 hb9 hk9 hs9))
 have HE := Lib.hid (HI.out.done hk9)
 obtain ⟨x0, x1, x2, x3, x4, x5, x6, x7, x8, x9, x10, x11, x12, x13, x14⟩ := rCells hb9
 clear hk9 hs9 hb9
 refine bodyPost_ret (v := .tuple #[aggR s v, .bool false]) (by simp [results, Tryd.results41, go_sem, x0, x1, x2, x3, x4, x5, x6, x7, x8, x9, x10, x11, x12, x13, x14]) rfl ⟨rfl, HE.out⟩
set_option maxRecDepth 100000 in
set_option maxHeartbeats 3200000 in
theorem rBoot_yes (s : WS) (v : RV) (w : World) (hu : s.up = false) (h0 : 0 < s.span) (hi : 0 ≤ s.inc ∧ s.inc ≤ 2147483647) : Calls Tryd.prog 41 #[aggR s v] w fun e w' => e = .returned (.tuple #[aggR s.boot v.nil, .bool true]) ∧ Below w.heap.size w w' := by
 have HU := Lib.hid hu
 clear hu
 go_enter Tryd.func41, Tryd.ntmps41
 go_upto_region 1 with fail
 have HI := Lib.hid (RI.start s v w)
 obtain ⟨b, hb0⟩ : ∃ b, w.heap.size = b := ⟨_, rfl⟩
 generalize ((w.alloc (.cells (boxR s v) 74)).alloc (.cells zboxR 74)) = w1 at HI ⊢
 try simp only [World.alloc_size, hb0]
 rw [hb0] at HI
 try rw [hb0]
 clear hb0
 have hu := HU.out
 have x8 : w1.cell? ⟨b, 8, none⟩ = some (.bool s.up) := (HI.out.x.cell 8).trans rfl
 have xl := HI.out.x.lt
 rw [hu] at x8
 have x1 : w1.cell? ⟨b, 1, none⟩ = some (.int .i64 s.span) := (HI.out.x.cell 1).trans rfl
 have t1 : (s.span == 0) = false := by simp; omega
 go_upto_region 3 with fail
 clear x1 t1
 have xf := HI.out.x.frozen
 go_upto_region 4 with fail
 clear xl xf x8
 have hx : Blk (w1.setCell ⟨b, 8, none⟩ (.bool true)) b 74 (boxR ({ s with up := true } : WS) v) := by
  have h2 := (HI.out.x.set_ 8 (.bool true))
  simp only [List.setIfInBounds_toArray, List.set_cons_zero, List.set_cons_succ] at h2
  exact h2
 have hk : Kept (fun k => k = b) w1 (w1.setCell ⟨b, 8, none⟩ (.bool true)) := (Kept.setCell (F := fun k => k = b) (Kept.refl _ w1) (p := ⟨b, 8, none⟩) (fun _ => rfl) (.bool true))
 have H2 := Lib.hid (HI.out.laid hx hk)
 clear hx hk HI
 generalize (w1.setCell ⟨b, 8, none⟩ (.bool true)) = w2 at H2 ⊢
 have hcx := rAnew_t ({ s with up := true } : WS) v w2 hi
 go_wp2_with (first | (refine loadR rfl (.tmp 1) rfl rfl (s := ({ s with up := true } : WS)) (v := v) H2.out.x ?_) | (go_at_call 69; (with_reducible refine hcx.mono ?_); rintro e w3 ⟨rfl, hb3⟩; have H3 := Lib.hid (H2.out.below hb3)) | (refine storeR rfl rfl (.tmp 2) (.tmp 14) rfl rfl (s := s.boot) (v := v.nil) rfl H3.out.r rfl ?_; intro w9 hb9 hk9 hs9))
 have HE := Lib.hid (H3.out.done hk9)
 obtain ⟨x0, x1, x2, x3, x4, x5, x6, x7, x8, x9, x10, x11, x12, x13, x14⟩ := rCells hb9
 clear hk9 hs9 hb9
 refine bodyPost_ret (v := .tuple #[aggR s.boot v.nil, .bool true]) (by simp [results, Tryd.results41, go_sem, x0, x1, x2, x3, x4, x5, x6, x7, x8, x9, x10, x11, x12, x13, x14]) rfl ⟨rfl, HE.out⟩
end Go.Proofs.YthhnocnkicoimaaDoor
namespace Go.Proofs.YthhnocnkicoimaaDoor
open Go.RowKit Go.Maps

theorem rRight_t (r : LRes) (w : World) : Calls Tryd.prog 68 #[aggRes r] w fun e w' => e = .returned (.bool (rightR r)) ∧ Below w.heap.size w w' :=
 (refRight_t r w).mono fun e w' h => ⟨h.1, by rw [h.2]; exact (Below.refl _ _).alloc (Nat.le_refl _) _⟩
/-- A res is read as a whole. -/
theorem loadResB {ops : Array Oper} {rest : List Oper} {op : Oper} {a : Act} {w : World} {Q : Exit → Act → World → Prop} (hgd : op.guard = none) (x : Operand) (ho : op.op = .load 36 x) {b : Nat} (hx : a.eval x = .pointer (some ⟨b, 0, none⟩)) {r : LRes} (hb : Blk w b 36 (boxRes r)) (h : wpList Tryd.prog ops Q rest (a.put op.dst (.agg (boxRes r))) w) : wpList Tryd.prog ops Q (op :: rest) a w :=
 wpList_load_mid hgd 36 x ho b 0 hx (boxRes r).toList _ (fun j u hu => by rw [Nat.zero_add]; exact (hb.cell j).trans ((List.getElem?_toArray).trans hu)) Tryd.underlying36 rfl (by kernel_rfl) h
set_option maxRecDepth 100000 in
set_option maxHeartbeats 3200000 in
theorem rNew_yes (node span : Int) (r : LRes) (w : World) (hn : inM node 0 15 = true) (hr : rightR r = true) (hs : inM span 1 64 = true) : Calls Tryd.prog 34 #[.int .i64 node, aggRes r, .int .i64 span] w fun e w' => e = .returned (.tuple #[aggR (WS.made node span r) RV.zero, .int .i64 0]) ∧ Below w.heap.size w w' := by
 have hn2 : 0 ≤ node ∧ node ≤ 15 := by simpa [inM] using hn
 have hs2 : 1 ≤ span ∧ span ≤ 64 := by simpa [inM] using hs
 have HRR := Lib.hid hr
 clear hn hs hr
 go_enter Tryd.func34, Tryd.ntmps34
 go_upto_region 1 with fail
 have HR := Lib.hid (And.intro (Blk.new w 36 (boxRes r)) (Blk.new (w.alloc (.cells (boxRes r) 36)) 74 zboxR))
 have hB : Below w.heap.size w ((w.alloc (.cells (boxRes r) 36)).alloc (.cells zboxR 74)) := ((Below.refl _ _).alloc (Nat.le_refl _) _).alloc (by simp) _
 have hs1 : (w.alloc (.cells (boxRes r) 36)).heap.size = w.heap.size + 1 := by simp
 rw [hs1] at HR
 have H1 := Lib.hid (And.intro (HR.out.1.alloc (.cells zboxR 74)) HR.out.2)
 have HB1 := Lib.hid hB
 clear hB HR hs1
 obtain ⟨b, hb0⟩ : ∃ b, w.heap.size = b := ⟨_, rfl⟩
 have hge : w.heap.size ≤ b := by omega
 generalize ((w.alloc (.cells (boxRes r) 36)).alloc (.cells zboxR 74)) = w1 at H1 HB1 ⊢
 have HG := Lib.hid hge
 rw [hb0] at H1
 try rw [hb0]
 have r0 : w1.cell? ⟨b, 0, none⟩ = some (.int .i64 r.a) := (H1.out.1.cell 0).trans rfl
 have r1 : w1.cell? ⟨b, 1, none⟩ = some (.int .i64 r.b) := (H1.out.1.cell 1).trans rfl
 have r2 : w1.cell? ⟨b, 2, none⟩ = some (.int .i64 r.c) := (H1.out.1.cell 2).trans rfl
 have rl := H1.out.1.lt
 have hr := HRR.out
 have hcx := rRight_t r w1
 rw [hr] at hcx
 have t1 : decide (node < 0) = false := decide_eq_false (by omega)
 have t2 : decide (15 < node) = false := decide_eq_false (by omega)
 have t3 : decide (span < 1) = false := decide_eq_false (by omega)
 have t4 : decide (64 < span) = false := decide_eq_false (by omega)
 go_upto_region 3 with (go_at_call 68; (with_reducible refine hcx.mono ?_); rintro e w2 ⟨rfl, hb2⟩)
 have H2 := Lib.hid (H1.out.2.below hb2 H1.out.2.lt)
 have HB2 := Lib.hid (HB1.out.trans (hb2.mono HB1.out.size))
 have H2r := Lib.hid (H1.out.1.below hb2 H1.out.1.lt)
 clear hb2 hcx r0 r1 r2 rl H1 HB1 hb0 hge
 clear t1 t2 t3 t4
 go_wp2_with (first | (refine loadResB rfl (.tmp 4) rfl rfl H2r.out ?_) | (refine storeR rfl rfl (.tmp 6) (.tmp 31) rfl rfl (s := (WS.made node span r)) (v := RV.zero) rfl H2.out rfl ?_; intro w9 hb9 hk9 hs9))
 have HE := Lib.hid (HB2.out.trans (hk9.below HB2.out.size (fun i hi e => by have := HG.out; omega)))
 obtain ⟨x0, x1, x2, x3, x4, x5, x6, x7, x8, x9, x10, x11, x12, x13, x14⟩ := rCells hb9
 clear hk9 hs9 hb9
 refine bodyPost_ret (v := .tuple #[aggR (WS.made node span r) RV.zero, .int .i64 0]) (by simp [results, Tryd.results34, go_sem, x0, x1, x2, x3, x4, x5, x6, x7, x8, x9, x10, x11, x12, x13, x14]) rfl ⟨rfl, HE.out⟩
set_option maxRecDepth 100000 in
set_option maxHeartbeats 3200000 in
theorem rNew_n1 (node span : Int) (r : LRes) (w : World) (h1 : node < 0) : Calls Tryd.prog 34 #[.int .i64 node, aggRes r, .int .i64 span] w fun e w' => e = .returned (.tuple #[aggR WS.zero RV.zero, .int .i64 1]) ∧ Below w.heap.size w w' := by
 go_enter Tryd.func34, Tryd.ntmps34
 go_upto_region 1 with fail
 have HR := Lib.hid (And.intro (Blk.new w 36 (boxRes r)) (Blk.new (w.alloc (.cells (boxRes r) 36)) 74 zboxR))
 have hB : Below w.heap.size w ((w.alloc (.cells (boxRes r) 36)).alloc (.cells zboxR 74)) := ((Below.refl _ _).alloc (Nat.le_refl _) _).alloc (by simp) _
 have hs1 : (w.alloc (.cells (boxRes r) 36)).heap.size = w.heap.size + 1 := by simp
 rw [hs1] at HR
 have H1 := Lib.hid (And.intro (HR.out.1.alloc (.cells zboxR 74)) HR.out.2)
 have HB1 := Lib.hid hB
 clear hB HR hs1
 obtain ⟨b, hb0⟩ : ∃ b, w.heap.size = b := ⟨_, rfl⟩
 have hge : w.heap.size ≤ b := by omega
 generalize ((w.alloc (.cells (boxRes r) 36)).alloc (.cells zboxR 74)) = w1 at H1 HB1 ⊢
 have HG := Lib.hid hge
 rw [hb0] at H1
 try rw [hb0]
 have r0 : w1.cell? ⟨b, 0, none⟩ = some (.int .i64 r.a) := (H1.out.1.cell 0).trans rfl
 have r1 : w1.cell? ⟨b, 1, none⟩ = some (.int .i64 r.b) := (H1.out.1.cell 1).trans rfl
 have r2 : w1.cell? ⟨b, 2, none⟩ = some (.int .i64 r.c) := (H1.out.1.cell 2).trans rfl
 have rl := H1.out.1.lt
 have t1 : decide (node < 0) = true := decide_eq_true (by omega)
 go_upto_region 2 with fail
 clear r0 r1 r2 rl hb0 hge
 go_wp2_with (refine storeR rfl rfl (.tmp 6) (.tmp 27) rfl rfl (s := WS.zero) (v := RV.zero) rfl H1.out.2 rfl ?_; intro w9 hb9 hk9 hs9)
 have HE := Lib.hid (HB1.out.trans (hk9.below HB1.out.size (fun i hi e => by have := HG.out; omega)))
 obtain ⟨x0, x1, x2, x3, x4, x5, x6, x7, x8, x9, x10, x11, x12, x13, x14⟩ := rCells hb9
 clear hk9 hs9 hb9
 refine bodyPost_ret (v := .tuple #[aggR WS.zero RV.zero, .int .i64 1]) (by simp [results, Tryd.results34, go_sem, x0, x1, x2, x3, x4, x5, x6, x7, x8, x9, x10, x11, x12, x13, x14]) rfl ⟨rfl, HE.out⟩
set_option maxRecDepth 100000 in
set_option maxHeartbeats 3200000 in
theorem rNew_n2 (node span : Int) (r : LRes) (w : World) (h1 : 15 < node) : Calls Tryd.prog 34 #[.int .i64 node, aggRes r, .int .i64 span] w fun e w' => e = .returned (.tuple #[aggR WS.zero RV.zero, .int .i64 1]) ∧ Below w.heap.size w w' := by
 go_enter Tryd.func34, Tryd.ntmps34
 go_upto_region 1 with fail
 have HR := Lib.hid (And.intro (Blk.new w 36 (boxRes r)) (Blk.new (w.alloc (.cells (boxRes r) 36)) 74 zboxR))
 have hB : Below w.heap.size w ((w.alloc (.cells (boxRes r) 36)).alloc (.cells zboxR 74)) := ((Below.refl _ _).alloc (Nat.le_refl _) _).alloc (by simp) _
 have hs1 : (w.alloc (.cells (boxRes r) 36)).heap.size = w.heap.size + 1 := by simp
 rw [hs1] at HR
 have H1 := Lib.hid (And.intro (HR.out.1.alloc (.cells zboxR 74)) HR.out.2)
 have HB1 := Lib.hid hB
 clear hB HR hs1
 obtain ⟨b, hb0⟩ : ∃ b, w.heap.size = b := ⟨_, rfl⟩
 have hge : w.heap.size ≤ b := by omega
 generalize ((w.alloc (.cells (boxRes r) 36)).alloc (.cells zboxR 74)) = w1 at H1 HB1 ⊢
 have HG := Lib.hid hge
 rw [hb0] at H1
 try rw [hb0]
 have r0 : w1.cell? ⟨b, 0, none⟩ = some (.int .i64 r.a) := (H1.out.1.cell 0).trans rfl
 have r1 : w1.cell? ⟨b, 1, none⟩ = some (.int .i64 r.b) := (H1.out.1.cell 1).trans rfl
 have r2 : w1.cell? ⟨b, 2, none⟩ = some (.int .i64 r.c) := (H1.out.1.cell 2).trans rfl
 have rl := H1.out.1.lt
 have t1 : decide (node < 0) = false := decide_eq_false (by omega)
 have t2 : decide (15 < node) = true := decide_eq_true (by omega)
 go_upto_region 2 with fail
 clear r0 r1 r2 rl hb0 hge
 go_wp2_with (refine storeR rfl rfl (.tmp 6) (.tmp 27) rfl rfl (s := WS.zero) (v := RV.zero) rfl H1.out.2 rfl ?_; intro w9 hb9 hk9 hs9)
 have HE := Lib.hid (HB1.out.trans (hk9.below HB1.out.size (fun i hi e => by have := HG.out; omega)))
 obtain ⟨x0, x1, x2, x3, x4, x5, x6, x7, x8, x9, x10, x11, x12, x13, x14⟩ := rCells hb9
 clear hk9 hs9 hb9
 refine bodyPost_ret (v := .tuple #[aggR WS.zero RV.zero, .int .i64 1]) (by simp [results, Tryd.results34, go_sem, x0, x1, x2, x3, x4, x5, x6, x7, x8, x9, x10, x11, x12, x13, x14]) rfl ⟨rfl, HE.out⟩
set_option maxRecDepth 100000 in
set_option maxHeartbeats 3200000 in
theorem rNew_n3 (node span : Int) (r : LRes) (w : World) (h1 : 0 ≤ node ∧ node ≤ 15) (hr : rightR r = false) : Calls Tryd.prog 34 #[.int .i64 node, aggRes r, .int .i64 span] w fun e w' => e = .returned (.tuple #[aggR WS.zero RV.zero, .int .i64 1]) ∧ Below w.heap.size w w' := by
 have HRR := Lib.hid hr
 clear hr
 go_enter Tryd.func34, Tryd.ntmps34
 go_upto_region 1 with fail
 have HR := Lib.hid (And.intro (Blk.new w 36 (boxRes r)) (Blk.new (w.alloc (.cells (boxRes r) 36)) 74 zboxR))
 have hB : Below w.heap.size w ((w.alloc (.cells (boxRes r) 36)).alloc (.cells zboxR 74)) := ((Below.refl _ _).alloc (Nat.le_refl _) _).alloc (by simp) _
 have hs1 : (w.alloc (.cells (boxRes r) 36)).heap.size = w.heap.size + 1 := by simp
 rw [hs1] at HR
 have H1 := Lib.hid (And.intro (HR.out.1.alloc (.cells zboxR 74)) HR.out.2)
 have HB1 := Lib.hid hB
 clear hB HR hs1
 obtain ⟨b, hb0⟩ : ∃ b, w.heap.size = b := ⟨_, rfl⟩
 have hge : w.heap.size ≤ b := by omega
 generalize ((w.alloc (.cells (boxRes r) 36)).alloc (.cells zboxR 74)) = w1 at H1 HB1 ⊢
 have HG := Lib.hid hge
 rw [hb0] at H1
 try rw [hb0]
 have r0 : w1.cell? ⟨b, 0, none⟩ = some (.int .i64 r.a) := (H1.out.1.cell 0).trans rfl
 have r1 : w1.cell? ⟨b, 1, none⟩ = some (.int .i64 r.b) := (H1.out.1.cell 1).trans rfl
 have r2 : w1.cell? ⟨b, 2, none⟩ = some (.int .i64 r.c) := (H1.out.1.cell 2).trans rfl
 have rl := H1.out.1.lt
 have hr := HRR.out
 have hcx := rRight_t r w1
 rw [hr] at hcx
 have t1 : decide (node < 0) = false := decide_eq_false (by omega)
 have t2 : decide (15 < node) = false := decide_eq_false (by omega)
 go_upto_region 2 with (go_at_call 68; (with_reducible refine hcx.mono ?_); rintro e w2 ⟨rfl, hb2⟩)
 have H2 := Lib.hid (H1.out.2.below hb2 H1.out.2.lt)
 have HB2 := Lib.hid (HB1.out.trans (hb2.mono HB1.out.size))
 have H2r := Lib.hid (H1.out.1.below hb2 H1.out.1.lt)
 clear hb2 hcx r0 r1 r2 rl H1 HB1 hb0 hge
 go_wp2_with (refine storeR rfl rfl (.tmp 6) (.tmp 27) rfl rfl (s := WS.zero) (v := RV.zero) rfl H2.out rfl ?_; intro w9 hb9 hk9 hs9)
 have HE := Lib.hid (HB2.out.trans (hk9.below HB2.out.size (fun i hi e => by have := HG.out; omega)))
 obtain ⟨x0, x1, x2, x3, x4, x5, x6, x7, x8, x9, x10, x11, x12, x13, x14⟩ := rCells hb9
 clear hk9 hs9 hb9
 refine bodyPost_ret (v := .tuple #[aggR WS.zero RV.zero, .int .i64 1]) (by simp [results, Tryd.results34, go_sem, x0, x1, x2, x3, x4, x5, x6, x7, x8, x9, x10, x11, x12, x13, x14]) rfl ⟨rfl, HE.out⟩
set_option maxRecDepth 100000 in
set_option maxHeartbeats 3200000 in
theorem rNew_n4 (node span : Int) (r : LRes) (w : World) (h1 : 0 ≤ node ∧ node ≤ 15) (hr : rightR r = true) (h3 : span < 1) : Calls Tryd.prog 34 #[.int .i64 node, aggRes r, .int .i64 span] w fun e w' => e = .returned (.tuple #[aggR WS.zero RV.zero, .int .i64 1]) ∧ Below w.heap.size w w' := by
 have HRR := Lib.hid hr
 clear hr
 go_enter Tryd.func34, Tryd.ntmps34
 go_upto_region 1 with fail
 have HR := Lib.hid (And.intro (Blk.new w 36 (boxRes r)) (Blk.new (w.alloc (.cells (boxRes r) 36)) 74 zboxR))
 have hB : Below w.heap.size w ((w.alloc (.cells (boxRes r) 36)).alloc (.cells zboxR 74)) := ((Below.refl _ _).alloc (Nat.le_refl _) _).alloc (by simp) _
 have hs1 : (w.alloc (.cells (boxRes r) 36)).heap.size = w.heap.size + 1 := by simp
 rw [hs1] at HR
 have H1 := Lib.hid (And.intro (HR.out.1.alloc (.cells zboxR 74)) HR.out.2)
 have HB1 := Lib.hid hB
 clear hB HR hs1
 obtain ⟨b, hb0⟩ : ∃ b, w.heap.size = b := ⟨_, rfl⟩
 have hge : w.heap.size ≤ b := by omega
 generalize ((w.alloc (.cells (boxRes r) 36)).alloc (.cells zboxR 74)) = w1 at H1 HB1 ⊢
 have HG := Lib.hid hge
 rw [hb0] at H1
 try rw [hb0]
 have r0 : w1.cell? ⟨b, 0, none⟩ = some (.int .i64 r.a) := (H1.out.1.cell 0).trans rfl
 have r1 : w1.cell? ⟨b, 1, none⟩ = some (.int .i64 r.b) := (H1.out.1.cell 1).trans rfl
 have r2 : w1.cell? ⟨b, 2, none⟩ = some (.int .i64 r.c) := (H1.out.1.cell 2).trans rfl
 have rl := H1.out.1.lt
 have hr := HRR.out
 have hcx := rRight_t r w1
 rw [hr] at hcx
 have t1 : decide (node < 0) = false := decide_eq_false (by omega)
 have t2 : decide (15 < node) = false := decide_eq_false (by omega)
 have t3 : decide (span < 1) = true := decide_eq_true (by omega)
 go_upto_region 2 with (go_at_call 68; (with_reducible refine hcx.mono ?_); rintro e w2 ⟨rfl, hb2⟩)
 have H2 := Lib.hid (H1.out.2.below hb2 H1.out.2.lt)
 have HB2 := Lib.hid (HB1.out.trans (hb2.mono HB1.out.size))
 have H2r := Lib.hid (H1.out.1.below hb2 H1.out.1.lt)
 clear hb2 hcx r0 r1 r2 rl H1 HB1 hb0 hge
 go_wp2_with (refine storeR rfl rfl (.tmp 6) (.tmp 27) rfl rfl (s := WS.zero) (v := RV.zero) rfl H2.out rfl ?_; intro w9 hb9 hk9 hs9)
 have HE := Lib.hid (HB2.out.trans (hk9.below HB2.out.size (fun i hi e => by have := HG.out; omega)))
 obtain ⟨x0, x1, x2, x3, x4, x5, x6, x7, x8, x9, x10, x11, x12, x13, x14⟩ := rCells hb9
 clear hk9 hs9 hb9
 refine bodyPost_ret (v := .tuple #[aggR WS.zero RV.zero, .int .i64 1]) (by simp [results, Tryd.results34, go_sem, x0, x1, x2, x3, x4, x5, x6, x7, x8, x9, x10, x11, x12, x13, x14]) rfl ⟨rfl, HE.out⟩
set_option maxRecDepth 100000 in
set_option maxHeartbeats 3200000 in
theorem rNew_n5 (node span : Int) (r : LRes) (w : World) (h1 : 0 ≤ node ∧ node ≤ 15) (hr : rightR r = true) (h3 : 64 < span) : Calls Tryd.prog 34 #[.int .i64 node, aggRes r, .int .i64 span] w fun e w' => e = .returned (.tuple #[aggR WS.zero RV.zero, .int .i64 1]) ∧ Below w.heap.size w w' := by
 have HRR := Lib.hid hr
 clear hr
 go_enter Tryd.func34, Tryd.ntmps34
 go_upto_region 1 with fail
 have HR := Lib.hid (And.intro (Blk.new w 36 (boxRes r)) (Blk.new (w.alloc (.cells (boxRes r) 36)) 74 zboxR))
 have hB : Below w.heap.size w ((w.alloc (.cells (boxRes r) 36)).alloc (.cells zboxR 74)) := ((Below.refl _ _).alloc (Nat.le_refl _) _).alloc (by simp) _
 have hs1 : (w.alloc (.cells (boxRes r) 36)).heap.size = w.heap.size + 1 := by simp
 rw [hs1] at HR
 have H1 := Lib.hid (And.intro (HR.out.1.alloc (.cells zboxR 74)) HR.out.2)
 have HB1 := Lib.hid hB
 clear hB HR hs1
 obtain ⟨b, hb0⟩ : ∃ b, w.heap.size = b := ⟨_, rfl⟩
 have hge : w.heap.size ≤ b := by omega
 generalize ((w.alloc (.cells (boxRes r) 36)).alloc (.cells zboxR 74)) = w1 at H1 HB1 ⊢
 have HG := Lib.hid hge
 rw [hb0] at H1
 try rw [hb0]
 have r0 : w1.cell? ⟨b, 0, none⟩ = some (.int .i64 r.a) := (H1.out.1.cell 0).trans rfl
 have r1 : w1.cell? ⟨b, 1, none⟩ = some (.int .i64 r.b) := (H1.out.1.cell 1).trans rfl
 have r2 : w1.cell? ⟨b, 2, none⟩ = some (.int .i64 r.c) := (H1.out.1.cell 2).trans rfl
 have rl := H1.out.1.lt
 have hr := HRR.out
 have hcx := rRight_t r w1
 rw [hr] at hcx
 have t1 : decide (node < 0) = false := decide_eq_false (by omega)
 have t2 : decide (15 < node) = false := decide_eq_false (by omega)
 have t3 : decide (span < 1) = false := decide_eq_false (by omega)
 have t4 : decide (64 < span) = true := decide_eq_true (by omega)
 go_upto_region 2 with (go_at_call 68; (with_reducible refine hcx.mono ?_); rintro e w2 ⟨rfl, hb2⟩)
 have H2 := Lib.hid (H1.out.2.below hb2 H1.out.2.lt)
 have HB2 := Lib.hid (HB1.out.trans (hb2.mono HB1.out.size))
 have H2r := Lib.hid (H1.out.1.below hb2 H1.out.1.lt)
 clear hb2 hcx r0 r1 r2 rl H1 HB1 hb0 hge
 go_wp2_with (refine storeR rfl rfl (.tmp 6) (.tmp 27) rfl rfl (s := WS.zero) (v := RV.zero) rfl H2.out rfl ?_; intro w9 hb9 hk9 hs9)
 have HE := Lib.hid (HB2.out.trans (hk9.below HB2.out.size (fun i hi e => by have := HG.out; omega)))
 obtain ⟨x0, x1, x2, x3, x4, x5, x6, x7, x8, x9, x10, x11, x12, x13, x14⟩ := rCells hb9
 clear hk9 hs9 hb9
 refine bodyPost_ret (v := .tuple #[aggR WS.zero RV.zero, .int .i64 1]) (by simp [results, Tryd.results34, go_sem, x0, x1, x2, x3, x4, x5, x6, x7, x8, x9, x10, x11, x12, x13, x14]) rfl ⟨rfl, HE.out⟩
end Go.Proofs.YthhnocnkicoimaaDoor
namespace Go.Proofs.YthhnocnkicoimaaDoor
open Go.RowKit Go.Maps

/-- A row that is the elder one or lies in memory that was made since. -/
def putW (l : List Int) (A0 : Option Addr) (n0 : Nat) (base : Nat) : MV :=
 ⟨fun v w => ∃ A n c, v = .slice A n c ∧ RdI w A n l ∧ n ≤ c ∧ ((A = A0 ∧ n = n0) ∨ ∀ ad, A = some ad → base ≤ ad.block ∧ ad.block < w.heap.size),
  fun _ _ _ ⟨A, n, c, e, h, hn, hp⟩ hb => ⟨A, n, c, e, h.below hb, hn, hp.imp id (fun h ad ha => ⟨(h ad ha).1, Nat.lt_of_lt_of_le (h ad ha).2 hb.size⟩)⟩⟩
def From (w w' : World) (A : Option Addr) (n : Nat) (A' : Option Addr) (n' : Nat) : Prop := (A' = A ∧ n' = n) ∨ ∀ ad, A' = some ad → w.heap.size ≤ ad.block ∧ ad.block < w'.heap.size
/-- What the rows of a value read as. -/
structure RdR (w : World) (v : RV) (s : WS) : Prop where
 h : RdI w v.ha v.hn s.held
 d : RdI w v.da v.dn s.done
 t : RdI w v.ta v.tn s.told
 hc : v.hn ≤ v.hc
 dc : v.dn ≤ v.dc
 tc : v.tn ≤ v.tc
theorem RdR.below {w w' : World} {v : RV} {s : WS} (h : RdR w v s) (hb : Below w.heap.size w w') : RdR w' v s := ⟨h.h.below hb, h.d.below hb, h.t.below hb, h.hc, h.dc, h.tc⟩
theorem RdR.nil (w : World) (v : RV) (s : WS) (h1 : s.held = []) (h2 : s.done = []) (h3 : s.told = []) : RdR w v.nil s := by
 refine ⟨?_, ?_, ?_, Nat.le_refl _, Nat.le_refl _, Nat.le_refl _⟩
 ·rw [h1]; exact (OwnL.nil (enc := encI) (e := 3) (sz := 1) w 0).rd (fun _ => rfl)
 ·rw [h2]; exact (OwnL.nil (enc := encI) (e := 3) (sz := 1) w 0).rd (fun _ => rfl)
 ·rw [h3]; exact (OwnL.nil (enc := encI) (e := 3) (sz := 1) w 0).rd (fun _ => rfl)
/-- Each row of the new value is the elder one's, or lies in memory that was made since. -/
structure RT (w w' : World) (v v' : RV) : Prop where
 h : From w w' v.ha v.hn v'.ha v'.hn
 d : From w w' v.da v.dn v'.da v'.dn
 t : From w w' v.ta v.tn v'.ta v'.tn
theorem From.refl (w w' : World) (A : Option Addr) (n : Nat) : From w w' A n A n := .inl ⟨rfl, rfl⟩
theorem From.none (w w' : World) (A : Option Addr) (n n' : Nat) : From w w' A n Option.none n' := .inr (fun _ h => by cases h)
theorem From.grow {w w1 w2 : World} {A A' : Option Addr} {n n' : Nat} (h : From w w1 A n A' n') (hs : w1.heap.size ≤ w2.heap.size) : From w w2 A n A' n' := h.imp id (fun h ad ha => ⟨(h ad ha).1, Nat.lt_of_lt_of_le (h ad ha).2 hs⟩)
theorem From.down {w0 w w1 : World} {A A' : Option Addr} {n n' : Nat} (h : From w w1 A n A' n') (hs : w0.heap.size ≤ w.heap.size) : From w0 w1 A n A' n' := h.imp id (fun h ad ha => ⟨Nat.le_trans hs (h ad ha).1, (h ad ha).2⟩)
theorem RT.refl (w w' : World) (v : RV) : RT w w' v v := ⟨.refl _ _ _ _, .refl _ _ _ _, .refl _ _ _ _⟩
theorem RT.nil (w w' : World) (v : RV) : RT w w' v v.nil := ⟨.none _ _ _ _ _, .none _ _ _ _ _, .none _ _ _ _ _⟩
/-- A row that the box does not hold. -/
theorem From.ne {w w1 : World} {A A' : Option Addr} {n n' : Nat} {l : List Int} (h : RdI w A n l) (hp : From w1 w1 A n A' n' ∨ (A' = A ∧ n' = n) ∨ ∀ ad, A' = some ad → w1.heap.size ≤ ad.block) {k : Nat} (h1 : w.heap.size ≤ k) (h2 : k < w1.heap.size) : 0 < n' → ∀ ad, A' = some ad → ¬ ad.block = k := by
 intro hn ad ha e
 rcases hp with (⟨rfl, rfl⟩ | hp) | ⟨rfl, rfl⟩ | hp
 ·have := h.lt_ hn ad ha; omega
 ·have := hp ad ha; omega
 ·have := h.lt_ hn ad ha; omega
 ·have := hp ad ha; omega
theorem RT.mono {w0 w1 w2 w3 : World} {v v' : RV} (h : RT w1 w2 v v') (h1 : w0.heap.size ≤ w1.heap.size) (h2 : w2.heap.size ≤ w3.heap.size) : RT w0 w3 v v' := ⟨(h.h.down h1).grow h2, (h.d.down h1).grow h2, (h.t.down h1).grow h2⟩
theorem From.off {w w1 w2 : World} {A A' : Option Addr} {n n' : Nat} {l : List Int} (h : RdI w A n l) (hp : From w1 w2 A n A' n') {k : Nat} (h1 : w.heap.size ≤ k) (h2 : k < w1.heap.size) : 0 < n' → ∀ ad, A' = some ad → ¬ ad.block = k :=
 From.ne h (.inr (hp.imp id (fun h ad ha => (h ad ha).1))) h1 h2
/-- A box that was made ahead of the new rows is laid. -/
theorem RdR.box {w w1 w2 w3 : World} {v v' : RV} {s s' : WS} {q : Nat} (h : RdR w2 v' s') (hR : RdR w v s) (ht : RT w1 w2 v v') (hk : Kept (fun k => k = q) w2 w3) (h1 : w.heap.size ≤ q) (h2 : q < w1.heap.size) : RdR w3 v' s' :=
 ⟨h.h.kept hk (From.off hR.h ht.h h1 h2), h.d.kept hk (From.off hR.d ht.d h1 h2), h.t.kept hk (From.off hR.t ht.t h1 h2), h.hc, h.dc, h.tc⟩
set_option maxRecDepth 100000 in
set_option maxHeartbeats 3200000 in
theorem rFinish_dead (s : WS) (v : RV) (now job : Int) (w : World) (hl : s.live now = false) : Calls Tryd.prog 38 #[aggR s v, .int .i64 now, .int .i64 job] w fun e w' => e = .returned (.tuple #[aggR s v, .bool false]) ∧ Below w.heap.size w w' := by
 go_enter Tryd.func38, Tryd.ntmps38
 go_upto_region 1 with fail
 have HI := Lib.hid (RI.start s v w)
 obtain ⟨b, hb0⟩ : ∃ b, w.heap.size = b := ⟨_, rfl⟩
 generalize ((w.alloc (.cells (boxR s v) 74)).alloc (.cells zboxR 74)) = w1 at HI ⊢
 try simp only [World.alloc_size, hb0]
 rw [hb0] at HI
 try rw [hb0]
 clear hb0
 have hcx := rLive_t s v now w1
 rw [hl] at hcx
 go_upto_region 2 with (first | (refine loadR rfl (.tmp 3) rfl rfl (s := s) (v := v) HI.out.x ?_) | (go_at_call 73; (with_reducible refine hcx.mono ?_); rintro e w2 ⟨rfl, hb2⟩))
 have H2 := Lib.hid (HI.out.below hb2)
 clear hb2 hcx HI
 go_wp2_with (first | (refine loadR rfl (.tmp 3) rfl rfl (s := s) (v := v) H2.out.x ?_) | (refine storeR rfl rfl (.tmp 6) (.tmp 19) rfl rfl (s := s) (v := v) rfl H2.out.r rfl ?_; intro w9 hb9 hk9 hs9))
 have HE := Lib.hid (H2.out.done hk9)
 obtain ⟨x0, x1, x2, x3, x4, x5, x6, x7, x8, x9, x10, x11, x12, x13, x14⟩ := rCells hb9
 clear hk9 hs9 hb9
 refine bodyPost_ret (v := .tuple #[aggR s v, .bool false]) (by simp [results, Tryd.results38, go_sem, x0, x1, x2, x3, x4, x5, x6, x7, x8, x9, x10, x11, x12, x13, x14]) rfl ⟨rfl, HE.out⟩
set_option maxRecDepth 100000 in
set_option maxHeartbeats 3200000 in
theorem rFinish_no (s : WS) (v : RV) (now job : Int) (w : World) (hl : s.live now = true) (hin : job ∉ s.held) (hR : RdR w v s) (hn : s.held.length ≤ 1000000) : Calls Tryd.prog 38 #[aggR s v, .int .i64 now, .int .i64 job] w fun e w' => e = .returned (.tuple #[aggR s v, .bool false]) ∧ Below w.heap.size w w' := by
 have HRR := Lib.hid hR
 have hdc : decide (job ∈ s.held) = false := decide_eq_false hin
 clear hR hin
 go_enter Tryd.func38, Tryd.ntmps38
 go_upto_region 1 with fail
 have HI := Lib.hid (RI.start s v w)
 obtain ⟨b, hb0⟩ : ∃ b, w.heap.size = b := ⟨_, rfl⟩
 generalize ((w.alloc (.cells (boxR s v) 74)).alloc (.cells zboxR 74)) = w1 at HI ⊢
 try simp only [World.alloc_size, hb0]
 rw [hb0] at HI
 try rw [hb0]
 clear hb0
 have hcx := rLive_t s v now w1
 rw [hl] at hcx
 go_wp2_with (first | (refine loadR rfl (.tmp 3) rfl rfl (s := s) (v := v) HI.out.x ?_))
 (with_reducible refine hcx.mono ?_)
 clear hcx
 rintro e w2 ⟨rfl, hb2⟩
 have H2 := Lib.hid (HI.out.below hb2)
 clear hb2 HI
 have x12 : w2.cell? ⟨b, 12, none⟩ = some (.slice v.ha v.hn v.hc) := (H2.out.x.cell 12).trans rfl
 have xl := H2.out.x.lt
 have hcx := has12 v.ha v.hn v.hc s.held job w2 (HRR.out.h.below H2.out.bel) (by have := HRR.out.h.len; omega)
 rw [hdc] at hcx
 go_wp2_with fail
 (with_reducible refine hcx.mono ?_)
 clear hcx x12 xl
 rintro e w3 ⟨rfl, hw3⟩
 subst hw3
 go_upto_region 2 with fail
 go_wp2_with (first | (refine loadR rfl (.tmp 3) rfl rfl (s := s) (v := v) H2.out.x ?_) | (refine storeR rfl rfl (.tmp 6) (.tmp 19) rfl rfl (s := s) (v := v) rfl H2.out.r rfl ?_; intro w9 hb9 hk9 hs9))
 have HE := Lib.hid (H2.out.done hk9)
 obtain ⟨x0, x1, x2, x3, x4, x5, x6, x7, x8, x9, x10, x11, x12, x13, x14⟩ := rCells hb9
 clear hk9 hs9 hb9
 refine bodyPost_ret (v := .tuple #[aggR s v, .bool false]) (by simp [results, Tryd.results38, go_sem, x0, x1, x2, x3, x4, x5, x6, x7, x8, x9, x10, x11, x12, x13, x14]) rfl ⟨rfl, HE.out⟩
set_option maxRecDepth 100000 in
set_option maxHeartbeats 6400000 in
theorem rFinish_yes (s : WS) (v : RV) (now job : Int) (w : World) (hl : s.live now = true) (hin : job ∈ s.held) (hR : RdR w v s) (hn : s.held.length ≤ 1000000) (hn2 : s.done.length ≤ 1000000) : Calls Tryd.prog 38 #[aggR s v, .int .i64 now, .int .i64 job] w fun e w' => ∃ v', e = .returned (.tuple #[aggR (s.fin job) v', .bool true]) ∧ RdR w' v' (s.fin job) ∧ RT w w' v v' ∧ Below w.heap.size w w' := by
 have HRR := Lib.hid hR
 have hdc : decide (job ∈ s.held) = true := decide_eq_true hin
 clear hR hin
 go_enter Tryd.func38, Tryd.ntmps38
 go_upto_region 1 with fail
 have HI := Lib.hid (RI.start s v w)
 obtain ⟨b, hb0⟩ : ∃ b, w.heap.size = b := ⟨_, rfl⟩
 generalize ((w.alloc (.cells (boxR s v) 74)).alloc (.cells zboxR 74)) = w1 at HI ⊢
 try simp only [World.alloc_size, hb0]
 rw [hb0] at HI
 try rw [hb0]
 clear hb0
 have hcx := rLive_t s v now w1
 rw [hl] at hcx
 go_wp2_with (first | (refine loadR rfl (.tmp 3) rfl rfl (s := s) (v := v) HI.out.x ?_))
 (with_reducible refine hcx.mono ?_)
 clear hcx
 rintro e w2 ⟨rfl, hb2⟩
 have H2 := Lib.hid (HI.out.below hb2)
 clear hb2 HI
 have x12 : w2.cell? ⟨b, 12, none⟩ = some (.slice v.ha v.hn v.hc) := (H2.out.x.cell 12).trans rfl
 have xl := H2.out.x.lt
 have hcx := has12 v.ha v.hn v.hc s.held job w2 (HRR.out.h.below H2.out.bel) (by have := HRR.out.h.len; omega)
 rw [hdc] at hcx
 go_wp2_with fail
 (with_reducible refine hcx.mono ?_)
 clear hcx x12 xl
 rintro e w3 ⟨rfl, hw3⟩
 subst hw3
 go_upto_region 3 with fail
 refine Cont.start (by kernel_rfl) ?_
 have HD := Lib.hid (And.intro (H2.out.below (Below.refl _ _).drew) (HRR.out.below (H2.out.below (Below.refl _ _).drew).bel))
 have HS : Hid (w2.heap.size ≤ w2.drew.heap.size) := Lib.hid (Nat.le_refl _)
 generalize w2.drew = wd at HD HS ⊢
 refine cont_free 0 9 20 [] [.o (eqV (.pointer (some ⟨b, 12, none⟩))), .o (eqV (.slice v.ha v.hn v.hc)), .o (eqV (.int .i64 job)), .o (putW (s.held.filter (· != job)) none 0 w2.heap.size), .o (eqV (.pointer (some ⟨b, 13, none⟩))), .o (eqV (.slice v.da v.dn v.dc)), .o (eqV (.int .i64 job)), .o (putW (putR s.done job) v.da v.dn w2.heap.size), .o (eqV (.pointer (some ⟨b, 12, none⟩)))] [false, false, false, false, false, false, false, false, false] (by kernel_rfl) (by kernel_rfl) (by kernel_rfl) (by kernel_rfl) (by kernel_rfl) (by kernel_rfl) (by kernel_rfl) rfl (by kernel_rfl) (by kernel_rfl) ⟨?_, ?_, ?_, ?_, ?_, ?_, ?_, ?_, ?_, trivial⟩ ?fin
 ·intro a w hb hoth hdep
  refine step_on (want_none rfl) ?_
  have e3 : a.tmps[3]? = some (.pointer (some ⟨b, 0, none⟩)) := ev_seg hoth 3 (by kernel_rfl) rfl
  refine step_val (x := .pointer (some ⟨b, 12, none⟩)) ?_ rfl
  simp [go_sem, e3]
 ·intro a w hb hoth hdep
  refine step_on (want_none rfl) ?_
  obtain ⟨v0, e20, hv0⟩ := ev_dep hdep 0 20 (by kernel_rfl) (by kernel_rfl)
  replace hv0 : v0 = .pointer (some ⟨b, 12, none⟩) := hv0
  subst hv0
  have y12 : w.cell? ⟨b, 12, none⟩ = some (.slice v.ha v.hn v.hc) := ((HD.out.1.x.below hb HD.out.1.x.lt).cell 12).trans rfl
  refine step_val (x := .slice v.ha v.hn v.hc) ?_ rfl
  simp [go_sem, e20, y12]
 ·intro a w hb hoth hdep
  refine step_on (want_none rfl) ?_
  have e2 : a.tmps[2]? = some (.int .i64 job) := ev_seg hoth 2 (by kernel_rfl) rfl
  exact step_val ((BigFrame.run_move _ rfl w).trans (by rw [ev_of e2])) rfl
 ·intro a w hb hoth hdep
  refine step_on (want_none rfl) ?_
  obtain ⟨v1, e21, hv1⟩ := ev_dep hdep 1 21 (by kernel_rfl) (by kernel_rfl)
  replace hv1 : v1 = .slice v.ha v.hn v.hc := hv1
  subst hv1
  obtain ⟨v2, e22, hv2⟩ := ev_dep hdep 2 22 (by kernel_rfl) (by kernel_rfl)
  replace hv2 : v2 = .int .i64 job := hv2
  subst hv2
  refine step_call (f := 46) (args := #[.slice v.ha v.hn v.hc, .int .i64 job]) ?_ ?_
  ·simp [go_sem, e21, e22]
  ·have hcx := drop12s v.ha v.hn v.hc s.held job w ((HD.out.2.below hb).h) (by have := HRR.out.h.len; omega)
   (with_reducible refine hcx.mono ?_)
   clear hcx
   rintro e wq ⟨A', n', c', rfl, h1, h2, h3, h4⟩
   exact ⟨_, rfl, ⟨A', n', c', rfl, h1, h2, .inr (fun ad ha => ⟨Nat.le_trans HS.out (Nat.le_trans hb.size (h4 ad ha).1), (h4 ad ha).2⟩)⟩, h3⟩
 ·intro a w hb hoth hdep
  refine step_on (want_none rfl) ?_
  have e3 : a.tmps[3]? = some (.pointer (some ⟨b, 0, none⟩)) := ev_seg hoth 3 (by kernel_rfl) rfl
  refine step_val (x := .pointer (some ⟨b, 13, none⟩)) ?_ rfl
  simp [go_sem, e3]
 ·intro a w hb hoth hdep
  refine step_on (want_none rfl) ?_
  obtain ⟨v4, e24, hv4⟩ := ev_dep hdep 4 24 (by kernel_rfl) (by kernel_rfl)
  replace hv4 : v4 = .pointer (some ⟨b, 13, none⟩) := hv4
  subst hv4
  have y13 : w.cell? ⟨b, 13, none⟩ = some (.slice v.da v.dn v.dc) := ((HD.out.1.x.below hb HD.out.1.x.lt).cell 13).trans rfl
  refine step_val (x := .slice v.da v.dn v.dc) ?_ rfl
  simp [go_sem, e24, y13]
 ·intro a w hb hoth hdep
  refine step_on (want_none rfl) ?_
  have e2 : a.tmps[2]? = some (.int .i64 job) := ev_seg hoth 2 (by kernel_rfl) rfl
  exact step_val ((BigFrame.run_move _ rfl w).trans (by rw [ev_of e2])) rfl
 ·intro a w hb hoth hdep
  refine step_on (want_none rfl) ?_
  obtain ⟨v5, e25, hv5⟩ := ev_dep hdep 5 25 (by kernel_rfl) (by kernel_rfl)
  replace hv5 : v5 = .slice v.da v.dn v.dc := hv5
  subst hv5
  obtain ⟨v6, e26, hv6⟩ := ev_dep hdep 6 26 (by kernel_rfl) (by kernel_rfl)
  replace hv6 : v6 = .int .i64 job := hv6
  subst hv6
  refine step_call (f := 44) (args := #[.slice v.da v.dn v.dc, .int .i64 job]) ?_ ?_
  ·simp [go_sem, e25, e26]
  ·have hcx := put12s v.da v.dn v.dc s.done job w ((HD.out.2.below hb).d) (by have := HRR.out.d.len; omega) HRR.out.dc
   (with_reducible refine hcx.mono ?_)
   clear hcx
   rintro e wq ⟨A', n', c', rfl, h1, h2, h3, h4⟩
   exact ⟨_, rfl, ⟨A', n', c', rfl, h1, h2, h4.imp id (fun h ad ha => ⟨Nat.le_trans HS.out (Nat.le_trans hb.size (h ad ha).1), (h ad ha).2⟩)⟩, h3⟩
 ·intro a w hb hoth hdep
  refine step_on (want_none rfl) ?_
  have e3 : a.tmps[3]? = some (.pointer (some ⟨b, 0, none⟩)) := ev_seg hoth 3 (by kernel_rfl) rfl
  refine step_val (x := .pointer (some ⟨b, 12, none⟩)) ?_ rfl
  simp [go_sem, e3]
 case fin =>
  intro wz hbz
  iterate 3 (rintro _ rfl)
  rintro _ ⟨A3, n3, k3, rfl, hr3, hc3, hp3⟩
  iterate 3 (rintro _ rfl)
  rintro _ ⟨A4, n4, k4, rfl, hr4, hc4, hp4⟩
  iterate 1 (rintro _ rfl)
  refine FinC.nil ?_
  have HZ := Lib.hid (And.intro (HD.out.1.below hbz) (HD.out.2.below hbz))
  have HP := Lib.hid (And.intro (And.intro hr3 (And.intro hc3 hp3)) (And.intro hr4 (And.intro hc4 hp4)))
  have HZS := Lib.hid (Nat.le_trans HS.out hbz.size)
  clear hr3 hc3 hp3 hr4 hc4 hp4 hbz
  refine cont_line 9 3 (by kernel_rfl) (by kernel_rfl) (by kernel_rfl) ?_
  change wpList _ _ _ [_, _, _] _ _
  have x12 : wz.cell? ⟨b, 12, none⟩ = some (.slice v.ha v.hn v.hc) := (HZ.out.1.x.cell 12).trans rfl
  have x13 : wz.cell? ⟨b, 13, none⟩ = some (.slice v.da v.dn v.dc) := (HZ.out.1.x.cell 13).trans rfl
  have xl := HZ.out.1.x.lt
  have xf := HZ.out.1.x.frozen
  go_wp2_with fail
  show Cont _ _ _ _ _ _
  refine cont_end (by kernel_rfl) ?_
  clear x12 x13 xl xf
  have hx : Blk ((wz.setCell ⟨b, 12, none⟩ (.slice A3 n3 k3)).setCell ⟨b, 13, none⟩ (.slice A4 n4 k4)) b 74 (boxR (s.fin job) (⟨v.y, v.n, A3, n3, k3, A4, n4, k4, v.ta, v.tn, v.tc⟩ : RV)) := by
   have h2 := ((HZ.out.1.x.set_ 12 (.slice A3 n3 k3)).set_ 13 (.slice A4 n4 k4))
   simp only [List.setIfInBounds_toArray, List.set_cons_zero, List.set_cons_succ] at h2
   exact h2
  have hk : Kept (fun k => k = b) wz ((wz.setCell ⟨b, 12, none⟩ (.slice A3 n3 k3)).setCell ⟨b, 13, none⟩ (.slice A4 n4 k4)) := Kept.setCell (F := fun k => k = b) (p := ⟨b, 13, none⟩) (Kept.setCell (F := fun k => k = b) (Kept.refl _ wz) (p := ⟨b, 12, none⟩) (fun _ => rfl) _) (fun _ => rfl) _
  have hlt := H2.out.x.lt
  have hge := H2.out.ge
  have hs4 : ((wz.setCell ⟨b, 12, none⟩ (.slice A3 n3 k3)).setCell ⟨b, 13, none⟩ (.slice A4 n4 k4)).heap.size = wz.heap.size := by simp [World.setCell]
  have hRd : RdR ((wz.setCell ⟨b, 12, none⟩ (.slice A3 n3 k3)).setCell ⟨b, 13, none⟩ (.slice A4 n4 k4)) (⟨v.y, v.n, A3, n3, k3, A4, n4, k4, v.ta, v.tn, v.tc⟩ : RV) (s.fin job) := by
   refine ⟨Rd.kept HP.out.1.1 hk ?_, Rd.kept HP.out.2.1 hk ?_, Rd.kept HZ.out.2.t hk ?_, HP.out.1.2.1, HP.out.2.2.1, HZ.out.2.tc⟩
   ·intro _ ad ha e
    rcases HP.out.1.2.2 with ⟨h1, _⟩ | h1
    ·have h2 : A3 = some ad := ha; rw [h1] at h2; cases h2
    ·have := h1 ad ha; omega
   ·exact From.ne HRR.out.d (.inr (HP.out.2.2.2.imp id (fun h ad ha => (h ad ha).1))) hge hlt
   ·exact From.ne HRR.out.t (.inl (.refl _ _ _ _)) hge (Nat.lt_of_lt_of_le hlt (Nat.le_refl _))
  have hRT : RT w2 ((wz.setCell ⟨b, 12, none⟩ (.slice A3 n3 k3)).setCell ⟨b, 13, none⟩ (.slice A4 n4 k4)) v (⟨v.y, v.n, A3, n3, k3, A4, n4, k4, v.ta, v.tn, v.tc⟩ : RV) := by
   refine ⟨.inr (fun ad ha => ?_), HP.out.2.2.2.imp id (fun h ad ha => ⟨(h ad ha).1, by rw [hs4]; exact (h ad ha).2⟩), .refl _ _ _ _⟩
   rcases HP.out.1.2.2 with ⟨h1, _⟩ | h1
   ·have h2 : A3 = some ad := ha; rw [h1] at h2; cases h2
   ·rw [hs4]; exact h1 ad ha
  have H4 := Lib.hid (HZ.out.1.laid hx hk)
  have HQ := Lib.hid (And.intro hRd hRT)
  clear hx hk hs4 hRd hRT hlt hge HZ HP HD HS
  generalize ((wz.setCell ⟨b, 12, none⟩ (.slice A3 n3 k3)).setCell ⟨b, 13, none⟩ (.slice A4 n4 k4)) = w4 at H4 HQ ⊢
  go_wp2_with (first | (refine loadR rfl (.tmp 3) rfl rfl (s := (s.fin job)) (v := (⟨v.y, v.n, A3, n3, k3, A4, n4, k4, v.ta, v.tn, v.tc⟩ : RV)) H4.out.x ?_) | (refine storeR rfl rfl (.tmp 6) (.tmp 30) rfl rfl (s := (s.fin job)) (v := (⟨v.y, v.n, A3, n3, k3, A4, n4, k4, v.ta, v.tn, v.tc⟩ : RV)) rfl H4.out.r rfl ?_; intro w9 hb9 hk9 hs9))
  have HE := Lib.hid (H4.out.done hk9)
  have hz2 : (RdR w9 (⟨v.y, v.n, A3, n3, k3, A4, n4, k4, v.ta, v.tn, v.tc⟩ : RV) (s.fin job)) ∧ RT w w9 v (⟨v.y, v.n, A3, n3, k3, A4, n4, k4, v.ta, v.tn, v.tc⟩ : RV) := ⟨HQ.out.1.box HRR.out HQ.out.2 hk9 (by have := H2.out.ge; omega) H2.out.r.lt, HQ.out.2.mono H2.out.bel.size (by omega)⟩
  have HQ2 := Lib.hid hz2
  clear hz2
  obtain ⟨x0, x1, x2, x3, x4, x5, x6, x7, x8, x9, x10, x11, x12, x13, x14⟩ := rCells hb9
  clear hk9 hs9 hb9
  refine bodyPost_ret (v := .tuple #[aggR (s.fin job) (⟨v.y, v.n, A3, n3, k3, A4, n4, k4, v.ta, v.tn, v.tc⟩ : RV), .bool true]) (by simp [results, Tryd.results38, go_sem, x0, x1, x2, x3, x4, x5, x6, x7, x8, x9, x10, x11, x12, x13, x14]) rfl ⟨_, rfl, HQ2.out.1, HQ2.out.2, HE.out⟩
end Go.Proofs.YthhnocnkicoimaaDoor
