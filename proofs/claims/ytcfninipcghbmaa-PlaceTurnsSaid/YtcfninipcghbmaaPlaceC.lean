/-
  AN ELEMENT STORED INTO A ROW OF STRUCTS; LAYER 27 (choose): With.
  A ROW OF THE CALL'S OWN, stored into: it is the call's own still; slices of the call's own that lie apart.
  LAYER 27 (choose): With.
-/
import Derived.Test.YtcfninipcghbmaaPlace9
import Derived.Test.YtcfninipcghbmaaTAssign
set_option linter.unusedVariables false
set_option linter.unusedSimpArgs false
namespace Go.Proofs.Ytcfninipcghbmaa
open Go.Shelf Go.RowKit Go.Sort

section
variable {α : Type} [Inhabited α] {enc : α → List Value} {k : Nat} {w0 W : World} {blk off : Nat} {l l0 : List α}
theorem setMany_flatK (hk : ∀ x, (enc x).length = k) (d : Array α) (i : Nat) (hi : i < d.size) (x : α) : setMany (flatK enc k d) (i * k) (enc x) = flatK enc k (d.setIfInBounds i x) := by
  apply Array.ext
  · simp [size_setMany]
  · intro t ht ht2
    have ht' : t < d.size * k := by simpa [size_setMany] using ht
    have k0 : 0 < k := by rcases Nat.eq_zero_or_pos k with h | h; (subst h; simp at ht'); exact h
    rw [← getElem!_pos _ t ht, ← getElem!_pos _ t ht2, get_setMany _ _ _ t (by simpa using ht'), get_flatK _ _ _ t ht', get_flatK _ _ _ t (by simpa using ht'), hk]
    have hb := blk_iff k i t k0
    have hdk : t / k < d.size := (Nat.div_lt_iff_lt_mul k0).2 ht'
    by_cases a : t / k = i
    · rw [if_pos (hb.2 a)]
      have e1 : (d.setIfInBounds i x)[t / k]! = x := by rw [a]; exact getElem!_set_same d i x hi
      rw [e1, Nat.mod_eq_sub_div_mul, a]
    · rw [if_neg (fun h => a (hb.1 h))]
      congr 1
      congr 1
      rw [getElem!_pos d (t / k) hdk, getElem!_pos (d.setIfInBounds i x) (t / k) (by simpa using hdk), Array.getElem_setIfInBounds, if_neg (fun e => a e.symm)]
theorem SWB.put (h : SWB enc k w0 blk off l W) (R : RowL enc k w0 blk off l0) (hs : l.length = l0.length) (i : Nat) (hi : i < l.length) (x : α) : SWB enc k w0 blk off (l.set i x) (W.setCells blk (off + i * k) (enc x)) := by
  obtain ⟨d, n, os, rfl⟩ := h
  refine ⟨d, n, os, ?_⟩
  have hb : i * k + k ≤ l.toArray.size * k := by
    have h1 : i + 1 ≤ l.toArray.size := by simp only [List.size_toArray]; omega
    have := Nat.mul_le_mul_right k h1; rwa [Nat.add_mul, Nat.one_mul] at this
  unfold sortWorldK
  rw [setCells_grow os blk _ _ _ (by rw [size_putRowK]; exact R.hblk)]
  congr 1
  unfold putRowK
  rw [setCells_putRow _ _ _ _ _ _ (by rw [R.hk, size_flatK]; exact hb), setMany_flatK R.hk _ i (by simpa using hi), List.setIfInBounds_toArray]
end
instance : Inhabited LNode := ⟨zeroN⟩
theorem setNode (W : World) (b o : Nat) (y : LNode) : W.setCells b o (encNode y) = ((((((((((W.setCell ⟨b, o, none⟩ (.int .i64 y.id)).setCell ⟨b, o + 1, none⟩ (.int .i64 y.inc)).setCell ⟨b, o + 2, none⟩ (.int .i64 y.load)).setCell ⟨b, o + 3, none⟩ (.int .i64 y.cap.a)).setCell ⟨b, o + 4, none⟩ (.int .i64 y.cap.b)).setCell ⟨b, o + 5, none⟩ (.int .i64 y.cap.c)).setCell ⟨b, o + 6, none⟩ (.int .i64 y.used.a)).setCell ⟨b, o + 7, none⟩ (.int .i64 y.used.b)).setCell ⟨b, o + 8, none⟩ (.int .i64 y.used.c)).setCell ⟨b, o + 9, none⟩ (.bool y.up)) := rfl
/-- A node, where a job may have been taken on. -/
def with1 (id : Int) (need : LRes) (n : LNode) : LNode := if n.id = id then (if takeE n n.inc need = 0 then tookN n need else n) else n
def withN (l : List LNode) (id : Int) (need : LRes) : List LNode := l.map (with1 id need)
theorem map_take_set {α : Type} (f : α → α) (l : List α) (k : Nat) (x : α) (hx : l[k]? = some x) : ((l.take k).map f ++ l.drop k).set k (f x) = (l.take (k + 1)).map f ++ l.drop (k + 1) := by
  have hlt := (List.getElem?_eq_some_iff.1 hx).1
  have hd : l.drop k = x :: l.drop (k + 1) := by rw [List.drop_eq_getElem_cons hlt]; congr 1; exact (List.getElem?_eq_some_iff.1 hx).2
  have hl : ((l.take k).map f).length = k := by rw [List.length_map, List.length_take]; omega
  rw [hd, List.set_append_right _ _ (by omega), hl, Nat.sub_self, take_succ_of _ _ _ hx]
  simp
end Go.Proofs.Ytcfninipcghbmaa
namespace Go.Proofs.Ytcfninipcghbmaa
open Go.Shelf Go.RowKit Go.Sort

/-- Rows of unlike elements lie in unlike blocks. -/
theorem own_apart {α β : Type} {enc : α → List Value} {enc' : β → List Value} {e e' sz sz' : Nat} {w : World} {base base' : Nat} {A B : Option Addr} {n c m d : Nat} {l : List α} {r : List β}
    (h : OwnL enc e sz w base A n c l) (h' : OwnL enc' e' sz' w base' B m d r) (hne : e ≠ e') : ∀ ad, A = some ad → some ad.block ≠ (Value.slice B m d).ownBlock := by
  intro ad ha he
  cases B with
  | none => simp [Value.ownBlock] at he
  | some bd =>
    rcases h.own.2 with ⟨hv, _⟩ | ⟨g, cap, cur, hv, _, hh, _⟩
    · cases hv; cases ha
    · rcases h'.own.2 with ⟨hv', _⟩ | ⟨g', cap', cur', hv', _, hh', _⟩
      · cases hv'
      · injection hv with e1
        injection hv' with e1'
        rw [ha] at e1
        injection e1 with e1
        injection e1' with e1'
        subst e1 e1'
        simp [Value.ownBlock] at he
        subst he
        rw [hh] at hh'
        injection hh' with hh'
        injection hh' with _ h2
        exact hne h2
theorem OwnL.grown_apart {α : Type} {enc : α → List Value} {e sz : Nat} {w w' : World} {base : Nat} {A : Option Addr} {n c : Nat} {l : List α} {row : Option Nat} (h : OwnL enc e sz w base A n c l) (hg : w.grownBy w' row) (hne : ∀ ad, A = some ad → some ad.block ≠ row) : OwnL enc e sz w' base A n c l :=
  h.step fun ad ha _ hl => hg.block _ hl (hne ad ha)
/-- What reads in a block that is not b's lies on where b alone is turned. -/
theorem Rd.kept1 {α : Type} {enc : α → List Value} {sz : Nat} {w w' : World} {A : Option Addr} {n : Nat} {l : List α} {F : Nat → Prop} (h : Rd enc sz w A n l) (hk : Kept F w w') (hF : ∀ b o, A = some ⟨b, o, none⟩ → 0 < n → ¬ F b) : Rd enc sz w' A n l := by
  refine ⟨h.len, fun hn => ?_⟩
  obtain ⟨b, o, e, hlt, hc⟩ := h.cells hn
  exact ⟨b, o, e, by have := hk.size; omega, fun i x hx j v hv => (hk.cell (p := ⟨b, o + (i * sz + j), none⟩) hlt (hF b o e hn)).trans (hc i x hx j v hv)⟩
end Go.Proofs.Ytcfninipcghbmaa
namespace Go.Proofs.Ytcfninipcghbmaa
open Go.Shelf Go.RowKit Go.Sort

set_option maxRecDepth 100000 in
set_option maxHeartbeats 3200000 in
theorem with_t (A : Option Addr) (n c : Nat) (l : List LNode) (id : Int) (need : LRes) (w : World) (h : Rd encNode 10 w A n l) (hn : n ≤ 1000000) :
    Calls Try.prog 96 #[.slice A n c, .int .i64 id, aggRes need] w fun e w' => ∃ A' c', e = .returned (.slice A' n c') ∧ OwnL encNode 38 10 w' w.heap.size A' n c' (withN l id need) ∧ Below w.heap.size w w' := by
  have hbx := Blk.new w 36 (boxRes need)
  have hB : Below w.heap.size w (w.alloc (.cells (boxRes need) 36)) := (Below.refl _ _).alloc (Nat.le_refl _) _
  have HB := Lib.hid (And.intro hbx (And.intro hB (h.below hB)))
  clear hbx hB h
  go_enter Try.func96, Try.ntmps96
  go_wp2_with fail
  simp only [boxRes] at HB
  generalize w.alloc (.cells _ 36) = w1 at HB ⊢
  have hcx := cloneNode_t A n c l w1 HB.out.2.2 hn
  (with_reducible refine hcx.mono ?_)
  clear hcx
  rintro e w2 ⟨A2, c2, rfl, hO, hB2⟩
  by_cases h0 : n = 0
  · subst h0
    have hl : l = [] := List.eq_nil_of_length_eq_zero hO.len
    have HX := Lib.hid (And.intro hl (And.intro (HB.out.2.1.trans (hB2.mono HB.out.2.1.size)) (hO.lower HB.out.2.1.size)))
    clear hO hB2 hl
    go_wp2
    refine wp_loop_rounds 1 ?_
    rw [rounds_succ]
    go_wp2
    go_ret
    exact ⟨A2, c2, rfl, by have h9 := HX.out.2.2; rw [HX.out.1] at h9 ⊢; exact h9, HX.out.2.1⟩
  · obtain ⟨g, rfl, hg, R⟩ := rowL_of_own Node_len Node_one hO (by omega)
    have hln := hO.len
    have hres := (HB.out.1.below hB2 HB.out.1.lt)
    have hrne : w.heap.size ≠ g := by have := HB.out.1.lt; omega
    have HX := Lib.hid (And.intro R (And.intro hln (And.intro hres (And.intro (HB.out.2.1.trans (hB2.mono HB.out.2.1.size)) (And.intro hg hrne)))))
    have hs0 := SWB.start R
    have HO := Lib.hid (hO.lower HB.out.2.1.size)
    clear hO hB2 R hln hres hrne hg h0
    go_wp2
    have HS0 := Lib.hid hs0
    clear hs0
    go_loopw [16] (fun i wr => ∃ k : Nat, k ≤ n ∧ i = .int .i64 k ∧ SWB encNode 10 w2 g 0 ((l.take k).map (with1 id need) ++ l.drop k) wr) (fun i _ => n - (intOf i).toNat)
    case atStart => exact ⟨0, Nat.zero_le _, rfl, by simpa using HS0.out⟩
    case round =>
      clear HS0
      obtain ⟨k, hk, rfl, hw⟩ := hrel
      by_cases hlt : k < n
      · obtain ⟨x, hx⟩ : ∃ x, l[k]? = some x := ⟨_, List.getElem?_eq_getElem (by rw [HX.out.2.1]; exact hlt)⟩
        have hll : ((l.take k).map (with1 id need) ++ l.drop k).length = l.length := by rw [List.length_append, List.length_map, ← List.length_append, List.take_append_drop]
        have hxk : ((l.take k).map (with1 id need) ++ l.drop k)[k]? = some x := by
          have h1 : ((l.take k).map (with1 id need)).length = k := by rw [List.length_map, List.length_take, HX.out.2.1]; omega
          rw [List.getElem?_append_right (by omega), h1, Nat.sub_self, List.getElem?_drop, Nat.add_zero]; exact hx
        have hst := map_take_set (with1 id need) l k x hx
        obtain ⟨L, hL⟩ : ∃ L, (l.take k).map (with1 id need) ++ l.drop k = L := ⟨_, rfl⟩
        rw [hL] at hw hll hxk hst
        obtain ⟨cx, fx⟩ := hw.cells HX.out.1 hll hxk
        have x0 := cx 0 _ rfl
        have x1 := cx 1 _ rfl
        have x2 := cx 2 _ rfl
        have x3 := cx 3 _ rfl
        have x4 := cx 4 _ rfl
        have x5 := cx 5 _ rfl
        have x6 := cx 6 _ rfl
        have x7 := cx 7 _ rfl
        have x8 := cx 8 _ rfl
        have x9 := cx 9 _ rfl
        simp only [Nat.zero_add, Nat.add_zero] at x0 x1 x2 x3 x4 x5 x6 x7 x8 x9
        have hBx : Below wr.heap.size wr (wr.alloc (.cells (boxNode x) 38)) := (Below.refl _ _).alloc (Nat.le_refl _) _
        have hbx := Blk.new wr 38 (boxNode x)
        have hgl := hw.lt HX.out.1.hblk
        have hsame : with1 id need x = x → L = L.set k (with1 id need x) := fun e => by
          rw [e]; obtain ⟨h1, h2⟩ := List.getElem?_eq_some_iff.1 hxk; rw [← h2]; simp
        have HY := Lib.hid (And.intro hll (And.intro hst (And.intro hsame (And.intro (hw.below hBx) (And.intro hxk hbx)))))
        have y0 := hbx.cell 0
        have y1 := hbx.cell 1
        have y2 := hbx.cell 2
        have y3 := hbx.cell 3
        have y4 := hbx.cell 4
        have y5 := hbx.cell 5
        have y6 := hbx.cell 6
        have y7 := hbx.cell 7
        have y8 := hbx.cell 8
        have y9 := hbx.cell 9
        simp only [List.getElem?_toArray, List.getElem?_cons_zero, List.getElem?_cons_succ] at y0 y1 y2 y3 y4 y5 y6 y7 y8 y9
        have hres : Blk (wr.alloc (.cells (boxNode x) 38)) w.heap.size 36 (boxRes need) := (HX.out.2.2.1.kept hw.kept HX.out.2.2.2.2.2).alloc _
        have r0 := hres.cell 0
        have r1 := hres.cell 1
        have r2 := hres.cell 2
        simp only [List.getElem?_toArray, List.getElem?_cons_zero, List.getElem?_cons_succ] at r0 r1 r2
        have hrl := hres.lt
        clear hx hll hxk hst hL hBx hbx hsame hres cx fx hw
        go_upto_region 5 with fail
        simp only [boxNode] at HY hrl r0 r1 r2 y0 y1 y2 y3 y4 y5 y6 y7 y8 y9
        generalize wr.alloc (.cells _ 38) = w3 at HY hrl r0 r1 r2 y0 y1 y2 y3 y4 y5 y6 y7 y8 y9 ⊢
        clear x0 x1 x2 x3 x4 x5 x6 x7 x8 x9
        by_cases hid : x.id = id
        · have hne : (x.id != id) = false := by simp [hid]
          have HI := Lib.hid hid
          clear hid
          go_wp2_with fail
          have hcx := take_t x x.inc need w3
          by_cases he : takeE x x.inc need = 0
          · have HW := Lib.hid (show with1 id need x = tookN x need by rw [with1, if_pos HI.out, if_pos he])
            rw [he, if_pos rfl] at hcx
            clear he
            (with_reducible refine hcx.mono ?_)
            clear hcx r0 r1 r2 hrl y0 y1 y2 y3 y4 y5 y6 y7 y8 y9
            rintro e w4 ⟨rfl, hB4⟩
            have h4 := HY.out.2.2.2.1.below hB4
            have hB5 : Below w4.heap.size w4 (w4.alloc (.cells (boxNode (tookN x need)) 38)) := (Below.refl _ _).alloc (Nat.le_refl _) _
            have h5 := h4.below hB5
            have hb5 := Blk.new w4 38 (boxNode (tookN x need))
            obtain ⟨cx, fx⟩ := h5.cells HX.out.1 HY.out.1 HY.out.2.2.2.2.1
            have x0 := cx 0 _ rfl
            have x1 := cx 1 _ rfl
            have x2 := cx 2 _ rfl
            have x3 := cx 3 _ rfl
            have x4 := cx 4 _ rfl
            have x5 := cx 5 _ rfl
            have x6 := cx 6 _ rfl
            have x7 := cx 7 _ rfl
            have x8 := cx 8 _ rfl
            have x9 := cx 9 _ rfl
            simp only [Nat.zero_add, Nat.add_zero] at x0 x1 x2 x3 x4 x5 x6 x7 x8 x9 fx
            have y0 := hb5.cell 0
            have y1 := hb5.cell 1
            have y2 := hb5.cell 2
            have y3 := hb5.cell 3
            have y4 := hb5.cell 4
            have y5 := hb5.cell 5
            have y6 := hb5.cell 6
            have y7 := hb5.cell 7
            have y8 := hb5.cell 8
            have y9 := hb5.cell 9
            simp only [List.getElem?_toArray, List.getElem?_cons_zero, List.getElem?_cons_succ] at y0 y1 y2 y3 y4 y5 y6 y7 y8 y9
            have hkl : k < L.length := (List.getElem?_eq_some_iff.1 HY.out.2.2.2.2.1).1
            have hp := h5.put HX.out.1 HY.out.1 k hkl (with1 id need x)
            rw [HY.out.2.1, HW.out] at hp
            simp only [setNode, Nat.zero_add] at hp
            have HP := Lib.hid hp
            have hg5 := h5.lt HX.out.1.hblk
            clear h4 hB4 hB5 h5 hb5 cx hp hkl
            go_upto_if 34 with fail
            simp only [boxNode] at HP hg5 fx x0 x1 x2 x3 x4 x5 x6 x7 x8 x9 y0 y1 y2 y3 y4 y5 y6 y7 y8 y9
            generalize w4.alloc (.cells _ 38) = w5 at HP hg5 fx x0 x1 x2 x3 x4 x5 x6 x7 x8 x9 y0 y1 y2 y3 y4 y5 y6 y7 y8 y9 ⊢
            go_wp2
            go_roundw
            case rel => exact ⟨k + 1, by omega, by go_num, HP.out⟩
            case measure => simp [intOf]; omega
          · have HW := Lib.hid (show with1 id need x = x by rw [with1, if_pos HI.out, if_neg he])
            rw [if_neg he] at hcx
            obtain ⟨er, her⟩ : ∃ er, takeE x x.inc need = er := ⟨_, rfl⟩
            rw [her] at hcx he
            have hez : (er == 0) = false := by rw [beq_eq_false_iff_ne]; exact he
            clear he her
            (with_reducible refine hcx.mono ?_)
            clear hcx r0 r1 r2 hrl y0 y1 y2 y3 y4 y5 y6 y7 y8 y9
            rintro e w4 ⟨rfl, hB4⟩
            have hp := (HY.out.2.2.2.1.below hB4).below ((Below.refl _ _).alloc (Nat.le_refl _) (.cells (boxNode zeroN) 38))
            rw [HY.out.2.2.1 HW.out, HY.out.2.1] at hp
            simp only [boxNode, zeroN] at hp
            have HP := Lib.hid hp
            clear hp hB4
            go_wp2
            go_roundw
            case rel => exact ⟨k + 1, by omega, by go_num, HP.out⟩
            case measure => simp [intOf]; omega
        · have hne : (x.id != id) = true := by simp [hid]
          have HW := Lib.hid (show with1 id need x = x by rw [with1, if_neg hid])
          have hp := HY.out.2.2.2.1
          rw [HY.out.2.2.1 HW.out, HY.out.2.1] at hp
          have HP := Lib.hid hp
          clear hp hid
          go_wp2
          go_roundw
          case rel => exact ⟨k + 1, by omega, by go_num, HP.out⟩
          case measure => simp [intOf]; omega
      · have hw2 := hw
        rw [List.take_of_length_le (by have := HX.out.2.1; omega), List.drop_of_length_le (by have := HX.out.2.1; omega), List.append_nil] at hw2
        have HW := Lib.hid hw2
        clear hw hw2
        go_wp2
        go_ret
        exact ⟨_, c2, rfl, SWB.own HO.out HX.out.1 HW.out (List.length_map ..), HX.out.2.2.2.1.trans ((HW.out.kept).below HX.out.2.2.2.1.size (fun i hi e => by have := HB.out.2.1.size; have := HX.out.2.2.2.2.1; omega))⟩
end Go.Proofs.Ytcfninipcghbmaa
