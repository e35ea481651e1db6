/-
  LAYER 30 (class): Live, Jobs.
-/
import Derived.Test.YthhnocnkicoimaaClass1
import Derived.Test.YthhnocnkicoimaaObj
set_option linter.unusedVariables false
set_option linter.unusedSimpArgs false
namespace Go.Proofs.Ythhnocnkicoimaa
open Go.RowKit Go.Maps

/-- The classes among the first k that have jobs. -/
def CM.liveTo (m : CM) (k : Nat) : List Int := ((List.range k).filter (fun i : Nat => decide ((m.rows (i : Int)).length ≠ 0))).map (fun i : Nat => (i : Int))
def CM.live (m : CM) : List Int := m.liveTo m.needs.length
theorem CM.liveTo_succ (m : CM) (k : Nat) : m.liveTo (k + 1) = m.liveTo k ++ (if (m.rows (k : Int)).length ≠ 0 then [(k : Int)] else []) := by
  unfold CM.liveTo
  rw [List.range_succ, List.filter_append, List.map_append]
  congr 1
  by_cases h : m.rows (k : Int) = []
  · simp [h, List.filter_cons]
  · have h2 : (m.rows (k : Int)).length ≠ 0 := fun e => h (List.eq_nil_of_length_eq_zero e)
    simp [h2, h, List.filter_cons]
theorem CM.rows_le (m : CM) (k : Int) : (m.rows k).length ≤ m.jrow.length := List.length_filter_le _ _
theorem cLive_nil (w : World) : Calls Try.prog 18 #[.pointer none] w fun e w' => e = .returned (.slice none 0 0) ∧ w = w' := by
  go_enter Try.func18, Try.ntmps18
  go_wp2
  go_ret
  exact ⟨rfl, rfl⟩
theorem cJobs_nil (k : Int) (w : World) : Calls Try.prog 21 #[.pointer none, .int .i64 k] w fun e w' => e = .returned (.slice none 0 0) ∧ w = w' := by
  go_enter Try.func21, Try.ntmps21
  go_wp2
  go_ret
  exact ⟨rfl, rfl⟩

section
variable {w : World} {c n cap : Nat} {m : CM} {R : Nat → List Int} {gs : List (Nat × Option Nat)} {A : Option Addr} {am jm : Option Nat}
set_option maxRecDepth 100000 in
set_option maxHeartbeats 800000 in
theorem cLive (h : CAt w c m (fun k => m.rows k) gs A n cap am jm) : Calls Try.prog 18 #[.pointer (some ⟨c, 0, none⟩)] w fun e w' => ∃ A' n' c', e = .returned (.slice A' n' c') ∧ OwnL encI 3 1 w' w.heap.size A' n' c' m.live ∧ Below w.heap.size w w' := by
  have hc0 := h.blk.cell 0
  simp only [List.getElem?_toArray, List.getElem?_cons_zero, List.getElem?_cons_succ] at hc0
  have hn := h.nlen
  have hsm := h.ok.small
  have HH := Lib.hid h
  have HN := Lib.hid hn
  rw [← hn] at hsm
  clear h hn
  go_enter Try.func18, Try.ntmps18
  go_wp2
  go_loopw [3, 13] (fun v i wr => ∃ (k q : Nat) (A' : Option Addr) (c' : Nat), k ≤ n ∧ i = .int .i64 k ∧ v = .slice A' q c' ∧ q ≤ k ∧ OwnL encI 3 1 wr w.heap.size A' q c' (m.liveTo k) ∧ Below w.heap.size w wr) (fun _ i _ => n - (intOf i).toNat)
  case atStart => exact ⟨0, 0, none, 0, Nat.zero_le _, rfl, rfl, Nat.le_refl _, OwnL.nil _ _, Below.refl _ _⟩
  case round =>
    obtain ⟨k, q, A', c', hk, rfl, rfl, hqk, hO, hB⟩ := hrel
    by_cases hlt : k < n
    · have hat := HH.out.below hB
      obtain ⟨g, mo, r, rb, ro, hg, hr, rfl, hp, hblk, hset⟩ := hat.class_at (k := k) (by rw [← HN.out]; exact hlt)
      have hlen := m.rows_le (k : Int)
      have hsucc := m.liveTo_succ k
      have HX := Lib.hid (And.intro hblk (And.intro hset hat))
      clear hat hblk hset hg hr
      by_cases hz : (m.rows (k : Int)).length = 0
      · rw [if_neg (by omega), List.append_nil] at hsucc
        have HS := Lib.hid hsucc
        have hcx := dLen g 0 _ _ _ _ wr HX.out.1 rfl HX.out.2.1
        rw [hz, show ((0 : Nat) : Int) = 0 from rfl] at hcx
        clear hsucc hz hlen
        go_wp2_with fail
        (with_reducible refine hcx.mono ?_)
        clear hcx
        rintro e w2 ⟨rfl, rfl⟩
        go_wp2
        go_roundw
        case rel => exact ⟨k + 1, q, A', c', by omega, by go_num, rfl, by omega, by rw [HS.out]; exact hO, hB⟩
        case measure => simp [intOf]; omega
      · rw [if_pos hz] at hsucc
        have HS := Lib.hid hsucc
        have hcx := dLen g 0 _ _ _ _ wr HX.out.1 rfl HX.out.2.1
        obtain ⟨len, hlen'⟩ : ∃ len, (m.rows (k : Int)).length = len := ⟨_, rfl⟩
        rw [hlen'] at hcx hz hlen
        have hd0 : 0 < len := by omega
        clear hsucc hlen' hz
        go_wp2_with fail
        (with_reducible refine hcx.mono ?_)
        clear hcx
        rintro e w2 ⟨rfl, rfl⟩
        go_wp2_with (at_builtin; refine wp_app (enc := encI) (fun _ => rfl) (by simp [encI, Value.oneCell']) rfl (.tmp 23) (.tmp 25) 50 rfl 3 (.int .i64 0) 8 Try.underlying50 Try.infoInt rfl (by decide) w.heap.size _ q _ _ rfl (hO.alloc _) _ 1 _ [(k : Int)] (by rfl) (Rd.new1 _ (k : Int) _ _ _ rfl) (q + 1) rfl _ rfl (by omega) (by omega) (by have := hB.size; simp; omega) ?_; intro A4 c4 w4 ho4 hg4 _; have hb4 := (hB.alloc hB.size _).grown hg4 (by have := hB.size; simp; omega) (own_block_ge hO))
        go_roundw
        case rel => exact ⟨k + 1, q + 1, A4, c4, by omega, by go_num, rfl, by omega, by rw [HS.out]; exact ho4, hb4⟩
        case measure => simp [intOf]; omega
    · have hkn : k = n := by omega
      subst hkn
      go_wp2
      go_ret
      exact ⟨A', q, c', rfl, by rw [CM.live, ← HN.out]; exact hO, hB⟩

theorem filter_snoc_i (p : Int → Bool) (ss : List Int) (x : Int) : (ss ++ [x]).filter p = ss.filter p ++ (if p x = true then [x] else []) := by
  rw [List.filter_append]
  cases hp : p x <;> simp [hp]

set_option maxRecDepth 100000 in
set_option maxHeartbeats 1600000 in
theorem cJobs_some (k : Int) (b : Nat) (f : Int → Int) (row : List Int) (blk : Blk w c 32 #[.slice A n cap, .map am, .map (some b)]) (hM : MapKV w (.map (some b)) row f) (hn : row.length ≤ 1000) :
    Calls Try.prog 21 #[.pointer (some ⟨c, 0, none⟩), .int .i64 k] w fun e w' => ∃ A' n' c', e = .returned (.slice A' n' c') ∧ OwnL encI 3 1 w' w.heap.size A' n' c' (row.filter (fun i => f i == k)) ∧ Below w.heap.size w w' := by
  rcases hM.is with ⟨h0, _⟩ | ⟨b', D, hv, ho, hd, hval⟩
  · cases h0
  cases hv
  have hbl := ho.lt
  have hrise := hM.rising
  have hc2 := blk.cell 2
  simp only [List.getElem?_toArray, List.getElem?_cons_zero, List.getElem?_cons_succ] at hc2
  have hsz := hd.size
  have HS := Lib.hid (And.intro hsz (And.intro hrise (And.intro hd hval)))
  clear hsz hrise hd hval hM blk
  go_enter Try.func21, Try.ntmps21
  go_wp2_with (first
    | (at_range; refine wpList_range_own _ rfl _ 30 rfl 3 3 lawI Try.underlying30 _ b _ _ rfl ho ?_; intro w0 hrg0 hg0 hs0))
  go_frame
  go_loopw [5] (fun v wr => ∃ (left : Lit → Bool) (cnt m c : Nat) (A : Option Addr) (ss : List Int), v = .slice A m c ∧ wr.ranges Try.prog 3 (plainElem Try.prog 3) b w.heap.size row.length D left cnt ∧ m + cnt ≤ row.length ∧
      OwnL encI 3 1 wr w.heap.size A m c (ss.filter (fun i => f i == k)) ∧ Gath row left ss ∧ Below w.heap.size w wr)
    (fun _ wr => wr.rangeLeft b w.heap.size)
  case atStart =>
    exact ⟨_, _, 0, 0, none, [], rfl, hrg0, by have := HS.out.1; omega, OwnL.nil _ _, Gath.start HS.out.2.2.1, (Below.refl _ _).grown hg0 (Nat.le_refl _) (fun j hj => by cases hj)⟩
  case round =>
    obtain ⟨left, cnt, m, c, A, ss, rfl, hrg, hcs, hown, hG, hnx⟩ := hrel
    go_wp2_with (first
      | (at_next; refine wpList_next_ranges_ii _ rfl _ rfl 3 3 .i64 .i64 lawI Try.underlying3 Try.underlying3 b w.heap.size _ _ _ _ rfl hrg ?_ ?_))
    · intro hc0 hl0
      have hsrt : sortI (ss.filter (fun i => f i == k)) = row.filter (fun i => f i == k) := sortI_of_rising (rising_filter HS.out.2.1 _) (hG.nodup.filter _) (fun x => by rw [List.mem_filter, List.mem_filter, hG.all hl0])
      have HH := Lib.hid hsrt
      clear hsrt hc0 hl0
      go_wp2_with (go_at_call 44; refine (sort_own _ _ _ _ _ _ hown (by omega)).mono ?_; rintro e w' ⟨rfl, ho2, hg2⟩)
      go_ret
      exact ⟨A, m, c, rfl, by rw [← HH.out]; exact ho2, hnx.grown hg2 hnx.size (own_block_ge hown)⟩
    · intro x cc w2 cnt2 hwx hwc hlk hat hrg2 hlt hg2 hs2 hen
      clear hs2
      have hne := row_ne_iter hown.own hrg
      have hown2 := hown.step (w' := w2) (fun ad ha hge hl => hg2.block _ hl (fun e => hne (by rw [ha]; exact e.symm)))
      have hb2 := hnx.grown hg2 hnx.size (fun j hj => by cases hj; exact Nat.le_refl _)
      have hxr : x ∈ row := by
        have := has_true_of_atKey hat
        rw [HS.out.2.2.1.has] at this
        exact of_decide_eq_true this
      have hfx : f x = cc := by
        have h1 := HS.out.2.2.2 x hxr (.lit (.int .i64 0))
        rw [hat] at h1
        exact (congrArg litVal h1).symm
      have HH := Lib.hid (And.intro hlk (And.intro hat hG))
      have hsn := filter_snoc_i (fun i => f i == k) ss x
      have hlow := row_ne_low hown2.own hbl
      have hit := row_ne_iter hown2.own hrg2
      clear hlk hat hG hne hxr
      by_cases hck : cc = k
      · rw [if_pos (by simp [hfx, hck])] at hsn
        have HF := Lib.hid hsn
        have hd : (cc == k) = true := by simp [hck]
        clear hsn hfx hck
        go_wp2_with (first
          | (at_builtin; refine wp_app (enc := encI) (fun _ => rfl) (by simp [encI, Value.oneCell']) rfl (.tmp 23) (.tmp 25) 50 rfl 3 (.int .i64 0) 8 Try.underlying50 Try.infoInt rfl (by decide) w.heap.size _ m _ _ rfl (hown2.alloc _) _ 1 _ [x] rfl (Rd.new1 _ x _ _ _ rfl) (m + 1) rfl _ rfl (by omega) (by omega) (by have := hb2.size; simp; omega) ?_; intro A4 c4 w4 ho4 hg4 _; have hb4 := (hb2.alloc hb2.size _).grown hg4 (by have := hb2.size; simp; omega) (own_block_ge hown2)))
        have hrg3 := (hrg2.alloc _).kept hg4 hlow hit
        go_roundw
        case rel => exact ⟨_, cnt2, m + 1, c4, A4, ss ++ [x], rfl, hrg3, by omega, by rw [HF.out]; exact ho4, HH.out.2.2.step HS.out.2.2.1 HH.out.1 HH.out.2.1, hb4⟩
        case measure => rw [hrg3.left_eq, hrg.left_eq]; exact hlt
      · rw [if_neg (by simp [hfx, hck]), List.append_nil] at hsn
        have HF := Lib.hid hsn
        have hd : (cc == k) = false := by simp [hck]
        clear hsn hfx hck
        go_wp2
        go_roundw
        case rel => exact ⟨_, cnt2, m, c, A, ss ++ [x], rfl, hrg2, by omega, by rw [HF.out]; exact hown2, HH.out.2.2.step HS.out.2.2.1 HH.out.1 HH.out.2.1, hb2⟩
        case measure => rw [hrg2.left_eq, hrg.left_eq]; exact hlt

set_option maxRecDepth 100000 in
theorem cJobs_none (k : Int) (blk : Blk w c 32 #[.slice A n cap, .map am, .map none]) :
    Calls Try.prog 21 #[.pointer (some ⟨c, 0, none⟩), .int .i64 k] w fun e w' => e = .returned (.slice none 0 0) ∧ Below w.heap.size w w' := by
  have hrg := run_range_nilMap (P := Try.prog) w 30 3 3 Try.underlying30
  have hnx : ∀ ty, (Instr.next (.pointer (some ⟨w.heap.size, 0, none⟩)) false ty).run Try.prog (w.alloc (.mapIter none 0 #[] 0)) = _ := fun ty => run_next_nilMap _ ty 0 0 #[]
  have hc2 := blk.cell 2
  simp only [List.getElem?_toArray, List.getElem?_cons_zero, List.getElem?_cons_succ] at hc2
  clear blk
  go_enter Try.func21, Try.ntmps21
  go_wp2
  refine wp_loop_rounds 1 ?_
  rw [rounds_succ]
  go_wp2_with (go_at_call 44; refine (Try.slices_Sort_int_none none 0 _).mono ?_; rintro e w' ⟨rfl, rfl⟩)
  go_ret
  exact ⟨rfl, (Below.refl _ _).alloc (Nat.le_refl _) _⟩

/-- (*Classes).Jobs -/
theorem cJobs (h : CAt w c m R gs A n cap am jm) (k : Int) : Calls Try.prog 21 #[.pointer (some ⟨c, 0, none⟩), .int .i64 k] w fun e w' => ∃ A' n' c', e = .returned (.slice A' n' c') ∧ OwnL encI 3 1 w' w.heap.size A' n' c' (m.rows k) ∧ Below w.heap.size w w' := by
  cases jm with
  | none =>
    have hrow : m.jrow = [] := by
      rcases h.jb.is with ⟨_, h0⟩ | ⟨b, D, hv, _⟩
      · exact h0
      · cases hv
    refine (cJobs_none k h.blk).mono ?_
    rintro e w' ⟨rfl, hb⟩
    exact ⟨none, 0, 0, rfl, by rw [CM.rows, hrow]; exact OwnL.nil _ _, hb⟩
  | some b => exact cJobs_some k b m.jf m.jrow h.blk h.jb h.ok.small.2
end

end Go.Proofs.Ythhnocnkicoimaa
