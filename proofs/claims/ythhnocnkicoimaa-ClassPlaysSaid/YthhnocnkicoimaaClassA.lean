/-
  LAYER 30 (class): known in one word; Add.
-/
import Derived.Test.YthhnocnkicoimaaClass9
set_option linter.unusedVariables false
set_option linter.unusedSimpArgs false
namespace Go.Proofs.Ythhnocnkicoimaa
open Go.RowKit Go.Maps

section
variable {w : World} {c n cap : Nat} {m : CM} {R : Nat → List Int} {gs : List (Nat × Option Nat)} {A : Option Addr} {am jm : Option Nat}
/-- (*Classes).known -/
theorem cKnown (h : CAt w c m R gs A n cap am jm) (r : LRes) (hr : wfRes r) (hsm : m.needs.length < 1000) (hR : R m.needs.length = []) :
    Calls Try.prog 39 #[.pointer (some ⟨c, 0, none⟩), aggRes r] w fun e w' => e = .returned (.int .i64 (idxR (m.know r).needs r)) ∧
      ∃ gs' A' n' cap' a j, CAt w' c (m.know r) R gs' A' n' cap' (some a) (some j) ∧ Turned (cfoot c gs A am jm) (cfoot c gs' A' (some a) (some j)) w w' := by
  have hn := h.nlen
  by_cases hin : r ∈ m.needs
  · have hk : m.know r = m := by rw [CM.know, if_pos hin]
    rw [hk]
    have ham : am ≠ none := by
      rintro rfl
      rcases h.at_.is with ⟨_, h0⟩ | ⟨b, D, hv, _⟩
      · rw [h0] at hin; cases hin
      · cases hv
    have hjm : jm ≠ none := fun e => ham (h.both.2 e)
    obtain ⟨a, rfl⟩ := Option.ne_none_iff_exists'.1 ham
    obtain ⟨j, rfl⟩ := Option.ne_none_iff_exists'.1 hjm
    refine (cKnown_yes h r hr hin).mono ?_
    rintro e w' ⟨rfl, hB⟩
    exact ⟨rfl, gs, A, n, cap, a, j, h.below hB, Turned.of_below hB⟩
  · have hk : m.know r = ⟨m.needs ++ [r], m.jrow, m.jf⟩ := by rw [CM.know, if_neg hin]
    rw [hk]
    have hi : idxR (m.needs ++ [r]) r = n := by rw [idxR_new hin, hn]
    show Calls _ _ _ _ fun e w' => e = .returned (.int .i64 (idxR (m.needs ++ [r]) r)) ∧ _
    rw [hi]
    cases am with
    | none =>
      obtain rfl := h.both.1 rfl
      refine (cKnown_none h r hr hin hsm hR).mono ?_
      rintro e w' ⟨rfl, g, A', cap', a, j, h1, h2⟩
      exact ⟨rfl, _, A', n + 1, cap', a, j, h1, h2⟩
    | some a =>
      have hjm : jm ≠ none := fun e => by have := h.both.2 e; cases this
      obtain ⟨j, rfl⟩ := Option.ne_none_iff_exists'.1 hjm
      refine (cKnown_some h r hr hin hsm hR).mono ?_
      rintro e w' ⟨rfl, g, A', cap', h1, h2⟩
      exact ⟨rfl, _, A', n + 1, cap', a, j, h1, h2⟩
end

def CM.put (m : CM) (id : Int) (k : Nat) : CM := ⟨m.needs, putR m.jrow id, fun x => if x = id then (k : Int) else m.jf x⟩
def CM.add (m : CM) (id : Int) (r : LRes) : CM := (((m.drop id).know r)).put id (((m.drop id).know r).needs.idxOf r)
theorem CM.know_mem (m : CM) (r : LRes) : r ∈ (m.know r).needs := by
  unfold CM.know
  split
  · assumption
  · simp
theorem CM.know_jrow (m : CM) (r : LRes) : (m.know r).jrow = m.jrow ∧ (m.know r).jf = m.jf := by
  unfold CM.know
  split <;> exact ⟨rfl, rfl⟩
theorem CM.know_len (m : CM) (r : LRes) : (m.know r).needs.length ≤ m.needs.length + 1 := by
  unfold CM.know
  split <;> simp
theorem CM.put_jf (m : CM) (id : Int) (k : Nat) (q : Int) : (m.put id k).jf q = if q = id then (k : Int) else m.jf q := rfl
theorem CM.put_rows (m : CM) (hr : Rising m.jrow) {id : Int} (hid : id ∉ m.jrow) (k : Nat) : (fun i : Nat => if i = k then putR (m.rows (k : Int)) id else m.rows (i : Int)) = fun i : Nat => (m.put id k).rows (i : Int) := by
  funext i
  by_cases e : i = k
  · subst e
    rw [if_pos rfl]
    refine rising_ext (rising_putR (rising_filter hr _) _) (rising_filter (rising_putR hr _) _) fun x => ?_
    show x ∈ putR (m.jrow.filter _) id ↔ x ∈ (putR m.jrow id).filter _
    rw [mem_putR, List.mem_filter, List.mem_filter, mem_putR]
    by_cases hx : x = id
    · subst hx; simp [CM.put_jf]
    · simp [hx, CM.put_jf]
  · rw [if_neg e]
    refine rising_ext (rising_filter hr _) (rising_filter (rising_putR hr _) _) fun x => ?_
    show x ∈ m.jrow.filter _ ↔ x ∈ (putR m.jrow id).filter _
    rw [List.mem_filter, List.mem_filter, mem_putR]
    by_cases hx : x = id
    · subst hx
      have : ¬ ((k : Int) = (i : Int)) := by omega
      simp [hid, this, CM.put_jf]
    · simp [hx, CM.put_jf]
theorem CM.Ok.put {m : CM} (h : m.Ok) (id : Int) {k : Nat} (hk : k < m.needs.length) (hs : m.jrow.length < 1000) : (m.put id k).Ok := by
  refine ⟨h.nd, fun i hi => ?_, h.small.1, ?_⟩
  · show ∃ q : Nat, (if i = id then (k : Int) else m.jf i) = q ∧ q < m.needs.length
    by_cases e : i = id
    · exact ⟨k, by rw [if_pos e], hk⟩
    · rw [if_neg e]
      exact h.at_ i (((mem_putR _ _ _).1 hi).resolve_left e)
  · show (putR m.jrow id).length ≤ 1000
    rw [length_putR]
    split <;> omega
theorem cAdd_nil (id : Int) (r : LRes) (w : World) : Calls Try.prog 10 #[.pointer none, .int .i64 id, aggRes r] w fun e w' => e = .returned (.tuple #[.int .i64 0, .bool false]) ∧ Below w.heap.size w w' := by
  go_enter Try.func10, Try.ntmps10
  go_wp2
  go_ret2
  exact ⟨rfl, (Below.refl _ _).alloc (Nat.le_refl _) _⟩
section
variable {w : World} {c n cap : Nat} {m : CM} {gs : List (Nat × Option Nat)} {A : Option Addr} {am jm : Option Nat}
set_option maxRecDepth 100000 in
set_option maxHeartbeats 800000 in
theorem cAdd_no (id : Int) (r : LRes) (hno : rightR r = false) : Calls Try.prog 10 #[.pointer (some ⟨c, 0, none⟩), .int .i64 id, aggRes r] w fun e w' => e = .returned (.tuple #[.int .i64 0, .bool false]) ∧ Below w.heap.size w w' := by
  have hb := Blk.new w 24 (boxRes r)
  have hB : Below w.heap.size w (w.alloc (.cells (boxRes r) 24)) := (Below.refl _ _).alloc (Nat.le_refl _) _
  have c0 := hb.cell 0
  have c1 := hb.cell 1
  have c2 := hb.cell 2
  simp only [List.getElem?_toArray, List.getElem?_cons_zero, List.getElem?_cons_succ] at c0 c1 c2
  clear hb
  go_enter Try.func10, Try.ntmps10
  go_wp2_with fail
  have hcx := resRight_t r (w.alloc (.cells (boxRes r) 24))
  rw [hno] at hcx
  (with_reducible refine hcx.mono ?_)
  clear hcx
  rintro e w2 ⟨rfl, hB2⟩
  have HB := Lib.hid (hB.trans (hB2.mono hB.size))
  clear hB2 hB
  go_wp2
  go_ret2
  exact ⟨rfl, HB.out⟩

set_option maxRecDepth 100000 in
set_option maxHeartbeats 3200000 in
/-- (*Classes).Add -/
theorem cAdd (h : CAt w c m (fun k => m.rows k) gs A n cap am jm) (id : Int) (hid : wf64 id) (r : LRes) (hr : wfRes r) (hright : rightR r = true) (hsm : m.needs.length < 1000) (hjs : m.jrow.length < 1000) :
    Calls Try.prog 10 #[.pointer (some ⟨c, 0, none⟩), .int .i64 id, aggRes r] w fun e w' => e = .returned (.tuple #[.int .i64 (idxR (m.add id r).needs r), .bool true]) ∧
      ∃ gs' A' n' cap' a j, CAt w' c (m.add id r) (fun k => (m.add id r).rows k) gs' A' n' cap' (some a) (some j) ∧ Turned (cfoot c gs A am jm) (cfoot c gs' A' (some a) (some j)) w w' := by
  have hb := Blk.new w 24 (boxRes r)
  have hB : Below w.heap.size w (w.alloc (.cells (boxRes r) 24)) := (Below.refl _ _).alloc (Nat.le_refl _) _
  have c0 := hb.cell 0
  have c1 := hb.cell 1
  have c2 := hb.cell 2
  simp only [List.getElem?_toArray, List.getElem?_cons_zero, List.getElem?_cons_succ] at c0 c1 c2
  have HB0 := Lib.hid hb
  have HB := Lib.hid hB
  have HH := Lib.hid h
  have hfl := Lib.hid h.foot_lt
  clear hb hB h
  go_enter Try.func10, Try.ntmps10
  go_wp2_with fail
  have hcx := resRight_t r (w.alloc (.cells (boxRes r) 24))
  rw [hright] at hcx
  (with_reducible refine hcx.mono ?_)
  clear hcx
  rintro e w2 ⟨rfl, hB2⟩
  have HB2 := Lib.hid (HB.out.trans (hB2.mono HB.out.size))
  have HX2 : Hid (Blk w2 w.heap.size 24 (boxRes r)) := Lib.hid (HB0.out.below hB2 HB0.out.lt)
  clear hB2 c0 c1 c2
  go_wp2_with fail
  have hcx := cDrop (HH.out.below HB2.out) id hid
  (with_reducible refine hcx.mono ?_)
  clear hcx
  rintro e w3 ⟨rfl, gs3, hA3, hT3⟩
  have hx3 : Blk w3 w.heap.size 24 (boxRes r) := (hT3.out HX2.out.lt (fun hf => by have := hfl.out _ hf; omega)).trans HX2.out
  have c0 := hx3.cell 0
  have c1 := hx3.cell 1
  have c2 := hx3.cell 2
  simp only [List.getElem?_toArray, List.getElem?_cons_zero, List.getElem?_cons_succ] at c0 c1 c2
  have HA3 := Lib.hid (And.intro hA3 ((Turned.of_below HB2.out).trans hT3))
  clear hA3 hT3 hx3
  go_wp2_with fail
  have hcx := cKnown HA3.out.1 r hr hsm ((m.drop id).rows_end HA3.out.1.ok)
  (with_reducible refine hcx.mono ?_)
  clear hcx
  rintro e w4 ⟨rfl, gs4, A4, n4, cap4, a, j, hA4, hT4⟩
  obtain ⟨k, hk⟩ : ∃ k : Nat, ((m.drop id).know r).needs.idxOf r = k := ⟨_, rfl⟩
  have hkl : k < ((m.drop id).know r).needs.length := by rw [← hk]; exact List.idxOf_lt_length_of_mem ((m.drop id).know_mem r)
  have hki : idxR ((m.drop id).know r).needs r = (k : Int) := by rw [idxR, hk]
  rw [hki]
  obtain ⟨g, mo, r', rb, ro, hg, hr', hA4e, hp, hblk, hset⟩ := hA4.class_at hkl
  have hc0 := hA4.blk.cell 0
  simp only [List.getElem?_toArray, List.getElem?_cons_zero, List.getElem?_cons_succ] at hc0
  have hn4 := hA4.nlen
  have hs4 := hA4.ok.small.1
  have hkn : k < n4 := by omega
  have hn4s : n4 ≤ 1000 := by omega
  subst hA4e
  have HA4 := Lib.hid (And.intro hA4 (HA3.out.2.trans hT4))
  have HG := Lib.hid (And.intro hg (And.intro hblk (And.intro hset (And.intro hk (And.intro hkl hki)))))
  have hgl := hblk.lt
  clear hA4 hT4 hn4 hs4 hkl hki hk hg hblk hset hr' c0 c1 c2
  go_wp2_with fail
  have hlen : ((m.drop id).rows (k : Int)).length ≤ 1000 := Nat.le_trans (CM.rows_le _ _) HA3.out.1.ok.small.2
  have hcx := dMark g 0 _ _ _ _ (some ⟨w4.heap.size, 0, none⟩) 1 1 [id] (w4.alloc (.cells #[.int .i64 id] 3)) (HG.out.2.1.alloc _) rfl (HG.out.2.2.1.alloc _) (Rd.new1 _ id _ _ _ rfl) (fun x hx => by rw [List.mem_singleton.1 hx]; exact hid) (by omega)
  (with_reducible refine hcx.mono ?_)
  clear hcx
  rintro e w5 ⟨rfl, ht⟩
  obtain ⟨mo', hA5, hT5⟩ := (HA4.out.1.below (w' := w4.alloc (.cells #[.int .i64 id] 3)) ((Below.refl _ _).alloc (Nat.le_refl _) _)).turn HG.out.1 ht
  have hc2 := hA5.blk.cell 2
  simp only [List.getElem?_toArray, List.getElem?_cons_zero, List.getElem?_cons_succ] at hc2
  have hjr := (m.drop id).know_jrow r
  have hjl : ((m.drop id).know r).jrow.length < 1000 := by
    rw [hjr.1]
    exact Nat.lt_of_le_of_lt (List.length_filter_le _ _) hjs
  obtain ⟨w6, hrun, hM6, hg6, _⟩ := hA5.jb.store hid (y := (k : Int)) (wf64_mk (by omega)) (by omega)
  obtain ⟨hA6, hT6⟩ := hA5.jobs hM6 hg6 (HA4.out.1.ok.put id HG.out.2.2.2.2.1 hjl)
  have hnin : id ∉ ((m.drop id).know r).jrow := by
    rw [hjr.1]
    intro hm
    have := (List.mem_filter.1 hm).2
    simp at this
  have hrows : (fun i : Nat => if i = k then markAll ((m.drop id).rows (k : Int)) [id] else (m.drop id).rows (i : Int)) = fun i : Nat => (((m.drop id).know r).put id k).rows (i : Int) := by
    have h1 := ((m.drop id).know r).put_rows HA4.out.1.jb.rising hnin k
    have h2 : ∀ q : Int, ((m.drop id).know r).rows q = (m.drop id).rows q := fun q => by unfold CM.rows; rw [hjr.1, hjr.2]
    rw [← h1]
    funext i
    rw [h2, h2]
    rfl
  rw [hrows] at hA6
  have hadd : m.add id r = ((m.drop id).know r).put id k := by rw [CM.add, HG.out.2.2.2.1]
  have HZ := Lib.hid (And.intro hadd (And.intro hA6 (HA4.out.2.trans (Turned.after_below ((Below.refl _ _).alloc (Nat.le_refl _) _) (hT5.trans hT6)))))
  clear ht hA5 hT5 hM6 hg6 hA6 hT6 hc0 hp hnin hrows hadd hjr hjl hlen
  go_wp2
  go_ret2
  rw [HZ.out.1]
  refine ⟨?_, _, _, _, _, _, _, HZ.out.2.1, HZ.out.2.2⟩
  show _ = Ending.returned (.tuple #[.int .i64 (idxR ((m.drop id).know r).needs r), .bool true])
  rw [HG.out.2.2.2.2.2]
  rfl
end

end Go.Proofs.Ythhnocnkicoimaa
