/-
  LAYER 30: the reference: Of, Class, Jobs, Live.
-/
import Derived.Test.YthhnocnkicoimaaRow12
import Derived.Test.YthhnocnkicoimaaClassB
import Derived.Test.YthhnocnkicoimaaTMember
import Derived.Test.YthhnocnkicoimaaIns
set_option linter.unusedVariables false
set_option linter.unusedSimpArgs false
namespace Go.Proofs.Ythhnocnkicoimaa
open Go.RowKit Go.Maps

theorem idxOf_first {l : List LRes} {k : Nat} {r : LRes} (h : l[k]? = some r) (hn : r ∉ l.take k) : l.idxOf r = k := by
  have hlt := (List.getElem?_eq_some_iff.1 h).1
  have e := split_at h
  have hl : (l.take k).length = k := by rw [List.length_take]; omega
  conv => lhs; rw [e]
  rw [List.idxOf_append, if_neg hn, List.idxOf_cons_self]
  omega
def rOfE (needs : List LRes) (r : LRes) : Int := if r ∈ needs then idxR needs r else -1
def rClassE (jobs : List LMember) (id : Int) : Int := ((jobs.find? (fun j => j.id == id)).map (·.cls)).getD (-1)
/-- The document's Classes as a value: two slices. -/
abbrev aggC (N : Option Addr) (nn nc : Nat) (J : Option Addr) (jn jc : Nat) : Value := .agg #[.slice N nn nc, .slice J jn jc]

section
variable {w : World} {N J : Option Addr} {nn nc jn jc : Nat} {needs : List LRes} {jobs : List LMember}
set_option maxRecDepth 100000 in
set_option maxHeartbeats 800000 in
theorem rOf_t (hN : Rd encRes 3 w N nn needs) (hnn : nn ≤ 1000) (r : LRes) :
    Calls Try.prog 16 #[aggC N nn nc J jn jc, aggRes r] w fun e w' => e = .returned (.int .i64 (rOfE needs r)) ∧ Below w.heap.size w w' := by
  have hb := (Blk.new w 36 #[.slice N nn nc, .slice J jn jc]).alloc (.cells (boxRes r) 24)
  have hs1 : (w.alloc (.cells #[.slice N nn nc, .slice J jn jc] 36)).heap.size = w.heap.size + 1 := by simp
  have hx := Blk.new (w.alloc (.cells #[.slice N nn nc, .slice J jn jc] 36)) 24 (boxRes r)
  rw [hs1] at hx
  have hB : Below w.heap.size w ((w.alloc (.cells #[.slice N nn nc, .slice J jn jc] 36)).alloc (.cells (boxRes r) 24)) := ((Below.refl _ _).alloc (Nat.le_refl _) _).alloc (by simp) _
  have c0 := hb.cell 0
  have x0 := hx.cell 0
  have x1 := hx.cell 1
  have x2 := hx.cell 2
  simp only [List.getElem?_toArray, List.getElem?_cons_zero, List.getElem?_cons_succ] at c0 x0 x1 x2
  have HN := Lib.hid (hN.below hB)
  have HB := Lib.hid hB
  clear hb hx hB hs1 hN
  go_enter Try.func16, Try.ntmps16
  go_wp2
  generalize (w.alloc (.cells #[.slice N nn nc, .slice J jn jc] 36)).alloc (.cells (boxRes r) 24) = w1 at c0 x0 x1 x2 HN HB ⊢
  go_loopw [5] (fun i wq => ∃ k q : Nat, k ≤ nn ∧ i = .int .i64 k ∧ Hid (r ∉ needs.take k) ∧ wq = w1.drewN q) (fun i _ => nn - (intOf i).toNat)
  case atStart => exact ⟨0, 0, Nat.zero_le _, rfl, Lib.hid (by simp), rfl⟩
  case round =>
    obtain ⟨k, q, hk, rfl, HC, rfl⟩ := hrel
    by_cases hlt : k < nn
    · obtain ⟨ab, ao, x, rfl, hxx, hal, hcells⟩ := HN.out.at_ hlt
      have d0 : w1.cell? ⟨ab, ao + k * 3, none⟩ = some (.int .i64 x.a) := hcells 0 _ rfl
      have d1 : w1.cell? ⟨ab, ao + k * 3 + 1, none⟩ = some (.int .i64 x.b) := hcells 1 _ rfl
      have d2 : w1.cell? ⟨ab, ao + k * 3 + 2, none⟩ = some (.int .i64 x.c) := hcells 2 _ rfl
      have heq := fun (W : World) => eqlRes x r W
      have HX := Lib.hid hxx
      clear hcells hxx
      by_cases hxr : x = r
      · simp only [decide_eq_true hxr] at heq
        have HR := Lib.hid (show rOfE needs r = (k : Int) by
          have h1 : needs[k]? = some r := by rw [← hxr]; exact HX.out
          rw [rOfE, if_pos (List.mem_of_getElem? h1), idxR, idxOf_first h1 HC.out])
        clear hxr
        go_wp2
        go_quiet (fail)
        go_wp2
        go_ret
        exact ⟨ret_int HR.out.symm, by first | exact (HB.out.trans (below_dN _)).trans (below_dN _) | exact HB.out.trans (below_dN _)⟩
      · simp only [decide_eq_false hxr] at heq
        have HX2 := Lib.hid hxr
        clear hxr
        go_wp2
        go_quiet (fail)
        go_wp2
        go_roundw
        case rel =>
          refine ⟨k + 1, q + nq, by omega, by go_num, Lib.hid ?_, by first | rfl | exact World.drewN_drewN ..⟩
          rw [take_succ_of _ _ _ HX.out]
          intro hm
          rcases List.mem_append.1 hm with hm | hm
          · exact HC.out hm
          · exact HX2.out (List.mem_singleton.1 hm).symm
        case measure => simp [intOf]; omega
    · have HR := Lib.hid (show rOfE needs r = -1 by
        have h1 := HC.out
        rw [List.take_of_length_le (by have := HN.out.len; omega)] at h1
        rw [rOfE, if_neg h1])
      go_wp2
      go_ret
      exact ⟨ret_int HR.out.symm, HB.out.trans (below_dN _)⟩

set_option maxRecDepth 100000 in
set_option maxHeartbeats 800000 in
theorem rClass_t (hJ : Rd encMember 2 w J jn jobs) (hjn : jn ≤ 1000) (id : Int) :
    Calls Try.prog 11 #[aggC N nn nc J jn jc, .int .i64 id] w fun e w' => e = .returned (.int .i64 (rClassE jobs id)) ∧ Below w.heap.size w w' := by
  have hb := Blk.new w 36 #[.slice N nn nc, .slice J jn jc]
  have hB : Below w.heap.size w (w.alloc (.cells #[.slice N nn nc, .slice J jn jc] 36)) := (Below.refl _ _).alloc (Nat.le_refl _) _
  have c1 := hb.cell 1
  simp only [List.getElem?_toArray, List.getElem?_cons_zero, List.getElem?_cons_succ] at c1
  have HJ := Lib.hid (hJ.below hB)
  have HB := Lib.hid hB
  clear hb hB hJ
  go_enter Try.func11, Try.ntmps11
  go_wp2
  generalize w.alloc (.cells #[.slice N nn nc, .slice J jn jc] 36) = w1 at c1 HJ HB ⊢
  go_loop [5] (fun i => ∃ k : Nat, k ≤ jn ∧ i = .int .i64 k ∧ Hid ((jobs.take k).find? (fun j => j.id == id) = none)) (fun i => jn - (intOf i).toNat)
  case atStart => exact ⟨0, Nat.zero_le _, rfl, Lib.hid (by simp)⟩
  case round =>
    obtain ⟨k, hk, rfl, HC⟩ := hrel
    by_cases hlt : k < jn
    · obtain ⟨ab, ao, x, rfl, hxx, hal, hcells⟩ := HJ.out.at_ hlt
      have d0 : w1.cell? ⟨ab, ao + k * 2, none⟩ = some (.int .i64 x.id) := hcells 0 _ rfl
      have d1 : w1.cell? ⟨ab, ao + k * 2 + 1, none⟩ = some (.int .i64 x.cls) := hcells 1 _ rfl
      have HX := Lib.hid hxx
      clear hcells hxx
      by_cases hxr : x.id = id
      · have t : (x.id == id) = true := by simp [hxr]
        have HR := Lib.hid (show rClassE jobs id = x.cls by
          rw [rClassE, split_at HX.out, List.find?_append, HC.out]; simp [List.find?_cons, t])
        clear hxr
        go_wp2
        go_ret
        exact ⟨ret_int HR.out.symm, HB.out⟩
      · have t : (x.id == id) = false := by simp [hxr]
        have HN := Lib.hid (show (jobs.take (k + 1)).find? (fun j => j.id == id) = none by
          rw [take_succ_of _ _ _ HX.out, List.find?_append, HC.out]; simp [List.find?_cons, t])
        clear hxr
        go_wp2
        go_round
        case rel => exact ⟨k + 1, by omega, by go_num, HN⟩
        case measure => simp [intOf]; omega
    · have HR := Lib.hid (show rClassE jobs id = -1 by
        have h1 := HC.out
        rw [List.take_of_length_le (by have := HJ.out.len; omega)] at h1
        rw [rClassE, h1]; rfl)
      go_wp2
      go_ret
      exact ⟨ret_int HR.out.symm, HB.out⟩

theorem filter_map_take (p : LMember → Bool) (f : LMember → Int) {l : List LMember} {k : Nat} {x : LMember} (h : l[k]? = some x) : markAll [] (((l.take (k + 1)).filter p).map f) = if p x = true then putR (markAll [] (((l.take k).filter p).map f)) (f x) else markAll [] (((l.take k).filter p).map f) := by
  rw [take_succ_of _ _ _ h, List.filter_append]
  cases hp : p x
  · simp [hp]
  · simp [hp, markAll, List.foldl_append]
theorem markAll_len_le (l : List Int) : (markAll [] l).length ≤ l.length := by
  have := (length_markAll_le [] l).2
  simpa using this

set_option maxRecDepth 100000 in
set_option maxHeartbeats 800000 in
theorem rJobs_t (hJ : Rd encMember 2 w J jn jobs) (hjn : jn ≤ 1000) (k0 : Int) :
    Calls Try.prog 22 #[aggC N nn nc J jn jc, .int .i64 k0] w fun e w' => ∃ A' n' c', e = .returned (.slice A' n' c') ∧ RdI w' A' n' (markAll [] ((jobs.filter (fun j => j.cls == k0)).map (·.id))) ∧ n' ≤ 1000 ∧ Below w.heap.size w w' := by
  have hb := Blk.new w 36 #[.slice N nn nc, .slice J jn jc]
  have hB : Below w.heap.size w (w.alloc (.cells #[.slice N nn nc, .slice J jn jc] 36)) := (Below.refl _ _).alloc (Nat.le_refl _) _
  have HBL := Lib.hid hb
  have HJ := Lib.hid (hJ.below hB)
  have HB := Lib.hid hB
  clear hb hB hJ
  go_enter Try.func22, Try.ntmps22
  go_wp2
  generalize w.alloc (.cells #[.slice N nn nc, .slice J jn jc] 36) = w1 at HBL HJ HB ⊢
  go_loopw [5, 6] (fun v i wq => ∃ (k q : Nat) (A' : Option Addr) (c' : Nat), k ≤ jn ∧ i = .int .i64 k ∧ v = .slice A' q c' ∧ q ≤ k ∧ q ≤ c' ∧ RdI wq A' q (markAll [] (((jobs.take k).filter (fun j => j.cls == k0)).map (·.id))) ∧ Below w1.heap.size w1 wq) (fun _ i _ => jn - (intOf i).toNat)
  case atStart => exact ⟨0, 0, none, 0, Nat.zero_le _, rfl, rfl, Nat.le_refl _, Nat.le_refl _, Rd.nil _ _, Below.refl _ _⟩
  case round =>
    obtain ⟨k, q, A', c', hk, rfl, rfl, hqk, hqc, hR, hBq⟩ := hrel
    have c1 := (HBL.out.below hBq HBL.out.lt).cell 1
    simp only [List.getElem?_toArray, List.getElem?_cons_zero, List.getElem?_cons_succ] at c1
    by_cases hlt : k < jn
    · obtain ⟨ab, ao, x, rfl, hxx, hal, hcells⟩ := (HJ.out.below hBq).at_ hlt
      have d0 : wr.cell? ⟨ab, ao + k * 2, none⟩ = some (.int .i64 x.id) := hcells 0 _ rfl
      have d1 : wr.cell? ⟨ab, ao + k * 2 + 1, none⟩ = some (.int .i64 x.cls) := hcells 1 _ rfl
      have hst := filter_map_take (fun j => j.cls == k0) (·.id) hxx
      clear hcells hxx
      by_cases hxk : x.cls = k0
      · have t : (x.cls == k0) = true := by simp [hxk]
        rw [if_pos t] at hst
        have HS := Lib.hid hst
        clear hst hxk
        go_wp2_with fail
        have hcx := put12 A' q c' _ x.id _ hR (by omega) hqc
        (with_reducible refine hcx.mono ?_)
        clear hcx
        rintro e w2 ⟨A2, m2, c2, rfl, hR2, hmc2, hB2⟩
        have hm2 : m2 ≤ k + 1 := by have h1 := hR2.len; have h2 := length_putR (markAll [] (((jobs.take k).filter (fun j => j.cls == k0)).map (·.id))) x.id; have h3 := hR.len; split at h2 <;> omega
        have hBw := hBq.trans (hB2.mono hBq.size)
        clear hR hBq hB2 d0 d1 c1
        go_wp2
        go_roundw
        case rel => exact ⟨k + 1, m2, A2, c2, by omega, by go_num, rfl, hm2, hmc2, by rw [HS.out]; exact hR2, hBw⟩
        case measure => simp [intOf]; omega
      · have t : (x.cls == k0) = false := by simp [hxk]
        rw [t] at hst
        simp only [Bool.false_eq_true, if_false] at hst
        have HS := Lib.hid hst
        clear hst hxk
        go_wp2
        go_roundw
        case rel => exact ⟨k + 1, q, A', c', by omega, by go_num, rfl, by omega, hqc, by rw [HS.out]; exact hR, hBq⟩
        case measure => simp [intOf]; omega
    · have hfull : jobs.take k = jobs := List.take_of_length_le (by have := HJ.out.len; omega)
      rw [hfull] at hR
      clear hfull
      go_wp2
      go_ret
      exact ⟨A', q, c', rfl, hR, by omega, HB.out.trans (hBq.mono HB.out.size)⟩

theorem markAll_take_i {l : List LMember} {k : Nat} {x : LMember} (f : LMember → Int) (h : l[k]? = some x) : markAll [] ((l.take (k + 1)).map f) = putR (markAll [] ((l.take k).map f)) (f x) := by
  rw [take_succ_of _ _ _ h, List.map_append]
  simp [markAll, List.foldl_append]
set_option maxRecDepth 100000 in
set_option maxHeartbeats 800000 in
theorem rLive_t (hJ : Rd encMember 2 w J jn jobs) (hjn : jn ≤ 1000) :
    Calls Try.prog 19 #[aggC N nn nc J jn jc] w fun e w' => ∃ A' n' c', e = .returned (.slice A' n' c') ∧ RdI w' A' n' (markAll [] (jobs.map (·.cls))) ∧ n' ≤ 1000 ∧ Below w.heap.size w w' := by
  have hb := Blk.new w 36 #[.slice N nn nc, .slice J jn jc]
  have hB : Below w.heap.size w (w.alloc (.cells #[.slice N nn nc, .slice J jn jc] 36)) := (Below.refl _ _).alloc (Nat.le_refl _) _
  have HBL := Lib.hid hb
  have HJ := Lib.hid (hJ.below hB)
  have HB := Lib.hid hB
  clear hb hB hJ
  go_enter Try.func19, Try.ntmps19
  go_wp2
  generalize w.alloc (.cells #[.slice N nn nc, .slice J jn jc] 36) = w1 at HBL HJ HB ⊢
  go_loopw [3, 4] (fun v i wq => ∃ (k q : Nat) (A' : Option Addr) (c' : Nat), k ≤ jn ∧ i = .int .i64 k ∧ v = .slice A' q c' ∧ q ≤ k ∧ q ≤ c' ∧ RdI wq A' q (markAll [] ((jobs.take k).map (·.cls))) ∧ Below w1.heap.size w1 wq) (fun _ i _ => jn - (intOf i).toNat)
  case atStart => exact ⟨0, 0, none, 0, Nat.zero_le _, rfl, rfl, Nat.le_refl _, Nat.le_refl _, Rd.nil _ _, Below.refl _ _⟩
  case round =>
    obtain ⟨k, q, A', c', hk, rfl, rfl, hqk, hqc, hR, hBq⟩ := hrel
    have c1 := (HBL.out.below hBq HBL.out.lt).cell 1
    simp only [List.getElem?_toArray, List.getElem?_cons_zero, List.getElem?_cons_succ] at c1
    by_cases hlt : k < jn
    · obtain ⟨ab, ao, x, rfl, hxx, hal, hcells⟩ := (HJ.out.below hBq).at_ hlt
      have d1 : wr.cell? ⟨ab, ao + k * 2 + 1, none⟩ = some (.int .i64 x.cls) := hcells 1 _ rfl
      have hst := markAll_take_i (·.cls) hxx
      have HS := Lib.hid hst
      clear hcells hxx hst
      go_wp2_with fail
      have hcx := put12 A' q c' _ x.cls _ hR (by omega) hqc
      (with_reducible refine hcx.mono ?_)
      clear hcx
      rintro e w2 ⟨A2, m2, c2, rfl, hR2, hmc2, hB2⟩
      have hm2 : m2 ≤ k + 1 := by have h1 := hR2.len; have h2 := length_putR (markAll [] ((jobs.take k).map (·.cls))) x.cls; have h3 := hR.len; split at h2 <;> omega
      have hBw := hBq.trans (hB2.mono hBq.size)
      clear hR hBq hB2 d1 c1
      go_wp2
      go_roundw
      case rel => exact ⟨k + 1, m2, A2, c2, by omega, by go_num, rfl, hm2, hmc2, by rw [HS.out]; exact hR2, hBw⟩
      case measure => simp [intOf]; omega
    · have hfull : jobs.take k = jobs := List.take_of_length_le (by have := HJ.out.len; omega)
      rw [hfull] at hR
      clear hfull
      go_wp2
      go_ret
      exact ⟨A', q, c', rfl, hR, by omega, HB.out.trans (hBq.mono HB.out.size)⟩
end

end Go.Proofs.Ythhnocnkicoimaa
