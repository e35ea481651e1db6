/-
  LAYER 32 (cache): hold, Get, Needs, Stale, Looked.
-/
import Derived.Test.YtcafmodenbifhaaShelfA
import Derived.Test.YtcafmodenbifhaaCacheN
import Derived.Test.YtcafmodenbifhaaEqNode
import Derived.Test.YtcafmodenbifhaaDirtyL
set_option linter.unusedVariables false
set_option linter.unusedSimpArgs false
namespace Go.Proofs.Ytcafmodenbifhaa
open Go.RowKit Go.Maps

theorem caBox_0 (nm sm dm : Option Nat) (n : Int) : (caBox nm sm dm n)[0]? = some (.map nm) := rfl
set_option maxRecDepth 100000 in
set_option maxHeartbeats 1600000 in
theorem hold_t {c s : Nat} {nm sm dm : Option Nat} {lk : Int} {irow : List Int} {f : Int → Value} {r : LRes} {row : List Int} {T : LTh → Prop} {S : Nat → Prop} {w : World} (hb : Blk w c 48 (caBox nm sm dm lk)) (hm : MapV w (.map nm) irow f) (hS : HpO w s 118 (needT r) row T S) (hcS : ¬ S c) (hnS : ∀ k, nm = some k → ¬ S k)
    (id : Int) (n : LNode) (hid : id ∈ irow) (hf : f id = aggNode n) (hni : wf64 n.id) (hrow : row.length ≤ 100000) (hlk : -1000000000 ≤ lk ∧ lk ≤ 1000000000) :
    Calls Try.prog 53 #[.pointer (some ⟨c, 0, none⟩), .int .i64 id, .pointer (some ⟨s, 0, none⟩)] w fun e w' => e = .returned (.tuple #[]) ∧ ∃ row' S', HpO w' s 118 (needT r) row' (shPut T n r) S' ∧ Turned (fun k => k = c ∨ S k) (fun k => k = c ∨ S' k) w w' ∧ Blk w' c 48 (caBox nm sm dm (lk + 1)) ∧ ¬ S' c := by
  have hl := hm.get_ Try.tyN (hm.wf id hid)
  rw [if_pos hid, hf] at hl
  have c0 : w.cell? ⟨c, 0, none⟩ = some (.map nm) := (hb.cell 0).trans rfl
  have cl := hb.lt
  have hcx := shPut_t hS n hni hrow
  have HB := Lib.hid (And.intro hb (And.intro hcS hlk))
  clear hb hm hS hcS hnS hf hni hrow hlk
  go_enter Try.func53, Try.ntmps53
  go_wp2_with fail
  (with_reducible refine hcx.mono ?_)
  clear hcx hl c0
  rintro e w2 ⟨rfl, row', S', hS2, ht2⟩
  have hcS' : ¬ S' c := fun h => (ht2.new c h).elim HB.out.2.1 (fun h2 => by omega)
  have hb2 : Blk w2 c 48 (caBox nm sm dm lk) := HB.out.1.kept ht2.kept HB.out.2.1
  have hcx := atAdd_t (o := 3) (x := lk) hb2 rfl (by have := HB.out.2.2; omega)
  have H2 := Lib.hid (And.intro hS2 (And.intro ht2 (And.intro hcS' hb2)))
  clear hS2 ht2 hcS' hb2
  go_wp2_with fail
  (with_reducible refine hcx.mono ?_)
  clear hcx
  rintro e w3 ⟨rfl, hw⟩
  have hb3 : Blk w3 c 48 (caBox nm sm dm (lk + 1)) := by rw [hw]; have := H2.out.2.2.2.set_ 3 (.int .i64 (lk + 1)); simpa [caBox] using this
  have hk3 : Kept (fun k => k = c) w2 w3 := by rw [hw]; exact (Kept.refl (fun k => k = c) w2).setCell (p := ⟨c, 3, none⟩) (fun _ => rfl) _
  have HE : Hid (∃ row' S', HpO w3 s 118 (needT r) row' (shPut T n r) S' ∧ Turned (fun k => k = c ∨ S k) (fun k => k = c ∨ S' k) w w3 ∧ Blk w3 c 48 (caBox nm sm dm (lk + 1)) ∧ ¬ S' c) := Lib.hid ⟨row', S', H2.out.1.kept hk3 (fun k hk e => H2.out.2.2.1 (e ▸ hk)), ⟨(H2.out.2.1.kept.mono (fun k _ hk => .inr hk)).trans hk3 (fun k _ e => .inl e), fun k hk => hk.elim (fun e => .inl (.inl e)) (fun h => (H2.out.2.1.new k h).imp .inr (fun h9 => h9))⟩, hb3, H2.out.2.2.1⟩
  clear hb3 hk3 hw H2 HB cl
  go_wp2
  go_end0
  exact ⟨rfl, HE.out⟩
set_option maxRecDepth 100000 in
theorem caGet_t {c : Nat} {nm sm dm : Option Nat} {lk : Int} {L : List LNode} {w : World} (hb : Blk w c 48 (caBox nm sm dm lk)) (hm : MapV w (.map nm) (idsN L) (nodeV L)) (id : Int) (hid : wf64 id) :
    Calls Try.prog 22 #[.pointer (some ⟨c, 0, none⟩), .int .i64 id] w fun e w' => e = .returned (.tuple #[aggNode (nodeOf L id), .bool (decide (id ∈ idsN L))]) ∧ Below w.heap.size w w' := by
  have hl0 := (hm.alloc (.cells (boxNode zeroN) 55)).look Try.tyN hid
  have hl : (Instr.lookup 37 (.map nm) (.int .i64 id) true).run Try.prog (w.alloc (.cells (boxNode zeroN) 55)) = .ok (.tuple #[aggNode (nodeOf L id), .bool (decide (id ∈ idsN L))]) (w.alloc (.cells (boxNode zeroN) 55)) := by
    rw [hl0]
    by_cases hi : id ∈ idsN L
    · rw [if_pos hi]; rfl
    · rw [if_neg hi, nodeOf_out hi]; rfl
  have c0 : w.cell? ⟨c, 0, none⟩ = some (.map nm) := (hb.cell 0).trans rfl
  have cl := hb.lt
  obtain ⟨m, hme⟩ : ∃ m, nodeOf L id = m := ⟨_, rfl⟩
  obtain ⟨d, hd⟩ : ∃ d, decide (id ∈ idsN L) = d := ⟨_, rfl⟩
  rw [hme, hd] at hl ⊢
  clear hb hm hl0 hme hd
  go_enter Try.func22, Try.ntmps22
  simp only [boxNode, zeroN] at hl
  go_wp2
  exact bodyPost_ret (v := .tuple #[aggNode m, .bool d]) (by simp [results, Try.results22, go_sem]) rfl ⟨rfl, ((Below.refl _ _).alloc (Nat.le_refl _) _).alloc (by simp) _⟩
theorem caNeeds_t {c : Nat} {nm sm dm : Option Nat} {lk : Int} {needs : List LRes} {f : LRes → Value} {w : World} (hb : Blk w c 48 (caBox nm sm dm lk)) (hm : MapRV w (.map sm) needs f) :
    Calls Try.prog 24 #[.pointer (some ⟨c, 0, none⟩)] w fun e w' => e = .returned (.int .i64 needs.length) ∧ w' = w := by
  have hl := fun ty => hm.len Try.tyS ty
  have c1 : w.cell? ⟨c, 1, none⟩ = some (.map sm) := (hb.cell 1).trans rfl
  clear hb hm
  go_enter Try.func24, Try.ntmps24
  go_wp2
  go_ret
  exact ⟨rfl, rfl⟩
theorem caStale_t {c : Nat} {nm sm dm : Option Nat} {lk : Int} {row : List Int} {w : World} (hb : Blk w c 48 (caBox nm sm dm lk)) (hm : MapSet w (.map dm) row) :
    Calls Try.prog 25 #[.pointer (some ⟨c, 0, none⟩)] w fun e w' => e = .returned (.int .i64 row.length) ∧ w' = w := by
  have hcx := dLen c 2 _ _ _ row w hb rfl hm
  clear hb hm
  go_enter Try.func25, Try.ntmps25
  go_wp2_with fail
  (with_reducible refine hcx.mono ?_)
  clear hcx
  rintro e w2 ⟨rfl, rfl⟩
  go_wp2
  go_ret
  exact ⟨rfl, rfl⟩
theorem caLooked_t {c : Nat} {nm sm dm : Option Nat} {lk : Int} {w : World} (hb : Blk w c 48 (caBox nm sm dm lk)) :
    Calls Try.prog 26 #[.pointer (some ⟨c, 0, none⟩)] w fun e w' => e = .returned (.int .i64 lk) ∧ w' = w := by
  have hcx := atLoad_t (o := 3) (x := lk) hb rfl
  clear hb
  go_enter Try.func26, Try.ntmps26
  go_wp2_with fail
  (with_reducible refine hcx.mono ?_)
  clear hcx
  rintro e w2 ⟨rfl, hw⟩
  replace hw := hw.symm
  subst hw
  go_wp2
  go_ret
  exact ⟨rfl, rfl⟩
theorem caNeeds_nil (w : World) : Calls Try.prog 24 #[.pointer none] w fun e w' => e = .returned (.int .i64 0) ∧ Below w.heap.size w w' := by
  go_enter Try.func24, Try.ntmps24
  go_wp2
  go_ret
  exact ⟨rfl, Below.refl _ _⟩
theorem caStale_nil (w : World) : Calls Try.prog 25 #[.pointer none] w fun e w' => e = .returned (.int .i64 0) ∧ Below w.heap.size w w' := by
  go_enter Try.func25, Try.ntmps25
  go_wp2
  go_ret
  exact ⟨rfl, Below.refl _ _⟩
theorem caLooked_nil (w : World) : Calls Try.prog 26 #[.pointer none] w fun e w' => e = .returned (.int .i64 0) ∧ Below w.heap.size w w' := by
  go_enter Try.func26, Try.ntmps26
  go_wp2
  go_ret
  exact ⟨rfl, Below.refl _ _⟩
theorem caGet_nil (id : Int) (w : World) : Calls Try.prog 22 #[.pointer none, .int .i64 id] w fun e w' => e = .returned (.tuple #[aggNode zeroN, .bool false]) ∧ Below w.heap.size w w' := by
  go_enter Try.func22, Try.ntmps22
  go_wp2
  exact bodyPost_ret (v := .tuple #[aggNode zeroN, .bool false]) (by simp [results, Try.results22, go_sem, zeroN]) rfl ⟨rfl, (Below.refl _ _).alloc (Nat.le_refl _) _⟩
theorem caForget_nil (r : LRes) (w : World) : Calls Try.prog 21 #[.pointer none, aggRes r] w fun e w' => e = .returned (.bool false) ∧ Below w.heap.size w w' := by
  go_enter Try.func21, Try.ntmps21
  go_wp2
  go_ret
  exact ⟨rfl, (Below.refl _ _).alloc (Nat.le_refl _) _⟩
theorem caBest_nil (r : LRes) (w : World) : Calls Try.prog 19 #[.pointer none, aggRes r] w fun e w' => e = .returned (.tuple #[aggNode zeroN, .bool false]) ∧ Below w.heap.size w w' := by
  go_enter Try.func19, Try.ntmps19
  go_wp2
  exact bodyPost_ret (v := .tuple #[aggNode zeroN, .bool false]) (by simp [results, Try.results19, go_sem, zeroN]) rfl ⟨rfl, ((Below.refl _ _).alloc (Nat.le_refl _) _).alloc (by simp) _⟩
end Go.Proofs.Ytcafmodenbifhaa
