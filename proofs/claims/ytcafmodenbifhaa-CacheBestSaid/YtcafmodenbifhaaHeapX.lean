/-
  LAYER 9 (heap): a thing is laid where it belongs: fit.
  LAYER 9 (heap): how many there are.
  LAYER 9 (heap): plain law: a thing is let go of.
-/
import Derived.Test.YtcafmodenbifhaaHeapD
set_option linter.unusedVariables false
set_option linter.unusedSimpArgs false
namespace Go.Proofs.Ytcafmodenbifhaa
open Go.RowKit Go.Maps

/-- What a heap's row and map are, behind each call. -/
structure HeapOk (n : Nat) (l : List LTh) (g : Int → Int) : Prop where
  heap : HeapF ltP (uL l) n
  at_ : ∀ i, i < n → g (uL l i).id = i
  inj : ∀ i j, i < n → j < n → (uL l i).id = (uL l j).id → i = j
theorem HU.fin {base c : Nat} {t : TypeId} {cs : Array Value} {A : Option Addr} {n cap : Nat} {mb : Nat} {row : List Int} {w w' : World} {k : Nat} {x : LTh} {l : List LTh} {g : Int → Int} (h : HU w base c t cs A n cap mb row k x l g) (hk : k < n) (hH : HeapF ltP (updF (uL l) k x) n) : HeapOk n (l.set k x) (fun z => if z = x.id then (k : Int) else g z) ∧ uL (l.set k x) = updF (uL l) k x := by
  have e := uL_set x (show k < l.length by rw [h.len]; exact hk)
  exact ⟨⟨by rw [e]; exact hH, fun i hi => by rw [e]; exact h.hm.done hk i hi, fun i j hi hj he => by rw [e] at he; exact h.hm.inj i j hi hj he⟩, e⟩
set_option maxRecDepth 100000 in
set_option maxHeartbeats 3200000 in
theorem hFit_t {base c : Nat} {t : TypeId} {cs : Array Value} {A : Option Addr} {n cap : Nat} {mb : Nat} {row : List Int} {w : World} {k : Nat} {x : LTh} {l : List LTh} {g : Int → Int} (h : HU w base c t cs A n cap mb row k x l g) (hk : k < n) (hA0 : AF ltP (updF (uL l) k x) n k) (hwf : n ≤ 1000000 ∧ row.length ≤ 1000000 ∧ wf64 x.id) :
    Calls Try.prog 100 #[.pointer (some ⟨c, 0, none⟩), .int .i64 ((k : Nat) : Int), aggTh x] w fun e w' => ∃ (l2 : List LTh) (g2 : Int → Int), e = .returned (.tuple #[]) ∧ HeapAt w' base c t cs A n cap l2 mb (putR row x.id) g2 ∧ Kept (HpS A mb) w w' ∧ HeapOk n l2 g2 ∧ (∀ a, (∃ i, i < n ∧ uL l2 i = a) ↔ ∃ i, i < n ∧ updF (uL l) k x i = a) := by
  have hB : Below w.heap.size w (w.alloc (.cells (boxTh x) 137)) := (Below.refl _ _).alloc (Nat.le_refl _) _
  have hbx := Blk.new w 137 (boxTh x)
  have hnb : ¬ HpS A mb w.heap.size := by
    rintro (e | ⟨ad, ha, e⟩)
    · have := h.at_.map.lt mb rfl; omega
    · have := (h.at_.own.at_base ad ha).2; omega
  have HX := Lib.hid (And.intro (h.below hB) (And.intro hbx (And.intro hA0 (And.intro hnb (Kept.of_below (F := HpS A mb) hB)))))
  have HWF := Lib.hid hwf
  clear h hB hbx hA0 hnb hwf
  go_enter Try.func100, Try.ntmps100
  go_upto_region 1 with fail
  obtain ⟨b, hb0⟩ : ∃ b, w.heap.size = b := ⟨_, rfl⟩
  rw [hb0] at HX
  generalize (w.alloc (.cells (boxTh x) 137)) = w1 at HX ⊢
  try rw [hb0]
  clear hb0
  obtain ⟨b0, b1_, b2, b3⟩ : w1.cell? ⟨b, 0, none⟩ = some (.int .i64 x.id) ∧ w1.cell? ⟨b, 1, none⟩ = some (.int .i64 x.a) ∧ w1.cell? ⟨b, 2, none⟩ = some (.int .i64 x.b) ∧ w1.cell? ⟨b, 3, none⟩ = some (.int .i64 x.c) := ⟨(HX.out.2.1.cell 0).trans rfl, (HX.out.2.1.cell 1).trans rfl, (HX.out.2.1.cell 2).trans rfl, (HX.out.2.1.cell 3).trans rfl⟩
  have bl := HX.out.2.1.lt
  have hcx := hUp_t HX.out.1 hk HX.out.2.2.1 ⟨HWF.out.1, HWF.out.2.1⟩
  go_wp2_with fail
  (with_reducible refine hcx.mono ?_)
  clear hcx b0 b1_ b2 b3 bl
  rintro e w2 ⟨k2, l2, g2, rfl, hk2, hu2, hkp2, hmem2, hst⟩
  have hb2 := HX.out.2.1.kept hkp2 HX.out.2.2.2.1
  have hkp := HX.out.2.2.2.2.trans hkp2 (fun _ _ h => h)
  by_cases hkk : k2 = k
  · have H2 := Lib.hid (And.intro hu2 (And.intro hkp (And.intro hmem2 (And.intro (hst.resolve_right (fun e => e.1 hkk)).2 hb2))))
    have te : ((k2 : Int) == (k : Int)) = true := by simp [hkk]
    clear hu2 hkp hkp2 hmem2 hst hb2
    subst hkk
    obtain ⟨b0, b1_, b2, b3⟩ : w2.cell? ⟨b, 0, none⟩ = some (.int .i64 x.id) ∧ w2.cell? ⟨b, 1, none⟩ = some (.int .i64 x.a) ∧ w2.cell? ⟨b, 2, none⟩ = some (.int .i64 x.b) ∧ w2.cell? ⟨b, 3, none⟩ = some (.int .i64 x.c) := ⟨(H2.out.2.2.2.2.cell 0).trans rfl, (H2.out.2.2.2.2.cell 1).trans rfl, (H2.out.2.2.2.2.cell 2).trans rfl, (H2.out.2.2.2.2.cell 3).trans rfl⟩
    have bl := H2.out.2.2.2.2.lt
    have hcx := hDown_t H2.out.1 hk2 H2.out.2.2.2.1 ⟨HWF.out.1, HWF.out.2.1⟩
    go_wp2_with fail
    (with_reducible refine hcx.mono ?_)
    clear hcx b0 b1_ b2 b3 bl
    rintro e w3 ⟨k3, l3, g3, rfl, hk3, hu3, hkp3, hmem3, hst3⟩
    have H3 : Hid (HU w3 base c t cs A n cap mb row k3 x l3 g3 ∧ Kept (HpS A mb) w w3 ∧ (∀ a, (∃ i, i < n ∧ updF (uL l3) k3 x i = a) ↔ ∃ i, i < n ∧ updF (uL l) k2 x i = a) ∧ HeapF ltP (updF (uL l3) k3 x) n ∧ k3 < n ∧ Blk w3 b 137 (boxTh x)) := Lib.hid ⟨hu3, H2.out.2.1.trans hkp3 (fun _ _ h => h), fun a => (hmem3 a).trans (H2.out.2.2.1 a), hst3, hk3, H2.out.2.2.2.2.kept hkp3 HX.out.2.2.2.1⟩
    clear hu3 hkp3 hmem3 hst3 hk3 H2
    obtain ⟨b0, b1_, b2, b3⟩ : w3.cell? ⟨b, 0, none⟩ = some (.int .i64 x.id) ∧ w3.cell? ⟨b, 1, none⟩ = some (.int .i64 x.a) ∧ w3.cell? ⟨b, 2, none⟩ = some (.int .i64 x.b) ∧ w3.cell? ⟨b, 3, none⟩ = some (.int .i64 x.c) := ⟨(H3.out.2.2.2.2.2.cell 0).trans rfl, (H3.out.2.2.2.2.2.cell 1).trans rfl, (H3.out.2.2.2.2.2.cell 2).trans rfl, (H3.out.2.2.2.2.2.cell 3).trans rfl⟩
    have bl := H3.out.2.2.2.2.2.lt
    have hcx := hSet_t H3.out.1.at_ H3.out.2.2.2.2.1 x HWF.out.2.2 (wf64_mk (by have := HWF.out.1; have := H3.out.2.2.2.2.1; omega)) (by have := HWF.out.2.1; omega)
    go_wp2_with fail
    (with_reducible refine hcx.mono ?_)
    clear hcx b0 b1_ b2 b3 bl
    rintro e w9 ⟨rfl, h9, hk9⟩
    have hf := H3.out.1.fin (w' := w9) H3.out.2.2.2.2.1 H3.out.2.2.2.1
    have HE : Hid (HeapAt w9 base c t cs A n cap (l3.set k3 x) mb (putR row x.id) (fun z => if z = x.id then (k3 : Int) else g3 z) ∧ Kept (HpS A mb) w w9 ∧ HeapOk n (l3.set k3 x) (fun z => if z = x.id then (k3 : Int) else g3 z) ∧ (∀ a, (∃ i, i < n ∧ uL (l3.set k3 x) i = a) ↔ ∃ i, i < n ∧ updF (uL l) k2 x i = a)) := Lib.hid ⟨h9, H3.out.2.1.trans hk9 (fun _ _ h => h), hf.1, fun a => by rw [hf.2]; exact H3.out.2.2.1 a⟩
    clear h9 hk9 hf
    go_wp2
    go_end0
    exact ⟨_, _, rfl, HE.out⟩
  · have H3 : Hid (HU w2 base c t cs A n cap mb row k2 x l2 g2 ∧ Kept (HpS A mb) w w2 ∧ (∀ a, (∃ i, i < n ∧ updF (uL l2) k2 x i = a) ↔ ∃ i, i < n ∧ updF (uL l) k x i = a) ∧ HeapF ltP (updF (uL l2) k2 x) n ∧ k2 < n ∧ Blk w2 b 137 (boxTh x)) := Lib.hid ⟨hu2, hkp, hmem2, (hst.resolve_left (fun e => hkk e.1)).2, hk2, hb2⟩
    have te : ((k2 : Int) == (k : Int)) = false := by simp; omega
    clear hu2 hkp hkp2 hmem2 hst hb2
    obtain ⟨b0, b1_, b2, b3⟩ : w2.cell? ⟨b, 0, none⟩ = some (.int .i64 x.id) ∧ w2.cell? ⟨b, 1, none⟩ = some (.int .i64 x.a) ∧ w2.cell? ⟨b, 2, none⟩ = some (.int .i64 x.b) ∧ w2.cell? ⟨b, 3, none⟩ = some (.int .i64 x.c) := ⟨(H3.out.2.2.2.2.2.cell 0).trans rfl, (H3.out.2.2.2.2.2.cell 1).trans rfl, (H3.out.2.2.2.2.2.cell 2).trans rfl, (H3.out.2.2.2.2.2.cell 3).trans rfl⟩
    have bl := H3.out.2.2.2.2.2.lt
    have hcx := hSet_t H3.out.1.at_ H3.out.2.2.2.2.1 x HWF.out.2.2 (wf64_mk (by have := HWF.out.1; have := H3.out.2.2.2.2.1; omega)) (by have := HWF.out.2.1; omega)
    go_wp2_with fail
    (with_reducible refine hcx.mono ?_)
    clear hcx b0 b1_ b2 b3 bl
    rintro e w9 ⟨rfl, h9, hk9⟩
    have hf := H3.out.1.fin (w' := w9) H3.out.2.2.2.2.1 H3.out.2.2.2.1
    have HE : Hid (HeapAt w9 base c t cs A n cap (l2.set k2 x) mb (putR row x.id) (fun z => if z = x.id then (k2 : Int) else g2 z) ∧ Kept (HpS A mb) w w9 ∧ HeapOk n (l2.set k2 x) (fun z => if z = x.id then (k2 : Int) else g2 z) ∧ (∀ a, (∃ i, i < n ∧ uL (l2.set k2 x) i = a) ↔ ∃ i, i < n ∧ updF (uL l) k x i = a)) := Lib.hid ⟨h9, H3.out.2.1.trans hk9 (fun _ _ h => h), hf.1, fun a => by rw [hf.2]; exact H3.out.2.2.1 a⟩
    clear h9 hk9 hf
    go_wp2
    go_end0
    exact ⟨_, _, rfl, HE.out⟩
end Go.Proofs.Ytcafmodenbifhaa
namespace Go.Proofs.Ytcafmodenbifhaa
open Go.RowKit Go.Maps

set_option maxRecDepth 100000 in
theorem hLen_t {c : Nat} {t : TypeId} {cs : Array Value} {A : Option Addr} {n cap : Nat} {w : World} (hb : Blk w c t cs) (h0 : cs[0]? = some (.slice A n cap)) :
    Calls Try.prog 75 #[.pointer (some ⟨c, 0, none⟩)] w fun e w' => e = .returned (.int .i64 n) ∧ w' = w := by
  have x0 : w.cell? ⟨c, 0, none⟩ = some (.slice A n cap) := (hb.cell 0).trans h0
  have xl := hb.lt
  clear hb h0
  go_enter Try.func75, Try.ntmps75
  go_wp2
  go_ret
  exact ⟨rfl, rfl⟩
end Go.Proofs.Ytcafmodenbifhaa
namespace Go.Proofs.Ytcafmodenbifhaa
open Go.RowKit Go.Maps

theorem HeapF.less_ {lt : LTh → LTh → Prop} {v : Nat → LTh} {n m : Nat} (h : HeapF lt v n) (hm : m ≤ n) : HeapF lt v m := fun i h0 hi => h i h0 (by omega)
/-- The last thing takes the place of the one that is let go of. -/
theorem HeapOk.drop {n : Nat} {l : List LTh} {g : Int → Int} (h : HeapOk (n + 1) l g) {k : Nat} (hk : k < n) : HM LTh.id n k (uL l n) (uL l) g ∧ AF ltP (updF (uL l) k (uL l n)) n k := by
  refine ⟨⟨fun i hi h1 => h.at_ i (by omega), fun i j hi hj e => ?_⟩, HeapF.set ltP_tr (h.heap.less_ (by omega)) hk (uL l n)⟩
  by_cases h1 : i = k
  · by_cases h2 : j = k
    · omega
    · rw [h1, upd_eq, upd_ne h2] at e
      have := h.inj n j (by omega) (by omega) e
      omega
  · by_cases h2 : j = k
    · rw [h2, upd_eq, upd_ne h1] at e
      have := h.inj i n (by omega) (by omega) e
      omega
    · rw [upd_ne h1, upd_ne h2] at e
      exact h.inj i j (by omega) (by omega) e
/-- What is there behind it. -/
theorem drop_mem {n : Nat} {l : List LTh} {g : Int → Int} (h : HeapOk (n + 1) l g) {k : Nat} (hk : k ≤ n) (a : LTh) : (∃ i, i < n ∧ updF (uL l) k (uL l n) i = a) ↔ ((∃ i, i < n + 1 ∧ uL l i = a) ∧ a.id ≠ (uL l k).id) := by
  constructor
  · rintro ⟨i, hi, rfl⟩
    by_cases h1 : i = k
    · rw [h1, upd_eq]
      exact ⟨⟨n, by omega, rfl⟩, fun e => by have := h.inj n k (by omega) (by omega) e; omega⟩
    · rw [upd_ne h1]
      exact ⟨⟨i, by omega, rfl⟩, fun e => by have := h.inj i k (by omega) (by omega) e; omega⟩
  · rintro ⟨⟨i, hi, rfl⟩, hne⟩
    have h1 : i ≠ k := fun e => hne (by rw [e])
    by_cases h2 : i = n
    · refine ⟨k, by omega, ?_⟩
      rw [upd_eq, h2]
    · exact ⟨i, by omega, upd_ne h1⟩
/-- A thing gets another key. -/
theorem HeapOk.put {n : Nat} {l : List LTh} {g : Int → Int} (h : HeapOk n l g) {k : Nat} (hk : k < n) (x : LTh) (hx : x.id = (uL l k).id) : HM LTh.id n k x (uL l) g ∧ AF ltP (updF (uL l) k x) n k := by
  have hid : ∀ i, (updF (uL l) k x i).id = (uL l i).id := fun i => by
    by_cases h1 : i = k
    · rw [h1, upd_eq, hx]
    · rw [upd_ne h1]
  exact ⟨⟨fun i hi _ => h.at_ i hi, fun i j hi hj e => h.inj i j hi hj (by rw [hid, hid] at e; exact e)⟩, HeapF.set ltP_tr h.heap hk x⟩
end Go.Proofs.Ytcafmodenbifhaa
