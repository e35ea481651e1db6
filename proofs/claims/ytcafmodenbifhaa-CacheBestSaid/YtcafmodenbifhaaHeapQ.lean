/-
  LAYER 9 (heap): what a heap is, as an object: the things in it, the blocks that it holds; plain laws.
  LAYER 9 (heap): a heap as an object: Put, Drop, Top.
  LAYER 9 (heap): a heap as an object: Top.
-/
import Derived.Test.YtcafmodenbifhaaHeapX
import Derived.BigRegion
import Derived.Deep.DeepCutAuto
set_option linter.unusedVariables false
set_option linter.unusedSimpArgs false
namespace Go.Proofs.Ytcafmodenbifhaa
open Go.RowKit Go.Maps

theorem uL_app {l : List LTh} {z : LTh} {i : Nat} (h : i < l.length) : uL (l ++ [z]) i = uL l i := by
  unfold uL
  rw [List.getElem?_append_left h]
/-- A thing that is new stands at the end first. -/
theorem HeapOk.add {n : Nat} {l : List LTh} {g : Int → Int} (h : HeapOk n l g) (hl : l.length = n) (z x : LTh) (hx : ∀ i, i < n → (uL l i).id ≠ x.id) : HM LTh.id (n + 1) n x (uL (l ++ [z])) g ∧ AF ltP (updF (uL (l ++ [z])) n x) (n + 1) n := by
  have hu : ∀ i, i < n → uL (l ++ [z]) i = uL l i := fun i hi => uL_app (by omega)
  have hv : ∀ i, i < n → updF (uL (l ++ [z])) n x i = uL l i := fun i hi => by rw [upd_ne (by omega), hu i hi]
  refine ⟨⟨fun i hi h1 => ?_, fun i j hi hj e => ?_⟩, ⟨fun i h0 hi h1 h2 => ?_, fun h0 c hc hcn hp => ?_⟩⟩
  · rw [hu i (by omega)]
    exact h.at_ i (by omega)
  · by_cases h1 : i = n
    · by_cases h2 : j = n
      · omega
      · rw [h1, upd_eq, hv j (by omega)] at e
        exact absurd e.symm (hx j (by omega))
    · by_cases h2 : j = n
      · rw [h2, upd_eq, hv i (by omega)] at e
        exact absurd e (hx i (by omega))
      · rw [hv i (by omega), hv j (by omega)] at e
        exact h.inj i j (by omega) (by omega) e
  · have hp : par i < n := by unfold par; omega
    rw [hv i (by omega), hv _ hp]
    exact h.heap i h0 (by omega)
  · exfalso
    unfold par at hp
    omega
theorem add_mem {n : Nat} {l : List LTh} (hl : l.length = n) (z x a : LTh) : (∃ i, i < n + 1 ∧ updF (uL (l ++ [z])) n x i = a) ↔ ((∃ i, i < n ∧ uL l i = a) ∨ a = x) := by
  have hv : ∀ i, i < n → updF (uL (l ++ [z])) n x i = uL l i := fun i hi => by rw [upd_ne (by omega), uL_app (by omega)]
  constructor
  · rintro ⟨i, hi, rfl⟩
    by_cases h1 : i = n
    · right; rw [h1, upd_eq]
    · left; exact ⟨i, by omega, (hv i (by omega)).symm⟩
  · rintro (⟨i, hi, rfl⟩ | rfl)
    · exact ⟨i, by omega, hv i hi⟩
    · exact ⟨n, by omega, upd_eq _ _ _⟩
theorem put_mem {n : Nat} {l : List LTh} {g : Int → Int} (h : HeapOk n l g) {k : Nat} (hk : k < n) (x : LTh) (hx : x.id = (uL l k).id) (a : LTh) : (∃ i, i < n ∧ updF (uL l) k x i = a) ↔ (((∃ i, i < n ∧ uL l i = a) ∧ a.id ≠ x.id) ∨ a = x) := by
  constructor
  · rintro ⟨i, hi, rfl⟩
    by_cases h1 : i = k
    · right; rw [h1, upd_eq]
    · left
      rw [upd_ne h1]
      exact ⟨⟨i, hi, rfl⟩, fun e => h1 (h.inj i k hi hk (by rw [e, hx]))⟩
  · rintro (⟨⟨i, hi, rfl⟩, hne⟩ | rfl)
    · exact ⟨i, hi, upd_ne (fun e => hne (by rw [e, hx]))⟩
    · exact ⟨k, hk, upd_eq _ _ _⟩

/-- A heap in memory, its things told by row, places, and the row of its map's keys. -/
structure HpAt (w : World) (c : Nat) (t : TypeId) (tl : List Value) (A : Option Addr) (n cap : Nat) (l : List LTh) (mo : Option Nat) (row : List Int) (g : Int → Int) : Prop where
  blk : Blk w c t (.slice A n cap :: .map mo :: tl).toArray
  own : OwnL encTh 137 4 w 0 A n cap l
  map : MapKV w (.map mo) row g
  ok : HeapOk n l g
  ids : ∀ z, z ∈ row ↔ ∃ i, i < n ∧ (uL l i).id = z
  ne : t ≠ 137
def hpFoot (c : Nat) (A : Option Addr) (mo : Option Nat) (k : Nat) : Prop := k = c ∨ mo = some k ∨ ∃ ad, A = some ad ∧ ad.block = k
/-- A heap, as an object: the ids of its things, the things, the blocks that it holds. -/
def HpO (w : World) (c : Nat) (t : TypeId) (tl : List Value) (row : List Int) (T : LTh → Prop) (S : Nat → Prop) : Prop :=
  ∃ A n cap l mo g, HpAt w c t tl A n cap l mo row g ∧ (∀ a, T a ↔ ∃ i, i < n ∧ uL l i = a) ∧ S = hpFoot c A mo
section
variable {w w' : World} {c : Nat} {t : TypeId} {tl : List Value} {A : Option Addr} {n cap : Nat} {l : List LTh} {mo : Option Nat} {row : List Int} {g : Int → Int} {T : LTh → Prop} {S : Nat → Prop}
theorem HpAt.step (h : HpAt w c t tl A n cap l mo row g) (hk : ∀ k, hpFoot c A mo k → k < w.heap.size → w'.heap[k]? = w.heap[k]?) : HpAt w' c t tl A n cap l mo row g :=
  ⟨(hk c (.inl rfl) h.blk.lt).trans h.blk, h.own.step (fun ad ha _ hl => hk _ (.inr (.inr ⟨ad, ha, rfl⟩)) hl), h.map.step (fun b hb hl => by cases hb; exact hk _ (.inr (.inl rfl)) hl), h.ok, h.ids, h.ne⟩
theorem HpAt.below (h : HpAt w c t tl A n cap l mo row g) (hb : Below w.heap.size w w') : HpAt w' c t tl A n cap l mo row g := h.step fun k _ hl => hb.block k hl
theorem HpAt.foot_lt (h : HpAt w c t tl A n cap l mo row g) : ∀ k, hpFoot c A mo k → k < w.heap.size := by
  rintro k (rfl | hm | ⟨ad, ha, rfl⟩)
  · exact h.blk.lt
  · exact h.map.lt k (by rw [hm])
  · exact (h.own.at_base ad ha).2
theorem HpAt.len (h : HpAt w c t tl A n cap l mo row g) : n = row.length := by
  have hn : (l.map LTh.id).Nodup := by
    refine List.pairwise_iff_getElem.2 fun i j hi hj hij e => ?_
    simp only [List.length_map] at hi hj
    simp only [List.getElem_map] at e
    have e1 : uL l i = l[i] := uL_get (List.getElem?_eq_getElem hi)
    have e2 : uL l j = l[j] := uL_get (List.getElem?_eq_getElem hj)
    have hl := h.own.len
    have := h.ok.inj i j (by omega) (by omega) (by rw [e1, e2]; exact e)
    omega
  have hp : (l.map LTh.id).Perm row := (List.perm_ext_iff_of_nodup hn (rising_nodup h.map.rising)).2 fun z => by
    rw [h.ids, List.mem_map]
    constructor
    · rintro ⟨a, ha, rfl⟩
      obtain ⟨i, hi, e⟩ := List.mem_iff_getElem.1 ha
      exact ⟨i, by have := h.own.len; omega, by rw [uL_get (List.getElem?_eq_getElem hi), e]⟩
    · rintro ⟨i, hi, e⟩
      have hi' : i < l.length := by have := h.own.len; omega
      exact ⟨l[i], List.getElem_mem hi', by rw [← e, uL_get (List.getElem?_eq_getElem hi')]⟩
  have := hp.length_eq
  rw [List.length_map, h.own.len] at this
  exact this
theorem HpO.lt (h : HpO w c t tl row T S) : ∀ k, S k → k < w.heap.size := by
  obtain ⟨A, n, cap, l, mo, g, h1, _, rfl⟩ := h
  exact h1.foot_lt
theorem HpO.step (h : HpO w c t tl row T S) (hk : ∀ k, S k → k < w.heap.size → w'.heap[k]? = w.heap[k]?) : HpO w' c t tl row T S := by
  obtain ⟨A, n, cap, l, mo, g, h1, h2, rfl⟩ := h
  exact ⟨A, n, cap, l, mo, g, h1.step hk, h2, rfl⟩
theorem HpO.below (h : HpO w c t tl row T S) (hb : Below w.heap.size w w') : HpO w' c t tl row T S := h.step fun k _ hl => hb.block k hl
theorem HpO.kept {F : Nat → Prop} (h : HpO w c t tl row T S) (hb : Kept F w w') (hF : ∀ k, S k → ¬ F k) : HpO w' c t tl row T S := h.step fun k hk hl => hb.block k hl (hF k hk)
theorem HpO.has (h : HpO w c t tl row T S) : S c := by
  obtain ⟨A, n, cap, l, mo, g, h1, _, rfl⟩ := h
  exact .inl rfl
theorem HpO.ids (h : HpO w c t tl row T S) : ∀ a, T a → a.id ∈ row := by
  obtain ⟨A, n, cap, l, mo, g, h1, h2, rfl⟩ := h
  intro a ha
  obtain ⟨i, hi, e⟩ := (h2 a).1 ha
  exact (h1.ids _).2 ⟨i, hi, by rw [e]⟩
theorem HpO.uniq (h : HpO w c t tl row T S) : ∀ a b, T a → T b → a.id = b.id → a = b := by
  obtain ⟨A, n, cap, l, mo, g, h1, h2, rfl⟩ := h
  intro a b ha hb e
  obtain ⟨i, hi, rfl⟩ := (h2 a).1 ha
  obtain ⟨j, hj, rfl⟩ := (h2 b).1 hb
  rw [h1.ok.inj i j hi hj e]
theorem HpO.mem (h : HpO w c t tl row T S) : ∀ z ∈ row, ∃ a, T a ∧ a.id = z := by
  obtain ⟨A, n, cap, l, mo, g, h1, h2, rfl⟩ := h
  intro z hz
  obtain ⟨i, hi, e⟩ := (h1.ids z).1 hz
  exact ⟨_, (h2 _).2 ⟨i, hi, rfl⟩, e⟩
theorem HpO.made (w : World) (t : TypeId) (tl : List Value) (hne : t ≠ 137) : HpO (w.alloc (.cells (.slice none 0 0 :: .map none :: tl).toArray t)) w.heap.size t tl [] (fun _ => False) (fun k => k = w.heap.size) :=
  ⟨none, 0, 0, [], none, fun _ => 0, ⟨Blk.new w _ _, OwnL.nil _ _, MapKV.nil _ _, ⟨fun i h0 hi => by omega, fun i hi => by omega, fun i j hi => by omega⟩, fun z => by simp, hne⟩, fun a => by simp, by funext k; simp [hpFoot]⟩
end
end Go.Proofs.Ytcafmodenbifhaa
namespace Go.Proofs.Ytcafmodenbifhaa
open Go.RowKit Go.Maps

theorem Try.infoTh : (Try.prog.info? 137).map (fun i => (i.zero, i.size, i.bytes)) = some (some (aggTh ⟨0, 0, 0, 0⟩), 4, 32) := by kernel_rfl
theorem Th_onel (r : LTh) : ∀ u ∈ encTh r, u.oneCell' = true := by
  intro u hu
  simp [encTh] at hu
  rcases hu with rfl | rfl | rfl | rfl <;> rfl
theorem own_ne_blk {α : Type} {enc : α → List Value} {e t : TypeId} {sz base n c g : Nat} {w : World} {A : Option Addr} {l : List α} {cs : Array Value} (h : OwnL enc e sz w base A n c l) (hb : Blk w g t cs) (hne : t ≠ e) : ∀ ad, A = some ad → ad.block ≠ g := by
  intro ad ha e'
  rcases h.own.2 with ⟨hv, _⟩ | ⟨q, cap, cur, hv, _, hg, _⟩
  · rw [ha] at hv; cases hv
  · rw [ha] at hv
    cases hv
    have h3 := (show w.heap[q]? = some (.cells cur e (0, 0)) from hg).symm.trans ((congrArg (fun k => w.heap[k]?) e').trans hb)
    injection h3 with h3
    injection h3 with _ h4
    exact hne h4.symm
theorem own_ne_map {α : Type} {enc : α → List Value} {e : TypeId} {sz base n c b : Nat} {w : World} {A : Option Addr} {l : List α} {row : List Int} {g : Int → Int} (h : OwnL enc e sz w base A n c l) (hm : MapKV w (.map (some b)) row g) : ∀ ad, A = some ad → ad.block ≠ b := by
  intro ad ha e'
  rcases h.own.2 with ⟨hv, _⟩ | ⟨q, cap, cur, hv, _, hg, _⟩
  · rw [ha] at hv; cases hv
  · rw [ha] at hv
    cases hv
    have hb : Blk w q e cur := hg
    exact hm.ne_blk hb (by rw [show q = b from e'])
theorem own_takeL {α : Type} {enc : α → List Value} {e sz : Nat} {w : World} {base : Nat} {A : Option Addr} {n c : Nat} {l : List α} (hen : ∀ x, (enc x).length = sz) (h : OwnL enc e sz w base A n c l) (k : Nat) (hk : k ≤ n) : OwnL enc e sz w base A k c (l.take k) := by
  have hl := h.len
  have hlen : ((l.take k).flatMap enc).length = k * sz := by rw [flatMap_len hen, List.length_take]; congr 1; omega
  refine ⟨⟨hlen, ?_⟩, by rw [List.length_take]; omega⟩
  rcases h.own.2 with ⟨hv, h0⟩ | ⟨g, cap, cur, hv, hg, hh, h1, h2, h3, h4⟩
  · cases hv
    have : k = 0 := by omega
    subst this
    exact .inl ⟨rfl, rfl⟩
  · cases hv
    refine .inr ⟨g, c, cur, rfl, hg, hh, by omega, h2, h3, ?_⟩
    have e1 : (l.flatMap enc) = (l.take k).flatMap enc ++ (l.drop k).flatMap enc := by rw [← List.flatMap_append, List.take_append_drop]
    have h5 := congrArg (List.take (k * sz)) h4
    rw [List.take_take, Nat.min_eq_left (Nat.mul_le_mul_right _ hk), e1, List.take_left' hlen] at h5
    exact h5
theorem ids_put {n n' : Nat} {u u' : Nat → LTh} {row : List Int} {x : LTh} (hi : ∀ z, z ∈ row ↔ ∃ i, i < n ∧ (u i).id = z) (hm : ∀ a, (∃ i, i < n' ∧ u' i = a) ↔ (((∃ i, i < n ∧ u i = a) ∧ a.id ≠ x.id) ∨ a = x)) : ∀ z, z ∈ putR row x.id ↔ ∃ i, i < n' ∧ (u' i).id = z := by
  intro z
  rw [mem_putR, hi]
  constructor
  · intro h
    by_cases e : z = x.id
    · obtain ⟨i, h1, h2⟩ := (hm x).2 (.inr rfl)
      exact ⟨i, h1, by rw [h2, e]⟩
    · obtain ⟨i, h1, h2⟩ := h.resolve_left e
      obtain ⟨j, h3, h4⟩ := (hm (u i)).2 (.inl ⟨⟨i, h1, rfl⟩, by rw [h2]; exact e⟩)
      exact ⟨j, h3, by rw [h4, h2]⟩
  · rintro ⟨i, h1, rfl⟩
    rcases (hm (u' i)).1 ⟨i, h1, rfl⟩ with ⟨⟨j, h3, h4⟩, _⟩ | h2
    · exact .inr ⟨j, h3, by rw [h4]⟩
    · exact .inl (by rw [h2])
theorem HM.congr_ {n k : Nat} {x : LTh} {u u' : Nat → LTh} {g : Int → Int} (h : HM LTh.id n k x u g) (he : ∀ i, i < n → u' i = u i) : HM LTh.id n k x u' g := by
  have hv : ∀ i, i < n → updF u' k x i = updF u k x i := fun i hi => by unfold updF; rw [he i hi]
  exact ⟨fun i hi h1 => by rw [he i hi]; exact h.at_ i hi h1, fun i j hi hj e => h.inj i j hi hj (by rw [← hv i hi, ← hv j hj]; exact e)⟩
theorem AF.congr_ {n k : Nat} {v v' : Nat → LTh} (h : AF ltP v n k) (hk : k < n) (he : ∀ i, i < n → v' i = v i) : AF ltP v' n k := by
  refine ⟨fun i h0 hi h1 h2 => ?_, fun h0 c hc hcn hp => ?_⟩
  · rw [he i hi, he (par i) (by unfold par; omega)]
    exact h.out i h0 hi h1 h2
  · rw [he c hcn, he (par k) (by unfold par; omega)]
    exact h.over h0 c hc hcn hp
theorem uL_take {l : List LTh} {m i : Nat} (hi : i < m) : uL (l.take m) i = uL l i := by
  unfold uL
  rw [List.getElem?_take, if_pos hi]
theorem HpO.congr {w : World} {c : Nat} {t : TypeId} {tl : List Value} {row row' : List Int} {T T' : LTh → Prop} {S : Nat → Prop} (h : HpO w c t tl row T S) (hr : row' = row) (hT : ∀ a, T' a ↔ T a) : HpO w c t tl row' T' S := by
  subst hr
  obtain ⟨A, n, cap, l, mo, g, h1, h2, h3⟩ := h
  exact ⟨A, n, cap, l, mo, g, h1, fun a => (hT a).trans (h2 a), h3⟩
theorem HpAt.apart {w : World} {c : Nat} {t : TypeId} {tl : List Value} {A : Option Addr} {n cap : Nat} {l : List LTh} {mo : Option Nat} {row : List Int} {g : Int → Int} (h : HpAt w c t tl A n cap l mo row g) : (∀ ad, A = some ad → ad.block ≠ c) ∧ (∀ mb, mo = some mb → mb ≠ c ∧ ∀ ad, A = some ad → ad.block ≠ mb) :=
  ⟨own_ne_blk h.own h.blk h.ne, fun mb hm => ⟨fun e => h.map.ne_blk h.blk (by rw [hm, e]), own_ne_map h.own (by rw [← hm]; exact h.map)⟩⟩
theorem own_some_ne {A : Option Addr} {n cap g : Nat} (h : ∀ ad, A = some ad → ad.block ≠ g) : (Value.slice A n cap).ownBlock ≠ some g := by
  intro e
  cases A with
  | none => simp [Value.ownBlock] at e
  | some ad => exact h ad rfl (by simpa [Value.ownBlock] using e)
theorem own_some_ex {A : Option Addr} {n cap k : Nat} (e : (Value.slice A n cap).ownBlock = some k) : ∃ ad, A = some ad ∧ ad.block = k := by
  cases A with
  | none => simp [Value.ownBlock] at e
  | some ad => exact ⟨ad, rfl, by simpa [Value.ownBlock] using e⟩
set_option maxRecDepth 100000 in
set_option maxHeartbeats 3200000 in
theorem hPut_o {w : World} {c : Nat} {t : TypeId} {tl : List Value} {row : List Int} {T : LTh → Prop} {S : Nat → Prop} (h : HpO w c t tl row T S) (id : Int) (key : LRes) (hid : wf64 id) (hn : row.length ≤ 100000) :
    Calls Try.prog 86 #[.pointer (some ⟨c, 0, none⟩), .int .i64 id, aggRes key] w fun e w' => e = .returned (.bool (!decide (id ∈ row))) ∧ ∃ S', HpO w' c t tl (putR row id) (fun a => (T a ∧ a.id ≠ id) ∨ a = (⟨id, key.a, key.b, key.c⟩ : LTh)) S' ∧ Turned S S' w w' := by
  obtain ⟨A, n, cap, l, mo, g, hA, hT, rfl⟩ := h
  have hlen := hA.len
  have hB : Below w.heap.size w (w.alloc (.cells (boxRes key) 111)) := (Below.refl _ _).alloc (Nat.le_refl _) _
  have hfl := hA.foot_lt
  have H0 : Hid (HpAt (w.alloc (.cells (boxRes key) 111)) c t tl A n cap l mo row g ∧ Blk (w.alloc (.cells (boxRes key) 111)) w.heap.size 111 (boxRes key) ∧ Turned (hpFoot c A mo) (hpFoot c A mo) w (w.alloc (.cells (boxRes key) 111)) ∧ ¬ hpFoot c A mo w.heap.size) := Lib.hid ⟨hA.below hB, Blk.new w _ _, .of_below hB, fun hf => by have := hfl _ hf; omega⟩
  have HN : Hid (n ≤ 999999 ∧ row.length ≤ 1000000) := Lib.hid ⟨by omega, by omega⟩
  have HI := Lib.hid hid
  have HT := Lib.hid hT
  clear hA hT hB hfl hid hn hlen
  go_enter Try.func86, Try.ntmps86
  go_upto_region 1 with fail
  obtain ⟨kb, hkb⟩ : ∃ kb, w.heap.size = kb := ⟨_, rfl⟩
  rw [hkb] at H0
  generalize (w.alloc (.cells (boxRes key) 111)) = w1 at H0 ⊢
  try rw [hkb]
  clear hkb
  cases mo with
  | none =>
    have hmm := @run_makeMap Try.prog
    have hmn := fun (W : World) => run_eql_map_nil (P := Try.prog) W 39 _ _ none Try.underlying39
    have c0 := H0.out.1.blk.cell 0
    have c1 := H0.out.1.blk.cell 1
    have f0 := H0.out.1.blk.frozen 0
    have f1 := H0.out.1.blk.frozen 1
    have cl := H0.out.1.blk.lt
    simp only [List.getElem?_toArray, List.getElem?_cons_zero, List.getElem?_cons_succ] at c0 c1
    go_upto_region 5 with fail
    have hrow : row = [] := by rcases H0.out.1.map.is with ⟨_, h2⟩ | ⟨b, D, h2, _⟩; exact h2; cases h2
    have hn0 : n = 0 := by have := H0.out.1.len; rw [hrow] at this; exact this
    have hb2 : Blk ((w1.setCell ⟨c, 1, none⟩ (.map (some w1.heap.size))).alloc (.map #[] 0)) c t (.slice A n cap :: .map (some w1.heap.size) :: tl).toArray := by have := (H0.out.1.blk.set_ 1 (.map (some w1.heap.size))).alloc (.map #[] 0); simpa only [List.setIfInBounds_toArray, List.set_cons_succ, List.set_cons_zero] using this
    have hA2 := H0.out.1.apart.1
    have ho2 : OwnL encTh 137 4 ((w1.setCell ⟨c, 1, none⟩ (.map (some w1.heap.size))).alloc (.map #[] 0)) 0 A n cap l := (H0.out.1.own.step fun ad ha _ _ => Below.heap_setCell _ ⟨c, 1, none⟩ _ ad.block (hA2 ad ha)).alloc _
    have hm2 : MapKV ((w1.setCell ⟨c, 1, none⟩ (.map (some w1.heap.size))).alloc (.map #[] 0)) (.map (some w1.heap.size)) [] g := by have := MapKV.made (w1.setCell ⟨c, 1, none⟩ (.map (some w1.heap.size))) g; rwa [show (w1.setCell ⟨c, 1, none⟩ (.map (some w1.heap.size))).heap.size = w1.heap.size by simp [World.setCell]] at this
    have hk2 : Blk ((w1.setCell ⟨c, 1, none⟩ (.map (some w1.heap.size))).alloc (.map #[] 0)) kb 111 (boxRes key) := (H0.out.2.1.far (p := ⟨c, 1, none⟩) (fun e => H0.out.2.2.2 (.inl e)) _).alloc _
    have H2 : Hid (HpAt ((w1.setCell ⟨c, 1, none⟩ (.map (some w1.heap.size))).alloc (.map #[] 0)) c t tl A n cap l (some w1.heap.size) row g ∧ Blk ((w1.setCell ⟨c, 1, none⟩ (.map (some w1.heap.size))).alloc (.map #[] 0)) kb 111 (boxRes key) ∧ Turned (hpFoot c A none) (hpFoot c A (some w1.heap.size)) w ((w1.setCell ⟨c, 1, none⟩ (.map (some w1.heap.size))).alloc (.map #[] 0)) ∧ ¬ hpFoot c A (some w1.heap.size) kb) := by
      have hkl := H0.out.2.1.lt
      subst hrow
      refine Lib.hid ⟨⟨hb2, ho2, hm2, H0.out.1.ok, H0.out.1.ids, H0.out.1.ne⟩, hk2, H0.out.2.2.1.trans ⟨((Kept.refl _ _).setCell (fun _ => .inl rfl) _).alloc _, ?_⟩, ?_⟩
      · rintro k (h2 | h2 | h2)
        · exact .inl (.inl h2)
        · cases h2; exact .inr (Nat.le_refl _)
        · exact .inl (.inr (.inr h2))
      · rintro (h2 | h2 | h2)
        · exact H0.out.2.2.2 (.inl h2)
        · cases h2; omega
        · exact H0.out.2.2.2 (.inr (.inr h2))
    clear hb2 ho2 hm2 hk2 hA2 hrow hn0 H0 hmm c0 c1 f0 f1 cl
    obtain ⟨mb, hmb⟩ : ∃ mb, w1.heap.size = mb := ⟨_, rfl⟩
    rw [hmb] at H2
    generalize hw2 : (w1.setCell ⟨c, 1, none⟩ (.map (some w1.heap.size))).alloc (.map #[] 0) = w2
    rw [hmb] at hw2
    rw [hw2] at H2
    clear hw2 hmb
    have hl := H2.out.1.map.look HI.out
    by_cases hin : id ∈ row
    · rw [if_pos hin, decide_eq_true hin] at hl
      obtain ⟨k, hk, hkid⟩ := (H2.out.1.ids id).1 hin
      have hg : g id = ((k : Nat) : Int) := by rw [← hkid]; exact H2.out.1.ok.at_ k hk
      rw [hg] at hl
      have hpu := H2.out.1.ok.put hk (⟨id, key.a, key.b, key.c⟩ : LTh) hkid.symm
      have hk9 := hk
      have hu : HU w2 0 c t (.slice A n cap :: .map (some mb) :: tl).toArray A n cap mb row k (⟨id, key.a, key.b, key.c⟩ : LTh) l g := ⟨⟨H2.out.1.blk, rfl, rfl, H2.out.1.own, H2.out.1.map, H2.out.1.ne⟩, hpu.1, fun i hi _ => (H2.out.1.ids _).2 ⟨i, hi, rfl⟩⟩
      have hcx := hFit_t hu hk hpu.2 ⟨by have := HN.out.1; omega, HN.out.2, HI.out⟩
      have k0 := H2.out.2.1.cell 0
      have k1 := H2.out.2.1.cell 1
      have k2 := H2.out.2.1.cell 2
      have kl := H2.out.2.1.lt
      simp only [List.getElem?_toArray, List.getElem?_cons_zero, List.getElem?_cons_succ] at k0 k1 k2
      have c0 := H2.out.1.blk.cell 0
      have c1 := H2.out.1.blk.cell 1
      have f0 := H2.out.1.blk.frozen 0
      have f1 := H2.out.1.blk.frozen 1
      have cl := H2.out.1.blk.lt
      simp only [List.getElem?_toArray, List.getElem?_cons_zero, List.getElem?_cons_succ] at c0 c1
      have HIN := Lib.hid hin
      have HKI := Lib.hid hkid
      clear hu hpu hg hin hkid
      go_wp2_with fail
      (with_reducible refine hcx.mono ?_)
      clear hcx hl k0 k1 k2 kl c0 c1 f0 f1 cl
      rintro e w9 ⟨l2, g2, rfl, hat, hkp, hok, hmem⟩
      have hmm := fun a => (hmem a).trans (put_mem H2.out.1.ok hk9 (⟨id, key.a, key.b, key.c⟩ : LTh) HKI.out.symm a)
      have HE : Hid (∃ S', HpO w9 c t tl (putR row id) (fun a => (T a ∧ a.id ≠ id) ∨ a = (⟨id, key.a, key.b, key.c⟩ : LTh)) S' ∧ Turned (hpFoot c A none) S' w w9) := Lib.hid ⟨_, ⟨A, n, cap, l2, some mb, g2, ⟨hat.blk, hat.own, hat.map, hok, ids_put (x := (⟨id, key.a, key.b, key.c⟩ : LTh)) H2.out.1.ids hmm, hat.ne⟩, fun a => by rw [hmm a]; exact or_congr (and_congr (HT.out a) Iff.rfl) Iff.rfl, rfl⟩, H2.out.2.2.1.trans ⟨hkp.mono (fun q _ hq => hq.elim (fun e => .inr (.inl (by rw [e]))) (fun e => .inr (.inr e))), fun q hq => .inl hq⟩⟩
      clear hat hkp hok hmem hmm
      go_wp2
      go_ret
      exact ⟨ret_bool (by rw [decide_eq_true HIN.out]; rfl), HE.out⟩
    · rw [if_neg hin, decide_eq_false hin] at hl
      have c0 := H2.out.1.blk.cell 0
      have c1 := H2.out.1.blk.cell 1
      have f0 := H2.out.1.blk.frozen 0
      have f1 := H2.out.1.blk.frozen 1
      have cl := H2.out.1.blk.lt
      simp only [List.getElem?_toArray, List.getElem?_cons_zero, List.getElem?_cons_succ] at c0 c1
      have HIN := Lib.hid hin
      clear hin
      go_upto_region 9 with (first | (at_builtin; refine wp_app (enc := encTh) (fun _ => rfl) Th_onel rfl (.tmp 40) (.tmp 42) 114 rfl 137 (aggTh ⟨0, 0, 0, 0⟩) 32 Try.underlying114 Try.infoTh rfl (by decide) 0 A n cap l rfl (H2.out.1.own.alloc _) _ 1 _ [(⟨0, 0, 0, 0⟩ : LTh)] rfl (Rd.new1 _ _ _ _ _ rfl) (n + 1) rfl (l ++ [(⟨0, 0, 0, 0⟩ : LTh)]) rfl (by have := HN.out.1; omega) (by have := HN.out.1; omega) (Nat.zero_le _) ?_; intro A4 c4 w4 ho4 hg4 hat4; have hb4 : Blk w4 c t (.slice A n cap :: .map (some mb) :: tl).toArray := (H2.out.1.blk.alloc _).grown hg4 (fun e => own_some_ne H2.out.1.apart.1 e.symm); have d0 := hb4.cell 0; have g0 := hb4.frozen 0; simp only [List.getElem?_toArray, List.getElem?_cons_zero] at d0))
      have hb5 : Blk (w4.setCell ⟨c, 0, none⟩ (.slice A4 (n + 1) c4)) c t (.slice A4 (n + 1) c4 :: .map (some mb) :: tl).toArray := by have := hb4.set_ 0 (.slice A4 (n + 1) c4); simpa only [List.setIfInBounds_toArray, List.set_cons_zero] using this
      have hA4 := own_ne_blk ho4 hb4 H2.out.1.ne
      have ho5 : OwnL encTh 137 4 (w4.setCell ⟨c, 0, none⟩ (.slice A4 (n + 1) c4)) 0 A4 (n + 1) c4 (l ++ [(⟨0, 0, 0, 0⟩ : LTh)]) := ho4.step fun ad ha _ _ => Below.heap_setCell w4 ⟨c, 0, none⟩ _ ad.block (hA4 ad ha)
      have hms := H2.out.1.map.lt mb rfl
      have hm5 : MapKV (w4.setCell ⟨c, 0, none⟩ (.slice A4 (n + 1) c4)) (.map (some mb)) row g := H2.out.1.map.step fun b hb _ => by
        cases hb
        exact (Below.heap_setCell w4 ⟨c, 0, none⟩ _ mb (H2.out.1.apart.2 mb rfl).1).trans ((hg4.block mb (by simp; omega) (fun e => own_some_ne (H2.out.1.apart.2 mb rfl).2 e.symm)).trans (Below.heap_alloc w2 _ mb hms))
      have hk5 : Blk (w4.setCell ⟨c, 0, none⟩ (.slice A4 (n + 1) c4)) kb 111 (boxRes key) := ((H2.out.2.1.alloc _).grown hg4 (fun e => H2.out.2.2.2 (.inr (.inr (own_some_ex e.symm))))).far (p := ⟨c, 0, none⟩) (fun e => H2.out.2.2.2 (.inl e)) _
      have ht5 : Turned (hpFoot c A (some mb)) (hpFoot c A4 (some mb)) w2 (w4.setCell ⟨c, 0, none⟩ (.slice A4 (n + 1) c4)) := by
        refine ⟨((Kept.of_below (F := hpFoot c A (some mb)) ((Below.refl _ _).alloc (Nat.le_refl _) _)).trans (Kept.of_grown (F := hpFoot c A (some mb)) hg4 (fun k e _ => .inr (.inr (own_some_ex e)))) (fun _ _ h => h)).setCell (fun _ => .inl rfl) _, fun k hk => ?_⟩
        rcases hk with hk | hk | ⟨ad, ha, rfl⟩
        · exact .inl (.inl hk)
        · exact .inl (.inr (.inl hk))
        · rcases hat4 ad ha with h2 | h2
          · exact .inl (.inr (.inr ⟨ad, h2, rfl⟩))
          · exact .inr (by rw [h2]; simp)
      have had := H2.out.1.ok.add H2.out.1.own.len (⟨0, 0, 0, 0⟩ : LTh) (⟨id, key.a, key.b, key.c⟩ : LTh) (fun i hi e => HIN.out ((H2.out.1.ids id).2 ⟨i, hi, e⟩))
      have hu : HU (w4.setCell ⟨c, 0, none⟩ (.slice A4 (n + 1) c4)) 0 c t (.slice A4 (n + 1) c4 :: .map (some mb) :: tl).toArray A4 (n + 1) c4 mb row n (⟨id, key.a, key.b, key.c⟩ : LTh) (l ++ [(⟨0, 0, 0, 0⟩ : LTh)]) g := ⟨⟨hb5, rfl, rfl, ho5, hm5, H2.out.1.ne⟩, had.1, fun i hi h1 => (H2.out.1.ids _).2 ⟨i, by omega, by rw [uL_app (by rw [H2.out.1.own.len]; omega)]⟩⟩
      have H5 : Hid (Turned (hpFoot c A none) (hpFoot c A4 (some mb)) w (w4.setCell ⟨c, 0, none⟩ (.slice A4 (n + 1) c4))) := Lib.hid (H2.out.2.2.1.trans ht5)
      have hcx := hFit_t hu (Nat.lt_succ_self n) had.2 ⟨by have := HN.out.1; omega, HN.out.2, HI.out⟩
      clear ho4 hat4 hg4 hb4 d0 g0 hA4 hb5 ho5 hm5 hms ht5 had hu hl c0 c1 f0 f1 cl
      generalize w4.setCell ⟨c, 0, none⟩ (.slice A4 (n + 1) c4) = w5 at hk5 H5 hcx ⊢
      have k0 := hk5.cell 0
      have k1 := hk5.cell 1
      have k2 := hk5.cell 2
      have kl := hk5.lt
      simp only [List.getElem?_toArray, List.getElem?_cons_zero, List.getElem?_cons_succ] at k0 k1 k2
      clear hk5
      go_wp2_with fail
      (with_reducible refine hcx.mono ?_)
      clear hcx k0 k1 k2 kl
      rintro e w9 ⟨l2, g2, rfl, hat, hkp, hok, hmem⟩
      have hmm : ∀ a, (∃ i, i < n + 1 ∧ uL l2 i = a) ↔ (((∃ i, i < n ∧ uL l i = a) ∧ a.id ≠ id) ∨ a = (⟨id, key.a, key.b, key.c⟩ : LTh)) := fun a => ((hmem a).trans (add_mem H2.out.1.own.len _ _ a)).trans (or_congr ⟨fun h => ⟨h, fun e => by obtain ⟨i, hi, rfl⟩ := h; exact HIN.out ((H2.out.1.ids id).2 ⟨i, hi, e⟩)⟩, fun h => h.1⟩ Iff.rfl)
      have HE : Hid (∃ S', HpO w9 c t tl (putR row id) (fun a => (T a ∧ a.id ≠ id) ∨ a = (⟨id, key.a, key.b, key.c⟩ : LTh)) S' ∧ Turned (hpFoot c A none) S' w w9) := Lib.hid ⟨_, ⟨A4, n + 1, c4, l2, some mb, g2, ⟨hat.blk, hat.own, hat.map, hok, ids_put (x := (⟨id, key.a, key.b, key.c⟩ : LTh)) H2.out.1.ids hmm, hat.ne⟩, fun a => by rw [hmm a]; exact or_congr (and_congr (HT.out a) Iff.rfl) Iff.rfl, rfl⟩, H5.out.trans ⟨hkp.mono (fun q _ hq => hq.elim (fun e => .inr (.inl (by rw [e]))) (fun e => .inr (.inr e))), fun q hq => .inl hq⟩⟩
      clear hat hkp hok hmem hmm
      go_wp2
      go_ret
      exact ⟨ret_bool (by rw [decide_eq_false HIN.out]; rfl), HE.out⟩
  | some mb =>
    have H2 := H0
    clear H0
    generalize hw2 : w1 = w2 at H2 ⊢
    clear hw2
    have hmn := fun (W : World) => run_eql_map_nil (P := Try.prog) W 39 _ _ (some mb) Try.underlying39
    have hl := H2.out.1.map.look HI.out
    by_cases hin : id ∈ row
    · rw [if_pos hin, decide_eq_true hin] at hl
      obtain ⟨k, hk, hkid⟩ := (H2.out.1.ids id).1 hin
      have hg : g id = ((k : Nat) : Int) := by rw [← hkid]; exact H2.out.1.ok.at_ k hk
      rw [hg] at hl
      have hpu := H2.out.1.ok.put hk (⟨id, key.a, key.b, key.c⟩ : LTh) hkid.symm
      have hk9 := hk
      have hu : HU w2 0 c t (.slice A n cap :: .map (some mb) :: tl).toArray A n cap mb row k (⟨id, key.a, key.b, key.c⟩ : LTh) l g := ⟨⟨H2.out.1.blk, rfl, rfl, H2.out.1.own, H2.out.1.map, H2.out.1.ne⟩, hpu.1, fun i hi _ => (H2.out.1.ids _).2 ⟨i, hi, rfl⟩⟩
      have hcx := hFit_t hu hk hpu.2 ⟨by have := HN.out.1; omega, HN.out.2, HI.out⟩
      have k0 := H2.out.2.1.cell 0
      have k1 := H2.out.2.1.cell 1
      have k2 := H2.out.2.1.cell 2
      have kl := H2.out.2.1.lt
      simp only [List.getElem?_toArray, List.getElem?_cons_zero, List.getElem?_cons_succ] at k0 k1 k2
      have c0 := H2.out.1.blk.cell 0
      have c1 := H2.out.1.blk.cell 1
      have f0 := H2.out.1.blk.frozen 0
      have f1 := H2.out.1.blk.frozen 1
      have cl := H2.out.1.blk.lt
      simp only [List.getElem?_toArray, List.getElem?_cons_zero, List.getElem?_cons_succ] at c0 c1
      have HIN := Lib.hid hin
      have HKI := Lib.hid hkid
      clear hu hpu hg hin hkid
      go_wp2_with fail
      (with_reducible refine hcx.mono ?_)
      clear hcx hl k0 k1 k2 kl c0 c1 f0 f1 cl
      rintro e w9 ⟨l2, g2, rfl, hat, hkp, hok, hmem⟩
      have hmm := fun a => (hmem a).trans (put_mem H2.out.1.ok hk9 (⟨id, key.a, key.b, key.c⟩ : LTh) HKI.out.symm a)
      have HE : Hid (∃ S', HpO w9 c t tl (putR row id) (fun a => (T a ∧ a.id ≠ id) ∨ a = (⟨id, key.a, key.b, key.c⟩ : LTh)) S' ∧ Turned (hpFoot c A (some mb)) S' w w9) := Lib.hid ⟨_, ⟨A, n, cap, l2, some mb, g2, ⟨hat.blk, hat.own, hat.map, hok, ids_put (x := (⟨id, key.a, key.b, key.c⟩ : LTh)) H2.out.1.ids hmm, hat.ne⟩, fun a => by rw [hmm a]; exact or_congr (and_congr (HT.out a) Iff.rfl) Iff.rfl, rfl⟩, H2.out.2.2.1.trans ⟨hkp.mono (fun q _ hq => hq.elim (fun e => .inr (.inl (by rw [e]))) (fun e => .inr (.inr e))), fun q hq => .inl hq⟩⟩
      clear hat hkp hok hmem hmm
      go_wp2
      go_ret
      exact ⟨ret_bool (by rw [decide_eq_true HIN.out]; rfl), HE.out⟩
    · rw [if_neg hin, decide_eq_false hin] at hl
      have c0 := H2.out.1.blk.cell 0
      have c1 := H2.out.1.blk.cell 1
      have f0 := H2.out.1.blk.frozen 0
      have f1 := H2.out.1.blk.frozen 1
      have cl := H2.out.1.blk.lt
      simp only [List.getElem?_toArray, List.getElem?_cons_zero, List.getElem?_cons_succ] at c0 c1
      have HIN := Lib.hid hin
      clear hin
      go_upto_region 9 with (first | (at_builtin; refine wp_app (enc := encTh) (fun _ => rfl) Th_onel rfl (.tmp 40) (.tmp 42) 114 rfl 137 (aggTh ⟨0, 0, 0, 0⟩) 32 Try.underlying114 Try.infoTh rfl (by decide) 0 A n cap l rfl (H2.out.1.own.alloc _) _ 1 _ [(⟨0, 0, 0, 0⟩ : LTh)] rfl (Rd.new1 _ _ _ _ _ rfl) (n + 1) rfl (l ++ [(⟨0, 0, 0, 0⟩ : LTh)]) rfl (by have := HN.out.1; omega) (by have := HN.out.1; omega) (Nat.zero_le _) ?_; intro A4 c4 w4 ho4 hg4 hat4; have hb4 : Blk w4 c t (.slice A n cap :: .map (some mb) :: tl).toArray := (H2.out.1.blk.alloc _).grown hg4 (fun e => own_some_ne H2.out.1.apart.1 e.symm); have d0 := hb4.cell 0; have g0 := hb4.frozen 0; simp only [List.getElem?_toArray, List.getElem?_cons_zero] at d0))
      have hb5 : Blk (w4.setCell ⟨c, 0, none⟩ (.slice A4 (n + 1) c4)) c t (.slice A4 (n + 1) c4 :: .map (some mb) :: tl).toArray := by have := hb4.set_ 0 (.slice A4 (n + 1) c4); simpa only [List.setIfInBounds_toArray, List.set_cons_zero] using this
      have hA4 := own_ne_blk ho4 hb4 H2.out.1.ne
      have ho5 : OwnL encTh 137 4 (w4.setCell ⟨c, 0, none⟩ (.slice A4 (n + 1) c4)) 0 A4 (n + 1) c4 (l ++ [(⟨0, 0, 0, 0⟩ : LTh)]) := ho4.step fun ad ha _ _ => Below.heap_setCell w4 ⟨c, 0, none⟩ _ ad.block (hA4 ad ha)
      have hms := H2.out.1.map.lt mb rfl
      have hm5 : MapKV (w4.setCell ⟨c, 0, none⟩ (.slice A4 (n + 1) c4)) (.map (some mb)) row g := H2.out.1.map.step fun b hb _ => by
        cases hb
        exact (Below.heap_setCell w4 ⟨c, 0, none⟩ _ mb (H2.out.1.apart.2 mb rfl).1).trans ((hg4.block mb (by simp; omega) (fun e => own_some_ne (H2.out.1.apart.2 mb rfl).2 e.symm)).trans (Below.heap_alloc w2 _ mb hms))
      have hk5 : Blk (w4.setCell ⟨c, 0, none⟩ (.slice A4 (n + 1) c4)) kb 111 (boxRes key) := ((H2.out.2.1.alloc _).grown hg4 (fun e => H2.out.2.2.2 (.inr (.inr (own_some_ex e.symm))))).far (p := ⟨c, 0, none⟩) (fun e => H2.out.2.2.2 (.inl e)) _
      have ht5 : Turned (hpFoot c A (some mb)) (hpFoot c A4 (some mb)) w2 (w4.setCell ⟨c, 0, none⟩ (.slice A4 (n + 1) c4)) := by
        refine ⟨((Kept.of_below (F := hpFoot c A (some mb)) ((Below.refl _ _).alloc (Nat.le_refl _) _)).trans (Kept.of_grown (F := hpFoot c A (some mb)) hg4 (fun k e _ => .inr (.inr (own_some_ex e)))) (fun _ _ h => h)).setCell (fun _ => .inl rfl) _, fun k hk => ?_⟩
        rcases hk with hk | hk | ⟨ad, ha, rfl⟩
        · exact .inl (.inl hk)
        · exact .inl (.inr (.inl hk))
        · rcases hat4 ad ha with h2 | h2
          · exact .inl (.inr (.inr ⟨ad, h2, rfl⟩))
          · exact .inr (by rw [h2]; simp)
      have had := H2.out.1.ok.add H2.out.1.own.len (⟨0, 0, 0, 0⟩ : LTh) (⟨id, key.a, key.b, key.c⟩ : LTh) (fun i hi e => HIN.out ((H2.out.1.ids id).2 ⟨i, hi, e⟩))
      have hu : HU (w4.setCell ⟨c, 0, none⟩ (.slice A4 (n + 1) c4)) 0 c t (.slice A4 (n + 1) c4 :: .map (some mb) :: tl).toArray A4 (n + 1) c4 mb row n (⟨id, key.a, key.b, key.c⟩ : LTh) (l ++ [(⟨0, 0, 0, 0⟩ : LTh)]) g := ⟨⟨hb5, rfl, rfl, ho5, hm5, H2.out.1.ne⟩, had.1, fun i hi h1 => (H2.out.1.ids _).2 ⟨i, by omega, by rw [uL_app (by rw [H2.out.1.own.len]; omega)]⟩⟩
      have H5 : Hid (Turned (hpFoot c A (some mb)) (hpFoot c A4 (some mb)) w (w4.setCell ⟨c, 0, none⟩ (.slice A4 (n + 1) c4))) := Lib.hid (H2.out.2.2.1.trans ht5)
      have hcx := hFit_t hu (Nat.lt_succ_self n) had.2 ⟨by have := HN.out.1; omega, HN.out.2, HI.out⟩
      clear ho4 hat4 hg4 hb4 d0 g0 hA4 hb5 ho5 hm5 hms ht5 had hu hl c0 c1 f0 f1 cl
      generalize w4.setCell ⟨c, 0, none⟩ (.slice A4 (n + 1) c4) = w5 at hk5 H5 hcx ⊢
      have k0 := hk5.cell 0
      have k1 := hk5.cell 1
      have k2 := hk5.cell 2
      have kl := hk5.lt
      simp only [List.getElem?_toArray, List.getElem?_cons_zero, List.getElem?_cons_succ] at k0 k1 k2
      clear hk5
      go_wp2_with fail
      (with_reducible refine hcx.mono ?_)
      clear hcx k0 k1 k2 kl
      rintro e w9 ⟨l2, g2, rfl, hat, hkp, hok, hmem⟩
      have hmm : ∀ a, (∃ i, i < n + 1 ∧ uL l2 i = a) ↔ (((∃ i, i < n ∧ uL l i = a) ∧ a.id ≠ id) ∨ a = (⟨id, key.a, key.b, key.c⟩ : LTh)) := fun a => ((hmem a).trans (add_mem H2.out.1.own.len _ _ a)).trans (or_congr ⟨fun h => ⟨h, fun e => by obtain ⟨i, hi, rfl⟩ := h; exact HIN.out ((H2.out.1.ids id).2 ⟨i, hi, e⟩)⟩, fun h => h.1⟩ Iff.rfl)
      have HE : Hid (∃ S', HpO w9 c t tl (putR row id) (fun a => (T a ∧ a.id ≠ id) ∨ a = (⟨id, key.a, key.b, key.c⟩ : LTh)) S' ∧ Turned (hpFoot c A (some mb)) S' w w9) := Lib.hid ⟨_, ⟨A4, n + 1, c4, l2, some mb, g2, ⟨hat.blk, hat.own, hat.map, hok, ids_put (x := (⟨id, key.a, key.b, key.c⟩ : LTh)) H2.out.1.ids hmm, hat.ne⟩, fun a => by rw [hmm a]; exact or_congr (and_congr (HT.out a) Iff.rfl) Iff.rfl, rfl⟩, H5.out.trans ⟨hkp.mono (fun q _ hq => hq.elim (fun e => .inr (.inl (by rw [e]))) (fun e => .inr (.inr e))), fun q hq => .inl hq⟩⟩
      clear hat hkp hok hmem hmm
      go_wp2
      go_ret
      exact ⟨ret_bool (by rw [decide_eq_false HIN.out]; rfl), HE.out⟩
theorem HpAt.at_ {w : World} {c : Nat} {t : TypeId} {tl : List Value} {A : Option Addr} {n cap : Nat} {l : List LTh} {mb : Nat} {row : List Int} {g : Int → Int} (h : HpAt w c t tl A n cap l (some mb) row g) : HeapAt w 0 c t (.slice A n cap :: .map (some mb) :: tl).toArray A n cap l mb row g := ⟨h.blk, rfl, rfl, h.own, h.map, h.ne⟩
set_option maxRecDepth 100000 in
set_option maxHeartbeats 3200000 in
theorem hDrop_o {w : World} {c : Nat} {t : TypeId} {tl : List Value} {row : List Int} {T : LTh → Prop} {S : Nat → Prop} (h : HpO w c t tl row T S) (id : Int) (hid : wf64 id) (hn : row.length ≤ 100000) :
    Calls Try.prog 85 #[.pointer (some ⟨c, 0, none⟩), .int .i64 id] w fun e w' => e = .returned (.bool (decide (id ∈ row))) ∧ ∃ S', HpO w' c t tl (row.filter (· != id)) (fun a => T a ∧ a.id ≠ id) S' ∧ Turned S S' w w' := by
  obtain ⟨A, n, cap, l, mo, g, hA, hT, rfl⟩ := h
  have hlen := hA.len
  have HN : Hid (n ≤ 100000) := Lib.hid (by omega)
  have HLN := Lib.hid hn
  have HI := Lib.hid hid
  have HT := Lib.hid hT
  have HA := Lib.hid hA
  have hl := hA.map.look hid
  clear hA hT hid hn hlen
  go_enter Try.func85, Try.ntmps85
  by_cases hin : id ∈ row
  · rw [if_pos hin, decide_eq_true hin] at hl
    obtain ⟨k, hk, hkid⟩ := (HA.out.ids id).1 hin
    have hg : g id = ((k : Nat) : Int) := by rw [← hkid]; exact HA.out.ok.at_ k hk
    rw [hg] at hl
    obtain ⟨mb, rfl⟩ : ∃ mb, mo = some mb := by
      cases mo with
      | none =>
        exfalso
        rcases HA.out.map.is with ⟨_, h2⟩ | ⟨b, D, h2, _⟩
        · rw [h2] at hin; cases hin
        · cases h2
      | some mb => exact ⟨mb, rfl⟩
    obtain ⟨m, hm⟩ : ∃ m, n = m + 1 := ⟨n - 1, by omega⟩
    have hmn : m < n := by omega
    have hkm1 : k ≤ m := by omega
    have hnz : n ≤ 100000 := HN.out
    obtain ⟨y, hy⟩ : ∃ y, uL l m = y := ⟨_, rfl⟩
    obtain ⟨rb, hA, _⟩ := HA.out.own.put (fun _ => rfl) hmn y
    have hth := thCells HA.out.at_ hA hmn
    rw [hy] at hth
    obtain ⟨x0, x1, x2, x3⟩ := hth
    subst hA
    have hwr : IntKind.i64.wrap ((n : Int) - 1) = ((m : Nat) : Int) := (IntWalk.i64_in _ (by omega)).trans (by omega)
    have hwr2 : wrap64 ((n : Int) - 1) = ((m : Nat) : Int) := by unfold wrap64; omega
    have c0 := HA.out.blk.cell 0
    have c1 := HA.out.blk.cell 1
    have f0 := HA.out.blk.frozen 0
    have f1 := HA.out.blk.frozen 1
    have cl := HA.out.blk.lt
    simp only [List.getElem?_toArray, List.getElem?_cons_zero, List.getElem?_cons_succ] at c0 c1
    have HIN := Lib.hid hin
    have HK := Lib.hid (And.intro hk (And.intro hkid (And.intro hm (And.intro hkm1 (And.intro hy hnz)))))
    clear hin hg hk hkid hm hkm1 hy
    go_upto_region 8 with fail
    have hB : Below w.heap.size w (w.alloc (.cells (boxTh y) 137)) := (Below.refl _ _).alloc (Nat.le_refl _) _
    have hfl := HA.out.foot_lt
    have H1 : Hid (HpAt (w.alloc (.cells (boxTh y) 137)) c t tl (some ⟨rb, 0, none⟩) n cap l (some mb) row g ∧ Blk (w.alloc (.cells (boxTh y) 137)) w.heap.size 137 (boxTh y) ∧ Turned (hpFoot c (some ⟨rb, 0, none⟩) (some mb)) (hpFoot c (some ⟨rb, 0, none⟩) (some mb)) w (w.alloc (.cells (boxTh y) 137)) ∧ ¬ hpFoot c (some ⟨rb, 0, none⟩) (some mb) w.heap.size) := Lib.hid ⟨HA.out.below hB, Blk.new w _ _, .of_below hB, fun hf => by have := hfl _ hf; omega⟩
    clear hB hfl hl x0 x1 x2 x3 hwr hwr2 c0 c1 f0 f1 cl
    obtain ⟨bx, hbx⟩ : ∃ bx, w.heap.size = bx := ⟨_, rfl⟩
    rw [hbx] at H1
    generalize (w.alloc (.cells (boxTh y) 137)) = w1 at H1 ⊢
    try rw [hbx]
    clear hbx
    obtain ⟨i0, hi0, _⟩ := Option.map_eq_some_iff.1 Try.infoTh
    have hcut := cut_to 114 137 .i64 Try.underlying114 hi0 (some ⟨rb, 0, none⟩) n cap m (by omega) H1.out.1.own.cap
    clear hi0
    have c0 := H1.out.1.blk.cell 0
    have c1 := H1.out.1.blk.cell 1
    have f0 := H1.out.1.blk.frozen 0
    have f1 := H1.out.1.blk.frozen 1
    have cl := H1.out.1.blk.lt
    simp only [List.getElem?_toArray, List.getElem?_cons_zero, List.getElem?_cons_succ] at c0 c1
    go_upto_region 9 with fail
    have hb2 : Blk (w1.setCell ⟨c, 0, none⟩ (.slice (some ⟨rb, 0, none⟩) m cap)) c t (.slice (some ⟨rb, 0, none⟩) m cap :: .map (some mb) :: tl).toArray := by have := H1.out.1.blk.set_ 0 (.slice (some ⟨rb, 0, none⟩) m cap); simpa only [List.setIfInBounds_toArray, List.set_cons_zero] using this
    have hap := H1.out.1.apart
    have ho2 : OwnL encTh 137 4 (w1.setCell ⟨c, 0, none⟩ (.slice (some ⟨rb, 0, none⟩) m cap)) 0 (some ⟨rb, 0, none⟩) m cap (l.take m) := (own_takeL (enc := encTh) (sz := 4) (fun _ => rfl) H1.out.1.own m (Nat.le_of_lt hmn)).step fun ad ha _ _ => Below.heap_setCell w1 ⟨c, 0, none⟩ _ ad.block (hap.1 ad ha)
    have hm2 : MapKV (w1.setCell ⟨c, 0, none⟩ (.slice (some ⟨rb, 0, none⟩) m cap)) (.map (some mb)) row g := H1.out.1.map.step fun b hb _ => by cases hb; exact Below.heap_setCell w1 ⟨c, 0, none⟩ _ mb (hap.2 mb rfl).1
    have hx2 : Blk (w1.setCell ⟨c, 0, none⟩ (.slice (some ⟨rb, 0, none⟩) m cap)) bx 137 (boxTh y) := H1.out.2.1.far (p := ⟨c, 0, none⟩) (fun e => H1.out.2.2.2 (.inl e)) _
    have hk2 : Turned (hpFoot c (some ⟨rb, 0, none⟩) (some mb)) (hpFoot c (some ⟨rb, 0, none⟩) (some mb)) w (w1.setCell ⟨c, 0, none⟩ (.slice (some ⟨rb, 0, none⟩) m cap)) := H1.out.2.2.1.trans ⟨(Kept.refl _ _).setCell (fun _ => .inl rfl) _, fun k h => .inl h⟩
    have H2 := Lib.hid (And.intro hb2 (And.intro ho2 (And.intro hm2 (And.intro hx2 hk2))))
    have HAP := Lib.hid (And.intro hap.1 (hap.2 mb rfl))
    clear hb2 ho2 hm2 hx2 hk2 hap hcut c0 c1 f0 f1 cl
    generalize w1.setCell ⟨c, 0, none⟩ (.slice (some ⟨rb, 0, none⟩) m cap) = w2 at H2 ⊢
    obtain ⟨w3, hdel, hm3, hg3, hs3⟩ := H2.out.2.2.1.del HI.out
    have c0 := H2.out.1.cell 0
    have c1 := H2.out.1.cell 1
    have f0 := H2.out.1.frozen 0
    have f1 := H2.out.1.frozen 1
    have cl := H2.out.1.lt
    simp only [List.getElem?_toArray, List.getElem?_cons_zero, List.getElem?_cons_succ] at c0 c1
    clear hs3
    have H3m := Lib.hid (And.intro hm3 hg3)
    clear hm3 hg3
    go_upto_region 10 with fail
    have hb3 : Blk w3 c t (.slice (some ⟨rb, 0, none⟩) m cap :: .map (some mb) :: tl).toArray := H2.out.1.grown H3m.out.2 (fun e => HAP.out.2.1 (by injection e with e; exact e.symm))
    have ho3 : OwnL encTh 137 4 w3 0 (some ⟨rb, 0, none⟩) m cap (l.take m) := H2.out.2.1.step fun ad ha _ hl => H3m.out.2.block _ hl (fun e => HAP.out.2.2 ad ha (by injection e))
    have hx3 : Blk w3 bx 137 (boxTh y) := H2.out.2.2.2.1.grown H3m.out.2 (fun e => H1.out.2.2.2 (.inr (.inl e.symm)))
    have hk3 : Turned (hpFoot c (some ⟨rb, 0, none⟩) (some mb)) (hpFoot c (some ⟨rb, 0, none⟩) (some mb)) w w3 := H2.out.2.2.2.2.trans ⟨Kept.of_grown H3m.out.2 (fun k e _ => .inr (.inl e)), fun k h => .inl h⟩
    have H3 := Lib.hid (And.intro hb3 (And.intro ho3 (And.intro H3m.out.1 (And.intro hx3 hk3))))
    clear hb3 ho3 hx3 hk3 H2 H3m H1 hdel c0 c1 f0 f1 cl
    have hmem0 := fun a => drop_mem (k := k) (by rw [← HK.out.2.2.1]; exact HA.out.ok) HK.out.2.2.2.1 a
    have hT2 : ∀ a, (T a ∧ a.id ≠ id) ↔ ∃ i, i < m ∧ updF (uL l) k (uL l m) i = a := fun a => by
      rw [hmem0 a, HK.out.2.1, ← HK.out.2.2.1]
      exact and_congr (HT.out a) Iff.rfl
    have hids2 : ∀ z, z ∈ row.filter (· != id) ↔ ∃ i, i < m ∧ (updF (uL l) k (uL l m) i).id = z := fun z => by
      rw [List.mem_filter]
      constructor
      · rintro ⟨h1, h2⟩
        obtain ⟨i, hi, e⟩ := (HA.out.ids z).1 h1
        obtain ⟨j, hj, e2⟩ := (hT2 (uL l i)).1 ⟨(HT.out _).2 ⟨i, hi, rfl⟩, by rw [e]; simpa using h2⟩
        exact ⟨j, hj, by rw [e2, e]⟩
      · rintro ⟨j, hj, rfl⟩
        obtain ⟨h1, h2⟩ := (hT2 _).2 ⟨j, hj, rfl⟩
        obtain ⟨i, hi, e⟩ := (HT.out _).1 h1
        exact ⟨(HA.out.ids _).2 ⟨i, hi, by rw [e]⟩, by simpa using h2⟩
    have HT2 := Lib.hid (And.intro hT2 hids2)
    clear hmem0 hT2 hids2
    by_cases hkm : k < m
    · have t1 : decide (((k : Nat) : Int) < ((m : Nat) : Int)) = true := decide_eq_true (by omega)
      have hdr := (show HeapOk (m + 1) l g by rw [← HK.out.2.2.1]; exact HA.out.ok).drop hkm
      have hut : ∀ i, i < m → uL (l.take m) i = uL l i := fun i hi => uL_take hi
      have huv : ∀ i, i < m → updF (uL (l.take m)) k (uL l m) i = updF (uL l) k (uL l m) i := fun i hi => by unfold updF; rw [hut i hi]
      have hu : HU w3 0 c t (.slice (some ⟨rb, 0, none⟩) m cap :: .map (some mb) :: tl).toArray (some ⟨rb, 0, none⟩) m cap mb (row.filter (· != id)) k y (l.take m) g := ⟨⟨H3.out.1, rfl, rfl, H3.out.2.1, H3.out.2.2.1, HA.out.ne⟩, by rw [← HK.out.2.2.2.2.1]; exact hdr.1.congr_ hut, fun i hi h1 => (HT2.out.2 _).2 ⟨i, hi, by rw [upd_ne h1, hut i hi]⟩⟩
      have hyr : y.id ∈ row.filter (· != id) := (HT2.out.2 _).2 ⟨k, hkm, by rw [upd_eq, HK.out.2.2.2.2.1]⟩
      have hyw : wf64 y.id := HA.out.map.set_.wf _ (List.mem_filter.1 hyr).1
      have hfl := List.length_filter_le (· != id) row
      have hcx := hFit_t hu hkm (by rw [← HK.out.2.2.2.2.1]; exact hdr.2.congr_ hkm huv) ⟨by have := HK.out.2.2.2.2.2; omega, by have := HLN.out; omega, hyw⟩
      rw [putR_mem_ hyr] at hcx
      have HUV := Lib.hid huv
      clear hu hdr hut huv hyr hyw hfl
      have b0 := H3.out.2.2.2.1.cell 0
      have b1_ := H3.out.2.2.2.1.cell 1
      have b2 := H3.out.2.2.2.1.cell 2
      have b3 := H3.out.2.2.2.1.cell 3
      have bl := H3.out.2.2.2.1.lt
      simp only [List.getElem?_toArray, List.getElem?_cons_zero, List.getElem?_cons_succ] at b0 b1_ b2 b3
      go_wp2_with fail
      (with_reducible refine hcx.mono ?_)
      clear hcx b0 b1_ b2 b3 bl
      rintro e w9 ⟨l2, g2, rfl, hat, hkp, hok, hmem⟩
      have hmm : ∀ a, (∃ i, i < m ∧ uL l2 i = a) ↔ (T a ∧ a.id ≠ id) := fun a => by
        rw [hmem a, HT2.out.1 a, HK.out.2.2.2.2.1]
        exact ⟨fun ⟨i, hi, e⟩ => ⟨i, hi, by rw [← HK.out.2.2.2.2.1, ← HUV.out i hi, HK.out.2.2.2.2.1]; exact e⟩, fun ⟨i, hi, e⟩ => ⟨i, hi, by rw [← e, ← HK.out.2.2.2.2.1, ← HUV.out i hi]⟩⟩
      have hid2 : ∀ z, z ∈ row.filter (· != id) ↔ ∃ i, i < m ∧ (uL l2 i).id = z := fun z => by
        rw [HT2.out.2 z]
        constructor
        · rintro ⟨i, hi, e⟩
          obtain ⟨j, hj, e2⟩ := (hmm _).2 ((HT2.out.1 _).2 ⟨i, hi, rfl⟩)
          exact ⟨j, hj, by rw [e2, e]⟩
        · rintro ⟨i, hi, e⟩
          obtain ⟨j, hj, e2⟩ := (HT2.out.1 _).1 ((hmm _).1 ⟨i, hi, rfl⟩)
          exact ⟨j, hj, by rw [e2, e]⟩
      have HE : Hid (∃ S', HpO w9 c t tl (row.filter (· != id)) (fun a => T a ∧ a.id ≠ id) S' ∧ Turned (hpFoot c (some ⟨rb, 0, none⟩) (some mb)) S' w w9) := Lib.hid ⟨_, ⟨_, m, cap, l2, some mb, g2, ⟨hat.blk, hat.own, hat.map, hok, hid2, hat.ne⟩, fun a => (hmm a).symm, rfl⟩, H3.out.2.2.2.2.trans ⟨hkp.mono (fun q _ hq => hq.elim (fun e => .inr (.inl (by rw [e]))) (fun e => .inr (.inr e))), fun q hq => .inl hq⟩⟩
      clear hat hkp hok hmem hmm hid2
      go_wp2
      go_ret
      exact ⟨ret_bool (by rw [decide_eq_true HIN.out]), HE.out⟩
    · have t1 : decide (((k : Nat) : Int) < ((m : Nat) : Int)) = false := decide_eq_false (by omega)
      have hkm2 : k = m := by have := HK.out.2.2.2.1; omega
      have hut : ∀ i, i < m → uL (l.take m) i = uL l i := fun i hi => uL_take hi
      have huv : ∀ i, i < m → updF (uL l) k (uL l m) i = uL (l.take m) i := fun i hi => by rw [upd_ne (by omega), hut i hi]
      have hok : HeapOk m (l.take m) g := ⟨fun i h0 hi => by rw [hut i hi, hut _ (by unfold par; omega)]; exact HA.out.ok.heap i h0 (by omega), fun i hi => by rw [hut i hi]; exact HA.out.ok.at_ i (by omega), fun i j hi hj e => HA.out.ok.inj i j (by omega) (by omega) (by rw [hut i hi, hut j hj] at e; exact e)⟩
      have HE : Hid (∃ S', HpO w3 c t tl (row.filter (· != id)) (fun a => T a ∧ a.id ≠ id) S' ∧ Turned (hpFoot c (some ⟨rb, 0, none⟩) (some mb)) S' w w3) := Lib.hid ⟨_, ⟨_, m, cap, l.take m, some mb, g, ⟨H3.out.1, H3.out.2.1, H3.out.2.2.1, hok, fun z => by
        rw [HT2.out.2 z]
        exact ⟨fun ⟨i, hi, e⟩ => ⟨i, hi, by rw [← huv i hi]; exact e⟩, fun ⟨i, hi, e⟩ => ⟨i, hi, by rw [huv i hi]; exact e⟩⟩, HA.out.ne⟩, fun a => by
        refine (HT2.out.1 a).trans ?_
        exact ⟨fun ⟨i, hi, e⟩ => ⟨i, hi, by rw [← huv i hi]; exact e⟩, fun ⟨i, hi, e⟩ => ⟨i, hi, by rw [huv i hi]; exact e⟩⟩, rfl⟩, H3.out.2.2.2.2⟩
      clear hut huv hok hkm2
      go_wp2
      go_ret
      exact ⟨ret_bool (by rw [decide_eq_true HIN.out]), HE.out⟩
  · rw [if_neg hin, decide_eq_false hin] at hl
    have HE : Hid (∃ S', HpO w c t tl (row.filter (· != id)) (fun a => T a ∧ a.id ≠ id) S' ∧ Turned (hpFoot c A mo) S' w w) := Lib.hid ⟨_, HpO.congr ⟨A, n, cap, l, mo, g, HA.out, HT.out, rfl⟩ (List.filter_eq_self.2 (fun z hz => by simp only [bne_iff_ne, ne_eq]; rintro rfl; exact hin hz)) (fun a => ⟨fun h => h.1, fun h => ⟨h, fun e => hin ((HA.out.ids id).2 (by obtain ⟨i, hi, e2⟩ := (HT.out a).1 h; exact ⟨i, hi, by rw [e2, e]⟩))⟩⟩), Turned.refl _ _⟩
    have c0 := HA.out.blk.cell 0
    have c1 := HA.out.blk.cell 1
    have f0 := HA.out.blk.frozen 0
    have f1 := HA.out.blk.frozen 1
    have cl := HA.out.blk.lt
    simp only [List.getElem?_toArray, List.getElem?_cons_zero, List.getElem?_cons_succ] at c0 c1
    have HIN := Lib.hid hin
    clear hin
    go_wp2
    go_ret
    exact ⟨ret_bool (by rw [decide_eq_false HIN.out]), HE.out⟩
end Go.Proofs.Ytcafmodenbifhaa
namespace Go.Proofs.Ytcafmodenbifhaa
open Go.RowKit Go.Maps

theorem uL_zero_mul (i : Nat) : 0 * 4 + i = i := by omega
set_option maxRecDepth 100000 in
set_option maxHeartbeats 3200000 in
theorem hTop_o {w : World} {c : Nat} {t : TypeId} {tl : List Value} {row : List Int} {T : LTh → Prop} {S : Nat → Prop} (h : HpO w c t tl row T S) (hn : row.length ≤ 100000) :
    Calls Try.prog 55 #[.pointer (some ⟨c, 0, none⟩)] w fun e w' => ((e = .returned (.tuple #[.int .i64 0, aggRes ⟨0, 0, 0⟩, .bool false]) ∧ ∀ a, ¬ T a) ∨ ∃ a, e = .returned (.tuple #[.int .i64 a.id, aggRes ⟨a.a, a.b, a.c⟩, .bool true]) ∧ T a ∧ ∀ b, T b → ¬ ltP b a) ∧ Below w.heap.size w w' := by
  obtain ⟨A, n, cap, l, mo, g, hA, hT, rfl⟩ := h
  have hlen := hA.len
  have HT := Lib.hid hT
  have HB0 : Hid (Below w.heap.size w (w.alloc (.cells #[.int .i64 0, .int .i64 0, .int .i64 0] 111))) := Lib.hid ((Below.refl _ _).alloc (Nat.le_refl _) _)
  have HK0 : Hid (Blk (w.alloc (.cells #[.int .i64 0, .int .i64 0, .int .i64 0] 111)) w.heap.size 111 #[.int .i64 0, .int .i64 0, .int .i64 0]) := Lib.hid (Blk.new w _ _)
  have HA := Lib.hid (hA.below HB0.out)
  have hnn : n ≤ 100000 := by omega
  clear hA hT hn hlen
  go_enter Try.func55, Try.ntmps55
  go_upto_region 1 with fail
  obtain ⟨kb, hkb⟩ : ∃ kb, w.heap.size = kb := ⟨_, rfl⟩
  have HKB : Hid (kb = w.heap.size) := Lib.hid hkb.symm
  have HBk0 := HB0
  clear HB0
  rw [hkb] at HK0
  generalize (w.alloc (.cells #[.int .i64 0, .int .i64 0, .int .i64 0] 111)) = w1 at HA HK0 HBk0 ⊢
  try rw [hkb]
  clear hkb
  have HKQ : Hid (∀ (W : World), Kept (fun k => k = kb) w1 W → Below w.heap.size w W) := Lib.hid fun W hW => by
    have h1 := (Kept.of_below (F := fun k => k = kb) HBk0.out).trans hW (fun _ _ h => h)
    exact h1.below (Nat.le_refl _) (fun i hi e => by have := HKB.out; omega)
  have hcx := hLen_t (w := w1) HA.out.blk rfl
  go_wp2_with fail
  (with_reducible refine hcx.mono ?_)
  clear hcx
  rintro e w2 ⟨rfl, hw⟩
  replace hw := hw.symm
  subst hw
  have k0 := HK0.out.cell 0
  have k1 := HK0.out.cell 1
  have k2 := HK0.out.cell 2
  have kf := HK0.out.frozen
  have kl := HK0.out.lt
  simp only [List.getElem?_toArray, List.getElem?_cons_zero, List.getElem?_cons_succ] at k0 k1 k2
  by_cases h0 : n = 0
  · have t1 : (((n : Nat) : Int) == 0) = true := by simp [h0]
    have HN : Hid (∀ a, ¬ T a) := Lib.hid fun a ha => by
      obtain ⟨i, hi, _⟩ := (HT.out a).1 ha
      omega
    clear h0
    have HE := Lib.hid (HKQ.out _ (((Kept.refl (fun k => k = kb) w1).setCell (p := ⟨kb, 0, none⟩) (fun _ => rfl) (.int .i64 0)).setCell (p := ⟨kb, 1, none⟩) (fun _ => rfl) (.int .i64 0) |>.setCell (p := ⟨kb, 2, none⟩) (fun _ => rfl) (.int .i64 0)))
    go_wp2
    refine bodyPost_ret (v := .tuple #[.int .i64 0, aggRes ⟨0, 0, 0⟩, .bool false]) (by simp [results, Try.results55, go_sem, k0, k1, k2]) rfl ⟨.inl ⟨rfl, HN.out⟩, HE.out⟩
  · have t1 : (((n : Nat) : Int) == 0) = false := by simp; omega
    have hn0 : 0 < n := by omega
    obtain ⟨y, hy⟩ : ∃ y, uL l 0 = y := ⟨_, rfl⟩
    obtain ⟨rb, hRb, _⟩ := HA.out.own.put (fun _ => rfl) hn0 y
    obtain ⟨b, o, x, e, hx, _, hc⟩ := Rd.at_ (HA.out.own.rd (enc := encTh) (sz := 4) (fun _ => rfl)) hn0
    rw [hRb] at e
    cases e
    have hxy : x = y := by rw [← hy]; exact (uL_get hx).symm
    subst hxy
    have x0 := hc 0 _ rfl
    have x1 := hc 1 _ rfl
    have x2 := hc 2 _ rfl
    have x3 := hc 3 _ rfl
    simp only [uL_zero_mul, Nat.zero_add, Nat.add_zero, Nat.zero_mul] at x0 x1 x2 x3
    have HM : Hid (T x ∧ ∀ b, T b → ¬ ltP b x) := Lib.hid ⟨(HT.out x).2 ⟨0, hn0, hy⟩, fun b hb => by
      obtain ⟨i, hi, e⟩ := (HT.out b).1 hb
      rw [← e, ← hy]
      exact HA.out.ok.heap.top ltP_tr ltP_an i hi⟩
    subst hRb
    have c0 := HA.out.blk.cell 0
    have cl := HA.out.blk.lt
    simp only [List.getElem?_toArray, List.getElem?_cons_zero, List.getElem?_cons_succ] at c0
    have kf0 := kf 0
    have kf1 := kf 1
    have kf2 := kf 2
    clear kf h0 hc hx hy
    go_upto_region 3 with fail
    go_region
    all_goals (
      have hK3 : Blk (((w1.setCell ⟨kb, 0, none⟩ (.int .i64 x.a)).setCell ⟨kb, 1, none⟩ (.int .i64 x.b)).setCell ⟨kb, 2, none⟩ (.int .i64 x.c)).drew kb 111 #[.int .i64 x.a, .int .i64 x.b, .int .i64 x.c] := by have := ((HK0.out.set_ 0 (.int .i64 x.a)).set_ 1 (.int .i64 x.b)).set_ 2 (.int .i64 x.c); simp only [List.setIfInBounds_toArray, List.set_cons_succ, List.set_cons_zero] at this; exact this
      have hB3 := HKQ.out _ (Kept.drew ((((Kept.refl (fun k => k = kb) w1).setCell (p := ⟨kb, 0, none⟩) (fun _ => rfl) (.int .i64 x.a)).setCell (p := ⟨kb, 1, none⟩) (fun _ => rfl) (.int .i64 x.b)).setCell (p := ⟨kb, 2, none⟩) (fun _ => rfl) (.int .i64 x.c)))
      have HE := Lib.hid hB3
      have d0 := hK3.cell 0
      have d1 := hK3.cell 1
      have d2 := hK3.cell 2
      simp only [List.getElem?_toArray, List.getElem?_cons_zero, List.getElem?_cons_succ] at d0 d1 d2
      clear hB3 hK3 k0 k1 k2 kl kf0 kf1 kf2 x0 x1 x2 x3 c0 cl t1 hn0
      generalize (((w1.setCell ⟨kb, 0, none⟩ (.int .i64 x.a)).setCell ⟨kb, 1, none⟩ (.int .i64 x.b)).setCell ⟨kb, 2, none⟩ (.int .i64 x.c)).drew = w9 at d0 d1 d2 HE ⊢
      go_wp2
      refine bodyPost_ret (v := .tuple #[.int .i64 x.id, aggRes ⟨x.a, x.b, x.c⟩, .bool true]) (by simp [results, Try.results55, go_sem, d0, d1, d2]) rfl ⟨.inr ⟨x, rfl, HM.out⟩, HE.out⟩)
end Go.Proofs.Ytcafmodenbifhaa
