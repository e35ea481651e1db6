/-
  LAYER 32 (cache): a cache in memory.
  LAYER 32 (cache): what becomes of a cache in memory.
-/
import Derived.Test.YtcafmodenbifhaaCacheP
import Derived.Test.YtcafmodenbifhaaMapRV
import Derived.Test.YtcafmodenbifhaaDirtyL
set_option linter.unusedVariables false
set_option linter.unusedSimpArgs false
namespace Go.Proofs.Ytcafmodenbifhaa
open Go.RowKit Go.Maps

theorem Try.tyN : MapTy 37 55 zeroNode := ⟨Try.underlying37, fun w => by kernel_rfl⟩
theorem Try.tyS : MapTyR 38 87 (.pointer none) := ⟨Try.underlying38, fun w => by kernel_rfl⟩
structure CX where
  nodes : List LNode
  stale : List Int
  needs : List LRes
  looked : Int
def ptrV (b : Nat) : Value := .pointer (some ⟨b, 0, none⟩)
def nodeV (L : List LNode) (k : Int) : Value := aggNode (nodeOf L k)
def caBox (nm sm dm : Option Nat) (n : Int) : Array Value := #[.map nm, .map sm, .map dm, .int .i64 n]
def needT (r : LRes) : List Value := [.int .i64 r.a, .int .i64 r.b, .int .i64 r.c]
/-- The blocks that are the cache's own. -/
def caF (c : Nat) (nm sm dm : Option Nat) (k : Nat) : Prop := k = c ∨ nm = some k ∨ sm = some k ∨ dm = some k
structure CaAt (w : World) (c : Nat) (X : CX) (nm sm dm : Option Nat) (cb : LRes → Nat) (SS : LRes → Nat → Prop) (TT : LRes → LTh → Prop) : Prop where
  blk : Blk w c 48 (caBox nm sm dm X.looked)
  nodes : MapV w (.map nm) (idsN X.nodes) (nodeV X.nodes)
  shelves : MapRV w (.map sm) X.needs (fun r => ptrV (cb r))
  marks : MapSet w (.map dm) X.stale
  ns : ∀ k, nm = some k → sm ≠ some k ∧ dm ≠ some k
  sd : ∀ k, sm = some k → dm ≠ some k
  shelf : ∀ r ∈ X.needs, ∃ row, HpO w (cb r) 118 (needT r) row (TT r) (SS r)
  own : ∀ r ∈ X.needs, ∀ k, SS r k → ¬ caF c nm sm dm k
  apart : ∀ r ∈ X.needs, ∀ r' ∈ X.needs, r ≠ r' → ∀ k, SS r k → ¬ SS r' k
  wfn : ∀ n ∈ X.nodes, wfNode n
def caS (c : Nat) (X : CX) (nm sm dm : Option Nat) (SS : LRes → Nat → Prop) (k : Nat) : Prop := caF c nm sm dm k ∨ ∃ r ∈ X.needs, SS r k
section
variable {w w' : World} {c : Nat} {X : CX} {nm sm dm : Option Nat} {cb : LRes → Nat} {SS : LRes → Nat → Prop} {TT : LRes → LTh → Prop}
theorem CaAt.step (h : CaAt w c X nm sm dm cb SS TT) (hk : ∀ k, caS c X nm sm dm SS k → k < w.heap.size → w'.heap[k]? = w.heap[k]?) : CaAt w' c X nm sm dm cb SS TT where
  blk := (hk c (.inl (.inl rfl)) h.blk.lt).trans h.blk
  nodes := h.nodes.step fun b hb hl => by cases hb; exact hk _ (.inl (.inr (.inl rfl))) hl
  shelves := h.shelves.step fun b hb hl => by cases hb; exact hk _ (.inl (.inr (.inr (.inl rfl)))) hl
  marks := h.marks.step fun b hb hl => by cases hb; exact hk _ (.inl (.inr (.inr (.inr rfl)))) hl
  ns := h.ns
  sd := h.sd
  shelf := fun r hr => by
    obtain ⟨row, h1⟩ := h.shelf r hr
    exact ⟨row, h1.step fun k hs hl => hk k (.inr ⟨r, hr, hs⟩) hl⟩
  own := h.own
  apart := h.apart
  wfn := h.wfn
theorem CaAt.below (h : CaAt w c X nm sm dm cb SS TT) (hb : Below w.heap.size w w') : CaAt w' c X nm sm dm cb SS TT := h.step fun k _ hl => hb.block k hl
theorem CaAt.kept {F : Nat → Prop} (h : CaAt w c X nm sm dm cb SS TT) (hb : Kept F w w') (hF : ∀ k, caS c X nm sm dm SS k → ¬ F k) : CaAt w' c X nm sm dm cb SS TT := h.step fun k hk hl => hb.block k hl (hF k hk)
theorem CaAt.lt (h : CaAt w c X nm sm dm cb SS TT) : ∀ k, caS c X nm sm dm SS k → k < w.heap.size := by
  rintro k ((rfl | e | e | e) | ⟨r, hr, hk⟩)
  · exact h.blk.lt
  · exact h.nodes.lt k (by rw [e])
  · exact h.shelves.lt k (by rw [e])
  · exact h.marks.lt k (by rw [e])
  · obtain ⟨row, h1⟩ := h.shelf r hr
    exact h1.lt k hk
theorem CaAt.ne_c (h : CaAt w c X nm sm dm cb SS TT) : nm ≠ some c ∧ sm ≠ some c ∧ dm ≠ some c :=
  ⟨fun e => h.nodes.ne_blk h.blk (by rw [e]), fun e => h.shelves.ne_blk h.blk (by rw [e]), fun e => h.marks.ne_blk h.blk (by rw [e])⟩
/-- One shelf is turned, and one looking is counted. -/
theorem CaAt.hold (h : CaAt w c X nm sm dm cb SS TT) {r : LRes} (hr : r ∈ X.needs) {row' : List Int} {T' : LTh → Prop} {S' : Nat → Prop} {n' : Int} (hS : HpO w' (cb r) 118 (needT r) row' T' S')
    (ht : Turned (fun k => k = c ∨ SS r k) (fun k => k = c ∨ S' k) w w') (hb : Blk w' c 48 (caBox nm sm dm n')) (hc : ¬ S' c) :
    CaAt w' c ⟨X.nodes, X.stale, X.needs, n'⟩ nm sm dm cb (fun q => if q = r then S' else SS q) (fun q => if q = r then T' else TT q) ∧ Turned (caS c X nm sm dm SS) (caS c ⟨X.nodes, X.stale, X.needs, n'⟩ nm sm dm (fun q => if q = r then S' else SS q)) w w' := by
  have hout : ∀ k, ¬ k = c → ¬ SS r k → k < w.heap.size → w'.heap[k]? = w.heap[k]? := fun k h1 h2 hl => ht.out hl (fun h3 => h3.elim h1 h2)
  obtain ⟨n1, n2, n3⟩ := h.ne_c
  have hns : ∀ k, caS c X nm sm dm SS k → S' k → SS r k := fun k hk hs => by
    rcases ht.new k (.inr hs) with (rfl | h2) | h2
    · exact absurd hs hc
    · exact h2
    · have := h.lt k hk; omega
  refine ⟨⟨hb, ?_, ?_, ?_, h.ns, h.sd, fun q hq => ?_, fun q hq k hk => ?_, fun q hq q' hq' hne k hk => ?_, h.wfn⟩, ?_, fun k hk => ?_⟩
  · exact h.nodes.step fun b hb' hl => by
      cases hb'
      exact hout _ (fun e => n1 (by rw [e])) (fun hs => h.own r hr _ hs (.inr (.inl rfl))) hl
  · exact h.shelves.step fun b hb' hl => by
      cases hb'
      exact hout _ (fun e => n2 (by rw [e])) (fun hs => h.own r hr _ hs (.inr (.inr (.inl rfl)))) hl
  · exact h.marks.step fun b hb' hl => by
      cases hb'
      exact hout _ (fun e => n3 (by rw [e])) (fun hs => h.own r hr _ hs (.inr (.inr (.inr rfl)))) hl
  · by_cases e : q = r
    · subst e
      simp only [if_pos]
      exact ⟨row', hS⟩
    · simp only [if_neg e]
      obtain ⟨row, h1⟩ := h.shelf q hq
      exact ⟨row, h1.step fun k hs hl => hout k (fun e2 => h.own q hq k hs (.inl e2)) (h.apart q hq r hr e k hs) hl⟩
  · by_cases e : q = r
    · subst e
      simp only [if_pos] at hk
      intro hf
      exact h.own q hr k (hns k (.inl hf) hk) hf
    · simp only [if_neg e] at hk
      exact h.own q hq k hk
  · by_cases e : q = r
    · subst e
      have e' : ¬ q' = q := fun e2 => hne e2.symm
      simp only [if_pos, if_neg e'] at hk ⊢
      exact fun hk' => h.apart q hr q' hq' hne k (hns k (.inr ⟨q', hq', hk'⟩) hk) hk'
    · by_cases e' : q' = r
      · subst e'
        simp only [if_pos, if_neg e] at hk ⊢
        exact fun hk' => h.apart q hq q' hr hne k hk (hns k (.inr ⟨q, hq, hk⟩) hk')
      · simp only [if_neg e, if_neg e'] at hk ⊢
        exact h.apart q hq q' hq' hne k hk
  · exact ht.kept.mono fun k _ hk => hk.elim (fun e => .inl (.inl e)) (fun hs => .inr ⟨r, hr, hs⟩)
  · rcases hk with hf | ⟨q, hq, hs⟩
    · exact .inl (.inl hf)
    · by_cases e : q = r
      · subst e
        simp only [if_pos] at hs
        rcases ht.new k (.inr hs) with (h2 | h2) | h2
        · exact .inl (.inl (.inl h2))
        · exact .inl (.inr ⟨q, hq, h2⟩)
        · exact .inr h2
      · simp only [if_neg e] at hs
        exact .inl (.inr ⟨q, hq, hs⟩)
end
end Go.Proofs.Ytcafmodenbifhaa
namespace Go.Proofs.Ytcafmodenbifhaa
open Go.RowKit Go.Maps

section
variable {w w' : World} {c : Nat} {X X' : CX} {nm sm dm nm' sm' dm' : Option Nat} {cb : LRes → Nat} {SS : LRes → Nat → Prop} {TT : LRes → LTh → Prop}
/-- What is the cache's own is turned, no shelf is. -/
theorem CaAt.own_ (h : CaAt w c X nm sm dm cb SS TT) (hk : Kept (caF c nm sm dm) w w') (hblk : Blk w' c 48 (caBox nm' sm' dm' X'.looked)) (hn : MapV w' (.map nm') (idsN X'.nodes) (nodeV X'.nodes)) (hs : MapRV w' (.map sm') X'.needs (fun r => ptrV (cb r)))
    (hm : MapSet w' (.map dm') X'.stale) (hsub : ∀ r ∈ X'.needs, r ∈ X.needs) (hnew : ∀ k, caF c nm' sm' dm' k → caF c nm sm dm k ∨ w.heap.size ≤ k) (hns : ∀ k, nm' = some k → sm' ≠ some k ∧ dm' ≠ some k) (hsd : ∀ k, sm' = some k → dm' ≠ some k) (hwf : ∀ n ∈ X'.nodes, wfNode n) :
    CaAt w' c X' nm' sm' dm' cb SS TT ∧ Turned (caS c X nm sm dm SS) (caS c X' nm' sm' dm' SS) w w' := by
  refine ⟨⟨hblk, hn, hs, hm, hns, hsd, fun r hr => ?_, fun r hr k hk' hf => ?_, fun r hr r' hr' => h.apart r (hsub r hr) r' (hsub r' hr'), hwf⟩, hk.mono fun k _ hf => .inl hf, ?_⟩
  · obtain ⟨row, h1⟩ := h.shelf r (hsub r hr)
    exact ⟨row, h1.kept hk (h.own r (hsub r hr))⟩
  · rcases hnew k hf with h2 | h2
    · exact h.own r (hsub r hr) k hk' h2
    · obtain ⟨row, h1⟩ := h.shelf r (hsub r hr)
      have := h1.lt k hk'
      omega
  · rintro k (hf | ⟨r, hr, hs⟩)
    · exact (hnew k hf).imp .inl id
    · exact .inl (.inr ⟨r, hsub r hr, hs⟩)
/-- Marks. -/
theorem CaAt.marked (h : CaAt w c X nm sm dm cb SS TT) {row : List Int} (ht : SetTurn c 2 (.map dm) row w w') :
    ∃ dm', CaAt w' c ⟨X.nodes, row, X.needs, X.looked⟩ nm sm dm' cb SS TT ∧ Turned (caS c X nm sm dm SS) (caS c ⟨X.nodes, row, X.needs, X.looked⟩ nm sm dm' SS) w w' := by
  obtain ⟨mv', hm, hb, hnew⟩ := ht.ex
  obtain ⟨dm', rfl⟩ := hm.shape
  obtain ⟨n1, n2, n3⟩ := h.ne_c
  have hk : Kept (caF c nm sm dm) w w' := ht.kept.mono fun k _ hk => hk.elim .inl (fun e => by cases e; exact .inr (.inr (.inr rfl)))
  have hd : dm' = dm ∨ ∃ b, dm' = some b ∧ w.heap.size ≤ b := hnew.imp (fun e => by cases e; rfl) (fun ⟨b, e, hb⟩ => ⟨b, by cases e; rfl, hb⟩)
  have hnd : ∀ k, nm = some k → dm' ≠ some k := fun k hk9 e9 => by
    rcases hd with hd | ⟨b, hd, hb9⟩
    · rw [hd] at e9; exact (h.ns k hk9).2 e9
    · rw [hd] at e9; cases e9; have := h.nodes.lt k (by rw [hk9]); omega
  have hsd : ∀ k, sm = some k → dm' ≠ some k := fun k hk9 e9 => by
    rcases hd with hd | ⟨b, hd, hb9⟩
    · rw [hd] at e9; exact h.sd k hk9 e9
    · rw [hd] at e9; cases e9; have := h.shelves.lt k (by rw [hk9]); omega
  have hN : MapV w' (.map nm) (idsN X.nodes) (nodeV X.nodes) := h.nodes.step fun b hb hl => by
    cases hb
    exact ht.kept.block _ hl (fun e => e.elim (fun e => n1 (by rw [e])) (fun e => by cases e; exact (h.ns _ rfl).2 rfl))
  have hS : MapRV w' (.map sm) X.needs (fun r => ptrV (cb r)) := h.shelves.step fun b hb hl => by
    cases hb
    exact ht.kept.block _ hl (fun e => e.elim (fun e => n2 (by rw [e])) (fun e => by cases e; exact h.sd _ rfl rfl))
  have hbb : Blk w' c 48 (caBox nm sm dm' X.looked) := by have := hb _ _ h.blk; simpa [caBox] using this
  refine ⟨dm', h.own_ (X' := ⟨X.nodes, row, X.needs, X.looked⟩) hk hbb hN hS hm (fun r hr => hr) (fun k hf => ?_) (fun k hk => ⟨(h.ns k hk).1, hnd k hk⟩) hsd h.wfn⟩
  rcases hf with e | e | e | e
  · exact .inl (.inl e)
  · exact .inl (.inr (.inl e))
  · exact .inl (.inr (.inr (.inl e)))
  · rcases hd with hd | ⟨b, hd, hb9⟩
    · rw [hd] at e; exact .inl (.inr (.inr (.inr e)))
    · rw [hd] at e; cases e; exact .inr hb9
/-- Something else is turned, and one looking is counted. -/
theorem CaAt.count (h : CaAt w c X nm sm dm cb SS TT) {S1 S2 : Nat → Prop} {n' : Int} (ht : Turned (fun k => k = c ∨ S1 k) (fun k => k = c ∨ S2 k) w w') (hd : ∀ k, S1 k → ¬ caS c X nm sm dm SS k) (hb : Blk w' c 48 (caBox nm sm dm n')) :
    CaAt w' c ⟨X.nodes, X.stale, X.needs, n'⟩ nm sm dm cb SS TT := by
  obtain ⟨n1, n2, n3⟩ := h.ne_c
  have hout : ∀ k, k ≠ c → caS c X nm sm dm SS k → k < w.heap.size → w'.heap[k]? = w.heap[k]? := fun k h1 h2 hl => ht.out hl (fun h3 => h3.elim h1 (fun hs => hd k hs h2))
  refine ⟨hb, ?_, ?_, ?_, h.ns, h.sd, fun q hq => ?_, h.own, h.apart, h.wfn⟩
  · exact h.nodes.step fun b hb' hl => by cases hb'; exact hout _ (fun e => n1 (by rw [e])) (.inl (.inr (.inl rfl))) hl
  · exact h.shelves.step fun b hb' hl => by cases hb'; exact hout _ (fun e => n2 (by rw [e])) (.inl (.inr (.inr (.inl rfl)))) hl
  · exact h.marks.step fun b hb' hl => by cases hb'; exact hout _ (fun e => n3 (by rw [e])) (.inl (.inr (.inr (.inr rfl)))) hl
  · obtain ⟨row, h1⟩ := h.shelf q hq
    exact ⟨row, h1.step fun k hs hl => hout k (fun e2 => h.own q hq k hs (.inl e2)) (.inr ⟨q, hq, hs⟩) hl⟩
/-- A shelf that stood apart becomes one of the cache's. -/
theorem CaAt.add_ (h : CaAt w c X nm sm dm cb SS TT) {s : Nat} {r : LRes} {row : List Int} {T : LTh → Prop} {S1 : Nat → Prop} (hS : HpO w s 118 (needT r) row T S1) (hd : ∀ k, S1 k → ¬ caS c X nm sm dm SS k) (hr : r ∉ X.needs) (hk : Kept (fun k => sm = some k) w w')
    (hs : MapRV w' (.map sm) (X.needs ++ [r]) (fun q => ptrV (if q = r then s else cb q))) :
    CaAt w' c ⟨X.nodes, X.stale, X.needs ++ [r], X.looked⟩ nm sm dm (fun q => if q = r then s else cb q) (fun q => if q = r then S1 else SS q) (fun q => if q = r then T else TT q) ∧ Turned (fun k => caS c X nm sm dm SS k ∨ S1 k) (caS c ⟨X.nodes, X.stale, X.needs ++ [r], X.looked⟩ nm sm dm (fun q => if q = r then S1 else SS q)) w w' := by
  obtain ⟨n1, n2, n3⟩ := h.ne_c
  have hq : ∀ q ∈ X.needs ++ [r], q = r ∨ (q ≠ r ∧ q ∈ X.needs) := fun q hq => by
    rcases List.mem_append.1 hq with h1 | h1
    · exact .inr ⟨fun e => hr (e ▸ h1), h1⟩
    · exact .inl (List.mem_singleton.1 h1)
  have hsf : ∀ k, sm = some k → caF c nm sm dm k := fun k e => .inr (.inr (.inl e))
  refine ⟨⟨h.blk.kept hk n2, ?_, hs, ?_, h.ns, h.sd, fun q hq' => ?_, fun q hq' k hk' => ?_, fun q hq' q' hq2 hne k hk' => ?_, h.wfn⟩, hk.mono fun k _ e => .inl (.inl (hsf k e)), fun k hk' => ?_⟩
  · exact h.nodes.step fun b hb' hl => by cases hb'; exact hk.block _ hl (fun e => (h.ns _ rfl).1 e)
  · exact h.marks.step fun b hb' hl => by cases hb'; exact hk.block _ hl (fun e => h.sd _ e rfl)
  · rcases hq q hq' with rfl | ⟨e, hm⟩
    · simp only [if_pos]
      exact ⟨row, hS.kept hk (fun k hs' e => hd k hs' (.inl (hsf k e)))⟩
    · simp only [if_neg e]
      obtain ⟨row2, h1⟩ := h.shelf q hm
      exact ⟨row2, h1.kept hk (fun k hs' e => h.own q hm k hs' (hsf k e))⟩
  · rcases hq q hq' with rfl | ⟨e, hm⟩
    · simp only [if_pos] at hk'
      exact fun hf => hd k hk' (.inl hf)
    · simp only [if_neg e] at hk'
      exact h.own q hm k hk'
  · rcases hq q hq' with rfl | ⟨e, hm⟩
    · rcases hq q' hq2 with rfl | ⟨e2, hm2⟩
      · exact absurd rfl hne
      · simp only [if_pos, if_neg e2] at hk' ⊢
        exact fun h2 => hd k hk' (.inr ⟨q', hm2, h2⟩)
    · rcases hq q' hq2 with rfl | ⟨e2, hm2⟩
      · simp only [if_pos, if_neg e] at hk' ⊢
        exact fun h2 => hd k h2 (.inr ⟨q, hm, hk'⟩)
      · simp only [if_neg e, if_neg e2] at hk' ⊢
        exact h.apart q hm q' hm2 hne k hk'
  · rcases hk' with hf | ⟨q, hq', hs'⟩
    · exact .inl (.inl (.inl hf))
    · rcases hq q hq' with rfl | ⟨e, hm⟩
      · simp only [if_pos] at hs'
        exact .inl (.inr hs')
      · simp only [if_neg e] at hs'
        exact .inl (.inl (.inr ⟨q, hm, hs'⟩))
end
/-- A cache, as an object. -/
def CaO (w : World) (c : Nat) (X : CX) (S : Nat → Prop) : Prop :=
  ∃ nm sm dm cb SS TT, CaAt w c X nm sm dm cb SS TT ∧ (∀ r ∈ X.needs, ShOk X.nodes (fun z => z ∈ X.stale) r (TT r)) ∧ (∀ z ∈ X.stale, z ∈ idsN X.nodes) ∧ S = caS c X nm sm dm SS
section
variable {w w' : World} {c : Nat} {X : CX} {S : Nat → Prop}
theorem CaO.lt (h : CaO w c X S) : ∀ k, S k → k < w.heap.size := by
  obtain ⟨nm, sm, dm, cb, SS, TT, h1, _, _, rfl⟩ := h
  exact h1.lt
theorem CaO.step (h : CaO w c X S) (hk : ∀ k, S k → k < w.heap.size → w'.heap[k]? = w.heap[k]?) : CaO w' c X S := by
  obtain ⟨nm, sm, dm, cb, SS, TT, h1, h2, h3, rfl⟩ := h
  exact ⟨nm, sm, dm, cb, SS, TT, h1.step hk, h2, h3, rfl⟩
theorem CaO.below (h : CaO w c X S) (hb : Below w.heap.size w w') : CaO w' c X S := h.step fun k _ hl => hb.block k hl
theorem CaO.rising (h : CaO w c X S) : Rising (idsN X.nodes) := by
  obtain ⟨nm, sm, dm, cb, SS, TT, h1, _, _, _⟩ := h
  exact h1.nodes.rising
theorem CaO.made (w : World) : CaO (w.alloc (.cells (caBox none none none 0) 48)) w.heap.size ⟨[], [], [], 0⟩ (fun k => k = w.heap.size) :=
  ⟨none, none, none, fun _ => 0, fun _ _ => False, fun _ _ => False, ⟨Blk.new w _ _, MapV.nil _ _, MapRV.nil _ _, MapSet.nil _, fun k h => (by cases h), fun k h => (by cases h), fun r hr => (by cases hr), fun r hr => (by cases hr), fun r hr => (by cases hr), fun n hn => (by cases hn)⟩, fun r hr => (by cases hr), fun z hz => (by cases hz), by funext k; simp [caS, caF]⟩
end
end Go.Proofs.Ytcafmodenbifhaa
