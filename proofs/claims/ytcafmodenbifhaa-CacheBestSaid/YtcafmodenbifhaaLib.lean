/-
 WORDS OF MY OWN for the walks over reeve: a slice that reads as a list, what an operation may have turned, small facts. Plain theorems and definitions.
-/
import Derived.Test.YtcafmodenbifhaaRows
import Derived.WalkKit
import Derived.WalkSpells
import Derived.WalkLawsBesides
import Derived.Lib.Hide
import Derived.Deep.Draws
import Derived.Deep.QuietTactic
import Derived.BigQuiet
import Derived.Maps.OwnOps
import Derived.Maps.OwnSet
import Derived.Maps.RangeWalk
import Derived.Maps.Ext
import Derived.Maps.AppendAt
set_option linter.unusedVariables false
set_option linter.unusedSimpArgs false
namespace Go.Proofs.Ytcafmodenbifhaa
open Go.RowKit

theorem ret_int {k : IntKind} {a b : Int} (h : a = b) : Ending.returned (.int k a) = .returned (.int k b) := by rw [h]
theorem ret_bool {a b : Bool} (h : a = b) : Ending.returned (.bool a) = .returned (.bool b) := by rw [h]

theorem add_block (a : Addr) (n : Nat) : (a.add n).block = a.block := by unfold Addr.add; split <;> rfl
theorem add_at (b o n : Nat) : (⟨b, o, none⟩ : Addr).add n = ⟨b, o + n, none⟩ := by unfold Addr.add; split <;> simp_all
/-- A slice value (address A, n elements of sz cells each) holds the cells that 'enc' gives of the list l. Its length is said apart (so that it is no rule of the walk). -/
structure Rd {α : Type} (enc : α → List Value) (sz : Nat) (w : World) (A : Option Addr) (n : Nat) (l : List α) : Prop where
 len : l.length = n
 cells : 0 < n → ∃ b o, A = some ⟨b, o, none⟩ ∧ b < w.heap.size ∧ ∀ i x, l[i]? = some x → ∀ j v, (enc x)[j]? = some v → w.cell? ⟨b, o + (i * sz + j), none⟩ = some v

section
variable {α : Type} {enc : α → List Value} {sz : Nat} {w w' : World} {A : Option Addr} {n : Nat} {l : List α}
theorem Rd.nil (w : World) (A : Option Addr) : Rd enc sz w A 0 [] := ⟨rfl, fun h => absurd h (by omega)⟩
theorem Rd.below (h : Rd enc sz w A n l) (hb : Below w.heap.size w w') : Rd enc sz w' A n l := by
 refine ⟨h.len, fun hn => ?_⟩
 obtain ⟨b, o, e, hlt, hc⟩ := h.cells hn
 exact ⟨b, o, e, by have := hb.size; omega, fun i x hx j v hv => (hb.cell hlt).trans (hc i x hx j v hv)⟩
theorem Rd.drew (h : Rd enc sz w A n l) : Rd enc sz w.drew A n l := ⟨h.len, h.cells⟩
theorem Rd.drewN (h : Rd enc sz w A n l) (k : Nat) : Rd enc sz (w.drewN k) A n l := ⟨h.len, h.cells⟩
theorem Rd.alloc (h : Rd enc sz w A n l) (o : Obj) : Rd enc sz (w.alloc o) A n l := h.below ((Below.refl _ _).alloc (Nat.le_refl _) o)
theorem Rd.take (h : Rd enc sz w A n l) {k : Nat} (hk : k ≤ n) : Rd enc sz w A k (l.take k) := by
 refine ⟨by rw [List.length_take, h.len]; omega, fun hn => ?_⟩
 obtain ⟨b, o, e, hb, hc⟩ := h.cells (by omega)
 refine ⟨b, o, e, hb, fun i x hx j v hv => hc i x ?_ j v hv⟩
 rw [List.getElem?_take] at hx
 split at hx
 ·exact hx
 ·cases hx
theorem Rd.drop (h : Rd enc sz w A n l) {k cap : Nat} (hk : k ≤ n) (hc : n ≤ cap) : Rd enc sz w (if cap = k then A else A.map (·.add (k * sz))) (n - k) (l.drop k) := by
 refine ⟨by rw [List.length_drop, h.len], fun hn => ?_⟩
 obtain ⟨b, o, rfl, hb, hcell⟩ := h.cells (by omega)
 rw [if_neg (by omega)]
 refine ⟨b, o + k * sz, by rw [Option.map_some, add_at], hb, fun i x hx j v hv => ?_⟩
 rw [show o + k * sz + (i * sz + j) = o + ((k + i) * sz + j) by rw [Nat.add_mul]; omega]
 exact hcell (k + i) x (by rw [← hx, List.getElem?_drop]) j v hv
/-- The cells of element k, its address known. -/
theorem Rd.at_ (h : Rd enc sz w A n l) {k : Nat} (hk : k < n) : ∃ b o x, A = some ⟨b, o, none⟩ ∧ l[k]? = some x ∧ b < w.heap.size ∧ ∀ j v, (enc x)[j]? = some v → w.cell? ⟨b, o + k * sz + j, none⟩ = some v := by
 obtain ⟨b, o, e, hb, hc⟩ := h.cells (by omega)
 have hl : k < l.length := by have := h.len; omega
 exact ⟨b, o, l[k], e, List.getElem?_eq_getElem hl, hb, fun j v hv => by rw [Nat.add_assoc]; exact hc k _ (List.getElem?_eq_getElem hl) j v hv⟩
end

/-- Whole numbers (int). -/
def encI (x : Int) : List Value := [.int .i64 x]
abbrev RdI (w : World) (A : Option Addr) (n : Nat) (l : List Int) : Prop := Rd encI 1 w A n l
theorem RdI.at_ {w : World} {A : Option Addr} {n : Nat} {l : List Int} (h : RdI w A n l) {k : Nat} (hk : k < n) : ∃ b o x, A = some ⟨b, o, none⟩ ∧ l[k]? = some x ∧ w.cell? ⟨b, o + k, none⟩ = some (.int .i64 x) := by
 obtain ⟨b, o, x, e, hx, _, hc⟩ := Rd.at_ h hk
 refine ⟨b, o, x, e, hx, ?_⟩
 have := hc 0 (.int .i64 x) rfl
 simpa using this
theorem Rd.of_own {α : Type} {enc : α → List Value} {sz : Nat} (henc : ∀ x, (enc x).length = sz) {w : World} {base : Nat} {e : TypeId} {A : Option Addr} {n c : Nat} {l : List α}
  (h : w.ownsRow base e sz (.slice A n c) n (l.flatMap enc)) (hl : l.length = n) : Rd enc sz w A n l := by
 refine ⟨hl, fun hn => ?_⟩
 have hform : ∃ g, A = some ⟨g, 0, none⟩ ∧ g < w.heap.size := by
  rcases h.2 with ⟨_, h0⟩ | ⟨g, cap, cur, hv, _, hh, _⟩
  ·omega
  ·injection hv with hA
   exact ⟨g, hA, (Array.getElem?_eq_some_iff.1 hh).1⟩
 obtain ⟨g, rfl, hlt⟩ := hform
 refine ⟨g, 0, rfl, hlt, fun i x hx j v hv => ?_⟩
 rw [← add_at]
 refine h.cells (g := g) rfl _ _ ?_
 clear hn h hl hlt
 induction l generalizing i with
 | nil => simp at hx
 | cons y r ih =>
  rw [List.flatMap_cons]
  cases i with
  | zero =>
   simp at hx
   subst hx
   have hj : j < (enc y).length := (List.getElem?_eq_some_iff.1 hv).1
   rw [Nat.zero_mul, Nat.zero_add, List.getElem?_append_left hj]
   exact hv
  | succ i =>
   rw [List.getElem?_append_right (by rw [henc, Nat.add_mul]; omega), henc]
   rw [show (i + 1) * sz + j - sz = i * sz + j by rw [Nat.add_mul]; omega]
   exact ih i (by simpa using hx)
theorem flatMap_encI (l : List Int) : l.flatMap encI = l.map (Value.int .i64) := by
 induction l with
 | nil => rfl
 | cons x r ih => simp [encI, ih]
theorem RdI.of_own {w : World} {base : Nat} {e : TypeId} {A : Option Addr} {n c : Nat} {l : List Int} (h : w.ownsRow base e 1 (.slice A n c) n (l.map (Value.int .i64))) : RdI w A n l :=
 Rd.of_own (enc := encI) (fun _ => rfl) (by rw [flatMap_encI]; exact h) (by simpa using h.1)

/-- What lay in a block that is not in F is as it was; F: the blocks that may have been written. -/
structure Kept (F : Nat → Prop) (w w' : World) : Prop where
 os : w'.os = w.os
 tape : w'.tape = w.tape
 output : w'.output = w.output
 size : w.heap.size ≤ w'.heap.size
 block : ∀ k, k < w.heap.size → ¬ F k → w'.heap[k]? = w.heap[k]?
section
variable {F G : Nat → Prop} {a w w' w1 : World}
theorem Kept.refl (F : Nat → Prop) (w : World) : Kept F w w := ⟨rfl, rfl, rfl, Nat.le_refl _, fun _ _ _ => rfl⟩
theorem Kept.trans (h : Kept F w w1) (k : Kept G w1 w') (hG : ∀ i, i < w.heap.size → G i → F i) : Kept F w w' :=
 ⟨k.os.trans h.os, k.tape.trans h.tape, k.output.trans h.output, Nat.le_trans h.size k.size, fun i hi hn => (k.block i (Nat.lt_of_lt_of_le hi h.size) (fun hg => hn (hG i hi hg))).trans (h.block i hi hn)⟩
theorem Kept.mono (h : Kept F w w') (hG : ∀ i, i < w.heap.size → F i → G i) : Kept G w w' := ⟨h.os, h.tape, h.output, h.size, fun i hi hn => h.block i hi (fun hf => hn (hG i hi hf))⟩
theorem Kept.of_below (h : Below w.heap.size w w') : Kept F w w' := ⟨h.os, h.tape, h.output, h.size, fun i hi _ => h.block i hi⟩
theorem Kept.below (h : Kept F w w') {B : Nat} (hB : B ≤ w.heap.size) (hF : ∀ i, i < B → ¬ F i) : Below B w w' := ⟨h.os, h.tape, h.output, h.size, fun i hi => h.block i (by omega) (hF i hi)⟩
theorem Kept.of_grown {row : Option Nat} (h : w.grownBy w' row) (hr : ∀ k, row = some k → k < w.heap.size → F k) : Kept F w w' :=
 ⟨h.os, h.tape, h.output, h.size, fun i hi hn => h.block i hi (fun e => hn (hr i e.symm hi))⟩
theorem Kept.drew (h : Kept F a w) : Kept F a w.drew := ⟨h.os, h.tape, h.output, h.size, h.block⟩
theorem Kept.drewN (h : Kept F a w) (n : Nat) : Kept F a (w.drewN n) := ⟨h.os, h.tape, h.output, h.size, h.block⟩
theorem Kept.alloc (h : Kept F a w) (o : Obj) : Kept F a (w.alloc o) := h.trans (Kept.of_below ((Below.refl _ _).alloc (Nat.le_refl _) o) : Kept F w _) (fun _ _ h => h)
theorem Kept.setCell (h : Kept F a w) {p : Addr} (hp : p.block < a.heap.size → F p.block) (u : Value) : Kept F a (w.setCell p u) :=
 ⟨h.os, h.tape, h.output, by have := h.size; simpa [World.setCell] using this, fun i hi hn => (Below.heap_setCell w p u i (by rintro rfl; exact hn (hp hi))).trans (h.block i hi hn)⟩
theorem Kept.cell (h : Kept F w w') {p : Addr} (hp : p.block < w.heap.size) (hn : ¬ F p.block) : w'.cell? p = w.cell? p := World.cell?_of_block (w := w) (h.block p.block hp hn)
end

/-- Block s is just these cells of element type t, none frozen. -/
def Blk (w : World) (g : Nat) (t : TypeId) (cs : Array Value) : Prop := w.heap[g]? = some (.cells cs t (0, 0))
section
variable {w w' : World} {g : Nat} {t : TypeId} {cs : Array Value}
theorem Blk.lt (h : Blk w g t cs) : g < w.heap.size := (Array.getElem?_eq_some_iff.1 h).1
theorem Blk.cell (h : Blk w g t cs) (i : Nat) : w.cell? ⟨g, i, none⟩ = cs[i]? := cell_of_row w g i cs t (0, 0) h
theorem Blk.frozen (h : Blk w g t cs) (i : Nat) : w.frozen? ⟨g, i, none⟩ = false := by
 unfold Blk at h
 simp [World.frozen?, h]
theorem Blk.new (w : World) (t : TypeId) (cs : Array Value) : Blk (w.alloc (.cells cs t)) w.heap.size t cs := heap_alloc_new w _
theorem Blk.kept {F : Nat → Prop} (h : Blk w g t cs) (hk : Kept F w w') (hn : ¬ F g) : Blk w' g t cs := (hk.block g h.lt hn).trans h
theorem Blk.below {B : Nat} (h : Blk w g t cs) (hb : Below B w w') (hg : g < B) : Blk w' g t cs := (hb.block g hg).trans h
theorem Blk.alloc (h : Blk w g t cs) (o : Obj) : Blk (w.alloc o) g t cs := (Below.heap_alloc w o g h.lt).trans h
theorem Blk.set_ (h : Blk w g t cs) (i : Nat) (u : Value) : Blk (w.setCell ⟨g, i, none⟩ u) g t (cs.setIfInBounds i u) := by
 unfold Blk at h ⊢
 simp [World.setCell, Array.getElem?_modify, h]
theorem Blk.far (h : Blk w g t cs) {p : Addr} (hp : g ≠ p.block) (u : Value) : Blk (w.setCell p u) g t cs := (Below.heap_setCell w p u g hp).trans h
theorem Blk.grown {row : Option Nat} (h : Blk w g t cs) (hb : w.grownBy w' row) (hg : some g ≠ row) : Blk w' g t cs := (hb.block g h.lt hg).trans h
end

/-! ### what the call owns; append -/
theorem flatMap_len {α : Type} {enc : α → List Value} {sz : Nat} (henc : ∀ x, (enc x).length = sz) (l : List α) : (l.flatMap enc).length = l.length * sz := by
 induction l with
 | nil => simp
 | cons x r ih => rw [List.flatMap_cons, List.length_append, henc, ih, List.length_cons, Nat.add_mul]; omega
/-- A slice of the call's own (its row lies in a block from base on), elements of type e. -/
structure OwnL {α : Type} (enc : α → List Value) (e : TypeId) (sz : Nat) (w : World) (base : Nat) (A : Option Addr) (n c : Nat) (l : List α) : Prop where
 own : w.ownsRow base e sz (.slice A n c) n (l.flatMap enc)
 len : l.length = n
section
variable {α : Type} {enc : α → List Value} {e : TypeId} {sz : Nat} {w w' : World} {base : Nat} {A : Option Addr} {n c : Nat} {l : List α}
theorem OwnL.nil (w : World) (base : Nat) : OwnL enc e sz w base none 0 0 [] := ⟨World.ownsRow_nil _ _ _ _, rfl⟩
theorem OwnL.cap (h : OwnL enc e sz w base A n c l) : n ≤ c := by
 rcases h.own.2 with ⟨hv, _⟩ | ⟨g, cap, cur, hv, _, _, hc, _⟩
 ·injection hv with _ h1 h2; omega
 ·injection hv with _ _ h2; omega
theorem OwnL.rd (henc : ∀ x, (enc x).length = sz) (h : OwnL enc e sz w base A n c l) : Rd enc sz w A n l := Rd.of_own henc h.own h.len
theorem OwnL.step (h : OwnL enc e sz w base A n c l) (hm : ∀ ad, A = some ad → base ≤ ad.block → ad.block < w.heap.size → w'.heap[ad.block]? = w.heap[ad.block]?) : OwnL enc e sz w' base A n c l := by
 obtain ⟨⟨h1, h2⟩, h3⟩ := h
 refine ⟨⟨h1, ?_⟩, h3⟩
 rcases h2 with h2 | ⟨g, cap, cur, hv, hg, hh, r⟩
 ·exact .inl h2
 ·injection hv with hA hn hc
  subst hA
  exact .inr ⟨g, cap, cur, by rw [hc], hg, (hm _ rfl hg (Array.getElem?_eq_some_iff.1 hh).1).trans hh, r⟩
theorem OwnL.below (h : OwnL enc e sz w base A n c l) (hb : Below w.heap.size w w') : OwnL enc e sz w' base A n c l := h.step fun ad _ _ hl => hb.block _ hl
theorem OwnL.alloc (h : OwnL enc e sz w base A n c l) (o : Obj) : OwnL enc e sz (w.alloc o) base A n c l := h.below ((Below.refl _ _).alloc (Nat.le_refl _) o)
theorem OwnL.drew (h : OwnL enc e sz w base A n c l) : OwnL enc e sz w.drew base A n c l := ⟨h.own, h.len⟩
theorem OwnL.drewN (h : OwnL enc e sz w base A n c l) (k : Nat) : OwnL enc e sz (w.drewN k) base A n c l := ⟨h.own, h.len⟩
theorem OwnL.kept {F : Nat → Prop} (h : OwnL enc e sz w base A n c l) (hk : Kept F w w') (hF : ∀ ad, A = some ad → ¬ F ad.block) : OwnL enc e sz w' base A n c l := h.step fun ad ha _ hl => hk.block _ hl (hF ad ha)
theorem OwnL.lower {base' : Nat} (h : OwnL enc e sz w base A n c l) (hb : base' ≤ base) : OwnL enc e sz w base' A n c l := by
 obtain ⟨⟨h1, h2⟩, h3⟩ := h
 refine ⟨⟨h1, ?_⟩, h3⟩
 rcases h2 with h2 | ⟨g, cap, cur, hv, hg, r⟩
 ·exact .inl h2
 ·exact .inr ⟨g, cap, cur, hv, by omega, r⟩
theorem OwnL.at_base (h : OwnL enc e sz w base A n c l) : ∀ ad, A = some ad → base ≤ ad.block ∧ ad.block < w.heap.size := by
 intro ad ha
 rcases h.own.2 with ⟨hv, _⟩ | ⟨g, cap, cur, hv, hg, hh, _⟩
 ·injection hv with h1; rw [h1] at ha; cases ha
 ·injection hv with h1
  rw [h1] at ha
  cases ha
  exact ⟨hg, (Array.getElem?_eq_some_iff.1 hh).1⟩
end
theorem own_block_ge {α : Type} {enc : α → List Value} {e : TypeId} {sz : Nat} {w : World} {base : Nat} {A : Option Addr} {n c : Nat} {l : List α} (h : OwnL enc e sz w base A n c l) : ∀ k, (Value.slice A n c).ownBlock = some k → base ≤ k := by
 intro k hk
 cases A with
 | none => simp [Value.ownBlock] at hk
 | some ad =>
  have := (h.at_base ad rfl).1
  simp [Value.ownBlock] at hk
  omega
theorem Rd.new1 {α : Type} {enc : α → List Value} {sz : Nat} (w : World) (x : α) (cs : Array Value) (t : TypeId) (fz : Nat × Nat) (h : cs.toList = enc x) : Rd enc sz (w.alloc (.cells cs t fz)) (some ⟨w.heap.size, 0, none⟩) 1 [x] := by
 refine ⟨rfl, fun _ => ⟨_, _, rfl, by simp, fun i y hy j v hv => ?_⟩⟩
 cases i with
 | succ i => simp at hy
 | zero =>
  simp at hy
  subst hy
  rw [← h] at hv
  rw [show 0 + (0 * sz + j) = j by omega, cell_of_row _ _ _ cs t fz (heap_alloc_new w _)]
  simpa using hv
section
variable {P : Program} {α : Type} {enc : α → List Value} {ops : Array Oper} {rest : List Oper} {o : Oper} {a : Act} {Q : Exit → Act → World → Prop} {w : World}
/-- append(s, x...), s of the call's own, x whatever reads as a list (nil too). -/
theorem wp_app {sz : Nat} (henc : ∀ x, (enc x).length = sz) (hone : ∀ x, ∀ u ∈ enc x, u.oneCell' = true) (hgd : o.guard = none) (s x : Operand) (t : TypeId)
  (ho : o.op = .call { callee := .builtin .append, args := #[s, x], argTypes := #[t, t] })
  (e : TypeId) (z : Value) (bytes : Nat) (ht : P.underlying t = some (.slice e)) (hinfo : (P.info? e).map (fun i => (i.zero, i.size, i.bytes)) = some (some z, sz, bytes)) (hzs : z.cells.size = sz) (hsz : 0 < sz)
  (base : Nat) (A : Option Addr) (n c : Nat) (l : List α) (hs : a.eval s = .slice A n c) (hown : OwnL enc e sz w base A n c l)
  (B : Option Addr) (m d : Nat) (news : List α) (hx : a.eval x = .slice B m d) (hr : Rd enc sz w B m news) (N : Nat) (hN : N = n + m) (L : List α) (hL : L = l ++ news)
  (h63 : n + m ≤ 9223372036854775807) (hbytes : (n + m) * bytes ≤ 140737488355328) (hbase : base ≤ w.heap.size)
  (h : ∀ A' c' w', OwnL enc e sz w' base A' N c' L → w.grownBy w' (Value.slice A n c).ownBlock → (∀ ad, A' = some ad → A = some ad ∨ ad.block = w.heap.size) → wpList P ops Q rest (a.put o.dst (.slice A' N c')) w') :
  wpList P ops Q (o :: rest) a w := by
 subst hN
 subst hL
 obtain ⟨i, hi, hzz⟩ := Option.map_eq_some_iff.1 hinfo
 simp only [Prod.mk.injEq] at hzz
 obtain ⟨hz0, hz1, hz2⟩ := hzz
 have hall : ∀ u ∈ news.flatMap enc, u.oneCell' = true := by
  intro u hu
  obtain ⟨y, _, hy⟩ := List.mem_flatMap.1 hu
  exact hone y u hy
 have go : ∀ ad, B = some ad → wpList P ops Q (o :: rest) a w := by
  rintro ad rfl
  have hcells : ∀ j u, (news.flatMap enc)[j]? = some u → w.cell? (ad.add j) = some u := by
   intro j u hu
   have hm : 0 < m := by
    rcases Nat.eq_zero_or_pos m with h0 | h0
    ·have : news = [] := List.eq_nil_of_length_eq_zero (by have := hr.len; omega)
     subst this
     simp at hu
    ·exact h0
   obtain ⟨b0, o0, he, _, hc⟩ := hr.cells hm
   injection he with he
   subst he
   rw [add_at]
   have key : ∀ (r : List α) (j : Nat) (u : Value), (r.flatMap enc)[j]? = some u → ∃ i x k, r[i]? = some x ∧ (enc x)[k]? = some u ∧ j = i * sz + k := by
    intro r
    induction r with
    | nil => intro j u hu; simp at hu
    | cons y r ih =>
     intro j u hu
     rw [List.flatMap_cons] at hu
     rcases Nat.lt_or_ge j (enc y).length with hlt | hge
     ·rw [List.getElem?_append_left hlt] at hu
      exact ⟨0, y, j, rfl, hu, by omega⟩
     ·rw [List.getElem?_append_right hge] at hu
      obtain ⟨i, x, k, h1, h2, h3⟩ := ih _ _ hu
      refine ⟨i + 1, x, k, by simpa using h1, h2, ?_⟩
      rw [henc] at h3 hge
      rw [Nat.add_mul]
      omega
   obtain ⟨i, y, k, h1, h2, rfl⟩ := key news j u hu
   exact hc i y h1 k u h2
  refine wpList_append_own_at w hgd s x t ho base e i z sz bytes ht hi hz0 hz1 hz2 hzs hsz (.slice A n c) n (l.flatMap enc) hs hown.own ad m d (news.flatMap enc) hx (by rw [flatMap_len henc, hr.len]) hcells hall (by simp only [maxLen]; omega) hbytes hbase ?_
  intro v' w' hown' hg _ hat
  have hform : ∃ A' c', v' = .slice A' (n + m) c' := by
   rcases hown'.2 with ⟨rfl, h0⟩ | ⟨g, cap, cur, hv, _⟩
   ·exact ⟨none, 0, by rw [h0]⟩
   ·exact ⟨_, _, hv⟩
  obtain ⟨A', c', rfl⟩ := hform
  refine h A' c' w' ⟨by rw [List.flatMap_append]; exact hown', by rw [List.length_append, hown.len, hr.len]⟩ hg (fun ad' ha => ?_)
  subst ha
  rcases hat with hat | hat
  ·cases A with
   | none => simp [Value.ownBlock] at hat
   | some a0 =>
    left
    rcases hown.own.2 with ⟨hv, _⟩ | ⟨g, cap, cur, hv, _⟩
    ·cases hv
    ·rcases hown'.2 with ⟨hv', _⟩ | ⟨g', cap', cur', hv', _⟩
     ·cases hv'
     ·injection hv with e1 _ _
      injection hv' with e1' _ _
      cases e1
      cases e1'
      simp [Value.ownBlock] at hat
      rw [hat]
  ·right
   simpa [Value.ownBlock] using hat
 cases B with
 | some ad => exact go ad rfl
 | none =>
  have hm : m = 0 := by
   rcases Nat.eq_zero_or_pos m with h0 | h0
   ·exact h0
   ·obtain ⟨_, _, he, _⟩ := hr.cells h0
    cases he
  subst hm
  have hn : news = [] := List.eq_nil_of_length_eq_zero hr.len
  subst hn
  refine wpList_plain hgd fun K hK => ?_
  have hrun : (Builtin.append_ #[t, t] o.type #[.slice A n c, .slice none 0 d]).run P w = .ok (.slice A n c) w := by
   rcases hown.own.2 with ⟨hv, h0⟩ | ⟨g, cap, cur, hv, _, _, hnc, _⟩
   ·cases hv
    simp [Builtin.append_, run_underlying ht, sizeOf, typeInfo, hi, Builtin.lenOf, Builtin.firstCells]
   ·cases hv
    simp [Builtin.append_, run_underlying ht, sizeOf, typeInfo, hi, Builtin.lenOf, Builtin.firstCells, hnc, storeCells]
  unfold Oper.wp execOp
  simp only [ho, resolve, invoke, builtin, Sem.run_bind, Sem.run_pure, Result.andThen_ok, List.map_toArray, List.map_cons, List.map_nil, hs, hx, hrun]
  exact hK _ _ (h A c w (by simpa using hown) (World.grownBy.refl w _) (fun ad ha => .inl ha))
/-- l[:k] -/
theorem cut_to (t e : TypeId) {i : TypeInfo} (kd : IntKind) (ht : P.underlying t = some (.slice e)) (hi : P.info? e = some i) (A : Option Addr) (n c k : Nat) (hk : k ≤ n) (hc : n ≤ c) :
  ∀ W : World, (Instr.slice t (.slice A n c) none (some (.int kd (k : Int))) none).run P W = .ok (.slice A k c) W := by
 intro W
 have he : P.elem t = e := by simp [Program.elem, ht]
 have hadd : (Option.map (fun x : Addr => x.add 0) A) = A := by cases A <;> simp [Addr.add]
 have h := run_slice_h (P := P) W t A n c (by rw [he]; exact ht) kd (k : Int) (by omega) (by omega)
 rw [h]
 simp [sizeOf, typeInfo, he, hi, Result.andThen, sliced, hadd]
/-- l[k:] -/
theorem cut_from (t e : TypeId) {i : TypeInfo} (kd : IntKind) (ht : P.underlying t = some (.slice e)) (hi : P.info? e = some i) {sz : Nat} (hsz : i.size = sz) (A : Option Addr) (n c k : Nat) (hk : k ≤ n) (hc : n ≤ c) :
  ∃ A' : Option Addr, (∀ W : World, (Instr.slice t (.slice A n c) (some (.int kd (k : Int))) none none).run P W = .ok (.slice A' (n - k) (c - k)) W) ∧ (∀ (α : Type) (enc : α → List Value) (W : World) (l : List α), Rd enc sz W A n l → Rd enc sz W A' (n - k) (l.drop k)) := by
 have he : P.elem t = e := by simp [Program.elem, ht]
 refine ⟨if c = k then A else A.map (·.add (k * sz)), fun W => ?_, fun α enc W l h => h.drop hk hc⟩
 have h := run_slice_l (P := P) W t A n c (by rw [he]; exact ht) kd (k : Int) (by omega) (by omega)
 rw [h]
 simp [sizeOf, typeInfo, he, hi, Result.andThen, sliced, hsz]
end

theorem Try.infoInt : (Try.prog.info? 3).map (fun i => (i.zero, i.size, i.bytes)) = some (some (.int .i64 0), 1, 8) := by kernel_rfl

end Go.Proofs.Ytcafmodenbifhaa
