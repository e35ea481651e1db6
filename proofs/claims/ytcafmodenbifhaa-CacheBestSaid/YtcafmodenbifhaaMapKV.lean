/-
 A map[int]int WITH ITS VALUES: 'MapKV w mv row f': the keys of the rising row, at each key k the value f k. Its operations as equations on their runs.
-/
import Derived.Test.YtcafmodenbifhaaSetL
set_option linter.unusedVariables false
set_option linter.unusedSimpArgs false
namespace Go.Proofs.Ytcafmodenbifhaa
open Go.RowKit Go.Maps

def litVal : DataW Unit → Int
 | .lit (.int _ n) => n
 | _ => 0
def ValD (D : DataW Unit) (row : List Int) (f : Int → Int) : Prop := ∀ k ∈ row, ∀ zd, D.atKey (.int .i64 k) zd = .lit (.int .i64 (f k))
theorem valD_put {D : DataW Unit} {row : List Int} {f : Int → Int} (h : SetD D row) (hv : ValD D row f) (x y : Int) : ValD (D.put (.int .i64 x) (.lit (.int .i64 y))) (putR row x) (fun k => if k = x then y else f k) := by
 intro k hk zd
 by_cases e : k = x
 ·subst e
  rw [atKey_put_same h.tidy.isMap (isKey_int k)]
  show _ = DataW.lit (Lit.int .i64 (if k = k then y else f k))
  rw [if_pos rfl]
 ·rw [atKey_put_other (by intro e'; cases e'; exact e rfl)]
  show _ = DataW.lit (Lit.int .i64 (if k = x then y else f k))
  rw [if_neg e]
  exact hv k (((mem_putR _ _ _).1 hk).resolve_left e) zd
theorem valD_del {D : DataW Unit} {row : List Int} {f : Int → Int} (hv : ValD D row f) (x : Int) : ValD (D.del (.int .i64 x)) (row.filter (· != x)) f := by
 intro k hk zd
 obtain ⟨h1, h2⟩ := List.mem_filter.1 hk
 have e : k ≠ x := by simpa using h2
 rw [atKey_del_other (by intro e'; cases e'; exact e rfl)]
 exact hv k h1 zd

structure MapKV (w : World) (mv : Value) (row : List Int) (f : Int → Int) : Prop where
 rising : Rising row
 wf : ∀ x ∈ row, wf64 x ∧ wf64 (f x)
 is : (mv = .map none ∧ row = []) ∨ ∃ b D, mv = .map (some b) ∧ w.ownsMap Try.prog 3 (plainElem Try.prog 3) b row.length D ∧ SetD D row ∧ ValD D row f
section
variable {w w' : World} {mv : Value} {row : List Int} {f : Int → Int}
theorem MapKV.set_ (h : MapKV w mv row f) : MapSet w mv row :=
 ⟨h.rising, fun x hx => (h.wf x hx).1, h.is.imp id (fun ⟨b, D, h1, h2, h3, _⟩ => ⟨b, D, h1, h2, h3⟩)⟩
theorem MapKV.nil (w : World) (f : Int → Int) : MapKV w (.map none) [] f := ⟨List.Pairwise.nil, by simp, .inl ⟨rfl, rfl⟩⟩
theorem MapKV.made (w : World) (f : Int → Int) : MapKV (w.alloc (.map #[] 0)) (.map (some w.heap.size)) [] f :=
 ⟨List.Pairwise.nil, by simp, .inr ⟨w.heap.size, _, rfl, World.ownsMap_made w _ _ _, setD_empty, fun k hk => by simp at hk⟩⟩
theorem MapKV.step (h : MapKV w mv row f) (hm : ∀ b, mv = .map (some b) → b < w.heap.size → w'.heap[b]? = w.heap[b]?) : MapKV w' mv row f := by
 refine ⟨h.rising, h.wf, ?_⟩
 rcases h.is with h0 | ⟨b, D, hv, ho, hd⟩
 ·exact .inl h0
 ·refine .inr ⟨b, D, hv, ?_, hd⟩
  have hlt := ho.lt
  obtain ⟨es, clock, hb, r⟩ := ho
  exact ⟨es, clock, (hm b hv hlt).trans hb, r⟩
theorem MapKV.below (h : MapKV w mv row f) (hb : Below w.heap.size w w') : MapKV w' mv row f := h.step fun b _ hl => hb.block b hl
theorem MapKV.alloc (h : MapKV w mv row f) (o : Obj) : MapKV (w.alloc o) mv row f := h.below ((Below.refl _ _).alloc (Nat.le_refl _) o)
theorem MapKV.drewN (h : MapKV w mv row f) (n : Nat) : MapKV (w.drewN n) mv row f := h.step fun _ _ _ => rfl
theorem MapKV.setCell (h : MapKV w mv row f) {p : Addr} (hp : mv ≠ .map (some p.block)) (u : Value) : MapKV (w.setCell p u) mv row f :=
 h.step fun b hb _ => Below.heap_setCell w p u b (fun e => hp (by rw [hb, e]))
theorem MapKV.kept {F : Nat → Prop} (h : MapKV w mv row f) (hk : Kept F w w') (hF : ∀ b, mv = .map (some b) → ¬ F b) : MapKV w' mv row f := h.step fun b hv hl => hk.block b hl (hF b hv)
/-- v, ok := m[x] -/
theorem MapKV.look (h : MapKV w mv row f) {x : Int} (hx : wf64 x) : (Instr.lookup 39 mv (.int .i64 x) true).run Try.prog w = .ok (.tuple #[.int .i64 (if x ∈ row then f x else 0), .bool (decide (x ∈ row))]) w := by
 have hkey := keyOf_int_mk Try.underlying3 hx
 rcases h.is with ⟨rfl, rfl⟩ | ⟨b, D, rfl, ho, hd, hv⟩
 ·simpa using look_nil (w := w) true lawI Try.underlying39 (zeroI _) hkey
 ·obtain ⟨v, ps, hrun, hr⟩ := ho.look_ok lawI Try.underlying39 (zeroI w) (plainElem_int Try.underlying3 (by decide)) hkey
  obtain ⟨c, rfl, hc, _⟩ := plainElem_int_inv Try.underlying3 hr
  rw [hrun, hd.has]
  by_cases hm : x ∈ row
  ·have h2 : DataW.lit (H := Unit) (.int .i64 (f x)) = .lit (.int .i64 c) := (hv x hm (.lit (.int .i64 0))).symm.trans (congrArg Prod.fst hc)
   have h3 : f x = c := congrArg litVal h2
   rw [if_pos hm, h3]
  ·have h2 : DataW.lit (H := Unit) (.int .i64 0) = .lit (.int .i64 c) := (atKey_of_not_has (D := D) (k := .int .i64 x) (by rw [hd.has]; exact decide_eq_false hm) (.lit (.int .i64 0))).symm.trans (congrArg Prod.fst hc)
   have h3 : 0 = c := congrArg litVal h2
   rw [if_neg hm, h3]
/-- m[x] -/
theorem MapKV.get_ (h : MapKV w mv row f) {x : Int} (hx : wf64 x) : (Instr.lookup 39 mv (.int .i64 x) false).run Try.prog w = .ok (.int .i64 (if x ∈ row then f x else 0)) w := by
 have hkey := keyOf_int_mk Try.underlying3 hx
 rcases h.is with ⟨rfl, rfl⟩ | ⟨b, D, rfl, ho, hd, hv⟩
 ·simpa using look_nil (w := w) false lawI Try.underlying39 (zeroI _) hkey
 ·obtain ⟨c, hrun, hc, _⟩ := ho.lookup_int lawI Try.underlying39 Try.underlying3 (zeroI w) hkey
  rw [hrun]
  by_cases hm : x ∈ row
  ·have h2 := (hv x hm (.lit (.int .i64 0))).symm.trans hc
   have h3 : f x = c := congrArg litVal h2
   rw [if_pos hm, h3]
  ·have h2 := (atKey_of_not_has (D := D) (k := .int .i64 x) (by rw [hd.has]; exact decide_eq_false hm) (.lit (.int .i64 0))).symm.trans hc
   have h3 : 0 = c := congrArg litVal h2
   rw [if_neg hm, h3]
theorem MapKV.store {b : Nat} (h : MapKV w (.map (some b)) row f) {x y : Int} (hx : wf64 x) (hy : wf64 y) (hn : row.length < 9223372036854775807) :
  ∃ w', (Instr.mapUpdate 39 (.map (some b)) (.int .i64 x) (.int .i64 y)).run Try.prog w = .ok () w' ∧ MapKV w' (.map (some b)) (putR row x) (fun k => if k = x then y else f k) ∧ w.grownBy w' (some b) ∧ w'.heap.size = w.heap.size := by
 rcases h.is with ⟨h0, _⟩ | ⟨b', D, hv, ho, hd, hval⟩
 ·cases h0
 ·cases hv
  obtain ⟨w', hrun, ho', ht⟩ := ho.store lawI Try.underlying39 (by simp only [maxLen]; omega) (keyOf_int_mk Try.underlying3 hx) (plainElem_int Try.underlying3 hy)
  have hd' := setD_put hd x (.lit (.int .i64 y))
  refine ⟨w', hrun, ⟨rising_putR h.rising x, fun z hz => ?_, .inr ⟨b, _, rfl, ?_, hd', valD_put hd hval x y⟩⟩, ht.grown, ?_⟩
  ·by_cases e : z = x
   ·subst e; simpa using ⟨hx, hy⟩
   ·have := h.wf z (((mem_putR _ _ _).1 hz).resolve_left e)
    simpa [e] using this
  ·have := owns_tight ho'
   rwa [hd'.size] at this
  ·obtain ⟨es, clock, es', clock', _, rfl⟩ := ht
   simp [ChangeMaps.setBlock]
theorem MapKV.del (h : MapKV w mv row f) {x : Int} (hx : wf64 x) :
  ∃ w', (∀ ty, (Builtin.delete_ #[39, 3] ty #[mv, .int .i64 x]).run Try.prog w = .ok (.tuple #[]) w') ∧ MapKV w' mv (row.filter (· != x)) f ∧ w.grownBy w' (mapBlk mv) ∧ w'.heap.size = w.heap.size := by
 have hkey := keyOf_int_mk Try.underlying3 hx
 rcases h.is with ⟨rfl, rfl⟩ | ⟨b, D, rfl, ho, hd, hval⟩
 ·exact ⟨w, fun ty => drop_nil (w := w) lawI Try.underlying39 hkey ty, MapKV.nil w f, World.grownBy.refl w _, rfl⟩
 ·obtain ⟨w', hrun, ho', ht⟩ := ho.drop lawI Try.underlying39 hkey 0
  have hd' := setD_del hd (rising_nodup h.rising) x
  refine ⟨w', fun ty => hrun, ⟨rising_filter h.rising _, fun z hz => h.wf z (List.mem_filter.1 hz).1, .inr ⟨b, _, rfl, ?_, hd', valD_del hval x⟩⟩, ht.grown, ?_⟩
  ·have := owns_tight ho'
   rwa [hd'.size] at this
  ·obtain ⟨es, clock, es', clock', _, rfl⟩ := ht
   simp [ChangeMaps.setBlock]
theorem MapKV.ne_blk (h : MapKV w mv row f) {g : Nat} {t : TypeId} {cs : Array Value} (hb : Blk w g t cs) : mv ≠ .map (some g) := h.set_.ne_blk hb
theorem MapKV.lt (h : MapKV w mv row f) : ∀ b, mv = .map (some b) → b < w.heap.size := h.set_.lt
end

end Go.Proofs.Ytcafmodenbifhaa
