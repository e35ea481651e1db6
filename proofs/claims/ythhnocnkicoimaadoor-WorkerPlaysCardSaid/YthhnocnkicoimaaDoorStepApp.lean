/-
 APPEND at a step of a region that draws its order.
-/
import Derived.Test.YthhnocnkicoimaaDoorLib
import Derived.Maps.AppendAt
import Derived.Deep.RegionHeld3
import Derived.BigQuiet
set_option linter.unusedVariables false
set_option linter.unusedSimpArgs false
namespace Go.Proofs.YthhnocnkicoimaaDoor
open Go.RowKit

section
variable {P : Program} {α : Type} {enc : α → List Value} {ops : Array Oper} {o : Oper} {a : Act} {K : Act → World → Prop} {Q : Exit → Act → World → Prop} {E : Prop} {w : World}
theorem Rd.flat_cells_ {sz m : Nat} {ad : Addr} {news : List α} (henc : ∀ x, (enc x).length = sz) (hr : Rd enc sz w (some ad) m news) : ∀ j u, (news.flatMap enc)[j]? = some u → w.cell? (ad.add j) = some u := by
 intro j u hu
 have hm : 0 < m := by
  rcases Nat.eq_zero_or_pos m with h0 | h0
  ·have : news = [] := List.eq_nil_of_length_eq_zero (by have := hr.len; omega)
   subst this
   simp at hu
  ·exact h0
 obtain ⟨b0, o0, he, _, hc⟩ := hr.cells hm
 injection he with he
 subst he
 rw [add_at]
 have key : ∀ (r : List α) (j : Nat) (u : Value), (r.flatMap enc)[j]? = some u → ∃ i x k, r[i]? = some x ∧ (enc x)[k]? = some u ∧ j = i * sz + k := by
  intro r
  induction r with
  | nil => intro j u hu; simp at hu
  | cons y r ih =>
   intro j u hu
   rw [List.flatMap_cons] at hu
   rcases Nat.lt_or_ge j (enc y).length with hlt | hge
   ·rw [List.getElem?_append_left hlt] at hu
    exact ⟨0, y, j, rfl, hu, by omega⟩
   ·rw [List.getElem?_append_right hge] at hu
    obtain ⟨i, x, k, h1, h2, h3⟩ := ih _ _ hu
    refine ⟨i + 1, x, k, by simpa using h1, h2, ?_⟩
    rw [henc] at h3 hge
    rw [Nat.add_mul]
    omega
 obtain ⟨i, y, k, h1, h2, rfl⟩ := key news j u hu
 exact hc i y h1 k u h2
/-- append(s, x...), at a step of a region that draws its order. -/
theorem step_app_ {sz : Nat} (henc : ∀ x, (enc x).length = sz) (hone : ∀ x, ∀ u ∈ enc x, u.oneCell' = true) (hgd : o.guard = none) (s x : Operand) (t : TypeId)
  (ho : o.op = .call { callee := .builtin .append, args := #[s, x], argTypes := #[t, t] })
  (e : TypeId) (z : Value) (bytes : Nat) (ht : P.underlying t = some (.slice e)) (hinfo : (P.info? e).map (fun i => (i.zero, i.size, i.bytes)) = some (some z, sz, bytes)) (hzs : z.cells.size = sz) (hsz : 0 < sz)
  (base : Nat) (A : Option Addr) (n c : Nat) (l : List α) (hs : a.eval s = .slice A n c) (hown : OwnL enc e sz w base A n c l)
  (B : Option Addr) (m d : Nat) (news : List α) (hx : a.eval x = .slice B m d) (hr : Rd enc sz w B m news) (N : Nat) (hN : N = n + m) (L : List α) (hL : L = l ++ news)
  (h63 : n + m ≤ 9223372036854775807) (hbytes : (n + m) * bytes ≤ 140737488355328) (hbase : base ≤ w.heap.size)
  (h : ∀ A' c' w', OwnL enc e sz w' base A' N c' L → w.grownBy w' (Value.slice A n c).ownBlock → K (a.put o.dst (.slice A' N c')) w') :
  if Region.wanted o (yielded ops a.tmps) = true then Oper.wp P o a w K Q else E := by
 subst hN
 subst hL
 obtain ⟨i, hi, hzz⟩ := Option.map_eq_some_iff.1 hinfo
 simp only [Prod.mk.injEq] at hzz
 obtain ⟨hz0, hz1, hz2⟩ := hzz
 have hall : ∀ u ∈ news.flatMap enc, u.oneCell' = true := by
  intro u hu
  obtain ⟨y, _, hy⟩ := List.mem_flatMap.1 hu
  exact hone y u hy
 have key : ∃ A' c' w', (Builtin.append_ #[t, t] o.type #[.slice A n c, .slice B m d]).run P w = .ok (.slice A' (n + m) c') w' ∧ OwnL enc e sz w' base A' (n + m) c' (l ++ news) ∧ w.grownBy w' (Value.slice A n c).ownBlock := by
  cases B with
  | some ad =>
   obtain ⟨v', w', hrun, hown', hg, _, _⟩ := run_append_own_at (P := P) w base t o.type e i z sz bytes ht hi hz0 hz1 hz2 hzs hsz (.slice A n c) n (l.flatMap enc) hown.own ad m d (news.flatMap enc) (by rw [flatMap_len henc, hr.len]) (Rd.flat_cells_ henc hr) hall (by simp only [maxLen]; omega) hbytes hbase
   have hform : ∃ A' c', v' = .slice A' (n + m) c' := by
    rcases hown'.2 with ⟨rfl, h0⟩ | ⟨g, cap, cur, hv, _⟩
    ·exact ⟨none, 0, by rw [h0]⟩
    ·exact ⟨_, _, hv⟩
   obtain ⟨A', c', rfl⟩ := hform
   exact ⟨A', c', w', hrun, ⟨by rw [List.flatMap_append]; exact hown', by rw [List.length_append, hown.len, hr.len]⟩, hg⟩
  | none =>
   have hm : m = 0 := by
    rcases Nat.eq_zero_or_pos m with h0 | h0
    ·exact h0
    ·obtain ⟨_, _, he, _⟩ := hr.cells h0
     cases he
   subst hm
   have hn : news = [] := List.eq_nil_of_length_eq_zero hr.len
   subst hn
   have hrun : (Builtin.append_ #[t, t] o.type #[.slice A n c, .slice none 0 d]).run P w = .ok (.slice A n c) w := by
    rcases hown.own.2 with ⟨hv, h0⟩ | ⟨g, cap, cur, hv, _, _, hnc, _⟩
    ·cases hv
     simp [Builtin.append_, run_underlying ht, sizeOf, typeInfo, hi, Builtin.lenOf, Builtin.firstCells]
    ·cases hv
     simp [Builtin.append_, run_underlying ht, sizeOf, typeInfo, hi, Builtin.lenOf, Builtin.firstCells, hnc, storeCells]
   exact ⟨A, c, w, hrun, by rw [List.append_nil]; exact hown, World.grownBy.refl _ _⟩
 obtain ⟨A', c', w', hrun, h2, h3⟩ := key
 have hw : Region.wanted o (yielded ops a.tmps) = true := by simp [Region.wanted, hgd]
 rw [if_pos hw]
 unfold Oper.wp execOp
 simp only [ho, resolve, invoke, builtin, Sem.run_bind, Sem.run_pure, Result.andThen_ok, List.map_toArray, List.map_cons, List.map_nil, hs, hx, hrun]
 exact h A' c' w' h2 h3
end

end Go.Proofs.YthhnocnkicoimaaDoor
