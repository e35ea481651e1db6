/-
 A map[int]int AS A SET OF KEYS: 'MapSet w mv row': the map value mv (nil too) has just the keys of the rising row. What its operations do, as equations on their runs.
-/
import Derived.Test.YtcafmodenbifhaaPlain
set_option linter.unusedVariables false
set_option linter.unusedSimpArgs false
namespace Go.Proofs.Ytcafmodenbifhaa
open Go.RowKit Go.Maps

theorem lawI : Keyed Try.prog 3 := int_keyed Try.underlying3
theorem zeroI (w : World) : (zeroValue 3).run Try.prog w = .ok (.int .i64 0) w := by kernel_rfl

def Rising (row : List Int) : Prop := row.Pairwise (· < ·)
theorem mem_putR (l : List Int) (x y : Int) : y ∈ putR l x ↔ y = x ∨ y ∈ l := by
 unfold putR
 split
 ·rename_i h
  exact ⟨.inr, fun h' => h'.elim (fun e => e ▸ h) id⟩
 ·have e := List.takeWhile_append_dropWhile (p := fun y => decide (y < x)) (l := l)
  constructor
  ·intro h
   rcases List.mem_append.1 h with h | h
   ·exact .inr (e ▸ List.mem_append_left _ h)
   ·rcases List.mem_cons.1 h with h | h
    ·exact .inl h
    ·exact .inr (e ▸ List.mem_append_right _ h)
  ·rintro (rfl | h)
   ·simp
   ·rw [← e] at h
    rcases List.mem_append.1 h with h | h
    ·exact List.mem_append_left _ h
    ·exact List.mem_append_right _ (List.mem_cons_of_mem _ h)
theorem length_putR (l : List Int) (x : Int) : (putR l x).length = if x ∈ l then l.length else l.length + 1 := by
 unfold putR
 split
 ·rfl
 ·have e := congrArg List.length (List.takeWhile_append_dropWhile (p := fun y => decide (y < x)) (l := l))
  rw [List.length_append] at e
  rw [List.length_append, List.length_cons]
  omega
theorem rising_tail_ge {x : Int} : ∀ {l : List Int}, Rising l → x ∉ l → ∀ y ∈ l.dropWhile (fun y => decide (y < x)), x < y
 | [], _, _, y, hy => by simp at hy
 | a :: r, h, hx, y, hy => by
  obtain ⟨h1, h2⟩ := List.pairwise_cons.1 h
  by_cases ha : a < x
  ·rw [List.dropWhile_cons_of_pos (by simpa using ha)] at hy
   exact rising_tail_ge h2 (fun h => hx (List.mem_cons_of_mem _ h)) y hy
  ·rw [List.dropWhile_cons_of_neg (by simpa using ha)] at hy
   have hne : a ≠ x := fun e => hx (e ▸ List.mem_cons_self)
   rcases List.mem_cons.1 hy with rfl | hy
   ·omega
   ·have := h1 y hy; omega
theorem rising_putR {l : List Int} (h : Rising l) (x : Int) : Rising (putR l x) := by
 unfold putR
 split
 ·exact h
 ·rename_i hx
  have e := List.takeWhile_append_dropWhile (p := fun y => decide (y < x)) (l := l)
  have h' : Rising (l.takeWhile (fun y => decide (y < x)) ++ l.dropWhile (fun y => decide (y < x))) := by rw [e]; exact h
  obtain ⟨h1, h2, h3⟩ := List.pairwise_append.1 h'
  refine List.pairwise_append.2 ⟨h1, List.pairwise_cons.2 ⟨rising_tail_ge h hx, h2⟩, fun a ha b hb => ?_⟩
  have hax : a < x := by
   have := List.all_takeWhile (p := fun y => decide (y < x)) (l := l)
   simpa using List.all_eq_true.1 this a ha
  rcases List.mem_cons.1 hb with rfl | hb
  ·exact hax
  ·have := rising_tail_ge h hx b hb; omega
theorem rising_filter {l : List Int} (h : Rising l) (p : Int → Bool) : Rising (l.filter p) := h.filter p
theorem rising_nodup {l : List Int} (h : Rising l) : l.Nodup := h.imp (fun {a b} (hab : a < b) => by omega)
theorem rising_ext {l m : List Int} (hl : Rising l) (hm : Rising m) (h : ∀ x, x ∈ l ↔ x ∈ m) : l = m := by
 have hp : l.Perm m := (List.perm_ext_iff_of_nodup (rising_nodup hl) (rising_nodup hm)).2 h
 exact hp.eq_of_pairwise (fun a b _ _ h1 h2 => by omega) hl hm
theorem length_filter_ne {l : List Int} (h : l.Nodup) (x : Int) : (l.filter (· != x)).length + (if x ∈ l then 1 else 0) = l.length := by
 induction l with
 | nil => simp
 | cons a r ih =>
  obtain ⟨h1, h2⟩ := List.nodup_cons.1 h
  have ih := ih h2
  by_cases hax : a = x
  ·subst hax
   have : r.filter (· != a) = r := List.filter_eq_self.2 (fun b hb => by simp; exact fun e => h1 (e ▸ hb))
   simp [this]
  ·have hxa : x ≠ a := fun e => hax e.symm
   simp [hax, hxa] at ih ⊢
   split at ih <;> simp_all <;> omega

/-- The datum's keys are the row's. -/
structure SetD (D : DataW Unit) (row : List Int) : Prop where
 tidy : Tidy D
 has : ∀ k, Maps.has D (.int .i64 k) = decide (k ∈ row)
 size : Maps.size D = row.length
theorem isKey_int (k : Int) : WideAt.IsKeyLit (.int .i64 k) := by simp [WideAt.IsKeyLit]
theorem setD_empty : SetD (.map []) [] := ⟨tidy_empty, fun k => rfl, rfl⟩
theorem setD_put {D : DataW Unit} {row : List Int} (h : SetD D row) (x : Int) (d : DataW Unit) : SetD (D.put (.int .i64 x) d) (putR row x) := by
 refine ⟨h.tidy.put (isKey_int x) d, fun k => ?_, ?_⟩
 ·by_cases e : k = x
  ·subst e
   rw [has_put_same h.tidy.isMap (isKey_int k)]
   exact (decide_eq_true ((mem_putR _ _ _).2 (.inl rfl))).symm
  ·rw [has_put_other (by intro e'; cases e'; exact e rfl), h.has]
   exact decide_eq_decide.2 ⟨fun hm => (mem_putR _ _ _).2 (.inr hm), fun hm => ((mem_putR _ _ _).1 hm).resolve_left e⟩
 ·rw [size_put h.tidy, h.has, h.size, length_putR]
  by_cases hx : x ∈ row <;> simp [hx]
theorem setD_del {D : DataW Unit} {row : List Int} (h : SetD D row) (hr : row.Nodup) (x : Int) : SetD (D.del (.int .i64 x)) (row.filter (· != x)) := by
 refine ⟨h.tidy.del _, fun k => ?_, ?_⟩
 ·by_cases e : k = x
  ·subst e
   rw [has_del_same]
   simp
  ·rw [has_del_other (by intro e'; cases e'; exact e rfl), h.has]
   exact decide_eq_decide.2 ⟨fun hm => List.mem_filter.2 ⟨hm, by simpa using e⟩, fun hm => (List.mem_filter.1 hm).1⟩
 ·have h1 := size_del (k := .int .i64 x) h.tidy
  have h2 := length_filter_ne hr x
  rw [h.has, h.size] at h1
  by_cases hx : x ∈ row
  ·simp only [hx, decide_true, if_true] at h1 h2; omega
  ·simp only [hx, decide_false, if_false, Bool.false_eq_true] at h1 h2; omega

/-- A map value (nil too) has just these keys. -/
structure MapSet (w : World) (mv : Value) (row : List Int) : Prop where
 rising : Rising row
 wf : ∀ x ∈ row, wf64 x
 is : (mv = .map none ∧ row = []) ∨ ∃ b D, mv = .map (some b) ∧ w.ownsMap Try.prog 3 (plainElem Try.prog 3) b row.length D ∧ SetD D row
theorem owns_tight {P : Program} {k : TypeId} {R : Value → Option (DataW Unit × List MemPlace)} {w : World} {b n : Nat} {D : DataW Unit} (h : w.ownsMap P k R b n D) : w.ownsMap P k R b (Maps.size D) D := by
 obtain ⟨es, clock, hb, F, hs, rfl⟩ := h
 exact ⟨es, clock, hb, F, by simp [Maps.size, length_sorted], rfl⟩
def mapBlk : Value → Option Nat
 | .map r => r
 | _ => none
section
variable {w w' : World} {mv : Value} {row : List Int}
theorem MapSet.nil (w : World) : MapSet w (.map none) [] := ⟨List.Pairwise.nil, by simp, .inl ⟨rfl, rfl⟩⟩
theorem MapSet.step (h : MapSet w mv row) (hm : ∀ b, mv = .map (some b) → b < w.heap.size → w'.heap[b]? = w.heap[b]?) : MapSet w' mv row := by
 refine ⟨h.rising, h.wf, ?_⟩
 rcases h.is with h0 | ⟨b, D, hv, ho, hd⟩
 ·exact .inl h0
 ·refine .inr ⟨b, D, hv, ?_, hd⟩
  have hlt := ho.lt
  obtain ⟨es, clock, hb, r⟩ := ho
  exact ⟨es, clock, (hm b hv hlt).trans hb, r⟩
theorem MapSet.below (h : MapSet w mv row) (hb : Below w.heap.size w w') : MapSet w' mv row := h.step fun b _ hl => hb.block b hl
theorem MapSet.alloc (h : MapSet w mv row) (o : Obj) : MapSet (w.alloc o) mv row := h.below ((Below.refl _ _).alloc (Nat.le_refl _) o)
theorem MapSet.drewN (h : MapSet w mv row) (n : Nat) : MapSet (w.drewN n) mv row := h.step fun _ _ _ => rfl
theorem MapSet.kept {F : Nat → Prop} (h : MapSet w mv row) (hk : Kept F w w') (hF : ∀ b, mv = .map (some b) → ¬ F b) : MapSet w' mv row := h.step fun b hv hl => hk.block b hl (hF b hv)
theorem MapSet.shape (h : MapSet w mv row) : ∃ r, mv = .map r := by
 rcases h.is with ⟨h0, _⟩ | ⟨b, D, hv, _⟩
 ·exact ⟨_, h0⟩
 ·exact ⟨_, hv⟩
theorem MapSet.lt (h : MapSet w mv row) : ∀ b, mv = .map (some b) → b < w.heap.size := by
 intro b hb
 rcases h.is with ⟨h0, _⟩ | ⟨b', D, hv, ho, _⟩
 ·rw [h0] at hb; cases hb
 ·rw [hv] at hb; cases hb; exact ho.lt
/-- The map's block is no row of cells. -/
theorem MapSet.ne_blk (h : MapSet w mv row) {g : Nat} {t : TypeId} {cs : Array Value} (hb : Blk w g t cs) : mv ≠ .map (some g) := by
 intro e
 rcases h.is with ⟨h0, _⟩ | ⟨b, D, hv, ho, _⟩
 ·rw [h0] at e; cases e
 ·rw [hv] at e; cases e
  obtain ⟨es, clock, hb', _⟩ := ho
  unfold Blk at hb
  rw [hb] at hb'
  cases hb'
theorem MapSet.ne_cell (h : MapSet w mv row) {p : Addr} {v : Value} (hc : w.cell? p = some v) : mv ≠ .map (some p.block) := by
 intro e
 rcases h.is with ⟨h0, _⟩ | ⟨b, D, hv, ho, _⟩
 ·rw [h0] at e; cases e
 ·rw [hv] at e; cases e
  obtain ⟨es, clock, hb', _⟩ := ho
  simp [World.cell?, hb'] at hc
theorem MapSet.look (h : MapSet w mv row) {x : Int} (hx : wf64 x) : ∃ c, (Instr.lookup 39 mv (.int .i64 x) true).run Try.prog w = .ok (.tuple #[.int .i64 c, .bool (decide (x ∈ row))]) w := by
 have hkey := keyOf_int_mk Try.underlying3 hx
 rcases h.is with ⟨rfl, rfl⟩ | ⟨b, D, rfl, ho, hd⟩
 ·exact ⟨0, by simpa using look_nil (w := w) true lawI Try.underlying39 (zeroI _) hkey⟩
 ·obtain ⟨v, ps, hrun, hv⟩ := ho.look_ok lawI Try.underlying39 (zeroI w) (plainElem_int Try.underlying3 (by decide)) hkey
  obtain ⟨c, rfl, _, _⟩ := plainElem_int_inv Try.underlying3 hv
  exact ⟨c, by rw [hrun, hd.has]⟩
theorem MapSet.len (h : MapSet w mv row) (ty : TypeId) : (Builtin.len_ #[39] ty #[mv]).run Try.prog w = .ok (.int .i64 (row.length : Int)) w := by
 rcases h.is with ⟨rfl, rfl⟩ | ⟨b, D, rfl, ho, hd⟩
 ·simpa using len_nil (w := w) Try.underlying39 ty
 ·rw [ho.len Try.underlying39 ty, hd.size]
theorem MapSet.made (w : World) : MapSet (w.alloc (.map #[] 0)) (.map (some w.heap.size)) [] :=
 ⟨List.Pairwise.nil, by simp, .inr ⟨w.heap.size, _, rfl, World.ownsMap_made w _ _ _, setD_empty⟩⟩
theorem MapSet.store {b : Nat} (h : MapSet w (.map (some b)) row) {x y : Int} (hx : wf64 x) (hy : wf64 y) (hn : row.length < 9223372036854775807) :
  ∃ w', (Instr.mapUpdate 39 (.map (some b)) (.int .i64 x) (.int .i64 y)).run Try.prog w = .ok () w' ∧ MapSet w' (.map (some b)) (putR row x) ∧ w.grownBy w' (some b) ∧ w'.heap.size = w.heap.size := by
 rcases h.is with ⟨h0, _⟩ | ⟨b', D, hv, ho, hd⟩
 ·cases h0
 ·cases hv
  obtain ⟨w', hrun, ho', ht⟩ := ho.store lawI Try.underlying39 (by simp only [maxLen]; omega) (keyOf_int_mk Try.underlying3 hx) (plainElem_int Try.underlying3 hy)
  have hd' := setD_put hd x (.lit (.int .i64 y))
  refine ⟨w', hrun, ⟨rising_putR h.rising x, fun z hz => ((mem_putR _ _ _).1 hz).elim (fun e => e ▸ hx) (h.wf z), .inr ⟨b, _, rfl, ?_, hd'⟩⟩, ht.grown, ?_⟩
  ·have := owns_tight ho'
   rwa [hd'.size] at this
  ·obtain ⟨es, clock, es', clock', _, rfl⟩ := ht
   simp [ChangeMaps.setBlock]
theorem MapSet.del (h : MapSet w mv row) {x : Int} (hx : wf64 x) (ty : TypeId) :
  ∃ w', (Builtin.delete_ #[39, 3] ty #[mv, .int .i64 x]).run Try.prog w = .ok (.tuple #[]) w' ∧ MapSet w' mv (row.filter (· != x)) ∧ w.grownBy w' (mapBlk mv) ∧ w'.heap.size = w.heap.size := by
 have hkey := keyOf_int_mk Try.underlying3 hx
 rcases h.is with ⟨rfl, rfl⟩ | ⟨b, D, rfl, ho, hd⟩
 ·exact ⟨w, drop_nil (w := w) lawI Try.underlying39 hkey ty, MapSet.nil w, World.grownBy.refl w _, rfl⟩
 ·obtain ⟨w', hrun, ho', ht⟩ := ho.drop lawI Try.underlying39 hkey ty
  have hd' := setD_del hd (rising_nodup h.rising) x
  refine ⟨w', hrun, ⟨rising_filter h.rising _, fun z hz => h.wf z (List.mem_filter.1 hz).1, .inr ⟨b, _, rfl, ?_, hd'⟩⟩, ht.grown, ?_⟩
  ·have := owns_tight ho'
   rwa [hd'.size] at this
  ·obtain ⟨es, clock, es', clock', _, rfl⟩ := ht
   simp [ChangeMaps.setBlock]
end

end Go.Proofs.Ytcafmodenbifhaa
