/-
  A map[int]T WITH ITS VALUES, T any type: 'MapV t e w mv row f': the keys of the rising row, at each key k the value f k (a model's value). Every value is its own datum (DataW over Value, 'held').
-/
import Derived.Test.YtcafmodenbifhaaSetL
set_option linter.unusedVariables false
set_option linter.unusedSimpArgs false
namespace Go.Proofs.Ytcafmodenbifhaa
open Go.RowKit Go.Maps

/-- What a map[int]T is made of. -/
structure MapTy (t e : TypeId) (z : Value) : Prop where
  ht : Try.prog.underlying t = some (.map 3 e)
  hz : ∀ w, (zeroValue e).run Try.prog w = .ok z w

def heldR (v : Value) : Option (DataW Value × List MemPlace) := some (.held v, [])
def heldVal : DataW Value → Value
  | .held v => v
  | _ => undef
theorem heldR_inv {v : Value} {z : DataW Value × List MemPlace} (h : heldR v = some z) : z.1 = .held v := by
  unfold heldR at h
  injection h with h
  rw [← h]

/-- The datum's keys are the row's. -/
structure SetV (D : DataW Value) (row : List Int) : Prop where
  tidy : Tidy D
  has : ∀ k, Maps.has D (.int .i64 k) = decide (k ∈ row)
  size : Maps.size D = row.length
theorem setV_empty : SetV (.map []) [] := ⟨tidy_empty, fun k => rfl, rfl⟩
theorem setV_put {D : DataW Value} {row : List Int} (h : SetV D row) (x : Int) (d : DataW Value) : SetV (D.put (.int .i64 x) d) (putR row x) := by
  refine ⟨h.tidy.put (isKey_int x) d, fun k => ?_, ?_⟩
  · by_cases e : k = x
    · subst e
      rw [has_put_same h.tidy.isMap (isKey_int k)]
      exact (decide_eq_true ((mem_putR _ _ _).2 (.inl rfl))).symm
    · rw [has_put_other (by intro e'; cases e'; exact e rfl), h.has]
      exact decide_eq_decide.2 ⟨fun hm => (mem_putR _ _ _).2 (.inr hm), fun hm => ((mem_putR _ _ _).1 hm).resolve_left e⟩
  · rw [size_put h.tidy, h.has, h.size, length_putR]
    by_cases hx : x ∈ row <;> simp [hx]
theorem setV_del {D : DataW Value} {row : List Int} (h : SetV D row) (hr : row.Nodup) (x : Int) : SetV (D.del (.int .i64 x)) (row.filter (· != x)) := by
  refine ⟨h.tidy.del _, fun k => ?_, ?_⟩
  · by_cases e : k = x
    · subst e
      rw [has_del_same]
      simp
    · rw [has_del_other (by intro e'; cases e'; exact e rfl), h.has]
      exact decide_eq_decide.2 ⟨fun hm => List.mem_filter.2 ⟨hm, by simpa using e⟩, fun hm => (List.mem_filter.1 hm).1⟩
  · have h1 := size_del (k := .int .i64 x) h.tidy
    have h2 := length_filter_ne hr x
    rw [h.has, h.size] at h1
    by_cases hx : x ∈ row
    · simp only [hx, decide_true, if_true] at h1 h2; omega
    · simp only [hx, decide_false, if_false, Bool.false_eq_true] at h1 h2; omega
theorem owns_tightV {P : Program} {k : TypeId} {R : Value → Option (DataW Value × List MemPlace)} {w : World} {b n : Nat} {D : DataW Value} (h : w.ownsMap P k R b n D) : w.ownsMap P k R b (Maps.size D) D := by
  obtain ⟨es, clock, hb, F, hs, rfl⟩ := h
  exact ⟨es, clock, hb, F, by simp [Maps.size, length_sorted], rfl⟩
def ValV (D : DataW Value) (row : List Int) (f : Int → Value) : Prop := ∀ k ∈ row, ∀ zd, D.atKey (.int .i64 k) zd = .held (f k)
theorem valV_put {D : DataW Value} {row : List Int} {f : Int → Value} (h : SetV D row) (hv : ValV D row f) (x : Int) (y : Value) : ValV (D.put (.int .i64 x) (.held y)) (putR row x) (fun k => if k = x then y else f k) := by
  intro k hk zd
  by_cases e : k = x
  · subst e
    rw [atKey_put_same h.tidy.isMap (isKey_int k)]
    show _ = DataW.held (if k = k then y else f k)
    rw [if_pos rfl]
  · rw [atKey_put_other (by intro e'; cases e'; exact e rfl)]
    show _ = DataW.held (if k = x then y else f k)
    rw [if_neg e]
    exact hv k (((mem_putR _ _ _).1 hk).resolve_left e) zd
theorem valV_del {D : DataW Value} {row : List Int} {f : Int → Value} (hv : ValV D row f) (x : Int) : ValV (D.del (.int .i64 x)) (row.filter (· != x)) f := by
  intro k hk zd
  obtain ⟨h1, h2⟩ := List.mem_filter.1 hk
  have e : k ≠ x := by simpa using h2
  rw [atKey_del_other (by intro e'; cases e'; exact e rfl)]
  exact hv k h1 zd

structure MapV (w : World) (mv : Value) (row : List Int) (f : Int → Value) : Prop where
  rising : Rising row
  wf : ∀ x ∈ row, wf64 x
  is : (mv = .map none ∧ row = []) ∨ ∃ b D, mv = .map (some b) ∧ w.ownsMap Try.prog 3 heldR b row.length D ∧ SetV D row ∧ ValV D row f
section
variable {w w' : World} {mv : Value} {row : List Int} {f : Int → Value} {t e : TypeId} {z : Value}
theorem MapV.nil (w : World) (f : Int → Value) : MapV w (.map none) [] f := ⟨List.Pairwise.nil, by simp, .inl ⟨rfl, rfl⟩⟩
theorem MapV.made (w : World) (f : Int → Value) : MapV (w.alloc (.map #[] 0)) (.map (some w.heap.size)) [] f :=
  ⟨List.Pairwise.nil, by simp, .inr ⟨w.heap.size, _, rfl, World.ownsMap_made w _ _ _, setV_empty, fun k hk => by simp at hk⟩⟩
theorem MapV.step (h : MapV w mv row f) (hm : ∀ b, mv = .map (some b) → b < w.heap.size → w'.heap[b]? = w.heap[b]?) : MapV w' mv row f := by
  refine ⟨h.rising, h.wf, ?_⟩
  rcases h.is with h0 | ⟨b, D, hv, ho, hd⟩
  · exact .inl h0
  · refine .inr ⟨b, D, hv, ?_, hd⟩
    have hlt := ho.lt
    obtain ⟨es, clock, hb, r⟩ := ho
    exact ⟨es, clock, (hm b hv hlt).trans hb, r⟩
theorem MapV.below (h : MapV w mv row f) (hb : Below w.heap.size w w') : MapV w' mv row f := h.step fun b _ hl => hb.block b hl
theorem MapV.alloc (h : MapV w mv row f) (o : Obj) : MapV (w.alloc o) mv row f := h.below ((Below.refl _ _).alloc (Nat.le_refl _) o)
theorem MapV.drewN (h : MapV w mv row f) (n : Nat) : MapV (w.drewN n) mv row f := h.step fun _ _ _ => rfl
theorem MapV.setCell (h : MapV w mv row f) {p : Addr} (hp : mv ≠ .map (some p.block)) (u : Value) : MapV (w.setCell p u) mv row f :=
  h.step fun b hb _ => Below.heap_setCell w p u b (fun e => hp (by rw [hb, e]))
theorem MapV.kept {F : Nat → Prop} (h : MapV w mv row f) (hk : Kept F w w') (hF : ∀ b, mv = .map (some b) → ¬ F b) : MapV w' mv row f := h.step fun b hv hl => hk.block b hl (hF b hv)
theorem MapV.shape (h : MapV w mv row f) : ∃ r, mv = .map r := by
  rcases h.is with ⟨h0, _⟩ | ⟨b, D, hv, _⟩
  · exact ⟨_, h0⟩
  · exact ⟨_, hv⟩
theorem MapV.lt (h : MapV w mv row f) : ∀ b, mv = .map (some b) → b < w.heap.size := by
  intro b hb
  rcases h.is with ⟨h0, _⟩ | ⟨b', D, hv, ho, _⟩
  · rw [h0] at hb; cases hb
  · rw [hv] at hb; cases hb; exact ho.lt
theorem MapV.ne_blk (h : MapV w mv row f) {g : Nat} {t : TypeId} {cs : Array Value} (hb : Blk w g t cs) : mv ≠ .map (some g) := by
  intro e
  rcases h.is with ⟨h0, _⟩ | ⟨b, D, hv, ho, _⟩
  · rw [h0] at e; cases e
  · rw [hv] at e; cases e
    obtain ⟨es, clock, hb', _⟩ := ho
    unfold Blk at hb
    rw [hb] at hb'
    cases hb'
/-- v, ok := m[x] -/
theorem MapV.look (T : MapTy t e z) (h : MapV w mv row f) {x : Int} (hx : wf64 x) : (Instr.lookup t mv (.int .i64 x) true).run Try.prog w = .ok (.tuple #[if x ∈ row then f x else z, .bool (decide (x ∈ row))]) w := by
  have hkey := keyOf_int_mk Try.underlying3 hx
  rcases h.is with ⟨rfl, rfl⟩ | ⟨b, D, rfl, ho, hd, hv⟩
  · simpa using look_nil (w := w) true lawI T.ht (T.hz _) hkey
  · obtain ⟨v, ps, hrun, hr⟩ := ho.look_ok lawI T.ht (T.hz w) (show heldR z = some (.held z, []) from rfl) hkey
    have hr' := heldR_inv hr
    rw [hrun, hd.has]
    by_cases hm : x ∈ row
    · have h2 : DataW.held (f x) = .held v := (hv x hm (.held z)).symm.trans hr'
      have h3 : f x = v := congrArg heldVal h2
      rw [if_pos hm, h3]
    · have h2 : DataW.held z = .held v := (atKey_of_not_has (D := D) (k := .int .i64 x) (by rw [hd.has]; exact decide_eq_false hm) (.held z)).symm.trans hr'
      have h3 : z = v := congrArg heldVal h2
      rw [if_neg hm, h3]
/-- m[x] -/
theorem MapV.get_ (T : MapTy t e z) (h : MapV w mv row f) {x : Int} (hx : wf64 x) : (Instr.lookup t mv (.int .i64 x) false).run Try.prog w = .ok (if x ∈ row then f x else z) w := by
  have hkey := keyOf_int_mk Try.underlying3 hx
  rcases h.is with ⟨rfl, rfl⟩ | ⟨b, D, rfl, ho, hd, hv⟩
  · simpa using look_nil (w := w) false lawI T.ht (T.hz _) hkey
  · obtain ⟨v, ps, hrun, hr⟩ := ho.lookup lawI T.ht (T.hz w) (show heldR z = some (.held z, []) from rfl) hkey
    have hr' := heldR_inv hr
    rw [hrun]
    by_cases hm : x ∈ row
    · have h2 : DataW.held (f x) = .held v := (hv x hm (.held z)).symm.trans hr'
      have h3 : f x = v := congrArg heldVal h2
      rw [if_pos hm, h3]
    · have h2 : DataW.held z = .held v := (atKey_of_not_has (D := D) (k := .int .i64 x) (by rw [hd.has]; exact decide_eq_false hm) (.held z)).symm.trans hr'
      have h3 : z = v := congrArg heldVal h2
      rw [if_neg hm, h3]
theorem MapV.len (T : MapTy t e z) (h : MapV w mv row f) (ty : TypeId) : (Builtin.len_ #[t] ty #[mv]).run Try.prog w = .ok (.int .i64 (row.length : Int)) w := by
  rcases h.is with ⟨rfl, rfl⟩ | ⟨b, D, rfl, ho, hd, _⟩
  · simpa using len_nil (w := w) T.ht ty
  · rw [ho.len T.ht ty, hd.size]
theorem MapV.store {b : Nat} (T : MapTy t e z) (h : MapV w (.map (some b)) row f) {x : Int} (y : Value) (hx : wf64 x) (hn : row.length < 9223372036854775807) :
    ∃ w', (Instr.mapUpdate t (.map (some b)) (.int .i64 x) y).run Try.prog w = .ok () w' ∧ MapV w' (.map (some b)) (putR row x) (fun k => if k = x then y else f k) ∧ w.grownBy w' (some b) ∧ w'.heap.size = w.heap.size := by
  rcases h.is with ⟨h0, _⟩ | ⟨b', D, hv, ho, hd, hval⟩
  · cases h0
  · cases hv
    obtain ⟨w', hrun, ho', ht⟩ := ho.store lawI T.ht (by simp only [maxLen]; omega) (keyOf_int_mk Try.underlying3 hx) (show heldR y = some (.held y, []) from rfl)
    have hd' := setV_put hd x (.held y)
    refine ⟨w', hrun, ⟨rising_putR h.rising x, fun k hk => ?_, .inr ⟨b, _, rfl, ?_, hd', valV_put hd hval x y⟩⟩, ht.grown, ?_⟩
    · rcases (mem_putR _ _ _).1 hk with rfl | hk
      · exact hx
      · exact h.wf k hk
    · have := owns_tightV ho'
      rwa [hd'.size] at this
    · obtain ⟨es, clock, es', clock', _, rfl⟩ := ht
      simp [ChangeMaps.setBlock]
theorem MapV.del (T : MapTy t e z) (h : MapV w mv row f) {x : Int} (hx : wf64 x) :
    ∃ w', (∀ ty, (Builtin.delete_ #[t, 3] ty #[mv, .int .i64 x]).run Try.prog w = .ok (.tuple #[]) w') ∧ MapV w' mv (row.filter (· != x)) f ∧ w.grownBy w' (mapBlk mv) ∧ w'.heap.size = w.heap.size := by
  have hkey := keyOf_int_mk Try.underlying3 hx
  rcases h.is with ⟨rfl, rfl⟩ | ⟨b, D, rfl, ho, hd, hval⟩
  · exact ⟨w, fun ty => drop_nil (w := w) lawI T.ht hkey ty, MapV.nil w f, World.grownBy.refl w _, rfl⟩
  · obtain ⟨w', hrun, ho', ht⟩ := ho.drop lawI T.ht hkey 0
    have hd' := setV_del hd (rising_nodup h.rising) x
    refine ⟨w', fun ty => hrun, ⟨rising_filter h.rising _, fun k hk => h.wf k (List.mem_filter.1 hk).1, .inr ⟨b, _, rfl, ?_, hd', valV_del hval x⟩⟩, ht.grown, ?_⟩
    · have := owns_tightV ho'
      rwa [hd'.size] at this
    · obtain ⟨es, clock, es', clock', _, rfl⟩ := ht
      simp [ChangeMaps.setBlock]
end

end Go.Proofs.Ytcafmodenbifhaa
