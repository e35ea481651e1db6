/-
  A map[api.Res]T WITH ITS VALUES, T any type: 'MapRV w mv dom f': the keys of the row dom (no key twice), at each key k the value f k (a model's value); ranging over it, and over a map[int]T.
-/
import Derived.Test.YtcafmodenbifhaaKeyRes
import Derived.Test.YtcafmodenbifhaaMapV
set_option linter.unusedVariables false
set_option linter.unusedSimpArgs false
namespace Go.Proofs.Ytcafmodenbifhaa
open Go.RowKit Go.Maps

structure MapTyR (t e : TypeId) (z : Value) : Prop where
  ht : Try.prog.underlying t = some (.map 53 e)
  hz : ∀ w, (zeroValue e).run Try.prog w = .ok z w
theorem len_filter_ne {α : Type} [DecidableEq α] {l : List α} (h : l.Nodup) (x : α) : (l.filter (fun y => decide (y ≠ x))).length + (if x ∈ l then 1 else 0) = l.length := by
  induction l with
  | nil => simp
  | cons y r ih =>
    have hr := ih (List.nodup_cons.1 h).2
    have hy := (List.nodup_cons.1 h).1
    rw [List.filter_cons]
    by_cases e : y = x
    · subst e
      rw [if_neg (by simp), if_pos (by simp)]
      rw [if_neg hy] at hr
      simp only [List.length_cons]
      omega
    · rw [if_pos (by simpa using e)]
      simp only [List.length_cons, List.mem_cons]
      by_cases hm : x ∈ r
      · rw [if_pos hm] at hr; rw [if_pos (.inr hm)]; omega
      · rw [if_neg hm] at hr; rw [if_neg (by rintro (e2 | e2); exact e e2.symm; exact hm e2)]; omega
/-- The datum's keys are dom, its values f's. -/
structure SetRV (D : DataW Value) (dom : List LRes) (f : LRes → Value) : Prop where
  tidy : Tidy D
  has : ∀ k, wfRes k → Maps.has D (litR k) = decide (k ∈ dom)
  all : ∀ kl, Maps.has D kl = true → ∃ k ∈ dom, kl = litR k
  size : Maps.size D = dom.length
  val : ∀ k ∈ dom, ∀ zd, D.atKey (litR k) zd = .held (f k)
structure MapRV (w : World) (mv : Value) (dom : List LRes) (f : LRes → Value) : Prop where
  wf : ∀ r ∈ dom, wfRes r
  nodup : dom.Nodup
  is : (mv = .map none ∧ dom = []) ∨ ∃ b D, mv = .map (some b) ∧ w.ownsMap Try.prog 53 heldR b dom.length D ∧ SetRV D dom f
section
variable {w w' : World} {mv : Value} {dom : List LRes} {f : LRes → Value} {t e : TypeId} {z : Value}
theorem MapRV.nil (w : World) (f : LRes → Value) : MapRV w (.map none) [] f := ⟨by simp, List.nodup_nil, .inl ⟨rfl, rfl⟩⟩
theorem MapRV.made (w : World) (f : LRes → Value) : MapRV (w.alloc (.map #[] 0)) (.map (some w.heap.size)) [] f :=
  ⟨by simp, List.nodup_nil, .inr ⟨w.heap.size, _, rfl, World.ownsMap_made w _ _ _, ⟨tidy_empty, fun k _ => rfl, fun kl h => (Bool.false_ne_true h).elim, rfl, fun k hk => by simp at hk⟩⟩⟩
theorem MapRV.step (h : MapRV w mv dom f) (hm : ∀ b, mv = .map (some b) → b < w.heap.size → w'.heap[b]? = w.heap[b]?) : MapRV w' mv dom f := by
  refine ⟨h.wf, h.nodup, ?_⟩
  rcases h.is with h0 | ⟨b, D, hv, ho, hd⟩
  · exact .inl h0
  · refine .inr ⟨b, D, hv, ?_, hd⟩
    have hlt := ho.lt
    obtain ⟨es, clock, hb, r⟩ := ho
    exact ⟨es, clock, (hm b hv hlt).trans hb, r⟩
theorem MapRV.below (h : MapRV w mv dom f) (hb : Below w.heap.size w w') : MapRV w' mv dom f := h.step fun b _ hl => hb.block b hl
theorem MapRV.shape (h : MapRV w mv dom f) : ∃ r, mv = .map r := by
  rcases h.is with ⟨h0, _⟩ | ⟨b, D, hv, _⟩
  · exact ⟨_, h0⟩
  · exact ⟨_, hv⟩
theorem MapRV.lt (h : MapRV w mv dom f) : ∀ b, mv = .map (some b) → b < w.heap.size := by
  intro b hb
  rcases h.is with ⟨h0, _⟩ | ⟨b', D, hv, ho, _⟩
  · rw [h0] at hb; cases hb
  · rw [hv] at hb; cases hb; exact ho.lt
theorem MapRV.congr {g : LRes → Value} (h : MapRV w mv dom f) (hg : ∀ r ∈ dom, f r = g r) : MapRV w mv dom g := by
  refine ⟨h.wf, h.nodup, h.is.imp id (fun ⟨b, D, h1, h2, h3⟩ => ⟨b, D, h1, h2, h3.tidy, h3.has, h3.all, h3.size, fun k hk zd => by rw [← hg k hk]; exact h3.val k hk zd⟩)⟩
theorem MapRV.ne_blk (h : MapRV w mv dom f) {g : Nat} {t : TypeId} {cs : Array Value} (hb : Blk w g t cs) : mv ≠ .map (some g) := by
  intro e
  rcases h.is with ⟨h0, _⟩ | ⟨b, D, hv, ho, _⟩
  · rw [h0] at e; cases e
  · rw [hv] at e; cases e
    obtain ⟨es, clock, hb', _⟩ := ho
    unfold Blk at hb
    rw [hb] at hb'
    cases hb'
/-- v, ok := m[x] -/
theorem MapRV.look (T : MapTyR t e z) (h : MapRV w mv dom f) {x : LRes} (hx : wfRes x) : (Instr.lookup t mv (aggRes x) true).run Try.prog w = .ok (.tuple #[if x ∈ dom then f x else z, .bool (decide (x ∈ dom))]) w := by
  have hkey := keyRes hx
  rcases h.is with ⟨rfl, rfl⟩ | ⟨b, D, rfl, ho, hd⟩
  · simpa using look_nil (w := w) true lawRes T.ht (T.hz _) hkey
  · obtain ⟨v, ps, hrun, hr⟩ := ho.look_ok lawRes T.ht (T.hz w) (show heldR z = some (.held z, []) from rfl) hkey
    have hr' := heldR_inv hr
    rw [hrun, hd.has x hx]
    by_cases hm : x ∈ dom
    · have h2 : DataW.held (f x) = .held v := (hd.val x hm (.held z)).symm.trans hr'
      have h3 : f x = v := congrArg heldVal h2
      rw [if_pos hm, h3]
    · have h2 : DataW.held z = .held v := (atKey_of_not_has (D := D) (k := litR x) (by rw [hd.has x hx]; exact decide_eq_false hm) (.held z)).symm.trans hr'
      have h3 : z = v := congrArg heldVal h2
      rw [if_neg hm, h3]
theorem MapRV.len (T : MapTyR t e z) (h : MapRV w mv dom f) (ty : TypeId) : (Builtin.len_ #[t] ty #[mv]).run Try.prog w = .ok (.int .i64 (dom.length : Int)) w := by
  rcases h.is with ⟨rfl, rfl⟩ | ⟨b, D, rfl, ho, hd⟩
  · simpa using len_nil (w := w) T.ht ty
  · rw [ho.len T.ht ty, hd.size]
/-- m[x] = y, x a new key. -/
theorem MapRV.store {b : Nat} (T : MapTyR t e z) (h : MapRV w (.map (some b)) dom f) {x : LRes} (y : Value) (hx : wfRes x) (hn : x ∉ dom) (hlen : dom.length < 9223372036854775807) :
    ∃ w', (Instr.mapUpdate t (.map (some b)) (aggRes x) y).run Try.prog w = .ok () w' ∧ MapRV w' (.map (some b)) (dom ++ [x]) (fun k => if k = x then y else f k) ∧ w.grownBy w' (some b) ∧ w'.heap.size = w.heap.size := by
  rcases h.is with ⟨h0, _⟩ | ⟨b', D, hv, ho, hd⟩
  · cases h0
  · cases hv
    obtain ⟨w', hrun, ho', ht⟩ := ho.store lawRes T.ht (by simp only [maxLen]; omega) (keyRes hx) (show heldR y = some (.held y, []) from rfl)
    have hsz : Maps.size (D.put (litR x) (.held y)) = (dom ++ [x]).length := by
      rw [size_put hd.tidy, hd.has x hx, hd.size]
      simp [hn]
    have hwf : ∀ r ∈ dom ++ [x], wfRes r := fun r hr => (List.mem_append.1 hr).elim (h.wf r) (fun e => by rw [List.mem_singleton.1 e]; exact hx)
    refine ⟨w', hrun, ⟨hwf, ?_, .inr ⟨b, _, rfl, ?_, ⟨hd.tidy.put (isKeyRes x) _, fun k hk => ?_, fun kl hkl => ?_, hsz, fun k hk zd => ?_⟩⟩⟩, ht.grown, ?_⟩
    · exact List.nodup_append.2 ⟨h.nodup, by simp, fun a ha b hb => by rw [List.mem_singleton.1 hb]; exact fun e => hn (e ▸ ha)⟩
    · have := owns_tightV ho'
      rwa [hsz] at this
    · by_cases e : k = x
      · subst e
        rw [has_put_same hd.tidy.isMap (isKeyRes k)]
        exact (decide_eq_true (by simp)).symm
      · rw [has_put_other (fun e' => e (litR_inj hk hx e')), hd.has k hk]
        exact decide_eq_decide.2 (by simp [e])
    · by_cases e : kl = litR x
      · exact ⟨x, by simp, e⟩
      · rw [has_put_other e] at hkl
        obtain ⟨k, hk, rfl⟩ := hd.all kl hkl
        exact ⟨k, List.mem_append.2 (.inl hk), rfl⟩
    · by_cases e : k = x
      · subst e
        rw [atKey_put_same hd.tidy.isMap (isKeyRes k)]
        show _ = DataW.held (if k = k then y else f k)
        rw [if_pos rfl]
      · rw [atKey_put_other (fun e' => e (litR_inj (hwf k hk) hx e'))]
        have hk' : k ∈ dom := (List.mem_append.1 hk).elim id (fun e' => absurd (List.mem_singleton.1 e') e)
        show _ = DataW.held (if k = x then y else f k)
        rw [if_neg e]
        exact hd.val k hk' zd
    · obtain ⟨es, clock, es', clock', _, rfl⟩ := ht
      simp [ChangeMaps.setBlock]
/-- delete(m, x) -/
theorem MapRV.del (T : MapTyR t e z) (h : MapRV w mv dom f) {x : LRes} (hx : wfRes x) :
    ∃ w', (∀ ty, (Builtin.delete_ #[t, 53] ty #[mv, aggRes x]).run Try.prog w = .ok (.tuple #[]) w') ∧ MapRV w' mv (dom.filter (fun y => decide (y ≠ x))) f ∧ w.grownBy w' (mapBlk mv) ∧ w'.heap.size = w.heap.size := by
  have hkey := keyRes hx
  rcases h.is with ⟨rfl, rfl⟩ | ⟨b, D, rfl, ho, hd⟩
  · exact ⟨w, fun ty => drop_nil (w := w) lawRes T.ht hkey ty, MapRV.nil w f, World.grownBy.refl w _, rfl⟩
  · obtain ⟨w', hrun, ho', ht⟩ := ho.drop lawRes T.ht hkey 0
    have hwf : ∀ k ∈ dom.filter (fun y => decide (y ≠ x)), wfRes k := fun k hk => h.wf k (List.mem_filter.1 hk).1
    have hsz : Maps.size (D.del (litR x)) = (dom.filter (fun y => decide (y ≠ x))).length := by
      have h1 := size_del (k := litR x) hd.tidy
      have h2 := len_filter_ne h.nodup x
      rw [hd.has x hx, hd.size] at h1
      by_cases hm : x ∈ dom
      · simp only [hm, decide_true, if_true] at h1 h2; omega
      · simp only [hm, decide_false, if_false, Bool.false_eq_true] at h1 h2; omega
    refine ⟨w', fun ty => hrun, ⟨hwf, h.nodup.filter _, .inr ⟨b, _, rfl, ?_, ⟨hd.tidy.del _, fun k hk => ?_, fun kl hkl => ?_, hsz, fun k hk zd => ?_⟩⟩⟩, ht.grown, ?_⟩
    · have := owns_tightV ho'
      rwa [hsz] at this
    · by_cases e : k = x
      · subst e
        rw [has_del_same]
        simp
      · rw [has_del_other (fun e' => e (litR_inj hk hx e')), hd.has k hk]
        exact decide_eq_decide.2 ⟨fun hm => List.mem_filter.2 ⟨hm, by simpa using e⟩, fun hm => (List.mem_filter.1 hm).1⟩
    · by_cases e : kl = litR x
      · subst e
        rw [has_del_same] at hkl
        cases hkl
      · rw [has_del_other e] at hkl
        obtain ⟨k, hk, rfl⟩ := hd.all kl hkl
        exact ⟨k, List.mem_filter.2 ⟨hk, by simp only [decide_eq_true_eq]; intro e2; exact e (by rw [e2])⟩, rfl⟩
    · obtain ⟨h1, h2⟩ := List.mem_filter.1 hk
      have e : k ≠ x := by simpa using h2
      rw [atKey_del_other (fun e' => e (litR_inj (h.wf k h1) hx e'))]
      exact hd.val k h1 zd
    · obtain ⟨es, clock, es', clock', _, rfl⟩ := ht
      simp [ChangeMaps.setBlock]
end

/-! ### ranging -/
theorem ranges_keptF {k : TypeId} {F : Nat → Prop} {w w' : World} {b r n cnt : Nat} {D : DataW Value} {left : Lit → Bool} (h : w.ranges Try.prog k heldR b r n D left cnt) (hg : Kept F w w') (hb' : ¬ F b) (hr' : ¬ F r) : w'.ranges Try.prog k heldR b r n D left cnt := by
  have h1 := h.owns.lt
  have h2 := h.lt
  obtain ⟨es, clock, since, seen, c0, hb, F', hs, hD, hr, rest⟩ := h
  exact ⟨es, clock, since, seen, c0, (hg.block b h1 hb').trans hb, F', hs, hD, (hg.block r h2 hr').trans hr, rest⟩
/-- What a range over the keys has seen. -/
structure GathR (dom : List LRes) (left : Lit → Bool) (ss : List LRes) : Prop where
  nodup : ss.Nodup
  mem : ∀ x ∈ dom, (x ∈ ss ↔ left (litR x) = false)
  sub : ∀ x ∈ ss, x ∈ dom
theorem GathR.start {D : DataW Value} {dom : List LRes} {f : LRes → Value} (h : SetRV D dom f) (hw : ∀ r ∈ dom, wfRes r) : GathR dom (Maps.has D) [] := by
  refine ⟨List.nodup_nil, fun x hx => ?_, fun x hx => by cases hx⟩
  rw [h.has x (hw x hx)]
  simp [hx]
theorem sameKey_R {x y : LRes} (hx : wfRes x) (hy : wfRes y) : (litR x).sameKey (litR y) = decide (x = y) := by
  by_cases e : x = y
  · subst e; simp [litR, Lit.sameKey]
  · rw [decide_eq_false e]
    have h : litR x ≠ litR y := fun e' => e (litR_inj hx hy e')
    unfold litR at h ⊢
    simp only [Lit.sameKey]
    simpa using h
theorem GathR.step {dom ss : List LRes} {left : Lit → Bool} (hw : ∀ r ∈ dom, wfRes r) (h : GathR dom left ss) {x : LRes} (hx : x ∈ dom) (hlk : left (litR x) = true) :
    GathR dom (fun z => left z && !z.sameKey (litR x)) (ss ++ [x]) ∧ x ∉ ss := by
  have hns : x ∉ ss := fun hm => by rw [(h.mem x hx).1 hm] at hlk; cases hlk
  refine ⟨⟨List.nodup_append.2 ⟨h.nodup, by simp, fun a ha b hb => by rw [List.mem_singleton.1 hb]; exact fun e => hns (e ▸ ha)⟩, fun z hz => ?_, fun z hz => (List.mem_append.1 hz).elim (h.sub z) (fun e => by rw [List.mem_singleton.1 e]; exact hx)⟩, hns⟩
  rw [List.mem_append, List.mem_singleton, h.mem z hz, sameKey_R (hw z hz) (hw x hx)]
  by_cases e : z = x
  · subst e; simp
  · simp [e]
theorem GathR.all {dom ss : List LRes} {left : Lit → Bool} (h : GathR dom left ss) (hl : ∀ k, left k = false) : (∀ x, x ∈ ss ↔ x ∈ dom) := fun x => ⟨h.sub x, fun hx => (h.mem x hx).2 (hl _)⟩
theorem wpList_next_RV {ops : Array Oper} {rest : List Oper} {o : Oper} {a : Act} {Q : Exit → Act → World → Prop} (w : World) (hg : o.guard = none) (it : Operand) (hop : o.op = Op.next it false) (b r nn : Nat) (D : DataW Value) (dom : List LRes) (f : LRes → Value) (hD : SetRV D dom f) (hw : ∀ r ∈ dom, wfRes r) (left : Lit → Bool) (cnt : Nat)
    (hit : a.eval it = .pointer (some ⟨r, 0, none⟩)) (h : w.ranges Try.prog 53 heldR b r nn D left cnt)
    (hDone : cnt = 0 → (∀ kl, left kl = false) → wpList Try.prog ops Q rest (a.put o.dst (.tuple #[.bool false])) w)
    (hMore : ∀ (x : LRes) (w' : World) (cnt' : Nat), x ∈ dom → left (litR x) = true → w'.ranges Try.prog 53 heldR b r nn D (fun z => left z && !z.sameKey (litR x)) cnt' → cnt' < cnt →
      w.grownBy w' (some r) → w'.heap.size = w.heap.size → (Instr.entry (.pointer (some ⟨r, 0, none⟩))).run Try.prog w' = .ok (.tuple #[aggRes x, f x]) w' → wpList Try.prog ops Q rest (a.put o.dst (.tuple #[.bool true, aggRes x, f x])) w') :
    wpList Try.prog ops Q (o :: rest) a w :=
  wpList_next_ranges w hg it hop 53 lawRes heldR (id : Value → Value) (id : Value → Value) (fun key kl hkey => ⟨key, rfl⟩) (fun v y hv => ⟨v, rfl⟩)
    b r nn D left cnt hit h hDone (fun x c kl y w' cnt' hkey hlk hv hat hrg hlt hgr hsz hen => by
      obtain ⟨k, hk, rfl⟩ := hD.all kl (has_true_of_atKey hat)
      have e1 : x = aggRes k := lawRes.inj hkey (keyRes (hw k hk))
      have e2 : c = f k := by
        have h2 := (hat (.held c)).symm.trans (hD.val k hk (.held c))
        rw [heldR_inv hv] at h2
        exact congrArg heldVal h2
      subst e1
      subst e2
      exact hMore k w' cnt' hk hlk hrg hlt hgr hsz hen)
/-- A map[int]T: what has been seen. -/
structure GathI (row : List Int) (left : Lit → Bool) (ss : List Int) : Prop where
  nodup : ss.Nodup
  mem : ∀ x, x ∈ ss ↔ (x ∈ row ∧ left (.int .i64 x) = false)
theorem GathI.start {D : DataW Value} {row : List Int} (h : SetV D row) : GathI row (Maps.has D) [] := by
  refine ⟨List.nodup_nil, fun x => ?_⟩
  rw [h.has]
  by_cases hx : x ∈ row <;> simp [hx]
theorem GathI.step {row ss : List Int} {left : Lit → Bool} (h : GathI row left ss) {x : Int} (hx : x ∈ row) (hlk : left (.int .i64 x) = true) :
    GathI row (fun z => left z && !z.sameKey (.int .i64 x)) (ss ++ [x]) ∧ x ∉ ss := by
  have hns : x ∉ ss := fun hm => by rw [(h.mem x).1 hm |>.2] at hlk; cases hlk
  refine ⟨⟨List.nodup_append.2 ⟨h.nodup, by simp, fun a ha b hb => by rw [List.mem_singleton.1 hb]; exact fun e => hns (e ▸ ha)⟩, fun z => ?_⟩, hns⟩
  rw [List.mem_append, List.mem_singleton, h.mem]
  have hsk : ∀ x y : Int, (Lit.int .i64 x).sameKey (.int .i64 y) = decide (x = y) := fun x y => by simp [Lit.sameKey]
  by_cases e : z = x
  · subst e
    simp [hsk, hx]
  · simp [hsk, e]
theorem GathI.all {row ss : List Int} {left : Lit → Bool} (h : GathI row left ss) (hl : ∀ k, left k = false) : ∀ x, x ∈ ss ↔ x ∈ row := fun x => by rw [h.mem]; simp [hl]
theorem wpList_next_IV {ops : Array Oper} {rest : List Oper} {o : Oper} {a : Act} {Q : Exit → Act → World → Prop} (w : World) (hg : o.guard = none) (it : Operand) (hop : o.op = Op.next it false) (b r nn : Nat) (D : DataW Value) (row : List Int) (f : Int → Value) (hD : SetV D row) (hV : ValV D row f) (left : Lit → Bool) (cnt : Nat)
    (hit : a.eval it = .pointer (some ⟨r, 0, none⟩)) (h : w.ranges Try.prog 3 heldR b r nn D left cnt)
    (hDone : cnt = 0 → (∀ kl, left kl = false) → wpList Try.prog ops Q rest (a.put o.dst (.tuple #[.bool false])) w)
    (hMore : ∀ (x : Int) (w' : World) (cnt' : Nat), x ∈ row → left (.int .i64 x) = true → w'.ranges Try.prog 3 heldR b r nn D (fun z => left z && !z.sameKey (.int .i64 x)) cnt' → cnt' < cnt →
      w.grownBy w' (some r) → w'.heap.size = w.heap.size → (Instr.entry (.pointer (some ⟨r, 0, none⟩))).run Try.prog w' = .ok (.tuple #[.int .i64 x, f x]) w' → wpList Try.prog ops Q rest (a.put o.dst (.tuple #[.bool true, .int .i64 x, f x])) w') :
    wpList Try.prog ops Q (o :: rest) a w :=
  wpList_next_ranges w hg it hop 3 lawI heldR (Value.int .i64) (id : Value → Value) (fun key kl hkey => by obtain ⟨x, rfl, _⟩ := Maps.keyOf_int_inv Try.underlying3 hkey; exact ⟨x, rfl⟩) (fun v y hv => ⟨v, rfl⟩)
    b r nn D left cnt hit h hDone (fun x c kl y w' cnt' hkey hlk hv hat hrg hlt hgr hsz hen => by
      obtain ⟨x', ex, rfl, hwx⟩ := Maps.keyOf_int_inv Try.underlying3 hkey
      cases ex
      have hx : x ∈ row := by
        have := has_true_of_atKey hat
        rw [hD.has] at this
        exact of_decide_eq_true this
      have e2 : c = f x := by
        have h2 := (hat (.held c)).symm.trans (hV x hx (.held c))
        rw [heldR_inv hv] at h2
        exact congrArg heldVal h2
      subst e2
      exact hMore x w' cnt' hx hlk hrg hlt hgr hsz hen)

end Go.Proofs.Ytcafmodenbifhaa
