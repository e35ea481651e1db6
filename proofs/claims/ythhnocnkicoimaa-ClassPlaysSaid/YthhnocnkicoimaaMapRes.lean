/-
  A map[api.Res]int: 'MapRes w mv dom f': the keys of the row dom, at each key k the number f k.
-/
import Derived.Test.YthhnocnkicoimaaSetL
import Derived.Test.YthhnocnkicoimaaMapKV
import Derived.Test.YthhnocnkicoimaaTRes
import Derived.DeepKeys4
set_option linter.unusedVariables false
set_option linter.unusedSimpArgs false
namespace Go.Proofs.Ythhnocnkicoimaa
open Go.RowKit Go.Maps

theorem laidOutRes : laidOutB Try.prog = true := by kernel_rfl
theorem rowRes : 24 < Try.prog.types.size := of_decide_eq_true (by kernel_rfl)
theorem wideRes : (match Try.prog.underlying 24 with | some (.array _ _) | some (.struct _) => true | _ => false) = true := by rw [Try.underlying24]
theorem keyAtRes : Try.prog.keyTypeAt 2 24 = true := by kernel_rfl
set_option maxRecDepth 100000 in
theorem lawRes : Keyed Try.prog 24 := Keyed.of_law (deep_law_laid laidOutRes (m := 2) (by omega) rowRes keyAtRes wideRes)
theorem keyTypeRes : Try.prog.keyType 24 = true := by kernel_rfl
def litR (r : LRes) : Lit := .string (keyBytes [.int .i64 r.a, .int .i64 r.b, .int .i64 r.c])
theorem keyRes {r : LRes} (h : wfRes r) : keyOf Try.prog 24 (aggRes r) = some (litR r) := by
  have hc : Try.prog.cellsOf 24 = 3 := by kernel_rfl
  have hc1 : Try.prog.cellsOf 3 = 1 := by kernel_rfl
  have hf : (aggRes r).formed Try.prog 24 = true := by simp [Value.formed, Try.underlying24, hc]
  obtain ⟨m, hm⟩ : ∃ m, Try.prog.types.size + 1 = m + 2 := ⟨Try.prog.types.size - 1, by have := rowRes; omega⟩
  obtain ⟨h1, h2, h3⟩ := h
  unfold wf64 at h1 h2 h3
  have hk : Try.prog.keyLits (m + 2) 24 [.int .i64 r.a, .int .i64 r.b, .int .i64 r.c] = some [.int .i64 r.a, .int .i64 r.b, .int .i64 r.c] := by
    simp only [Program.keyLits, Try.underlying24, Try.underlying3, hc, hc1]
    simp [show List.range 3 = [0, 1, 2] from rfl, Program.keyLits, Try.underlying3, h1, h2, h3]
  unfold keyOf
  rw [Try.underlying24]
  simp only [keyTypeRes, hf, Bool.and_self, if_true]
  rw [hm]
  show (Program.keyLits _ _ _ [.int .i64 r.a, .int .i64 r.b, .int .i64 r.c]).map _ = _
  rw [hk]
  rfl
theorem litR_inj {a b : LRes} (ha : wfRes a) (hb : wfRes b) (h : litR a = litR b) : a = b := by
  have h2 := lawRes.inj (keyRes ha) (by rw [h]; exact keyRes hb)
  have h3 : #[Value.int .i64 a.a, .int .i64 a.b, .int .i64 a.c] = #[Value.int .i64 b.a, .int .i64 b.b, .int .i64 b.c] := Value.agg.inj h2
  simp at h3
  cases a; cases b
  simp_all
theorem isKeyRes (r : LRes) : WideAt.IsKeyLit (litR r) := by simp [litR, WideAt.IsKeyLit]

/-- The datum's keys are dom, its values f's. -/
structure SetRes (D : DataW Unit) (dom : List LRes) (f : LRes → Int) : Prop where
  tidy : Tidy D
  has : ∀ k, wfRes k → Maps.has D (litR k) = decide (k ∈ dom)
  size : Maps.size D = dom.length
  val : ∀ k ∈ dom, ∀ zd, D.atKey (litR k) zd = .lit (.int .i64 (f k))
structure MapRes (w : World) (mv : Value) (dom : List LRes) (f : LRes → Int) : Prop where
  wf : ∀ r ∈ dom, wfRes r
  is : (mv = .map none ∧ dom = []) ∨ ∃ b D, mv = .map (some b) ∧ w.ownsMap Try.prog 24 (plainElem Try.prog 3) b dom.length D ∧ SetRes D dom f
section
variable {w w' : World} {mv : Value} {dom : List LRes} {f : LRes → Int}
theorem MapRes.nil (w : World) (f : LRes → Int) : MapRes w (.map none) [] f := ⟨by simp, .inl ⟨rfl, rfl⟩⟩
theorem MapRes.made (w : World) (f : LRes → Int) : MapRes (w.alloc (.map #[] 0)) (.map (some w.heap.size)) [] f :=
  ⟨by simp, .inr ⟨w.heap.size, _, rfl, World.ownsMap_made w _ _ _, ⟨tidy_empty, fun k _ => rfl, rfl, fun k hk => by simp at hk⟩⟩⟩
theorem MapRes.step (h : MapRes w mv dom f) (hm : ∀ b, mv = .map (some b) → b < w.heap.size → w'.heap[b]? = w.heap[b]?) : MapRes w' mv dom f := by
  refine ⟨h.wf, ?_⟩
  rcases h.is with h0 | ⟨b, D, hv, ho, hd⟩
  · exact .inl h0
  · refine .inr ⟨b, D, hv, ?_, hd⟩
    have hlt := ho.lt
    obtain ⟨es, clock, hb, r⟩ := ho
    exact ⟨es, clock, (hm b hv hlt).trans hb, r⟩
theorem MapRes.below (h : MapRes w mv dom f) (hb : Below w.heap.size w w') : MapRes w' mv dom f := h.step fun b _ hl => hb.block b hl
theorem MapRes.alloc (h : MapRes w mv dom f) (o : Obj) : MapRes (w.alloc o) mv dom f := h.below ((Below.refl _ _).alloc (Nat.le_refl _) o)
theorem MapRes.shape (h : MapRes w mv dom f) : ∃ r, mv = .map r := by
  rcases h.is with ⟨h0, _⟩ | ⟨b, D, hv, _⟩
  · exact ⟨_, h0⟩
  · exact ⟨_, hv⟩
theorem MapRes.lt (h : MapRes w mv dom f) : ∀ b, mv = .map (some b) → b < w.heap.size := by
  intro b hb
  rcases h.is with ⟨h0, _⟩ | ⟨b', D, hv, ho, _⟩
  · rw [h0] at hb; cases hb
  · rw [hv] at hb; cases hb; exact ho.lt
theorem MapRes.ne_blk (h : MapRes w mv dom f) {g : Nat} {t : TypeId} {cs : Array Value} (hb : Blk w g t cs) : mv ≠ .map (some g) := by
  intro e
  rcases h.is with ⟨h0, _⟩ | ⟨b, D, hv, ho, _⟩
  · rw [h0] at e; cases e
  · rw [hv] at e; cases e
    obtain ⟨es, clock, hb', _⟩ := ho
    unfold Blk at hb
    rw [hb] at hb'
    cases hb'
/-- v, ok := m[x] -/
theorem MapRes.look (h : MapRes w mv dom f) {x : LRes} (hx : wfRes x) : (Instr.lookup 29 mv (aggRes x) true).run Try.prog w = .ok (.tuple #[.int .i64 (if x ∈ dom then f x else 0), .bool (decide (x ∈ dom))]) w := by
  have hkey := keyRes hx
  rcases h.is with ⟨rfl, rfl⟩ | ⟨b, D, rfl, ho, hd⟩
  · simpa using look_nil (w := w) true lawRes Try.underlying29 (zeroI _) hkey
  · obtain ⟨v, ps, hrun, hr⟩ := ho.look_ok lawRes Try.underlying29 (zeroI w) (plainElem_int Try.underlying3 (by decide)) hkey
    obtain ⟨c, rfl, hc, _⟩ := plainElem_int_inv Try.underlying3 hr
    rw [hrun, hd.has x hx]
    by_cases hm : x ∈ dom
    · have h2 : DataW.lit (H := Unit) (.int .i64 (f x)) = .lit (.int .i64 c) := (hd.val x hm (.lit (.int .i64 0))).symm.trans (congrArg Prod.fst hc)
      have h3 : f x = c := congrArg litVal h2
      rw [if_pos hm, h3]
    · have h2 : DataW.lit (H := Unit) (.int .i64 0) = .lit (.int .i64 c) := (atKey_of_not_has (D := D) (k := litR x) (by rw [hd.has x hx]; exact decide_eq_false hm) (.lit (.int .i64 0))).symm.trans (congrArg Prod.fst hc)
      have h3 : 0 = c := congrArg litVal h2
      rw [if_neg hm, h3]
theorem MapRes.store {b : Nat} (h : MapRes w (.map (some b)) dom f) {x : LRes} {y : Int} (hx : wfRes x) (hy : wf64 y) (hn : x ∉ dom) (hlen : dom.length < 9223372036854775807) (f' : LRes → Int) (hf : ∀ k ∈ dom, f' k = f k) (hfx : f' x = y) :
    ∃ w', (Instr.mapUpdate 29 (.map (some b)) (aggRes x) (.int .i64 y)).run Try.prog w = .ok () w' ∧ MapRes w' (.map (some b)) (dom ++ [x]) f' ∧ w.grownBy w' (some b) ∧ w'.heap.size = w.heap.size := by
  rcases h.is with ⟨h0, _⟩ | ⟨b', D, hv, ho, hd⟩
  · cases h0
  · cases hv
    obtain ⟨w', hrun, ho', ht⟩ := ho.store lawRes Try.underlying29 (by simp only [maxLen]; omega) (keyRes hx) (plainElem_int Try.underlying3 hy)
    have hsz : Maps.size (D.put (litR x) (.lit (.int .i64 y))) = (dom ++ [x]).length := by
      rw [size_put hd.tidy, hd.has x hx, hd.size]
      simp [hn]
    have hwf : ∀ r ∈ dom ++ [x], wfRes r := fun r hr => (List.mem_append.1 hr).elim (h.wf r) (fun e => by rw [List.mem_singleton.1 e]; exact hx)
    refine ⟨w', hrun, ⟨hwf, .inr ⟨b, _, rfl, ?_, ⟨hd.tidy.put (isKeyRes x) _, fun k hk => ?_, hsz, fun k hk zd => ?_⟩⟩⟩, ht.grown, ?_⟩
    · have := owns_tight ho'
      rwa [hsz] at this
    · by_cases e : k = x
      · subst e
        rw [has_put_same hd.tidy.isMap (isKeyRes k)]
        exact (decide_eq_true (by simp)).symm
      · rw [has_put_other (fun e' => e (litR_inj hk hx e')), hd.has k hk]
        exact decide_eq_decide.2 (by simp [e])
    · by_cases e : k = x
      · subst e
        rw [atKey_put_same hd.tidy.isMap (isKeyRes k), hfx]
      · rw [atKey_put_other (fun e' => e (litR_inj (hwf k hk) hx e'))]
        have hk' : k ∈ dom := (List.mem_append.1 hk).elim id (fun e' => absurd (List.mem_singleton.1 e') e)
        rw [hf k hk']
        exact hd.val k hk' zd
    · obtain ⟨es, clock, es', clock', _, rfl⟩ := ht
      simp [ChangeMaps.setBlock]
end

end Go.Proofs.Ythhnocnkicoimaa
