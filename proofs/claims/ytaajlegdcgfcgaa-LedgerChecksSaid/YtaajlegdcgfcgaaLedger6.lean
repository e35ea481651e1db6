/-
  LAYER 45 (ledger): Begun.
-/
import Derived.Test.YtaajlegdcgfcgaaLedger5
set_option linter.unusedVariables false
set_option linter.unusedSimpArgs false
namespace Go.Proofs.Ytaajlegdcgfcgaa
open Go.RowKit Go.Maps

/-- How often x is among them. -/
def cntI (js : List Int) (x : Int) : Int := ((js.filter (fun y => y == x)).length : Int)
theorem cntI_snoc (js : List Int) (y : Int) : (fun x => if x = y then cntI js y + 1 else cntI js x) = cntI (js ++ [y]) := by
  funext x
  by_cases h : x = y
  · subst h
    simp [cntI]
  · have h2 : (y == x) = false := by simp; exact fun e => h e.symm
    simp [cntI, h, h2]
theorem cntI_none {js : List Int} {x : Int} (h : x ∉ js) : cntI js x = 0 := by
  have : js.filter (fun y => y == x) = [] := by
    rw [List.filter_eq_nil_iff]
    intro y hy e
    have : y = x := by simpa using e
    exact h (this ▸ hy)
  simp [cntI, this]
theorem cntI_le (js : List Int) (x : Int) : 0 ≤ cntI js x ∧ cntI js x ≤ (js.length : Int) := by
  have := List.length_filter_le (fun y => y == x) js
  unfold cntI
  omega
def begunP (js : List Int) : List LRep := (markAll [] js).map (fun j => ⟨j, cntI js j⟩)

set_option maxRecDepth 100000 in
set_option maxHeartbeats 1600000 in
theorem begun_t (A : Option Addr) (n c : Nat) (l : List LRow) (w : World) (h : Rd encR 7 w A n l) (hw : ∀ r ∈ l, wfR r) (hn : n ≤ 100000) :
    Calls Try.prog 53 #[.slice A n c] w fun e w' => ∃ A' n' c', e = .returned (.slice A' n' c') ∧ OwnL encP 148 2 w' w.heap.size A' n' c' (begunP ((l.filter (fun r : LRow => r.kind == 4)).map (·.job))) ∧ Below w.heap.size w w' := by
  have hmm := @run_makeMap Try.prog
  have HW := Lib.hid hw
  clear hw
  go_enter Try.func53, Try.ntmps53
  go_wp2_with fail
  have hM0 := MapKV.made w (cntI [])
  have hB0 : Below w.heap.size w (w.alloc (.map #[] 0)) := (Below.refl _ w).alloc (Nat.le_refl _) _
  have hs0 : w.heap.size + 1 = (w.alloc (.map #[] 0)).heap.size := by simp
  have h0 := h.alloc (.map #[] 0)
  clear hmm
  generalize w.alloc (.map #[] 0) = w0 at hM0 hB0 hs0 h0 ⊢
  with_reducible refine (noted_t A n c l w0 h0 (by omega)).mono ?_
  rintro e w1 ⟨tb, A1, c1, rfl, hT1, hO1, hB1⟩
  go_wp2_with fail
  with_reducible refine (of_t tb A1 n c1 l 4 w1 hT1 (hO1.rd encR_len) (by omega)).mono ?_
  rintro e w2 ⟨A2, n2, c2, rfl, hO2, hB2⟩
  have hn2 : n2 ≤ 100000 := by
    have h1 := hO2.len
    have h2 := List.length_filter_le (fun r : LRow => r.kind == 4) l
    have h3 := h.len
    omega
  obtain ⟨lf, hlf⟩ : ∃ lf, l.filter (fun r : LRow => r.kind == 4) = lf := ⟨_, rfl⟩
  have hwf : ∀ r ∈ lf, wfR r := fun r hr => HW.out r (by rw [← hlf] at hr; exact (List.mem_filter.1 hr).1)
  rw [hlf] at hO2
  have hB3 : Below w0.heap.size w0 w2 := hB1.trans (hB2.mono hB1.size)
  have hM2 := hM0.below hB3
  have hms : w.heap.size < w1.heap.size := by have := hB1.size; omega
  have hwlow : w.heap.size ≤ w2.heap.size := by have := hB2.size; omega
  have HH := Lib.hid (And.intro (hB0.trans (hB3.mono (by omega))) (And.intro hO2 (And.intro hwf hlf)))
  clear hT1 hO1 hB1 hO2 hB2 hB3 h h0 hwf hlf hM0 hB0 hs0
  go_wp2
  go_loopw [14] (fun i wr => ∃ k : Nat, k ≤ n2 ∧ i = .int .i64 k ∧ MapKV wr (.map (some w.heap.size)) (markAll [] ((lf.map (·.job)).take k)) (cntI ((lf.map (·.job)).take k)) ∧ Kept (fun j => j = w.heap.size) w2 wr) (fun i _ => n2 - (intOf i).toNat)
  case atStart => exact ⟨0, Nat.zero_le _, rfl, hM2, Kept.refl _ _⟩
  case round =>
    clear hM2
    obtain ⟨k, hk, rfl, hM, hK⟩ := hrel
    by_cases hlt : k < n2
    · have hOk := HH.out.2.1.kept hK (fun ad ha => by have := (HH.out.2.1.at_base ad ha).1; omega)
      obtain ⟨ab, ao, r, rfl, hrr, hal, hcells⟩ := (hOk.rd encR_len).at_ hlt
      clear hOk
      have hc0 : wr.cell? ⟨ab, ao + k * 7, none⟩ = some (.int .i64 r.tick) := hcells 0 _ rfl
      have hc1 : wr.cell? ⟨ab, ao + k * 7 + 1, none⟩ = some (.int .i64 r.kind) := hcells 1 _ rfl
      have hc2 : wr.cell? ⟨ab, ao + k * 7 + 2, none⟩ = some (.int .i64 r.place) := hcells 2 _ rfl
      have hc3 : wr.cell? ⟨ab, ao + k * 7 + 3, none⟩ = some (.int .i64 r.epoch) := hcells 3 _ rfl
      have hc4 : wr.cell? ⟨ab, ao + k * 7 + 4, none⟩ = some (.int .i64 r.inc) := hcells 4 _ rfl
      have hc5 : wr.cell? ⟨ab, ao + k * 7 + 5, none⟩ = some (.int .i64 r.job) := hcells 5 _ rfl
      have hc6 : wr.cell? ⟨ab, ao + k * 7 + 6, none⟩ = some (.int .i64 r.code) := hcells 6 _ rfl
      clear hcells
      have hwr := HH.out.2.2.1 r (List.mem_of_getElem? hrr)
      have hjj : (lf.map (·.job))[k]? = some r.job := by rw [List.getElem?_map, hrr]; rfl
      have hlen : ((lf.map (·.job)).take k).length = k := by rw [List.length_take, List.length_map, HH.out.2.1.len]; omega
      have hcnt : (if r.job ∈ markAll [] ((lf.map (·.job)).take k) then cntI ((lf.map (·.job)).take k) r.job else 0) = cntI ((lf.map (·.job)).take k) r.job := by
        split
        · rfl
        · rename_i hnm
          exact (cntI_none (fun hm => hnm ((mem_markAll _ _ _).2 (.inl hm)))).symm
      have hget := (hM.alloc (rowObj r)).get_ hwr.2.2.2.2.2.1
      rw [hcnt] at hget
      have hcl := cntI_le ((lf.map (·.job)).take k) r.job
      rw [hlen] at hcl
      have hrow := (length_markAll_le [] ((lf.map (·.job)).take k)).2
      rw [hlen] at hrow
      obtain ⟨w3, hst, hM3, hg3, hz3⟩ := (hM.alloc (rowObj r)).store hwr.2.2.2.2.2.1 (show wf64 (cntI ((lf.map (·.job)).take k) r.job + 1) by unfold wf64; simp [Lit.wf, IntKind.min, IntKind.max, IntKind.signed, IntKind.bits]; omega) (by simp at hrow; omega)
      rw [cntI_snoc, ← take_succ_of _ _ _ hjj, ← markAll_take_succ _ _ _ _ hjj] at hM3
      have hk3 : Kept (fun j => j = w.heap.size) w2 w3 := (hK.alloc _).trans (Kept.of_grown (F := fun j => j = w.heap.size) hg3 (fun j e _ => by cases e; rfl)) (fun _ _ h => h)
      have HX := Lib.hid (And.intro hM3 hk3)
      clear hM3 hk3 hg3 hz3 hM hK hwr hjj hlen hcnt hrow hal hrr
      generalize cntI ((lf.map (·.job)).take k) r.job = cv at hget hst hcl
      go_wp2
      go_roundw
      case rel => exact ⟨k + 1, by omega, by go_num, HX.out.1, HX.out.2⟩
      case measure => simp [intOf]; omega
    · have hkn : k = n2 := by omega
      subst hkn
      have hjs : (lf.map (·.job)).take k = lf.map (·.job) := List.take_of_length_le (by rw [List.length_map]; have := HH.out.2.1.len; omega)
      rw [hjs] at hM
      have HJ := Lib.hid HH.out.2.2.2
      have hlen : (lf.map (·.job)).length = k := by rw [List.length_map]; exact HH.out.2.1.len
      obtain ⟨js, hjs2⟩ : ∃ js, lf.map (·.job) = js := ⟨_, rfl⟩
      rw [hjs2] at hM hlen
      have HL := Lib.hid (show (l.filter (fun r : LRow => r.kind == 4)).map (·.job) = js by rw [HJ.out]; exact hjs2)
      have hrow := (length_markAll_le [] js).2
      rw [hlen] at hrow
      have hBr : Below w.heap.size w wr := HH.out.1.trans (hK.below hwlow (fun i hi e => by omega))
      have HB := Lib.hid (And.intro hBr hrow)
      clear hjs hjs2 HJ hlen hrow hBr hK
      go_wp2_with fail
      with_reducible refine (mapKeys_t _ ⟨_, rfl⟩ _).mono ?_
      rintro e w' ⟨rfl, rfl⟩
      go_wp2_with fail
      have hcx := sortedKeys_t wr.heap.size w.heap.size (markAll [] js) (wr.alloc (.cells #[.map (some w.heap.size)] 45)) (Blk.new wr _ _) (hM.alloc _).set_ (by have := HB.out.2; simp at this; omega)
      with_reducible refine hcx.mono ?_
      clear hcx
      rintro e w5 ⟨A5, n5, c5, rfl, hO5, hB5⟩
      have hM5 := (hM.alloc (.cells #[.map (some w.heap.size)] 45)).below hB5
      have hsz5 : w.heap.size ≤ w5.heap.size := by have := HB.out.1.size; have := hB5.size; simp at this; omega
      have hBw : Below w.heap.size w w5 := (HB.out.1.alloc HB.out.1.size _).trans (hB5.mono (by have := HB.out.1.size; simp; omega))
      have hn5 : n5 ≤ 100000 := by have h1 := hO5.len; have h2 := HB.out.2; simp at h2; omega
      have HO := Lib.hid (And.intro hM5 (And.intro (hO5.rd (enc := encI) (sz := 1) (fun _ => rfl)) hBw))
      clear hM hM5 hO5 hB5 hBw
      go_wp2
      obtain ⟨wo, rfl⟩ : ∃ wo : World, wo = wr := ⟨_, rfl⟩
      go_loopw [6, 28] (fun v i wq => ∃ (q : Nat) (A' : Option Addr) (c' : Nat), q ≤ n5 ∧ i = .int .i64 q ∧ v = .slice A' q c' ∧ OwnL encP 148 2 wq w5.heap.size A' q c' (((markAll [] js).take q).map (fun j => (⟨j, cntI js j⟩ : LRep))) ∧ Below w5.heap.size w5 wq) (fun _ i _ => n5 - (intOf i).toNat)
      case atStart => exact ⟨0, none, 0, Nat.zero_le _, rfl, rfl, OwnL.nil _ _, Below.refl _ _⟩
      case round =>
        obtain ⟨q, A', c', hq, rfl, rfl, hO, hBq⟩ := hrel
        by_cases hlt : q < n5
        · obtain ⟨ab, ao, x, hA5, hx, hcx⟩ := RdI.at_ (HO.out.2.1.below hBq) hlt
          subst hA5
          have hxm : x ∈ markAll [] js := List.mem_of_getElem? hx
          have hxw : wf64 x := (HO.out.1.wf x hxm).1
          have hget := (HO.out.1.below hBq).get_ hxw
          rw [if_pos hxm] at hget
          have HX := Lib.hid hx
          clear hx hxm hxw
          go_wp2_with (at_builtin; refine wp_app (enc := encP) (fun _ => rfl) (by simp [encP, Value.oneCell']) rfl (.tmp 32) (.tmp 38) 97 rfl 148 (.agg #[.int .i64 0, .int .i64 0]) 16 Try.underlying97 Try.infoReply rfl (by decide) w5.heap.size _ q _ _ rfl (hO.alloc _) _ 1 _ [(⟨x, cntI js x⟩ : LRep)] (by rfl) (Rd.new1_at _ (⟨x, cntI js x⟩ : LRep) _ _ _ wr.heap.size rfl rfl) (q + 1) rfl _ rfl (by omega) (by omega) (by have := hBq.size; simp; omega) ?_; intro A4 c4 w6 ho6 hg6 _; have hb6 := (hBq.alloc hBq.size _).grown hg6 (by have := hBq.size; simp; omega) (own_block_ge hO))
          go_roundw
          case rel => exact ⟨q + 1, A4, c4, by omega, by go_num, rfl, by rw [take_succ_of _ _ _ HX.out, List.map_append]; exact ho6, hb6⟩
          case measure => simp [intOf]; omega
        · have hqn : q = n5 := by omega
          subst hqn
          have hl : (markAll [] js).take q = markAll [] js := List.take_of_length_le (by have := HO.out.2.1.len; omega)
          rw [hl] at hO
          go_wp2
          go_ret
          rw [HL.out]
          exact ⟨A', q, c', rfl, hO.lower hsz5, HO.out.2.2.trans (hBq.mono hsz5)⟩

end Go.Proofs.Ytaajlegdcgfcgaa
