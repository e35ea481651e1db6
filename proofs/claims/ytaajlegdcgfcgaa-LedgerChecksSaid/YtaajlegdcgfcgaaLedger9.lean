/-
  LAYER 45 (ledger): Ends.
-/
import Derived.Test.YtaajlegdcgfcgaaKeysR
import Derived.Test.YtaajlegdcgfcgaaLedger5
set_option linter.unusedVariables false
set_option linter.unusedSimpArgs false
namespace Go.Proofs.Ytaajlegdcgfcgaa
open Go.RowKit Go.Maps

def rowZ : LRow := ⟨0, 0, 0, 0, 0, 0, 0⟩
/-- The last row of a place. -/
def lastR (l : List LRow) (p : Int) : LRow := l.foldl (fun a r => if r.place = p then r else a) rowZ
theorem lastR_snoc (l : List LRow) (r : LRow) (p : Int) : lastR (l ++ [r]) p = if r.place = p then r else lastR l p := by simp [lastR, List.foldl_append]
def endsP (l : List LRow) : List LRow := (markAll [] (l.map (·.place))).map (lastR l)
theorem mapTyR : MapTy 161 146 zeroR := ⟨Try.underlying161, fun w => by kernel_rfl⟩

set_option maxRecDepth 100000 in
set_option maxHeartbeats 1600000 in
theorem ends_t (A : Option Addr) (n c : Nat) (l : List LRow) (w : World) (h : Rd encR 7 w A n l) (hw : ∀ r ∈ l, wfR r) (hn : n ≤ 100000) :
    Calls Try.prog 56 #[.slice A n c] w fun e w' => ∃ A' n' c', e = .returned (.slice A' n' c') ∧ OwnL encR 146 7 w' w.heap.size A' n' c' (endsP l) ∧ Below w.heap.size w w' := by
  have hmm := @run_makeMap Try.prog
  go_enter Try.func56, Try.ntmps56
  go_wp2
  have hM0 := MapV.made w (fun p => aggR (lastR [] p))
  have hB0 : Below w.heap.size w (w.alloc (.map #[] 0)) := (Below.refl _ w).alloc (Nat.le_refl _) _
  have hs0 : w.heap.size + 1 = (w.alloc (.map #[] 0)).heap.size := by simp
  have HH := Lib.hid (And.intro h hw)
  clear hmm h hw
  go_loopw [12] (fun i wr => ∃ k : Nat, k ≤ n ∧ i = .int .i64 k ∧ MapV wr (.map (some w.heap.size)) (markAll [] ((l.map (·.place)).take k)) (fun p => aggR (lastR (l.take k) p)) ∧ Below w.heap.size w wr) (fun i _ => n - (intOf i).toNat)
  case atStart => exact ⟨0, Nat.zero_le _, rfl, hM0, hB0⟩
  case round =>
    clear hM0 hB0 hs0
    obtain ⟨k, hk, rfl, hM, hB⟩ := hrel
    by_cases hlt : k < n
    · obtain ⟨ab, ao, r, rfl, hrr, hal, hcells⟩ := (HH.out.1.below hB).at_ hlt
      have hc0 : wr.cell? ⟨ab, ao + k * 7, none⟩ = some (.int .i64 r.tick) := hcells 0 _ rfl
      have hc1 : wr.cell? ⟨ab, ao + k * 7 + 1, none⟩ = some (.int .i64 r.kind) := hcells 1 _ rfl
      have hc2 : wr.cell? ⟨ab, ao + k * 7 + 2, none⟩ = some (.int .i64 r.place) := hcells 2 _ rfl
      have hc3 : wr.cell? ⟨ab, ao + k * 7 + 3, none⟩ = some (.int .i64 r.epoch) := hcells 3 _ rfl
      have hc4 : wr.cell? ⟨ab, ao + k * 7 + 4, none⟩ = some (.int .i64 r.inc) := hcells 4 _ rfl
      have hc5 : wr.cell? ⟨ab, ao + k * 7 + 5, none⟩ = some (.int .i64 r.job) := hcells 5 _ rfl
      have hc6 : wr.cell? ⟨ab, ao + k * 7 + 6, none⟩ = some (.int .i64 r.code) := hcells 6 _ rfl
      clear hcells
      have hwr := HH.out.2 r (List.mem_of_getElem? hrr)
      have hjj : (l.map (·.place))[k]? = some r.place := by rw [List.getElem?_map, hrr]; rfl
      have hlen : ((l.map (·.place)).take k).length = k := by rw [List.length_take, List.length_map, HH.out.1.len]; omega
      have hrow := (length_markAll_le [] ((l.map (·.place)).take k)).2
      rw [hlen] at hrow
      obtain ⟨w3, hst, hM3, hg3, hz3⟩ := (hM.alloc (rowObj r)).store mapTyR (aggR r) hwr.2.2.1 (by simp at hrow; omega)
      have hfun : (fun p => if p = r.place then aggR r else aggR (lastR (l.take k) p)) = fun p => aggR (lastR (l.take (k + 1)) p) := by
        funext p
        rw [take_succ_of _ _ _ hrr, lastR_snoc]
        by_cases e : p = r.place
        · rw [if_pos e, if_pos e.symm]
        · rw [if_neg e, if_neg (fun e' => e e'.symm)]
      rw [← markAll_take_succ _ _ _ _ hjj, hfun] at hM3
      have hB3 : Below w.heap.size w w3 := (hB.alloc hB.size _).grown hg3 (by have := hB.size; simp; omega) (fun j e => by cases e; exact Nat.le_refl _)
      have HX := Lib.hid (And.intro hM3 hB3)
      clear hM3 hB3 hg3 hz3 hM hB hwr hjj hlen hrow hal hrr hfun
      go_wp2
      go_roundw
      case rel => exact ⟨k + 1, by omega, by go_num, HX.out.1, HX.out.2⟩
      case measure => simp [intOf]; omega
    · have hkn : k = n := by omega
      subst hkn
      have hl : l.take k = l := List.take_of_length_le (by have := HH.out.1.len; omega)
      have hjs : (l.map (·.place)).take k = l.map (·.place) := List.take_of_length_le (by rw [List.length_map]; have := HH.out.1.len; omega)
      rw [hjs, hl] at hM
      have hlen : (l.map (·.place)).length = k := by rw [List.length_map]; exact HH.out.1.len
      obtain ⟨js, hjs2⟩ : ∃ js, l.map (·.place) = js := ⟨_, rfl⟩
      rw [hjs2] at hM hlen
      have HL := Lib.hid (show endsP l = (markAll [] js).map (lastR l) by rw [← hjs2]; rfl)
      have hrow := (length_markAll_le [] js).2
      rw [hlen] at hrow
      have HB := Lib.hid (And.intro hB hrow)
      clear hl hjs hjs2 hlen hrow hB
      go_wp2_with fail
      with_reducible refine (mapKeysR_t _ ⟨_, rfl⟩ _).mono ?_
      rintro e w' ⟨rfl, rfl⟩
      go_wp2_with fail
      have hcx := sortedKeysR_t wr.heap.size w.heap.size (markAll [] js) (wr.alloc (.cells #[.map (some w.heap.size)] 161)) (Blk.new wr _ _) _ (hM.alloc _) (by have := HB.out.2; simp at this; omega)
      with_reducible refine hcx.mono ?_
      clear hcx
      rintro e w5 ⟨A5, n5, c5, rfl, hO5, hB5⟩
      have hM5 := (hM.alloc (.cells #[.map (some w.heap.size)] 161)).below hB5
      have hsz5 : w.heap.size ≤ w5.heap.size := by have := HB.out.1.size; have := hB5.size; simp at this; omega
      have hBw : Below w.heap.size w w5 := (HB.out.1.alloc HB.out.1.size _).trans (hB5.mono (by have := HB.out.1.size; simp; omega))
      have hn5 : n5 ≤ 100000 := by have h1 := hO5.len; have h2 := HB.out.2; simp at h2; omega
      have HO := Lib.hid (And.intro hM5 (And.intro (hO5.rd (enc := encI) (sz := 1) (fun _ => rfl)) hBw))
      clear hM hM5 hO5 hB5 hBw
      go_wp2
      obtain ⟨wo, rfl⟩ : ∃ wo : World, wo = wr := ⟨_, rfl⟩
      go_loopw [6, 25] (fun v i wq => ∃ (q : Nat) (A' : Option Addr) (c' : Nat), q ≤ n5 ∧ i = .int .i64 q ∧ v = .slice A' q c' ∧ OwnL encR 146 7 wq w5.heap.size A' q c' (((markAll [] js).take q).map (lastR l)) ∧ Below w5.heap.size w5 wq) (fun _ i _ => n5 - (intOf i).toNat)
      case atStart => exact ⟨0, none, 0, Nat.zero_le _, rfl, rfl, OwnL.nil _ _, Below.refl _ _⟩
      case round =>
        obtain ⟨q, A', c', hq, rfl, rfl, hO, hBq⟩ := hrel
        by_cases hlt : q < n5
        · obtain ⟨ab, ao, x, hA5, hx, hcx⟩ := RdI.at_ (HO.out.2.1.below hBq) hlt
          subst hA5
          have hxm : x ∈ markAll [] js := List.mem_of_getElem? hx
          have hget := (HO.out.1.below hBq).get_ mapTyR (HO.out.1.wf x hxm)
          rw [if_pos hxm] at hget
          have HX := Lib.hid hx
          have hx7 : ∃ y, lastR l x = y := ⟨_, rfl⟩
          obtain ⟨y, hy⟩ := hx7
          rw [hy] at hget
          have HY := Lib.hid hy
          clear hx hxm hy
          go_wp2_with (at_builtin; refine wp_app (enc := encR) (fun _ => rfl) row_one rfl (.tmp 29) (.tmp 33) 88 rfl 146 zeroR 56 Try.underlying88 Try.infoRow rfl (by decide) w5.heap.size _ q _ _ rfl (hO.alloc _) _ 1 _ [y] (by rfl) (Rd.new1_at _ y _ _ _ wr.heap.size rfl rfl) (q + 1) rfl _ rfl (by omega) (by omega) (by have := hBq.size; simp; omega) ?_; intro A4 c4 w6 ho6 hg6 _; have hb6 := (hBq.alloc hBq.size _).grown hg6 (by have := hBq.size; simp; omega) (own_block_ge hO))
          go_roundw
          case rel => exact ⟨q + 1, A4, c4, by omega, by go_num, rfl, by rw [take_succ_of _ _ _ HX.out, List.map_append]; rw [← HY.out] at ho6; exact ho6, hb6⟩
          case measure => simp [intOf]; omega
        · have hqn : q = n5 := by omega
          subst hqn
          have hl : (markAll [] js).take q = markAll [] js := List.take_of_length_le (by have := HO.out.2.1.len; omega)
          rw [hl] at hO
          go_wp2
          go_ret
          rw [HL.out]
          exact ⟨A', q, c', rfl, hO.lower hsz5, HO.out.2.2.trans (hBq.mono hsz5)⟩

end Go.Proofs.Ytaajlegdcgfcgaa
