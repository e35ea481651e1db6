/-
  LAYER 45 (ledger): Epochs, Told, Begun.
-/
import Derived.Test.YtaajlegdcgfcgaaTrace3
import Derived.Test.YtaajlegdcgfcgaaKeys
import Derived.Test.YtaajlegdcgfcgaaMapKV
set_option linter.unusedVariables false
set_option linter.unusedSimpArgs false
namespace Go.Proofs.Ytaajlegdcgfcgaa
open Go.RowKit Go.Maps

theorem Rd.new1_at {α : Type} {enc : α → List Value} {sz : Nat} (w : World) (x : α) (cs : Array Value) (t : TypeId) (fz : Nat × Nat) (g : Nat) (hg : w.heap.size = g) (h : cs.toList = enc x) : Rd enc sz (w.alloc (.cells cs t fz)) (some ⟨g, 0, none⟩) 1 [x] := by
  subst hg
  exact Rd.new1 w x cs t fz h
theorem encR_len (r : LRow) : (encR r).length = 7 := rfl

set_option maxRecDepth 100000 in
set_option maxHeartbeats 1000000 in
theorem epochs_t (A : Option Addr) (n c : Nat) (l : List LRow) (w : World) (h : Rd encR 7 w A n l) (hn : n ≤ 1000000) :
    Calls Try.prog 48 #[.slice A n c] w fun e w' => ∃ A' n' c', e = .returned (.slice A' n' c') ∧ OwnL encI 3 1 w' w.heap.size A' n' c' ((l.filter (fun r : LRow => r.kind == 1)).map (·.place)) ∧ Below w.heap.size w w' := by
  go_enter Try.func48, Try.ntmps48
  go_wp2_with fail
  with_reducible refine (noted_t A n c l w h hn).mono ?_
  rintro e w1 ⟨tb, A1, c1, rfl, hT1, hO1, hB1⟩
  go_wp2_with fail
  with_reducible refine (of_t tb A1 n c1 l 1 w1 hT1 (hO1.rd encR_len) (by omega)).mono ?_
  rintro e w2 ⟨A2, n2, c2, rfl, hO2, hB2⟩
  have hn2 : n2 ≤ 1000000 := by
    have h1 := hO2.len
    have h2 := List.length_filter_le (fun r : LRow => r.kind == 1) l
    have h3 := h.len
    omega
  have hlow : w.heap.size ≤ w2.heap.size := by have := hB1.size; have := hB2.size; omega
  have hB3 : Below w.heap.size w w2 := hB1.trans (hB2.mono hB1.size)
  have hR2 := hO2.rd encR_len
  have HH := Lib.hid (And.intro hB3 hR2)
  clear hT1 hO1 hB1 hO2 hB2 hB3 hR2 h
  obtain ⟨lf, hlf⟩ : ∃ lf, l.filter (fun r : LRow => r.kind == 1) = lf := ⟨_, rfl⟩
  rw [hlf] at HH
  have HL := Lib.hid hlf
  clear hlf
  go_wp2
  go_loopw [3, 10] (fun v i wr => ∃ (k : Nat) (A' : Option Addr) (c' : Nat), k ≤ n2 ∧ i = .int .i64 k ∧ v = .slice A' k c' ∧ OwnL encI 3 1 wr w2.heap.size A' k c' ((lf.take k).map (·.place)) ∧ Below w2.heap.size w2 wr) (fun _ i _ => n2 - (intOf i).toNat)
  case atStart => exact ⟨0, none, 0, Nat.zero_le _, rfl, rfl, OwnL.nil _ _, Below.refl _ _⟩
  case round =>
    obtain ⟨k, A', c', hk, rfl, rfl, hO, hB⟩ := hrel
    by_cases hlt : k < n2
    · obtain ⟨ab, ao, r, rfl, hrr, hal, hcells⟩ := (HH.out.2.below hB).at_ hlt
      have hc0 : wr.cell? ⟨ab, ao + k * 7, none⟩ = some (.int .i64 r.tick) := hcells 0 _ rfl
      have hc1 : wr.cell? ⟨ab, ao + k * 7 + 1, none⟩ = some (.int .i64 r.kind) := hcells 1 _ rfl
      have hc2 : wr.cell? ⟨ab, ao + k * 7 + 2, none⟩ = some (.int .i64 r.place) := hcells 2 _ rfl
      have hc3 : wr.cell? ⟨ab, ao + k * 7 + 3, none⟩ = some (.int .i64 r.epoch) := hcells 3 _ rfl
      have hc4 : wr.cell? ⟨ab, ao + k * 7 + 4, none⟩ = some (.int .i64 r.inc) := hcells 4 _ rfl
      have hc5 : wr.cell? ⟨ab, ao + k * 7 + 5, none⟩ = some (.int .i64 r.job) := hcells 5 _ rfl
      have hc6 : wr.cell? ⟨ab, ao + k * 7 + 6, none⟩ = some (.int .i64 r.code) := hcells 6 _ rfl
      clear hcells
      have HR := Lib.hid hrr
      clear hrr
      go_wp2_with (at_builtin; refine wp_app (enc := encI) (fun _ => rfl) (by simp [encI, Value.oneCell']) rfl (.tmp 14) (.tmp 17) 27 rfl 3 (.int .i64 0) 8 Try.underlying27 Try.infoInt rfl (by decide) w2.heap.size _ k _ _ rfl ((hO.alloc (rowObj r)).alloc _) _ 1 _ [r.place] (by rfl) (Rd.new1_at _ r.place _ _ _ (wr.heap.size + 1) (by simp) rfl) (k + 1) rfl _ rfl (by omega) (by omega) (by have := hB.size; simp; omega) ?_; intro A4 c4 w4 ho4 hg4 _; have hb4 := ((hB.alloc hB.size (rowObj r)).alloc (by have := hB.size; simp; omega) _).grown hg4 (by have := hB.size; simp; omega) (own_block_ge hO))
      go_roundw
      case rel => exact ⟨k + 1, A4, c4, by omega, by go_num, rfl, by rw [take_succ_of _ _ _ HR.out, List.map_append]; exact ho4, hb4⟩
      case measure => simp [intOf]; omega
    · have hkn : k = n2 := by omega
      subst hkn
      have hl : lf.take k = lf := List.take_of_length_le (by have := HH.out.2.len; omega)
      rw [hl] at hO
      go_wp2
      go_ret
      rw [HL.out]
      exact ⟨A', k, c', rfl, hO.lower hlow, HH.out.1.trans (hB.mono hlow)⟩

/-- A reply. -/
structure LRep where
  job : Int
  code : Int
  deriving DecidableEq
def encP (p : LRep) : List Value := [.int .i64 p.job, .int .i64 p.code]
theorem encP_len (p : LRep) : (encP p).length = 2 := rfl
def toldP (r : LRow) : LRep := ⟨r.job, r.code⟩
theorem Try.infoReply : (Try.prog.info? 148).map (fun i => (i.zero, i.size, i.bytes)) = some (some (.agg #[.int .i64 0, .int .i64 0]), 2, 16) := by kernel_rfl

set_option maxRecDepth 100000 in
set_option maxHeartbeats 1000000 in
theorem told_t (A : Option Addr) (n c : Nat) (l : List LRow) (w : World) (h : Rd encR 7 w A n l) (hn : n ≤ 1000000) :
    Calls Try.prog 51 #[.slice A n c] w fun e w' => ∃ A' n' c', e = .returned (.slice A' n' c') ∧ OwnL encP 148 2 w' w.heap.size A' n' c' ((l.filter (fun r : LRow => r.kind == 3)).map toldP) ∧ Below w.heap.size w w' := by
  go_enter Try.func51, Try.ntmps51
  go_wp2_with fail
  with_reducible refine (noted_t A n c l w h hn).mono ?_
  rintro e w1 ⟨tb, A1, c1, rfl, hT1, hO1, hB1⟩
  go_wp2_with fail
  with_reducible refine (of_t tb A1 n c1 l 3 w1 hT1 (hO1.rd encR_len) (by omega)).mono ?_
  rintro e w2 ⟨A2, n2, c2, rfl, hO2, hB2⟩
  have hn2 : n2 ≤ 1000000 := by
    have h1 := hO2.len
    have h2 := List.length_filter_le (fun r : LRow => r.kind == 3) l
    have h3 := h.len
    omega
  have hlow : w.heap.size ≤ w2.heap.size := by have := hB1.size; have := hB2.size; omega
  have hB3 : Below w.heap.size w w2 := hB1.trans (hB2.mono hB1.size)
  have hR2 := hO2.rd encR_len
  have HH := Lib.hid (And.intro hB3 hR2)
  clear hT1 hO1 hB1 hO2 hB2 hB3 hR2 h
  obtain ⟨lf, hlf⟩ : ∃ lf, l.filter (fun r : LRow => r.kind == 3) = lf := ⟨_, rfl⟩
  rw [hlf] at HH
  have HL := Lib.hid hlf
  clear hlf
  go_wp2
  go_loopw [3, 10] (fun v i wr => ∃ (k : Nat) (A' : Option Addr) (c' : Nat), k ≤ n2 ∧ i = .int .i64 k ∧ v = .slice A' k c' ∧ OwnL encP 148 2 wr w2.heap.size A' k c' ((lf.take k).map toldP) ∧ Below w2.heap.size w2 wr) (fun _ i _ => n2 - (intOf i).toNat)
  case atStart => exact ⟨0, none, 0, Nat.zero_le _, rfl, rfl, OwnL.nil _ _, Below.refl _ _⟩
  case round =>
    obtain ⟨k, A', c', hk, rfl, rfl, hO, hB⟩ := hrel
    by_cases hlt : k < n2
    · obtain ⟨ab, ao, r, rfl, hrr, hal, hcells⟩ := (HH.out.2.below hB).at_ hlt
      have hc0 : wr.cell? ⟨ab, ao + k * 7, none⟩ = some (.int .i64 r.tick) := hcells 0 _ rfl
      have hc1 : wr.cell? ⟨ab, ao + k * 7 + 1, none⟩ = some (.int .i64 r.kind) := hcells 1 _ rfl
      have hc2 : wr.cell? ⟨ab, ao + k * 7 + 2, none⟩ = some (.int .i64 r.place) := hcells 2 _ rfl
      have hc3 : wr.cell? ⟨ab, ao + k * 7 + 3, none⟩ = some (.int .i64 r.epoch) := hcells 3 _ rfl
      have hc4 : wr.cell? ⟨ab, ao + k * 7 + 4, none⟩ = some (.int .i64 r.inc) := hcells 4 _ rfl
      have hc5 : wr.cell? ⟨ab, ao + k * 7 + 5, none⟩ = some (.int .i64 r.job) := hcells 5 _ rfl
      have hc6 : wr.cell? ⟨ab, ao + k * 7 + 6, none⟩ = some (.int .i64 r.code) := hcells 6 _ rfl
      clear hcells
      have HR := Lib.hid hrr
      clear hrr
      go_wp2_with (at_builtin; refine wp_app (enc := encP) (fun _ => rfl) (by simp [encP, Value.oneCell']) rfl (.tmp 14) (.tmp 20) 97 rfl 148 (.agg #[.int .i64 0, .int .i64 0]) 16 Try.underlying97 Try.infoReply rfl (by decide) w2.heap.size _ k _ _ rfl ((hO.alloc (rowObj r)).alloc _) _ 1 _ [toldP r] (by rfl) (Rd.new1_at _ (toldP r) _ _ _ (wr.heap.size + 1) (by simp) rfl) (k + 1) rfl _ rfl (by omega) (by omega) (by have := hB.size; simp; omega) ?_; intro A4 c4 w4 ho4 hg4 _; have hb4 := ((hB.alloc hB.size (rowObj r)).alloc (by have := hB.size; simp; omega) _).grown hg4 (by have := hB.size; simp; omega) (own_block_ge hO))
      go_roundw
      case rel => exact ⟨k + 1, A4, c4, by omega, by go_num, rfl, by rw [take_succ_of _ _ _ HR.out, List.map_append]; exact ho4, hb4⟩
      case measure => simp [intOf]; omega
    · have hkn : k = n2 := by omega
      subst hkn
      have hl : lf.take k = lf := List.take_of_length_le (by have := HH.out.2.len; omega)
      rw [hl] at hO
      go_wp2
      go_ret
      rw [HL.out]
      exact ⟨A', k, c', rfl, hO.lower hlow, HH.out.1.trans (hB.mono hlow)⟩

end Go.Proofs.Ytaajlegdcgfcgaa
