/-
  LAYER 35 (msg): the document's Numbers.
-/
import Derived.Test.YthhnocnkicoimaaDoorMsg6
import Derived.Deep.CutRange
set_option linter.unusedVariables false
set_option linter.unusedSimpArgs false
namespace Go.Proofs.YthhnocnkicoimaaDoor
open Go.RowKit

set_option maxRecDepth 100000 in
set_option maxHeartbeats 6400000 in
theorem rnum_k1 (m : LMsg) (hk : m.kind = 1) (w : World) : Calls Tryd.prog 97 #[aggMsg m] w fun e w' => ∃ A c, e = .returned (.slice A 5 c) ∧ RdI w' A 5 [m.inc, m.tick, m.res.a, m.res.b, m.res.c] ∧ Below w.heap.size w w' := by
  have h1 := Blk.new w 38 (boxMsg m)
  have hB : Below w.heap.size w (w.alloc (.cells (boxMsg m) 38)) := (Below.refl _ _).alloc (Nat.le_refl _) _
  have c0 : (w.alloc (.cells (boxMsg m) 38)).cell? ⟨w.heap.size, 0, none⟩ = some (.int .i64 1) := by rw [← hk]; exact (h1.cell 0).trans rfl
  have H0 := Lib.hid (And.intro h1 hB)
  clear h1 hB hk
  go_enter Tryd.func97, Tryd.ntmps97
  go_wp2_with fail
  generalize w.alloc (.cells (boxMsg m) 38) = w1 at H0 c0 ⊢
  obtain ⟨b1, hb1⟩ : ∃ b1, w.heap.size = b1 := ⟨_, rfl⟩
  have h1 : Blk w1 b1 38 (boxMsg m) := by rw [← hb1]; exact H0.out.1
  rw [hb1] at c0
  try simp only [hb1]
  go_wp2_with fail
  (with_reducible refine (rnames_k1 w1).mono ?_)
  rintro e w2 ⟨rfl, hB2⟩
  have H2 := Lib.hid (And.intro (h1.below hB2 h1.lt) (H0.out.2.trans (hB2.mono H0.out.2.size)))
  clear h1 hb1 H0 c0 hB2
  go_wp2
  go_loopw [3, 5] (fun o i wr => (i = .int .i64 0 ∧ ∃ A c, o = .slice A 0 c ∧ OwnL encI 3 1 wr w2.heap.size A 0 c [] ∧ Below w2.heap.size w2 wr) ∨ (i = .int .i64 1 ∧ ∃ A c, o = .slice A 1 c ∧ OwnL encI 3 1 wr w2.heap.size A 1 c [m.inc] ∧ Below w2.heap.size w2 wr) ∨ (i = .int .i64 2 ∧ ∃ A c, o = .slice A 2 c ∧ OwnL encI 3 1 wr w2.heap.size A 2 c [m.inc, m.tick] ∧ Below w2.heap.size w2 wr) ∨ (i = .int .i64 3 ∧ ∃ A c, o = .slice A 5 c ∧ OwnL encI 3 1 wr w2.heap.size A 5 c [m.inc, m.tick, m.res.a, m.res.b, m.res.c] ∧ Below w2.heap.size w2 wr)) (fun _ i _ => 3 - (intOf i).toNat)
  case atStart => exact .inl ⟨rfl, none, 0, rfl, OwnL.nil _ _, Below.refl _ _⟩
  case round =>
    rcases hrel with ⟨rfl, A, c, rfl, ho, hb⟩ | ⟨rfl, A, c, rfl, ho, hb⟩ | ⟨rfl, A, c, rfl, ho, hb⟩ | ⟨rfl, A, c, rfl, ho, hb⟩
    · have g4 : wr.cell? ⟨b1, 4, none⟩ = some (.int .i64 m.inc) := ((H2.out.1.below hb H2.out.1.lt).cell 4).trans rfl
      go_wp2_with (at_builtin; refine wp_app (enc := encI) (fun _ => rfl) (by simp [encI, Value.oneCell']) rfl (.tmp 45) (.tmp 48) 29 rfl 3 (.int .i64 0) 8 Tryd.underlying29 Tryd.infoInt rfl (by decide) w2.heap.size _ 0 _ _ rfl (ho.alloc _) _ 1 _ [m.inc] rfl (Rd.new1 _ m.inc _ _ _ rfl) 1 rfl _ rfl (by omega) (by omega) (by have := hb.size; simp; omega) ?_; intro A4 c4_ w4 ho4 hg4 _; have hb4 := (hb.alloc hb.size _).grown hg4 (by have := hb.size; simp; omega) (own_block_ge ho))
      go_roundw
      case rel => exact .inr (.inl ⟨by go_num, A4, c4_, rfl, by simpa using ho4, hb4⟩)
      case measure => simp [intOf]
    · have g6 : wr.cell? ⟨b1, 6, none⟩ = some (.int .i64 m.tick) := ((H2.out.1.below hb H2.out.1.lt).cell 6).trans rfl
      go_wp2_with (at_builtin; refine wp_app (enc := encI) (fun _ => rfl) (by simp [encI, Value.oneCell']) rfl (.tmp 59) (.tmp 62) 29 rfl 3 (.int .i64 0) 8 Tryd.underlying29 Tryd.infoInt rfl (by decide) w2.heap.size _ 1 _ _ rfl (ho.alloc _) _ 1 _ [m.tick] rfl (Rd.new1 _ m.tick _ _ _ rfl) 2 rfl _ rfl (by omega) (by omega) (by have := hb.size; simp; omega) ?_; intro A4 c4_ w4 ho4 hg4 _; have hb4 := (hb.alloc hb.size _).grown hg4 (by have := hb.size; simp; omega) (own_block_ge ho))
      go_roundw
      case rel => exact .inr (.inr (.inl ⟨by go_num, A4, c4_, rfl, by simpa using ho4, hb4⟩))
      case measure => simp [intOf]
    · have g9 : wr.cell? ⟨b1, 9, none⟩ = some (.int .i64 m.res.a) := ((H2.out.1.below hb H2.out.1.lt).cell 9).trans rfl
      go_wp2_with (first
        | (at_builtin; refine wp_app (enc := encI) (fun _ => rfl) (by simp [encI, Value.oneCell']) rfl (.tmp 18) (.tmp 22) 29 rfl 3 (.int .i64 0) 8 Tryd.underlying29 Tryd.infoInt rfl (by decide) w2.heap.size _ 2 _ _ rfl (ho.alloc _) _ 1 _ [m.res.a] rfl (Rd.new1 _ m.res.a _ _ _ rfl) 3 rfl _ rfl (by omega) (by omega) (by have := hb.size; simp; omega) ?_; intro A4 c4_ w4 ho4 hg4 _; have hb4 := (hb.alloc hb.size _).grown hg4 (by have := hb.size; simp; omega) (own_block_ge ho); have g10 : w4.cell? ⟨b1, 10, none⟩ = some (.int .i64 m.res.b) := ((H2.out.1.below hb4 H2.out.1.lt).cell 10).trans rfl)
        | (at_builtin; refine wp_app (enc := encI) (fun _ => rfl) (by simp [encI, Value.oneCell']) rfl (.tmp 24) (.tmp 28) 29 rfl 3 (.int .i64 0) 8 Tryd.underlying29 Tryd.infoInt rfl (by decide) w2.heap.size _ 3 _ _ rfl (ho4.alloc _) _ 1 _ [m.res.b] rfl (Rd.new1 _ m.res.b _ _ _ rfl) 4 rfl _ rfl (by omega) (by omega) (by have := hb4.size; simp; omega) ?_; intro A5 c5_ w5 ho5 hg5 _; have hb5 := (hb4.alloc hb4.size _).grown hg5 (by have := hb4.size; simp; omega) (own_block_ge ho4); have g11 : w5.cell? ⟨b1, 11, none⟩ = some (.int .i64 m.res.c) := ((H2.out.1.below hb5 H2.out.1.lt).cell 11).trans rfl)
        | (at_builtin; refine wp_app (enc := encI) (fun _ => rfl) (by simp [encI, Value.oneCell']) rfl (.tmp 30) (.tmp 34) 29 rfl 3 (.int .i64 0) 8 Tryd.underlying29 Tryd.infoInt rfl (by decide) w2.heap.size _ 4 _ _ rfl (ho5.alloc _) _ 1 _ [m.res.c] rfl (Rd.new1 _ m.res.c _ _ _ rfl) 5 rfl _ rfl (by omega) (by omega) (by have := hb5.size; simp; omega) ?_; intro A6 c6_ w6 ho6 hg6 _; have hb6 := (hb5.alloc hb5.size _).grown hg6 (by have := hb5.size; simp; omega) (own_block_ge ho5)))
      go_roundw
      case rel => exact .inr (.inr (.inr (⟨by go_num, A6, c6_, rfl, by simpa using ho6, hb6⟩)))
      case measure => simp [intOf]
    · go_wp2
      go_ret
      exact ⟨A, c, rfl, ho.rd (sz := 1) (enc := encI) (fun _ => rfl), H2.out.2.trans (hb.mono H2.out.2.size)⟩
set_option maxRecDepth 100000 in
set_option maxHeartbeats 6400000 in
theorem rnum_k2 (m : LMsg) (hk : m.kind = 2) (w : World) : Calls Tryd.prog 97 #[aggMsg m] w fun e w' => ∃ A c, e = .returned (.slice A 3 c) ∧ RdI w' A 3 [m.epoch, m.inc, m.tick] ∧ Below w.heap.size w w' := by
  have h1 := Blk.new w 38 (boxMsg m)
  have hB : Below w.heap.size w (w.alloc (.cells (boxMsg m) 38)) := (Below.refl _ _).alloc (Nat.le_refl _) _
  have c0 : (w.alloc (.cells (boxMsg m) 38)).cell? ⟨w.heap.size, 0, none⟩ = some (.int .i64 2) := by rw [← hk]; exact (h1.cell 0).trans rfl
  have H0 := Lib.hid (And.intro h1 hB)
  clear h1 hB hk
  go_enter Tryd.func97, Tryd.ntmps97
  go_wp2_with fail
  generalize w.alloc (.cells (boxMsg m) 38) = w1 at H0 c0 ⊢
  obtain ⟨b1, hb1⟩ : ∃ b1, w.heap.size = b1 := ⟨_, rfl⟩
  have h1 : Blk w1 b1 38 (boxMsg m) := by rw [← hb1]; exact H0.out.1
  rw [hb1] at c0
  try simp only [hb1]
  go_wp2_with fail
  (with_reducible refine (rnames_k2 w1).mono ?_)
  rintro e w2 ⟨rfl, hB2⟩
  have H2 := Lib.hid (And.intro (h1.below hB2 h1.lt) (H0.out.2.trans (hB2.mono H0.out.2.size)))
  clear h1 hb1 H0 c0 hB2
  go_wp2
  go_loopw [3, 5] (fun o i wr => (i = .int .i64 0 ∧ ∃ A c, o = .slice A 0 c ∧ OwnL encI 3 1 wr w2.heap.size A 0 c [] ∧ Below w2.heap.size w2 wr) ∨ (i = .int .i64 1 ∧ ∃ A c, o = .slice A 1 c ∧ OwnL encI 3 1 wr w2.heap.size A 1 c [m.epoch] ∧ Below w2.heap.size w2 wr) ∨ (i = .int .i64 2 ∧ ∃ A c, o = .slice A 2 c ∧ OwnL encI 3 1 wr w2.heap.size A 2 c [m.epoch, m.inc] ∧ Below w2.heap.size w2 wr) ∨ (i = .int .i64 3 ∧ ∃ A c, o = .slice A 3 c ∧ OwnL encI 3 1 wr w2.heap.size A 3 c [m.epoch, m.inc, m.tick] ∧ Below w2.heap.size w2 wr)) (fun _ i _ => 3 - (intOf i).toNat)
  case atStart => exact .inl ⟨rfl, none, 0, rfl, OwnL.nil _ _, Below.refl _ _⟩
  case round =>
    rcases hrel with ⟨rfl, A, c, rfl, ho, hb⟩ | ⟨rfl, A, c, rfl, ho, hb⟩ | ⟨rfl, A, c, rfl, ho, hb⟩ | ⟨rfl, A, c, rfl, ho, hb⟩
    · have g3 : wr.cell? ⟨b1, 3, none⟩ = some (.int .i64 m.epoch) := ((H2.out.1.below hb H2.out.1.lt).cell 3).trans rfl
      go_wp2_with (at_builtin; refine wp_app (enc := encI) (fun _ => rfl) (by simp [encI, Value.oneCell']) rfl (.tmp 38) (.tmp 41) 29 rfl 3 (.int .i64 0) 8 Tryd.underlying29 Tryd.infoInt rfl (by decide) w2.heap.size _ 0 _ _ rfl (ho.alloc _) _ 1 _ [m.epoch] rfl (Rd.new1 _ m.epoch _ _ _ rfl) 1 rfl _ rfl (by omega) (by omega) (by have := hb.size; simp; omega) ?_; intro A4 c4_ w4 ho4 hg4 _; have hb4 := (hb.alloc hb.size _).grown hg4 (by have := hb.size; simp; omega) (own_block_ge ho))
      go_roundw
      case rel => exact .inr (.inl ⟨by go_num, A4, c4_, rfl, by simpa using ho4, hb4⟩)
      case measure => simp [intOf]
    · have g4 : wr.cell? ⟨b1, 4, none⟩ = some (.int .i64 m.inc) := ((H2.out.1.below hb H2.out.1.lt).cell 4).trans rfl
      go_wp2_with (at_builtin; refine wp_app (enc := encI) (fun _ => rfl) (by simp [encI, Value.oneCell']) rfl (.tmp 45) (.tmp 48) 29 rfl 3 (.int .i64 0) 8 Tryd.underlying29 Tryd.infoInt rfl (by decide) w2.heap.size _ 1 _ _ rfl (ho.alloc _) _ 1 _ [m.inc] rfl (Rd.new1 _ m.inc _ _ _ rfl) 2 rfl _ rfl (by omega) (by omega) (by have := hb.size; simp; omega) ?_; intro A4 c4_ w4 ho4 hg4 _; have hb4 := (hb.alloc hb.size _).grown hg4 (by have := hb.size; simp; omega) (own_block_ge ho))
      go_roundw
      case rel => exact .inr (.inr (.inl ⟨by go_num, A4, c4_, rfl, by simpa using ho4, hb4⟩))
      case measure => simp [intOf]
    · have g6 : wr.cell? ⟨b1, 6, none⟩ = some (.int .i64 m.tick) := ((H2.out.1.below hb H2.out.1.lt).cell 6).trans rfl
      go_wp2_with (at_builtin; refine wp_app (enc := encI) (fun _ => rfl) (by simp [encI, Value.oneCell']) rfl (.tmp 59) (.tmp 62) 29 rfl 3 (.int .i64 0) 8 Tryd.underlying29 Tryd.infoInt rfl (by decide) w2.heap.size _ 2 _ _ rfl (ho.alloc _) _ 1 _ [m.tick] rfl (Rd.new1 _ m.tick _ _ _ rfl) 3 rfl _ rfl (by omega) (by omega) (by have := hb.size; simp; omega) ?_; intro A4 c4_ w4 ho4 hg4 _; have hb4 := (hb.alloc hb.size _).grown hg4 (by have := hb.size; simp; omega) (own_block_ge ho))
      go_roundw
      case rel => exact .inr (.inr (.inr (⟨by go_num, A4, c4_, rfl, by simpa using ho4, hb4⟩)))
      case measure => simp [intOf]
    · go_wp2
      go_ret
      exact ⟨A, c, rfl, ho.rd (sz := 1) (enc := encI) (fun _ => rfl), H2.out.2.trans (hb.mono H2.out.2.size)⟩
set_option maxRecDepth 100000 in
set_option maxHeartbeats 6400000 in
theorem rnum_k3 (m : LMsg) (hk : m.kind = 3) (w : World) : Calls Tryd.prog 97 #[aggMsg m] w fun e w' => ∃ A c, e = .returned (.slice A 3 c) ∧ RdI w' A 3 [m.epoch, m.inc, m.job] ∧ Below w.heap.size w w' := by
  have h1 := Blk.new w 38 (boxMsg m)
  have hB : Below w.heap.size w (w.alloc (.cells (boxMsg m) 38)) := (Below.refl _ _).alloc (Nat.le_refl _) _
  have c0 : (w.alloc (.cells (boxMsg m) 38)).cell? ⟨w.heap.size, 0, none⟩ = some (.int .i64 3) := by rw [← hk]; exact (h1.cell 0).trans rfl
  have H0 := Lib.hid (And.intro h1 hB)
  clear h1 hB hk
  go_enter Tryd.func97, Tryd.ntmps97
  go_wp2_with fail
  generalize w.alloc (.cells (boxMsg m) 38) = w1 at H0 c0 ⊢
  obtain ⟨b1, hb1⟩ : ∃ b1, w.heap.size = b1 := ⟨_, rfl⟩
  have h1 : Blk w1 b1 38 (boxMsg m) := by rw [← hb1]; exact H0.out.1
  rw [hb1] at c0
  try simp only [hb1]
  go_wp2_with fail
  (with_reducible refine (rnames_k3 w1).mono ?_)
  rintro e w2 ⟨rfl, hB2⟩
  have H2 := Lib.hid (And.intro (h1.below hB2 h1.lt) (H0.out.2.trans (hB2.mono H0.out.2.size)))
  clear h1 hb1 H0 c0 hB2
  go_wp2
  go_loopw [3, 5] (fun o i wr => (i = .int .i64 0 ∧ ∃ A c, o = .slice A 0 c ∧ OwnL encI 3 1 wr w2.heap.size A 0 c [] ∧ Below w2.heap.size w2 wr) ∨ (i = .int .i64 1 ∧ ∃ A c, o = .slice A 1 c ∧ OwnL encI 3 1 wr w2.heap.size A 1 c [m.epoch] ∧ Below w2.heap.size w2 wr) ∨ (i = .int .i64 2 ∧ ∃ A c, o = .slice A 2 c ∧ OwnL encI 3 1 wr w2.heap.size A 2 c [m.epoch, m.inc] ∧ Below w2.heap.size w2 wr) ∨ (i = .int .i64 3 ∧ ∃ A c, o = .slice A 3 c ∧ OwnL encI 3 1 wr w2.heap.size A 3 c [m.epoch, m.inc, m.job] ∧ Below w2.heap.size w2 wr)) (fun _ i _ => 3 - (intOf i).toNat)
  case atStart => exact .inl ⟨rfl, none, 0, rfl, OwnL.nil _ _, Below.refl _ _⟩
  case round =>
    rcases hrel with ⟨rfl, A, c, rfl, ho, hb⟩ | ⟨rfl, A, c, rfl, ho, hb⟩ | ⟨rfl, A, c, rfl, ho, hb⟩ | ⟨rfl, A, c, rfl, ho, hb⟩
    · have g3 : wr.cell? ⟨b1, 3, none⟩ = some (.int .i64 m.epoch) := ((H2.out.1.below hb H2.out.1.lt).cell 3).trans rfl
      go_wp2_with (at_builtin; refine wp_app (enc := encI) (fun _ => rfl) (by simp [encI, Value.oneCell']) rfl (.tmp 38) (.tmp 41) 29 rfl 3 (.int .i64 0) 8 Tryd.underlying29 Tryd.infoInt rfl (by decide) w2.heap.size _ 0 _ _ rfl (ho.alloc _) _ 1 _ [m.epoch] rfl (Rd.new1 _ m.epoch _ _ _ rfl) 1 rfl _ rfl (by omega) (by omega) (by have := hb.size; simp; omega) ?_; intro A4 c4_ w4 ho4 hg4 _; have hb4 := (hb.alloc hb.size _).grown hg4 (by have := hb.size; simp; omega) (own_block_ge ho))
      go_roundw
      case rel => exact .inr (.inl ⟨by go_num, A4, c4_, rfl, by simpa using ho4, hb4⟩)
      case measure => simp [intOf]
    · have g4 : wr.cell? ⟨b1, 4, none⟩ = some (.int .i64 m.inc) := ((H2.out.1.below hb H2.out.1.lt).cell 4).trans rfl
      go_wp2_with (at_builtin; refine wp_app (enc := encI) (fun _ => rfl) (by simp [encI, Value.oneCell']) rfl (.tmp 45) (.tmp 48) 29 rfl 3 (.int .i64 0) 8 Tryd.underlying29 Tryd.infoInt rfl (by decide) w2.heap.size _ 1 _ _ rfl (ho.alloc _) _ 1 _ [m.inc] rfl (Rd.new1 _ m.inc _ _ _ rfl) 2 rfl _ rfl (by omega) (by omega) (by have := hb.size; simp; omega) ?_; intro A4 c4_ w4 ho4 hg4 _; have hb4 := (hb.alloc hb.size _).grown hg4 (by have := hb.size; simp; omega) (own_block_ge ho))
      go_roundw
      case rel => exact .inr (.inr (.inl ⟨by go_num, A4, c4_, rfl, by simpa using ho4, hb4⟩))
      case measure => simp [intOf]
    · have g5 : wr.cell? ⟨b1, 5, none⟩ = some (.int .i64 m.job) := ((H2.out.1.below hb H2.out.1.lt).cell 5).trans rfl
      go_wp2_with (at_builtin; refine wp_app (enc := encI) (fun _ => rfl) (by simp [encI, Value.oneCell']) rfl (.tmp 52) (.tmp 55) 29 rfl 3 (.int .i64 0) 8 Tryd.underlying29 Tryd.infoInt rfl (by decide) w2.heap.size _ 2 _ _ rfl (ho.alloc _) _ 1 _ [m.job] rfl (Rd.new1 _ m.job _ _ _ rfl) 3 rfl _ rfl (by omega) (by omega) (by have := hb.size; simp; omega) ?_; intro A4 c4_ w4 ho4 hg4 _; have hb4 := (hb.alloc hb.size _).grown hg4 (by have := hb.size; simp; omega) (own_block_ge ho))
      go_roundw
      case rel => exact .inr (.inr (.inr (⟨by go_num, A4, c4_, rfl, by simpa using ho4, hb4⟩)))
      case measure => simp [intOf]
    · go_wp2
      go_ret
      exact ⟨A, c, rfl, ho.rd (sz := 1) (enc := encI) (fun _ => rfl), H2.out.2.trans (hb.mono H2.out.2.size)⟩
set_option maxRecDepth 100000 in
set_option maxHeartbeats 6400000 in
theorem rnum_k4 (m : LMsg) (hk : m.kind = 4) (w : World) : Calls Tryd.prog 97 #[aggMsg m] w fun e w' => ∃ A c, e = .returned (.slice A 3 c) ∧ RdI w' A 3 [m.epoch, m.inc, m.job] ∧ Below w.heap.size w w' := by
  have h1 := Blk.new w 38 (boxMsg m)
  have hB : Below w.heap.size w (w.alloc (.cells (boxMsg m) 38)) := (Below.refl _ _).alloc (Nat.le_refl _) _
  have c0 : (w.alloc (.cells (boxMsg m) 38)).cell? ⟨w.heap.size, 0, none⟩ = some (.int .i64 4) := by rw [← hk]; exact (h1.cell 0).trans rfl
  have H0 := Lib.hid (And.intro h1 hB)
  clear h1 hB hk
  go_enter Tryd.func97, Tryd.ntmps97
  go_wp2_with fail
  generalize w.alloc (.cells (boxMsg m) 38) = w1 at H0 c0 ⊢
  obtain ⟨b1, hb1⟩ : ∃ b1, w.heap.size = b1 := ⟨_, rfl⟩
  have h1 : Blk w1 b1 38 (boxMsg m) := by rw [← hb1]; exact H0.out.1
  rw [hb1] at c0
  try simp only [hb1]
  go_wp2_with fail
  (with_reducible refine (rnames_k4 w1).mono ?_)
  rintro e w2 ⟨rfl, hB2⟩
  have H2 := Lib.hid (And.intro (h1.below hB2 h1.lt) (H0.out.2.trans (hB2.mono H0.out.2.size)))
  clear h1 hb1 H0 c0 hB2
  go_wp2
  go_loopw [3, 5] (fun o i wr => (i = .int .i64 0 ∧ ∃ A c, o = .slice A 0 c ∧ OwnL encI 3 1 wr w2.heap.size A 0 c [] ∧ Below w2.heap.size w2 wr) ∨ (i = .int .i64 1 ∧ ∃ A c, o = .slice A 1 c ∧ OwnL encI 3 1 wr w2.heap.size A 1 c [m.epoch] ∧ Below w2.heap.size w2 wr) ∨ (i = .int .i64 2 ∧ ∃ A c, o = .slice A 2 c ∧ OwnL encI 3 1 wr w2.heap.size A 2 c [m.epoch, m.inc] ∧ Below w2.heap.size w2 wr) ∨ (i = .int .i64 3 ∧ ∃ A c, o = .slice A 3 c ∧ OwnL encI 3 1 wr w2.heap.size A 3 c [m.epoch, m.inc, m.job] ∧ Below w2.heap.size w2 wr)) (fun _ i _ => 3 - (intOf i).toNat)
  case atStart => exact .inl ⟨rfl, none, 0, rfl, OwnL.nil _ _, Below.refl _ _⟩
  case round =>
    rcases hrel with ⟨rfl, A, c, rfl, ho, hb⟩ | ⟨rfl, A, c, rfl, ho, hb⟩ | ⟨rfl, A, c, rfl, ho, hb⟩ | ⟨rfl, A, c, rfl, ho, hb⟩
    · have g3 : wr.cell? ⟨b1, 3, none⟩ = some (.int .i64 m.epoch) := ((H2.out.1.below hb H2.out.1.lt).cell 3).trans rfl
      go_wp2_with (at_builtin; refine wp_app (enc := encI) (fun _ => rfl) (by simp [encI, Value.oneCell']) rfl (.tmp 38) (.tmp 41) 29 rfl 3 (.int .i64 0) 8 Tryd.underlying29 Tryd.infoInt rfl (by decide) w2.heap.size _ 0 _ _ rfl (ho.alloc _) _ 1 _ [m.epoch] rfl (Rd.new1 _ m.epoch _ _ _ rfl) 1 rfl _ rfl (by omega) (by omega) (by have := hb.size; simp; omega) ?_; intro A4 c4_ w4 ho4 hg4 _; have hb4 := (hb.alloc hb.size _).grown hg4 (by have := hb.size; simp; omega) (own_block_ge ho))
      go_roundw
      case rel => exact .inr (.inl ⟨by go_num, A4, c4_, rfl, by simpa using ho4, hb4⟩)
      case measure => simp [intOf]
    · have g4 : wr.cell? ⟨b1, 4, none⟩ = some (.int .i64 m.inc) := ((H2.out.1.below hb H2.out.1.lt).cell 4).trans rfl
      go_wp2_with (at_builtin; refine wp_app (enc := encI) (fun _ => rfl) (by simp [encI, Value.oneCell']) rfl (.tmp 45) (.tmp 48) 29 rfl 3 (.int .i64 0) 8 Tryd.underlying29 Tryd.infoInt rfl (by decide) w2.heap.size _ 1 _ _ rfl (ho.alloc _) _ 1 _ [m.inc] rfl (Rd.new1 _ m.inc _ _ _ rfl) 2 rfl _ rfl (by omega) (by omega) (by have := hb.size; simp; omega) ?_; intro A4 c4_ w4 ho4 hg4 _; have hb4 := (hb.alloc hb.size _).grown hg4 (by have := hb.size; simp; omega) (own_block_ge ho))
      go_roundw
      case rel => exact .inr (.inr (.inl ⟨by go_num, A4, c4_, rfl, by simpa using ho4, hb4⟩))
      case measure => simp [intOf]
    · have g5 : wr.cell? ⟨b1, 5, none⟩ = some (.int .i64 m.job) := ((H2.out.1.below hb H2.out.1.lt).cell 5).trans rfl
      go_wp2_with (at_builtin; refine wp_app (enc := encI) (fun _ => rfl) (by simp [encI, Value.oneCell']) rfl (.tmp 52) (.tmp 55) 29 rfl 3 (.int .i64 0) 8 Tryd.underlying29 Tryd.infoInt rfl (by decide) w2.heap.size _ 2 _ _ rfl (ho.alloc _) _ 1 _ [m.job] rfl (Rd.new1 _ m.job _ _ _ rfl) 3 rfl _ rfl (by omega) (by omega) (by have := hb.size; simp; omega) ?_; intro A4 c4_ w4 ho4 hg4 _; have hb4 := (hb.alloc hb.size _).grown hg4 (by have := hb.size; simp; omega) (own_block_ge ho))
      go_roundw
      case rel => exact .inr (.inr (.inr (⟨by go_num, A4, c4_, rfl, by simpa using ho4, hb4⟩)))
      case measure => simp [intOf]
    · go_wp2
      go_ret
      exact ⟨A, c, rfl, ho.rd (sz := 1) (enc := encI) (fun _ => rfl), H2.out.2.trans (hb.mono H2.out.2.size)⟩
set_option maxRecDepth 100000 in
set_option maxHeartbeats 6400000 in
theorem rnum_k5 (m : LMsg) (hk : m.kind = 5) (w : World) : Calls Tryd.prog 97 #[aggMsg m] w fun e w' => ∃ A c, e = .returned (.slice A 2 c) ∧ RdI w' A 2 [m.inc, m.job] ∧ Below w.heap.size w w' := by
  have h1 := Blk.new w 38 (boxMsg m)
  have hB : Below w.heap.size w (w.alloc (.cells (boxMsg m) 38)) := (Below.refl _ _).alloc (Nat.le_refl _) _
  have c0 : (w.alloc (.cells (boxMsg m) 38)).cell? ⟨w.heap.size, 0, none⟩ = some (.int .i64 5) := by rw [← hk]; exact (h1.cell 0).trans rfl
  have H0 := Lib.hid (And.intro h1 hB)
  clear h1 hB hk
  go_enter Tryd.func97, Tryd.ntmps97
  go_wp2_with fail
  generalize w.alloc (.cells (boxMsg m) 38) = w1 at H0 c0 ⊢
  obtain ⟨b1, hb1⟩ : ∃ b1, w.heap.size = b1 := ⟨_, rfl⟩
  have h1 : Blk w1 b1 38 (boxMsg m) := by rw [← hb1]; exact H0.out.1
  rw [hb1] at c0
  try simp only [hb1]
  go_wp2_with fail
  (with_reducible refine (rnames_k5 w1).mono ?_)
  rintro e w2 ⟨rfl, hB2⟩
  have H2 := Lib.hid (And.intro (h1.below hB2 h1.lt) (H0.out.2.trans (hB2.mono H0.out.2.size)))
  clear h1 hb1 H0 c0 hB2
  go_wp2
  go_loopw [3, 5] (fun o i wr => (i = .int .i64 0 ∧ ∃ A c, o = .slice A 0 c ∧ OwnL encI 3 1 wr w2.heap.size A 0 c [] ∧ Below w2.heap.size w2 wr) ∨ (i = .int .i64 1 ∧ ∃ A c, o = .slice A 1 c ∧ OwnL encI 3 1 wr w2.heap.size A 1 c [m.inc] ∧ Below w2.heap.size w2 wr) ∨ (i = .int .i64 2 ∧ ∃ A c, o = .slice A 2 c ∧ OwnL encI 3 1 wr w2.heap.size A 2 c [m.inc, m.job] ∧ Below w2.heap.size w2 wr)) (fun _ i _ => 2 - (intOf i).toNat)
  case atStart => exact .inl ⟨rfl, none, 0, rfl, OwnL.nil _ _, Below.refl _ _⟩
  case round =>
    rcases hrel with ⟨rfl, A, c, rfl, ho, hb⟩ | ⟨rfl, A, c, rfl, ho, hb⟩ | ⟨rfl, A, c, rfl, ho, hb⟩
    · have g4 : wr.cell? ⟨b1, 4, none⟩ = some (.int .i64 m.inc) := ((H2.out.1.below hb H2.out.1.lt).cell 4).trans rfl
      go_wp2_with (at_builtin; refine wp_app (enc := encI) (fun _ => rfl) (by simp [encI, Value.oneCell']) rfl (.tmp 45) (.tmp 48) 29 rfl 3 (.int .i64 0) 8 Tryd.underlying29 Tryd.infoInt rfl (by decide) w2.heap.size _ 0 _ _ rfl (ho.alloc _) _ 1 _ [m.inc] rfl (Rd.new1 _ m.inc _ _ _ rfl) 1 rfl _ rfl (by omega) (by omega) (by have := hb.size; simp; omega) ?_; intro A4 c4_ w4 ho4 hg4 _; have hb4 := (hb.alloc hb.size _).grown hg4 (by have := hb.size; simp; omega) (own_block_ge ho))
      go_roundw
      case rel => exact .inr (.inl ⟨by go_num, A4, c4_, rfl, by simpa using ho4, hb4⟩)
      case measure => simp [intOf]
    · have g5 : wr.cell? ⟨b1, 5, none⟩ = some (.int .i64 m.job) := ((H2.out.1.below hb H2.out.1.lt).cell 5).trans rfl
      go_wp2_with (at_builtin; refine wp_app (enc := encI) (fun _ => rfl) (by simp [encI, Value.oneCell']) rfl (.tmp 52) (.tmp 55) 29 rfl 3 (.int .i64 0) 8 Tryd.underlying29 Tryd.infoInt rfl (by decide) w2.heap.size _ 1 _ _ rfl (ho.alloc _) _ 1 _ [m.job] rfl (Rd.new1 _ m.job _ _ _ rfl) 2 rfl _ rfl (by omega) (by omega) (by have := hb.size; simp; omega) ?_; intro A4 c4_ w4 ho4 hg4 _; have hb4 := (hb.alloc hb.size _).grown hg4 (by have := hb.size; simp; omega) (own_block_ge ho))
      go_roundw
      case rel => exact .inr (.inr (⟨by go_num, A4, c4_, rfl, by simpa using ho4, hb4⟩))
      case measure => simp [intOf]
    · go_wp2
      go_ret
      exact ⟨A, c, rfl, ho.rd (sz := 1) (enc := encI) (fun _ => rfl), H2.out.2.trans (hb.mono H2.out.2.size)⟩
set_option maxRecDepth 100000 in
set_option maxHeartbeats 6400000 in
theorem rnum_k6 (m : LMsg) (hk : m.kind = 6) (w : World) : Calls Tryd.prog 97 #[aggMsg m] w fun e w' => ∃ A c, e = .returned (.slice A 5 c) ∧ RdI w' A 5 [m.job, m.prio, m.res.a, m.res.b, m.res.c] ∧ Below w.heap.size w w' := by
  have h1 := Blk.new w 38 (boxMsg m)
  have hB : Below w.heap.size w (w.alloc (.cells (boxMsg m) 38)) := (Below.refl _ _).alloc (Nat.le_refl _) _
  have c0 : (w.alloc (.cells (boxMsg m) 38)).cell? ⟨w.heap.size, 0, none⟩ = some (.int .i64 6) := by rw [← hk]; exact (h1.cell 0).trans rfl
  have H0 := Lib.hid (And.intro h1 hB)
  clear h1 hB hk
  go_enter Tryd.func97, Tryd.ntmps97
  go_wp2_with fail
  generalize w.alloc (.cells (boxMsg m) 38) = w1 at H0 c0 ⊢
  obtain ⟨b1, hb1⟩ : ∃ b1, w.heap.size = b1 := ⟨_, rfl⟩
  have h1 : Blk w1 b1 38 (boxMsg m) := by rw [← hb1]; exact H0.out.1
  rw [hb1] at c0
  try simp only [hb1]
  go_wp2_with fail
  (with_reducible refine (rnames_k6 w1).mono ?_)
  rintro e w2 ⟨rfl, hB2⟩
  have H2 := Lib.hid (And.intro (h1.below hB2 h1.lt) (H0.out.2.trans (hB2.mono H0.out.2.size)))
  clear h1 hb1 H0 c0 hB2
  go_wp2
  go_loopw [3, 5] (fun o i wr => (i = .int .i64 0 ∧ ∃ A c, o = .slice A 0 c ∧ OwnL encI 3 1 wr w2.heap.size A 0 c [] ∧ Below w2.heap.size w2 wr) ∨ (i = .int .i64 1 ∧ ∃ A c, o = .slice A 1 c ∧ OwnL encI 3 1 wr w2.heap.size A 1 c [m.job] ∧ Below w2.heap.size w2 wr) ∨ (i = .int .i64 2 ∧ ∃ A c, o = .slice A 2 c ∧ OwnL encI 3 1 wr w2.heap.size A 2 c [m.job, m.prio] ∧ Below w2.heap.size w2 wr) ∨ (i = .int .i64 3 ∧ ∃ A c, o = .slice A 5 c ∧ OwnL encI 3 1 wr w2.heap.size A 5 c [m.job, m.prio, m.res.a, m.res.b, m.res.c] ∧ Below w2.heap.size w2 wr)) (fun _ i _ => 3 - (intOf i).toNat)
  case atStart => exact .inl ⟨rfl, none, 0, rfl, OwnL.nil _ _, Below.refl _ _⟩
  case round =>
    rcases hrel with ⟨rfl, A, c, rfl, ho, hb⟩ | ⟨rfl, A, c, rfl, ho, hb⟩ | ⟨rfl, A, c, rfl, ho, hb⟩ | ⟨rfl, A, c, rfl, ho, hb⟩
    · have g5 : wr.cell? ⟨b1, 5, none⟩ = some (.int .i64 m.job) := ((H2.out.1.below hb H2.out.1.lt).cell 5).trans rfl
      go_wp2_with (at_builtin; refine wp_app (enc := encI) (fun _ => rfl) (by simp [encI, Value.oneCell']) rfl (.tmp 52) (.tmp 55) 29 rfl 3 (.int .i64 0) 8 Tryd.underlying29 Tryd.infoInt rfl (by decide) w2.heap.size _ 0 _ _ rfl (ho.alloc _) _ 1 _ [m.job] rfl (Rd.new1 _ m.job _ _ _ rfl) 1 rfl _ rfl (by omega) (by omega) (by have := hb.size; simp; omega) ?_; intro A4 c4_ w4 ho4 hg4 _; have hb4 := (hb.alloc hb.size _).grown hg4 (by have := hb.size; simp; omega) (own_block_ge ho))
      go_roundw
      case rel => exact .inr (.inl ⟨by go_num, A4, c4_, rfl, by simpa using ho4, hb4⟩)
      case measure => simp [intOf]
    · have g7 : wr.cell? ⟨b1, 7, none⟩ = some (.int .i64 m.prio) := ((H2.out.1.below hb H2.out.1.lt).cell 7).trans rfl
      go_wp2_with (at_builtin; refine wp_app (enc := encI) (fun _ => rfl) (by simp [encI, Value.oneCell']) rfl (.tmp 66) (.tmp 69) 29 rfl 3 (.int .i64 0) 8 Tryd.underlying29 Tryd.infoInt rfl (by decide) w2.heap.size _ 1 _ _ rfl (ho.alloc _) _ 1 _ [m.prio] rfl (Rd.new1 _ m.prio _ _ _ rfl) 2 rfl _ rfl (by omega) (by omega) (by have := hb.size; simp; omega) ?_; intro A4 c4_ w4 ho4 hg4 _; have hb4 := (hb.alloc hb.size _).grown hg4 (by have := hb.size; simp; omega) (own_block_ge ho))
      go_roundw
      case rel => exact .inr (.inr (.inl ⟨by go_num, A4, c4_, rfl, by simpa using ho4, hb4⟩))
      case measure => simp [intOf]
    · have g9 : wr.cell? ⟨b1, 9, none⟩ = some (.int .i64 m.res.a) := ((H2.out.1.below hb H2.out.1.lt).cell 9).trans rfl
      go_wp2_with (first
        | (at_builtin; refine wp_app (enc := encI) (fun _ => rfl) (by simp [encI, Value.oneCell']) rfl (.tmp 18) (.tmp 22) 29 rfl 3 (.int .i64 0) 8 Tryd.underlying29 Tryd.infoInt rfl (by decide) w2.heap.size _ 2 _ _ rfl (ho.alloc _) _ 1 _ [m.res.a] rfl (Rd.new1 _ m.res.a _ _ _ rfl) 3 rfl _ rfl (by omega) (by omega) (by have := hb.size; simp; omega) ?_; intro A4 c4_ w4 ho4 hg4 _; have hb4 := (hb.alloc hb.size _).grown hg4 (by have := hb.size; simp; omega) (own_block_ge ho); have g10 : w4.cell? ⟨b1, 10, none⟩ = some (.int .i64 m.res.b) := ((H2.out.1.below hb4 H2.out.1.lt).cell 10).trans rfl)
        | (at_builtin; refine wp_app (enc := encI) (fun _ => rfl) (by simp [encI, Value.oneCell']) rfl (.tmp 24) (.tmp 28) 29 rfl 3 (.int .i64 0) 8 Tryd.underlying29 Tryd.infoInt rfl (by decide) w2.heap.size _ 3 _ _ rfl (ho4.alloc _) _ 1 _ [m.res.b] rfl (Rd.new1 _ m.res.b _ _ _ rfl) 4 rfl _ rfl (by omega) (by omega) (by have := hb4.size; simp; omega) ?_; intro A5 c5_ w5 ho5 hg5 _; have hb5 := (hb4.alloc hb4.size _).grown hg5 (by have := hb4.size; simp; omega) (own_block_ge ho4); have g11 : w5.cell? ⟨b1, 11, none⟩ = some (.int .i64 m.res.c) := ((H2.out.1.below hb5 H2.out.1.lt).cell 11).trans rfl)
        | (at_builtin; refine wp_app (enc := encI) (fun _ => rfl) (by simp [encI, Value.oneCell']) rfl (.tmp 30) (.tmp 34) 29 rfl 3 (.int .i64 0) 8 Tryd.underlying29 Tryd.infoInt rfl (by decide) w2.heap.size _ 4 _ _ rfl (ho5.alloc _) _ 1 _ [m.res.c] rfl (Rd.new1 _ m.res.c _ _ _ rfl) 5 rfl _ rfl (by omega) (by omega) (by have := hb5.size; simp; omega) ?_; intro A6 c6_ w6 ho6 hg6 _; have hb6 := (hb5.alloc hb5.size _).grown hg6 (by have := hb5.size; simp; omega) (own_block_ge ho5)))
      go_roundw
      case rel => exact .inr (.inr (.inr (⟨by go_num, A6, c6_, rfl, by simpa using ho6, hb6⟩)))
      case measure => simp [intOf]
    · go_wp2
      go_ret
      exact ⟨A, c, rfl, ho.rd (sz := 1) (enc := encI) (fun _ => rfl), H2.out.2.trans (hb.mono H2.out.2.size)⟩
set_option maxRecDepth 100000 in
set_option maxHeartbeats 6400000 in
theorem rnum_k7 (m : LMsg) (hk : m.kind = 7) (w : World) : Calls Tryd.prog 97 #[aggMsg m] w fun e w' => ∃ A c, e = .returned (.slice A 1 c) ∧ RdI w' A 1 [m.job] ∧ Below w.heap.size w w' := by
  have h1 := Blk.new w 38 (boxMsg m)
  have hB : Below w.heap.size w (w.alloc (.cells (boxMsg m) 38)) := (Below.refl _ _).alloc (Nat.le_refl _) _
  have c0 : (w.alloc (.cells (boxMsg m) 38)).cell? ⟨w.heap.size, 0, none⟩ = some (.int .i64 7) := by rw [← hk]; exact (h1.cell 0).trans rfl
  have H0 := Lib.hid (And.intro h1 hB)
  clear h1 hB hk
  go_enter Tryd.func97, Tryd.ntmps97
  go_wp2_with fail
  generalize w.alloc (.cells (boxMsg m) 38) = w1 at H0 c0 ⊢
  obtain ⟨b1, hb1⟩ : ∃ b1, w.heap.size = b1 := ⟨_, rfl⟩
  have h1 : Blk w1 b1 38 (boxMsg m) := by rw [← hb1]; exact H0.out.1
  rw [hb1] at c0
  try simp only [hb1]
  go_wp2_with fail
  (with_reducible refine (rnames_k7 w1).mono ?_)
  rintro e w2 ⟨rfl, hB2⟩
  have H2 := Lib.hid (And.intro (h1.below hB2 h1.lt) (H0.out.2.trans (hB2.mono H0.out.2.size)))
  clear h1 hb1 H0 c0 hB2
  go_wp2
  go_loopw [3, 5] (fun o i wr => (i = .int .i64 0 ∧ ∃ A c, o = .slice A 0 c ∧ OwnL encI 3 1 wr w2.heap.size A 0 c [] ∧ Below w2.heap.size w2 wr) ∨ (i = .int .i64 1 ∧ ∃ A c, o = .slice A 1 c ∧ OwnL encI 3 1 wr w2.heap.size A 1 c [m.job] ∧ Below w2.heap.size w2 wr)) (fun _ i _ => 1 - (intOf i).toNat)
  case atStart => exact .inl ⟨rfl, none, 0, rfl, OwnL.nil _ _, Below.refl _ _⟩
  case round =>
    rcases hrel with ⟨rfl, A, c, rfl, ho, hb⟩ | ⟨rfl, A, c, rfl, ho, hb⟩
    · have g5 : wr.cell? ⟨b1, 5, none⟩ = some (.int .i64 m.job) := ((H2.out.1.below hb H2.out.1.lt).cell 5).trans rfl
      go_wp2_with (at_builtin; refine wp_app (enc := encI) (fun _ => rfl) (by simp [encI, Value.oneCell']) rfl (.tmp 52) (.tmp 55) 29 rfl 3 (.int .i64 0) 8 Tryd.underlying29 Tryd.infoInt rfl (by decide) w2.heap.size _ 0 _ _ rfl (ho.alloc _) _ 1 _ [m.job] rfl (Rd.new1 _ m.job _ _ _ rfl) 1 rfl _ rfl (by omega) (by omega) (by have := hb.size; simp; omega) ?_; intro A4 c4_ w4 ho4 hg4 _; have hb4 := (hb.alloc hb.size _).grown hg4 (by have := hb.size; simp; omega) (own_block_ge ho))
      go_roundw
      case rel => exact .inr (⟨by go_num, A4, c4_, rfl, by simpa using ho4, hb4⟩)
      case measure => simp [intOf]
    · go_wp2
      go_ret
      exact ⟨A, c, rfl, ho.rd (sz := 1) (enc := encI) (fun _ => rfl), H2.out.2.trans (hb.mono H2.out.2.size)⟩
set_option maxRecDepth 100000 in
set_option maxHeartbeats 6400000 in
theorem rnum_k8 (m : LMsg) (hk : m.kind = 8) (w : World) : Calls Tryd.prog 97 #[aggMsg m] w fun e w' => ∃ A c, e = .returned (.slice A 2 c) ∧ RdI w' A 2 [m.job, m.code] ∧ Below w.heap.size w w' := by
  have h1 := Blk.new w 38 (boxMsg m)
  have hB : Below w.heap.size w (w.alloc (.cells (boxMsg m) 38)) := (Below.refl _ _).alloc (Nat.le_refl _) _
  have c0 : (w.alloc (.cells (boxMsg m) 38)).cell? ⟨w.heap.size, 0, none⟩ = some (.int .i64 8) := by rw [← hk]; exact (h1.cell 0).trans rfl
  have H0 := Lib.hid (And.intro h1 hB)
  clear h1 hB hk
  go_enter Tryd.func97, Tryd.ntmps97
  go_wp2_with fail
  generalize w.alloc (.cells (boxMsg m) 38) = w1 at H0 c0 ⊢
  obtain ⟨b1, hb1⟩ : ∃ b1, w.heap.size = b1 := ⟨_, rfl⟩
  have h1 : Blk w1 b1 38 (boxMsg m) := by rw [← hb1]; exact H0.out.1
  rw [hb1] at c0
  try simp only [hb1]
  go_wp2_with fail
  (with_reducible refine (rnames_k8 w1).mono ?_)
  rintro e w2 ⟨rfl, hB2⟩
  have H2 := Lib.hid (And.intro (h1.below hB2 h1.lt) (H0.out.2.trans (hB2.mono H0.out.2.size)))
  clear h1 hb1 H0 c0 hB2
  go_wp2
  go_loopw [3, 5] (fun o i wr => (i = .int .i64 0 ∧ ∃ A c, o = .slice A 0 c ∧ OwnL encI 3 1 wr w2.heap.size A 0 c [] ∧ Below w2.heap.size w2 wr) ∨ (i = .int .i64 1 ∧ ∃ A c, o = .slice A 1 c ∧ OwnL encI 3 1 wr w2.heap.size A 1 c [m.job] ∧ Below w2.heap.size w2 wr) ∨ (i = .int .i64 2 ∧ ∃ A c, o = .slice A 2 c ∧ OwnL encI 3 1 wr w2.heap.size A 2 c [m.job, m.code] ∧ Below w2.heap.size w2 wr)) (fun _ i _ => 2 - (intOf i).toNat)
  case atStart => exact .inl ⟨rfl, none, 0, rfl, OwnL.nil _ _, Below.refl _ _⟩
  case round =>
    rcases hrel with ⟨rfl, A, c, rfl, ho, hb⟩ | ⟨rfl, A, c, rfl, ho, hb⟩ | ⟨rfl, A, c, rfl, ho, hb⟩
    · have g5 : wr.cell? ⟨b1, 5, none⟩ = some (.int .i64 m.job) := ((H2.out.1.below hb H2.out.1.lt).cell 5).trans rfl
      go_wp2_with (at_builtin; refine wp_app (enc := encI) (fun _ => rfl) (by simp [encI, Value.oneCell']) rfl (.tmp 52) (.tmp 55) 29 rfl 3 (.int .i64 0) 8 Tryd.underlying29 Tryd.infoInt rfl (by decide) w2.heap.size _ 0 _ _ rfl (ho.alloc _) _ 1 _ [m.job] rfl (Rd.new1 _ m.job _ _ _ rfl) 1 rfl _ rfl (by omega) (by omega) (by have := hb.size; simp; omega) ?_; intro A4 c4_ w4 ho4 hg4 _; have hb4 := (hb.alloc hb.size _).grown hg4 (by have := hb.size; simp; omega) (own_block_ge ho))
      go_roundw
      case rel => exact .inr (.inl ⟨by go_num, A4, c4_, rfl, by simpa using ho4, hb4⟩)
      case measure => simp [intOf]
    · have g8 : wr.cell? ⟨b1, 8, none⟩ = some (.int .i64 m.code) := ((H2.out.1.below hb H2.out.1.lt).cell 8).trans rfl
      go_wp2_with (at_builtin; refine wp_app (enc := encI) (fun _ => rfl) (by simp [encI, Value.oneCell']) rfl (.tmp 73) (.tmp 76) 29 rfl 3 (.int .i64 0) 8 Tryd.underlying29 Tryd.infoInt rfl (by decide) w2.heap.size _ 1 _ _ rfl (ho.alloc _) _ 1 _ [m.code] rfl (Rd.new1 _ m.code _ _ _ rfl) 2 rfl _ rfl (by omega) (by omega) (by have := hb.size; simp; omega) ?_; intro A4 c4_ w4 ho4 hg4 _; have hb4 := (hb.alloc hb.size _).grown hg4 (by have := hb.size; simp; omega) (own_block_ge ho))
      go_roundw
      case rel => exact .inr (.inr (⟨by go_num, A4, c4_, rfl, by simpa using ho4, hb4⟩))
      case measure => simp [intOf]
    · go_wp2
      go_ret
      exact ⟨A, c, rfl, ho.rd (sz := 1) (enc := encI) (fun _ => rfl), H2.out.2.trans (hb.mono H2.out.2.size)⟩
end Go.Proofs.YthhnocnkicoimaaDoor
