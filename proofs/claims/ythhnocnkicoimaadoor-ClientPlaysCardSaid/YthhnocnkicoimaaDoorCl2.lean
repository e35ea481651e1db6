/-
  slices.Index, slices.Contains of whole numbers; slices.IndexFunc under the test 'is it the job of that message?'.
  slices.DeleteFunc[[]int,int]: the kit's contract, laid at this program; then over a row of the caller's own, under the test 'is it the job of that message?'.
  slices.Clone of whole numbers and of replies: over a row of the caller's own.
  LAYER 41 (client): ask, where nobody asks, and where the message may not be.
-/
import Derived.Test.YthhnocnkicoimaaDoorMsg4
import Derived.Test.YthhnocnkicoimaaDoorMsg3
import Derived.Test.YthhnocnkicoimaaDoorRes
import Derived.Shelf.SlicesE.DeleteFunc
import Derived.Test.YthhnocnkicoimaaDoorDrain
import Derived.Shelf.SlicesE.Clone
import Derived.Test.YthhnocnkicoimaaDoorShelf
import Derived.Test.YthhnocnkicoimaaDoorMsg13
set_option linter.unusedVariables false
set_option linter.unusedSimpArgs false
namespace Go.Proofs.YthhnocnkicoimaaDoor
open Go.RowKit

set_option maxRecDepth 100000 in
set_option maxHeartbeats 800000 in
theorem indexI_t (A : Option Addr) (n c : Nat) (l : List Int) (x : Int) (w : World) (h : RdI w A n l) (hn : n ≤ 1000000) :
    Calls Tryd.prog 98 #[.slice A n c, .int .i64 x] w fun e w' => (∃ q : Int, e = .returned (.int .i64 q) ∧ decide (0 ≤ q) = decide (x ∈ l)) ∧ w' = w := by
  have HH := Lib.hid h
  clear h
  go_enter Tryd.func98, Tryd.ntmps98
  go_wp2
  go_loop [8] (fun i => ∃ k : Nat, k ≤ n ∧ i = .int .i64 k ∧ Hid (x ∉ l.take k)) (fun i => n - (intOf i).toNat)
  case atStart => exact ⟨0, Nat.zero_le _, rfl, Lib.hid (by simp)⟩
  case round =>
    obtain ⟨k, hk, rfl, HC⟩ := hrel
    by_cases hlt : k < n
    · obtain ⟨ab, ao, y, rfl, hy, g0⟩ := RdI.at_ HH.out hlt
      by_cases e : x = y
      · subst e
        have HM := Lib.hid (List.mem_of_getElem? hy)
        clear hy
        go_wp2
        go_ret
        exact ⟨⟨_, rfl, by have := HM.out; simp [this]⟩, rfl⟩
      · have HX := Lib.hid (take_succ_of l k y hy)
        have hd : (x == y) = false := by simp [e]
        clear hy
        go_wp2
        go_round
        case rel => exact ⟨k + 1, by omega, by go_num, Lib.hid (by rw [HX.out]; simp [HC.out, e])⟩
        case measure => simp [intOf]; omega
    · have HM : Hid (x ∉ l) := Lib.hid (by
        have := HC.out
        rwa [List.take_of_length_le (by have := HH.out.len; omega)] at this)
      go_wp2
      go_ret
      exact ⟨⟨_, rfl, by have := HM.out; simp [this]⟩, rfl⟩
theorem containsI_t (A : Option Addr) (n c : Nat) (l : List Int) (x : Int) (w : World) (h : RdI w A n l) (hn : n ≤ 1000000) :
    Calls Tryd.prog 80 #[.slice A n c, .int .i64 x] w fun e w' => e = .returned (.bool (decide (x ∈ l))) ∧ w' = w := by
  have hcx := indexI_t A n c l x w h hn
  clear h
  go_enter Tryd.func80, Tryd.ntmps80
  go_wp2_with fail
  (with_reducible refine hcx.mono ?_)
  clear hcx
  rintro e w2 ⟨⟨q, rfl, hq⟩, rfl⟩
  have HQ := Lib.hid hq
  clear hq
  go_wp2
  go_ret
  exact ⟨ret_bool HQ.out, rfl⟩
/-- The test that Hear hands on: is it the job of the message in block b? -/
theorem isJob_t (b : Nat) (j x : Int) (w : World) (h : w.cell? ⟨b, 5, none⟩ = some (.int .i64 j)) :
    Calls Tryd.prog 50 #[.int .i64 x, .pointer (some ⟨b, 0, none⟩)] w fun e w' => e = .returned (.bool (x == j)) ∧ w' = w := by
  go_enter Tryd.func50, Tryd.ntmps50
  go_wp2
  go_ret
  exact ⟨rfl, rfl⟩
set_option maxRecDepth 100000 in
set_option maxHeartbeats 800000 in
/-- Where the job stands, or -1. -/
theorem indexF_t (A : Option Addr) (n c : Nat) (l : List Int) (b : Nat) (j : Int) (w : World) (h : RdI w A n l) (hj : w.cell? ⟨b, 5, none⟩ = some (.int .i64 j)) (hn : n ≤ 1000000) :
    Calls Tryd.prog 86 #[.slice A n c, .func (.func 50) #[] #[.pointer (some ⟨b, 0, none⟩)]] w fun e w' =>
      ((∃ k : Nat, e = .returned (.int .i64 (k : Int)) ∧ k < n ∧ l[k]? = some j ∧ j ∉ l.take k) ∨ (e = .returned (.int .i64 (-1)) ∧ j ∉ l)) ∧ w' = w := by
  have HH := Lib.hid h
  have HJ := Lib.hid hj
  clear h hj
  go_enter Tryd.func86, Tryd.ntmps86
  go_wp2
  go_loop [8] (fun i => ∃ k : Nat, k ≤ n ∧ i = .int .i64 k ∧ Hid (j ∉ l.take k)) (fun i => n - (intOf i).toNat)
  case atStart => exact ⟨0, Nat.zero_le _, rfl, Lib.hid (by simp)⟩
  case round =>
    obtain ⟨k, hk, rfl, HC⟩ := hrel
    by_cases hlt : k < n
    · obtain ⟨ab, ao, y, rfl, hy, g0⟩ := RdI.at_ HH.out hlt
      have HY := Lib.hid hy
      clear hy
      by_cases e : y = j
      · have HI := Lib.hid (show Calls Tryd.prog 50 #[.int .i64 y, .pointer (some ⟨b, 0, none⟩)] w fun e w' => e = .returned (.bool true) ∧ w' = w by have := isJob_t b j y w HJ.out; rwa [show (y == j) = true by simp [e]] at this)
        have HE := Lib.hid e
        clear e
        go_wp2_with (go_at_call 50; with_reducible refine HI.out.mono ?_; rintro e w' ⟨rfl, rfl⟩)
        go_ret
        exact ⟨.inl ⟨k, rfl, hlt, by rw [← HE.out]; exact HY.out, HC.out⟩, rfl⟩
      · have HI := Lib.hid (show Calls Tryd.prog 50 #[.int .i64 y, .pointer (some ⟨b, 0, none⟩)] w fun e w' => e = .returned (.bool false) ∧ w' = w by have := isJob_t b j y w HJ.out; rwa [show (y == j) = false by simp [e]] at this)
        have HX := Lib.hid (take_succ_of l k y HY.out)
        have HE := Lib.hid e
        clear e
        go_wp2_with (go_at_call 50; with_reducible refine HI.out.mono ?_; rintro e w' ⟨rfl, rfl⟩)
        go_round
        case rel => exact ⟨k + 1, by omega, by go_num, Lib.hid (by rw [HX.out]; have h1 := HC.out; have h2 := HE.out; simp [h1]; exact fun h => h2 h.symm)⟩
        case measure => simp [intOf]; omega
    · have HM : Hid (j ∉ l) := Lib.hid (by
        have := HC.out
        rwa [List.take_of_length_le (by have := HH.out.len; omega)] at this)
      go_wp2
      go_ret
      exact ⟨.inr ⟨rfl, HM.out⟩, rfl⟩
end Go.Proofs.YthhnocnkicoimaaDoor
namespace Go.Proofs.YthhnocnkicoimaaDoor
open Go.RowKit Go.Shelf Go.Sort Go.Lib

def dfRen : Go.Shelf.Ren := ⟨fun | 6 => 86 | 10 => 49 | n => n, fun | 0 => 0 | 3 => 3 | 4 => 4 | 22 => 29 | 23 => 3 | 25 => 67 | n => n, fun | n => n⟩
theorem dfLays : Go.Proofs.SlLaysH.n10 Tryd.prog dfRen := {
  mixed := by kernel_rfl
  f6 := ⟨Tryd.f86.name, by decide, Tryd.func86.trans (congrArg some (by kernel_rfl))⟩
  f10 := ⟨Tryd.f49.name, by decide, Tryd.func49.trans (congrArg some (by kernel_rfl))⟩
  t0 := Tryd.underlying0
  a0 := Tryd.isAgg0
  z0 := Tryd.sizeOf0
  v0 := Tryd.zeroValue0
  t3 := Tryd.underlying3
  a3 := Tryd.isAgg3
  z3 := Tryd.sizeOf3
  v3 := Tryd.zeroValue3
  t4 := Tryd.underlying4
  a4 := Tryd.isAgg4
  z4 := Tryd.sizeOf4
  v4 := Tryd.zeroValue4
  t22 := Tryd.underlying29
  a22 := Tryd.isAgg29
  z22 := Tryd.sizeOf29
  v22 := Tryd.zeroValue29
  a23 := Tryd.isAgg3
  z23 := Tryd.sizeOf3
  t25 := Tryd.underlying67
  a25 := Tryd.isAgg67
  z25 := Tryd.sizeOf67
  v25 := Tryd.zeroValue67 }
theorem isJob_gives (b : Nat) (j x : Int) (W : World) (h : W.cell? ⟨b, 5, none⟩ = some (.int .i64 j)) :
    FnGives Tryd.prog 50 #[.pointer (some ⟨b, 0, none⟩)] #[.int .i64 x] (.bool (x == j)) W := by
  show Calls Tryd.prog 50 #[.int .i64 x, .pointer (some ⟨b, 0, none⟩)] W _
  exact (isJob_t b j x W h).mono (fun e w' hh => ⟨hh.1, 0, hh.2⟩)
theorem deleteF_none (A : Option Addr) (c b : Nat) (j : Int) (w : World) (hj : w.cell? ⟨b, 5, none⟩ = some (.int .i64 j)) :
    Calls Tryd.prog 49 #[.slice A 0 c, .func (.func 50) #[] #[.pointer (some ⟨b, 0, none⟩)]] w fun e w' => e = .returned (.slice A 0 c) ∧ w' = w := by
  have HI := Lib.hid (indexF_t A 0 c [] b j w (Rd.nil _ _) hj (by omega))
  clear hj
  go_enter Tryd.func49, Tryd.ntmps49
  go_wp2_with (go_at_call 86; with_reducible refine HI.out.mono ?_; rintro e w2 ⟨⟨k, _, hk, _⟩ | ⟨rfl, _⟩, rfl⟩)
  go_ret
  exact ⟨rfl, rfl⟩
theorem OwnL.take_ {α : Type} {enc : α → List Value} {e sz : Nat} {w : World} {base : Nat} {A : Option Addr} {n c : Nat} {l : List α} (hen : ∀ x, (enc x).length = sz) (h : OwnL enc e sz w base A n c l) (k : Nat) (hk : k ≤ n) : OwnL enc e sz w base A k c (l.take k) := by
  have hl := h.len
  have hlen : ((l.take k).flatMap enc).length = k * sz := by rw [flatMap_len hen, List.length_take]; congr 1; omega
  refine ⟨⟨hlen, ?_⟩, by rw [List.length_take]; omega⟩
  rcases h.own.2 with ⟨hv, h0⟩ | ⟨g, cap, cur, hv, hg, hh, h1, h2, h3, h4⟩
  · cases hv
    have : k = 0 := by omega
    subst this
    exact .inl ⟨rfl, rfl⟩
  · cases hv
    refine .inr ⟨g, c, cur, rfl, hg, hh, by omega, h2, h3, ?_⟩
    have e1 : (l.flatMap enc) = (l.take k).flatMap enc ++ (l.drop k).flatMap enc := by rw [← List.flatMap_append, List.take_append_drop]
    have h5 := congrArg (List.take (k * sz)) h4
    rw [List.take_take, Nat.min_eq_left (Nat.mul_le_mul_right _ hk), e1, List.take_left' hlen] at h5
    exact h5
theorem deleteF_own (base : Nat) (A : Option Addr) (n c b : Nat) (l : List Int) (j : Int) (w : World) (h : OwnL encI 3 1 w base A n c l) (hn : n ≤ 1000000) (hj : w.cell? ⟨b, 5, none⟩ = some (.int .i64 j)) (hne : ∀ ad, A = some ad → ad.block ≠ b) :
    Calls Tryd.prog 49 #[.slice A n c, .func (.func 50) #[] #[.pointer (some ⟨b, 0, none⟩)]] w fun e w' =>
      ∃ k, e = .returned (.slice A k c) ∧ OwnL encI 3 1 w' base A k c (l.filter (· != j)) ∧ w.grownBy w' (Value.slice A n c).ownBlock := by
  have hl := h.len
  have h0' := h
  rcases h.own.2 with ⟨hv, h0⟩ | ⟨g, cap, cur, hv, hg, hh, h1, h2, h3, h4⟩
  · have hl0 : l = [] := List.eq_nil_of_length_eq_zero (by omega)
    subst hl0
    subst h0
    refine (deleteF_none A c b j w hj).mono ?_
    rintro e w' ⟨rfl, rfl⟩
    exact ⟨0, rfl, by simpa using h, World.grownBy.refl _ _⟩
  · cases hv
    subst hl
    rw [flatMap_encI, Nat.mul_one] at h4
    have hbw := block_lt_of_cell hj
    have hgb : b ≠ g := fun e => hne ⟨g, 0, none⟩ rfl e.symm
    have eg : ∀ args w, (callFunc 50 args).run Tryd.prog w = .ok (.enter 50 args) w := enters_of Tryd.func50 (by kernel_rfl) rfl
    have hcon := AnyE.slices_DeleteFunc dfLays (Value.int .i64) (fun _ => rfl) (fun x => x == j) 50 #[.pointer (some ⟨b, 0, none⟩)] eg 0 Tryd.zeroValue3 g 0 c l.toArray w
      (fun W x hb => isJob_gives b j x W ((hb.cell (p := ⟨b, 5, none⟩) hbw).trans hj))
      (fun nn os dk x _ => isJob_gives b j x _ (by
        unfold sortWorld
        rw [cell?_grow _ _ _ (by show b < (putRow _ _ _ _ _).heap.size; rw [size_putRow]; exact hbw), cell?_putRow_other _ _ g 0 _ _ (Or.inl hgb)]
        exact hj))
      (holds_of_blockI hh h4) (by simp; omega) (by simpa using h1)
    change Calls Tryd.prog 49 _ _ _ at hcon
    simp only [List.size_toArray] at hcon
    refine hcon.mono ?_
    rintro e w' ⟨rfl, q, rfl⟩
    have hf : (l.filter fun x => !(x == j)) = l.filter (· != j) := rfl
    rw [hf]
    generalize hr : l.filter (· != j) = r
    have hrl : r.length ≤ l.length := by rw [← hr]; exact List.length_filter_le _ _
    have hts : (r ++ List.replicate (l.length - r.length) (0 : Int)).length = l.length := by simp; omega
    refine ⟨r.length, rfl, ?_, ?_⟩
    · have ho : OwnL encI 3 1 (grow (putRow (Value.int .i64) (Sort.ahead w q) g 0 (r ++ List.replicate (l.length - r.length) (0 : Int)).toArray) #[]) base (some ⟨g, 0, none⟩) l.length c (r ++ List.replicate (l.length - r.length) (0 : Int)) :=
        ⟨by rw [flatMap_encI]; exact ownsRow_sortedI hts hg hh h1 h2 h3, hts⟩
      have h6 := OwnL.take_ (enc := encI) (sz := 1) (fun _ => rfl) ho r.length hrl
      rw [List.take_left' rfl, grow_empty] at h6
      exact h6
    · have h7 := grownBy_sortedI (w := w) (g := g) (n := q) (os := #[]) (r ++ List.replicate (l.length - r.length) (0 : Int)).toArray
      rw [grow_empty] at h7
      exact h7
end Go.Proofs.YthhnocnkicoimaaDoor
namespace Go.Proofs.YthhnocnkicoimaaDoor
open Go.RowKit Go.Shelf Go.Sort Go.Lib

structure LReply where
  job : Int
  code : Int
  deriving DecidableEq
def encReply (r : LReply) : List Value := [.int .i64 r.job, .int .i64 r.code]
abbrev aggReply (r : LReply) : Value := .agg #[.int .i64 r.job, .int .i64 r.code]
theorem Reply_one (r : LReply) : ∀ u ∈ encReply r, u.oneCell' = true := by
  intro u hu
  simp [encReply] at hu
  rcases hu with rfl | rfl <;> rfl
theorem Tryd.infoReply : (Tryd.prog.info? 98).map (fun i => (i.zero, i.size, i.bytes)) = some (some (.agg #[.int .i64 0, .int .i64 0]), 2, 16) := by kernel_rfl
def cloneRenR : Go.Shelf.Ren := ⟨fun | 41 => 51 | n => n, fun | 22 => 30 | 23 => 98 | 4 => 4 | n => n, fun | n => n⟩
theorem cloneLaysR : Go.Proofs.SlLaysE0.n41 Tryd.prog cloneRenR := {
  mixed := by kernel_rfl
  f41 := ⟨Tryd.f51.name, by decide, Tryd.func51.trans (congrArg some (by kernel_rfl))⟩
  t4 := Tryd.underlying4
  a4 := Tryd.isAgg4
  z4 := Tryd.sizeOf4
  v4 := Tryd.zeroValue4
  t22 := Tryd.underlying30
  a22 := Tryd.isAgg30
  z22 := Tryd.sizeOf30
  v22 := Tryd.zeroValue30 }
def cloneRenI : Go.Shelf.Ren := ⟨fun | 41 => 54 | n => n, fun | 22 => 29 | 23 => 3 | 4 => 4 | n => n, fun | n => n⟩
theorem cloneLaysI : Go.Proofs.SlLaysE0.n41 Tryd.prog cloneRenI := {
  mixed := by kernel_rfl
  f41 := ⟨Tryd.f54.name, by decide, Tryd.func54.trans (congrArg some (by kernel_rfl))⟩
  t4 := Tryd.underlying4
  a4 := Tryd.isAgg4
  z4 := Tryd.sizeOf4
  v4 := Tryd.zeroValue4
  t22 := Tryd.underlying29
  a22 := Tryd.isAgg29
  z22 := Tryd.sizeOf29
  v22 := Tryd.zeroValue29 }
theorem own_shape {w : World} {base e sz n : Nat} {v : Value} {xs : List Value} (h : w.ownsRow base e sz v n xs) : ∃ A c, v = .slice A n c := by
  rcases h.2 with ⟨hv, h0⟩ | ⟨g, cap, cur, hv, _⟩
  · exact ⟨none, 0, by rw [hv, h0]⟩
  · exact ⟨_, _, hv⟩
theorem OwnL.cells_ {α : Type} {enc : α → List Value} {e sz : Nat} {w : World} {base g n c : Nat} {l : List α} (h : OwnL enc e sz w base (some ⟨g, 0, none⟩) n c l) : ∀ j u, (l.flatMap enc)[j]? = some u → w.cell? ⟨g, 0 + j, none⟩ = some u := by
  intro j u hu
  have := h.own.cells (g := g) rfl j u hu
  rwa [add_at] at this
theorem cloneI_t (base : Nat) (A : Option Addr) (n c : Nat) (l : List Int) (w : World) (h : OwnL encI 3 1 w base A n c l) (hn : n ≤ 1000000) :
    Calls Tryd.prog 54 #[.slice A n c] w fun e w' => ∃ A' c', e = .returned (.slice A' n c') ∧ OwnL encI 3 1 w' w.heap.size A' n c' l ∧ Below w.heap.size w w' := by
  have hl := h.len
  rcases h.own.2 with ⟨hv, h0⟩ | ⟨g, cap, cur, hv, hg, hh, h1, h2, h3, h4⟩
  · cases hv
    have hl0 : l = [] := List.eq_nil_of_length_eq_zero hl
    subst hl0
    refine (AnyE.slices_Clone_nil cloneLaysI 0 0 w).mono ?_
    rintro e w' ⟨rfl, rfl⟩
    exact ⟨none, 0, rfl, OwnL.nil _ _, Below.refl _ _⟩
  · cases hv
    obtain ⟨i0, hi0, hz⟩ := Option.map_eq_some_iff.1 Tryd.infoInt
    simp only [Prod.mk.injEq] at hz
    have hcon := AnyE.slices_Clone cloneLaysI i0 (.int .i64 0) 1 8 hi0 hz.1 hz.2.1 hz.2.2 rfl (by decide) Tryd.sizeOf3 g 0 n c (l.flatMap encI) w (by rw [flatMap_len (sz := 1) (fun _ => rfl), hl]) (by unfold maxLen; omega) (by omega) h.cells_ (by intro u hu; rw [flatMap_encI] at hu; obtain ⟨x, _, rfl⟩ := List.mem_map.1 hu; rfl)
    refine Calls.mono hcon ?_
    rintro e w' ⟨v', rfl, hown, _, hB⟩
    obtain ⟨A', c', rfl⟩ := own_shape hown
    exact ⟨A', c', rfl, ⟨hown, hl⟩, hB⟩
theorem cloneR_t (base : Nat) (A : Option Addr) (n c : Nat) (l : List LReply) (w : World) (h : OwnL encReply 98 2 w base A n c l) (hn : n ≤ 1000000) :
    Calls Tryd.prog 51 #[.slice A n c] w fun e w' => ∃ A' c', e = .returned (.slice A' n c') ∧ OwnL encReply 98 2 w' w.heap.size A' n c' l ∧ Below w.heap.size w w' := by
  have hl := h.len
  rcases h.own.2 with ⟨hv, h0⟩ | ⟨g, cap, cur, hv, hg, hh, h1, h2, h3, h4⟩
  · cases hv
    have hl0 : l = [] := List.eq_nil_of_length_eq_zero hl
    subst hl0
    refine (AnyE.slices_Clone_nil cloneLaysR 0 0 w).mono ?_
    rintro e w' ⟨rfl, rfl⟩
    exact ⟨none, 0, rfl, OwnL.nil _ _, Below.refl _ _⟩
  · cases hv
    obtain ⟨i0, hi0, hz⟩ := Option.map_eq_some_iff.1 Tryd.infoReply
    simp only [Prod.mk.injEq] at hz
    have hcon := AnyE.slices_Clone cloneLaysR i0 (.agg #[.int .i64 0, .int .i64 0]) 2 16 hi0 hz.1 hz.2.1 hz.2.2 rfl (by decide) Tryd.sizeOf98 g 0 n c (l.flatMap encReply) w (by rw [flatMap_len (sz := 2) (fun _ => rfl), hl]) (by unfold maxLen; omega) (by omega) h.cells_ (by intro u hu; obtain ⟨x, _, hx⟩ := List.mem_flatMap.1 hu; exact Reply_one x u hx)
    refine Calls.mono hcon ?_
    rintro e w' ⟨v', rfl, hown, _, hB⟩
    obtain ⟨A', c', rfl⟩ := own_shape hown
    exact ⟨A', c', rfl, ⟨hown, hl⟩, hB⟩
end Go.Proofs.YthhnocnkicoimaaDoor
namespace Go.Proofs.YthhnocnkicoimaaDoor
open Go.RowKit

set_option maxRecDepth 100000 in
set_option maxHeartbeats 3200000 in
theorem ask_nil (m : LMsg) (w : World) : Calls Tryd.prog 45 #[.pointer none, aggMsg m] w fun e w' => e = .returned (.tuple #[aggMsg zeroLMsg, .int .i64 7]) ∧ Below w.heap.size w w' := by
  have hs1 : (w.alloc (.cells (boxMsg m) 38)).heap.size = w.heap.size + 1 := by simp
  have h1 := (Blk.new w 38 (boxMsg m)).alloc (.cells #[.int .i64 0, .int .i64 0, .int .i64 0, .int .i64 0, .int .i64 0, .int .i64 0, .int .i64 0, .int .i64 0, .int .i64 0, .int .i64 0, .int .i64 0, .int .i64 0] 38)
  have h2 := Blk.new (w.alloc (.cells (boxMsg m) 38)) 38 #[.int .i64 0, .int .i64 0, .int .i64 0, .int .i64 0, .int .i64 0, .int .i64 0, .int .i64 0, .int .i64 0, .int .i64 0, .int .i64 0, .int .i64 0, .int .i64 0]
  rw [hs1] at h2
  have hB : Below w.heap.size w ((w.alloc (.cells (boxMsg m) 38)).alloc (.cells #[.int .i64 0, .int .i64 0, .int .i64 0, .int .i64 0, .int .i64 0, .int .i64 0, .int .i64 0, .int .i64 0, .int .i64 0, .int .i64 0, .int .i64 0, .int .i64 0] 38)) := ((Below.refl _ _).alloc (Nat.le_refl _) _).alloc (by simp) _
  have H0 := Lib.hid (And.intro h1 (And.intro h2 hB))
  clear hs1 h1 h2 hB
  go_enter Tryd.func45, Tryd.ntmps45
  go_upto_region 2 with fail
  generalize (w.alloc (.cells (boxMsg m) 38)).alloc (.cells #[.int .i64 0, .int .i64 0, .int .i64 0, .int .i64 0, .int .i64 0, .int .i64 0, .int .i64 0, .int .i64 0, .int .i64 0, .int .i64 0, .int .i64 0, .int .i64 0] 38) = w1 at H0 ⊢
  obtain ⟨b1, hb1⟩ : ∃ b1, w.heap.size = b1 := ⟨_, rfl⟩
  have h1 : Blk w1 b1 38 (boxMsg m) := by rw [← hb1]; exact H0.out.1
  have h2 : Blk w1 (b1 + 1) 38 #[.int .i64 0, .int .i64 0, .int .i64 0, .int .i64 0, .int .i64 0, .int .i64 0, .int .i64 0, .int .i64 0, .int .i64 0, .int .i64 0, .int .i64 0, .int .i64 0] := by rw [← hb1]; exact H0.out.2.1
  have HG := Lib.hid (show w.heap.size ≤ b1 + 1 by omega)
  have HB := Lib.hid H0.out.2.2
  try simp only [hb1]
  clear hb1 H0
  have z2 := h2.frozen
  have l2 := h2.lt
  have y0 := h2.cell 0
  have y1 := h2.cell 1
  have y2 := h2.cell 2
  have y3 := h2.cell 3
  have y4 := h2.cell 4
  have y5 := h2.cell 5
  have y6 := h2.cell 6
  have y7 := h2.cell 7
  have y8 := h2.cell 8
  have y9 := h2.cell 9
  have y10 := h2.cell 10
  have y11 := h2.cell 11
  simp only [List.getElem?_toArray, List.getElem?_cons_zero, List.getElem?_cons_succ] at y0 y1 y2 y3 y4 y5 y6 y7 y8 y9 y10 y11
  go_wp2_with fail
  obtain ⟨hbz, hbe⟩ := lay12 h2 HG.out HB.out (.int .i64 0) (.int .i64 0) (.int .i64 0) (.int .i64 0) (.int .i64 0) (.int .i64 0) (.int .i64 0) (.int .i64 0) (.int .i64 0) (.int .i64 0) (.int .i64 0) (.int .i64 0)
  have HZ := Lib.hid hbe
  clear hbe z2 l2 y0 y1 y2 y3 y4 y5 y6 y7 y8 y9 y10 y11
  generalize ((((((((((((w1.setCell ⟨b1 + 1, 0, none⟩ (.int .i64 0)).setCell ⟨b1 + 1, 1, none⟩ (.int .i64 0)).setCell ⟨b1 + 1, 2, none⟩ (.int .i64 0)).setCell ⟨b1 + 1, 3, none⟩ (.int .i64 0)).setCell ⟨b1 + 1, 4, none⟩ (.int .i64 0)).setCell ⟨b1 + 1, 5, none⟩ (.int .i64 0)).setCell ⟨b1 + 1, 6, none⟩ (.int .i64 0)).setCell ⟨b1 + 1, 7, none⟩ (.int .i64 0)).setCell ⟨b1 + 1, 8, none⟩ (.int .i64 0)).setCell ⟨b1 + 1, 9, none⟩ (.int .i64 0)).setCell ⟨b1 + 1, 10, none⟩ (.int .i64 0)).setCell ⟨b1 + 1, 11, none⟩ (.int .i64 0)) = wz at hbz HZ ⊢
  have d0 := hbz.cell 0
  have d1 := hbz.cell 1
  have d2 := hbz.cell 2
  have d3 := hbz.cell 3
  have d4 := hbz.cell 4
  have d5 := hbz.cell 5
  have d6 := hbz.cell 6
  have d7 := hbz.cell 7
  have d8 := hbz.cell 8
  have d9 := hbz.cell 9
  have d10 := hbz.cell 10
  have d11 := hbz.cell 11
  simp only [List.getElem?_toArray, List.getElem?_cons_zero, List.getElem?_cons_succ] at d0 d1 d2 d3 d4 d5 d6 d7 d8 d9 d10 d11
  try go_wp2_with fail
  refine bodyPost_ret (v := .tuple #[aggMsg zeroLMsg, .int .i64 7]) (by simp [results, Tryd.results45, go_sem, zeroLMsg, d0, d1, d2, d3, d4, d5, d6, d7, d8, d9, d10, d11]) rfl ⟨rfl, HZ.out⟩
set_option maxRecDepth 100000 in
set_option maxHeartbeats 3200000 in
theorem ask_no (c : Nat) (m : LMsg) (w : World) (hw : WaysAt w) (hk : checkM m ≠ 0) : Calls Tryd.prog 45 #[.pointer (some ⟨c, 0, none⟩), aggMsg m] w fun e w' => e = .returned (.tuple #[aggMsg zeroLMsg, .int .i64 1]) ∧ Below w.heap.size w w' := by
  have HW := Lib.hid hw
  obtain ⟨ck, hck⟩ : ∃ ck, checkM m = ck := ⟨_, rfl⟩
  rw [hck] at hk
  have HC := Lib.hid hck
  have hne : (ck != 0) = true := by simp [hk]
  clear hw hck hk
  have hs1 : (w.alloc (.cells (boxMsg m) 38)).heap.size = w.heap.size + 1 := by simp
  have h1 := (Blk.new w 38 (boxMsg m)).alloc (.cells #[.int .i64 0, .int .i64 0, .int .i64 0, .int .i64 0, .int .i64 0, .int .i64 0, .int .i64 0, .int .i64 0, .int .i64 0, .int .i64 0, .int .i64 0, .int .i64 0] 38)
  have h2 := Blk.new (w.alloc (.cells (boxMsg m) 38)) 38 #[.int .i64 0, .int .i64 0, .int .i64 0, .int .i64 0, .int .i64 0, .int .i64 0, .int .i64 0, .int .i64 0, .int .i64 0, .int .i64 0, .int .i64 0, .int .i64 0]
  rw [hs1] at h2
  have hB : Below w.heap.size w ((w.alloc (.cells (boxMsg m) 38)).alloc (.cells #[.int .i64 0, .int .i64 0, .int .i64 0, .int .i64 0, .int .i64 0, .int .i64 0, .int .i64 0, .int .i64 0, .int .i64 0, .int .i64 0, .int .i64 0, .int .i64 0] 38)) := ((Below.refl _ _).alloc (Nat.le_refl _) _).alloc (by simp) _
  have H0 := Lib.hid (And.intro h1 (And.intro h2 hB))
  clear hs1 h1 h2 hB
  go_enter Tryd.func45, Tryd.ntmps45
  go_upto_region 3 with fail
  generalize (w.alloc (.cells (boxMsg m) 38)).alloc (.cells #[.int .i64 0, .int .i64 0, .int .i64 0, .int .i64 0, .int .i64 0, .int .i64 0, .int .i64 0, .int .i64 0, .int .i64 0, .int .i64 0, .int .i64 0, .int .i64 0] 38) = w1 at H0 ⊢
  obtain ⟨b1, hb1⟩ : ∃ b1, w.heap.size = b1 := ⟨_, rfl⟩
  have h1 : Blk w1 b1 38 (boxMsg m) := by rw [← hb1]; exact H0.out.1
  have h2 : Blk w1 (b1 + 1) 38 #[.int .i64 0, .int .i64 0, .int .i64 0, .int .i64 0, .int .i64 0, .int .i64 0, .int .i64 0, .int .i64 0, .int .i64 0, .int .i64 0, .int .i64 0, .int .i64 0] := by rw [← hb1]; exact H0.out.2.1
  have HG := Lib.hid (show w.heap.size ≤ b1 + 1 by omega)
  have HB := Lib.hid H0.out.2.2
  try simp only [hb1]
  clear hb1 H0
  have HI := Lib.hid (And.intro h1 h2)
  obtain ⟨c0, c1, c2, c3, c4, c5, c6, c7, c8, c9, c10, c11⟩ := msgCells h1
  clear h1 h2
  have hcx := msgCheck_t m w1 (HW.out.below HB.out)
  rw [HC.out] at hcx
  go_wp2_with fail
  (with_reducible refine hcx.mono ?_)
  clear hcx c0 c1 c2 c3 c4 c5 c6 c7 c8 c9 c10 c11
  rintro e w2 ⟨rfl, hB2⟩
  have h2 := HI.out.2.below hB2 HI.out.2.lt
  have HB2 := Lib.hid (HB.out.trans (hB2.mono HB.out.size))
  clear hB2
  have z2 := h2.frozen
  have l2 := h2.lt
  have y0 := h2.cell 0
  have y1 := h2.cell 1
  have y2 := h2.cell 2
  have y3 := h2.cell 3
  have y4 := h2.cell 4
  have y5 := h2.cell 5
  have y6 := h2.cell 6
  have y7 := h2.cell 7
  have y8 := h2.cell 8
  have y9 := h2.cell 9
  have y10 := h2.cell 10
  have y11 := h2.cell 11
  simp only [List.getElem?_toArray, List.getElem?_cons_zero, List.getElem?_cons_succ] at y0 y1 y2 y3 y4 y5 y6 y7 y8 y9 y10 y11
  go_wp2_with fail
  obtain ⟨hbz, hbe⟩ := lay12 h2 HG.out HB2.out (.int .i64 0) (.int .i64 0) (.int .i64 0) (.int .i64 0) (.int .i64 0) (.int .i64 0) (.int .i64 0) (.int .i64 0) (.int .i64 0) (.int .i64 0) (.int .i64 0) (.int .i64 0)
  have HZ := Lib.hid hbe
  clear hbe z2 l2 y0 y1 y2 y3 y4 y5 y6 y7 y8 y9 y10 y11
  generalize ((((((((((((w2.setCell ⟨b1 + 1, 0, none⟩ (.int .i64 0)).setCell ⟨b1 + 1, 1, none⟩ (.int .i64 0)).setCell ⟨b1 + 1, 2, none⟩ (.int .i64 0)).setCell ⟨b1 + 1, 3, none⟩ (.int .i64 0)).setCell ⟨b1 + 1, 4, none⟩ (.int .i64 0)).setCell ⟨b1 + 1, 5, none⟩ (.int .i64 0)).setCell ⟨b1 + 1, 6, none⟩ (.int .i64 0)).setCell ⟨b1 + 1, 7, none⟩ (.int .i64 0)).setCell ⟨b1 + 1, 8, none⟩ (.int .i64 0)).setCell ⟨b1 + 1, 9, none⟩ (.int .i64 0)).setCell ⟨b1 + 1, 10, none⟩ (.int .i64 0)).setCell ⟨b1 + 1, 11, none⟩ (.int .i64 0)) = wz at hbz HZ ⊢
  have d0 := hbz.cell 0
  have d1 := hbz.cell 1
  have d2 := hbz.cell 2
  have d3 := hbz.cell 3
  have d4 := hbz.cell 4
  have d5 := hbz.cell 5
  have d6 := hbz.cell 6
  have d7 := hbz.cell 7
  have d8 := hbz.cell 8
  have d9 := hbz.cell 9
  have d10 := hbz.cell 10
  have d11 := hbz.cell 11
  simp only [List.getElem?_toArray, List.getElem?_cons_zero, List.getElem?_cons_succ] at d0 d1 d2 d3 d4 d5 d6 d7 d8 d9 d10 d11
  try go_wp2_with fail
  refine bodyPost_ret (v := .tuple #[aggMsg zeroLMsg, .int .i64 1]) (by simp [results, Tryd.results45, go_sem, zeroLMsg, d0, d1, d2, d3, d4, d5, d6, d7, d8, d9, d10, d11]) rfl ⟨rfl, HZ.out⟩
end Go.Proofs.YthhnocnkicoimaaDoor
