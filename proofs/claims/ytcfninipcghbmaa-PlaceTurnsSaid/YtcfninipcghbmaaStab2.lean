/-
  slices.rotateCmpFunc at jobs.
-/
import Derived.Test.YtcfninipcghbmaaStab1
set_option linter.unusedVariables false
set_option linter.unusedSimpArgs false
namespace Go.Proofs.Ytcfninipcghbmaa
open Go.Shelf Go.RowKit Go.Sort

section
variable {w0 W : World} {blk off cap : Nat} {l0 : List LJob}
theorem swapRange_z (R : RowL encJob 8 w0 blk off l0) (hsz : l0.length ≤ 1000000) (A X M Y S : List LJob) (n a b : Int) (ha : (A.length : Int) = a) (hX : (X.length : Int) = n) (hY : (Y.length : Int) = n) (hb : a + n + M.length = b)
    (hl : A.length + X.length + M.length + Y.length + S.length = l0.length) (h : SWB encJob 8 w0 blk off (A ++ (X ++ (M ++ (Y ++ S)))) W) (fv : Value) :
    Calls Try.prog 168 #[.slice (some ⟨blk, off, none⟩) l0.length cap, .int .i64 a, .int .i64 b, .int .i64 n, fv] W fun e W' => e = .returned (.tuple #[]) ∧ SWB encJob 8 w0 blk off (A ++ (Y ++ (M ++ (X ++ S)))) W' := by
  subst ha hX hb
  have h1 := swapRange_t (cap := cap) R hsz A X M Y S X.length A.length (A.length + X.length + M.length) rfl rfl (by omega) rfl (by simp; omega) h fv
  rw [show ((A.length + X.length + M.length : Nat) : Int) = (A.length : Int) + (X.length : Int) + (M.length : Int) by omega] at h1
  exact h1
structure Rot (w0 : World) (blk off : Nat) (T : List LJob) (m i j : Nat) (wr : World) (A U V S : List LJob) : Prop where
  u : U.length = i
  v : V.length = j
  i0 : 0 < i
  j0 : 0 < j
  p : A.length + i = m
  t : A ++ (V ++ (U ++ S)) = T
  w : SWB encJob 8 w0 blk off (A ++ (U ++ (V ++ S))) wr
set_option maxRecDepth 100000 in
set_option maxHeartbeats 1600000 in
theorem rotate_t (R : RowL encJob 8 w0 blk off l0) (hsz : l0.length ≤ 1000000) (A U V S : List LJob) (a m b : Nat) (ha : A.length = a) (hm : a + U.length = m) (hb : m + V.length = b) (hU : 0 < U.length) (hV : 0 < V.length)
    (hl : b + S.length = l0.length) (h : SWB encJob 8 w0 blk off (A ++ (U ++ (V ++ S))) W) (fv : Value) :
    Calls Try.prog 166 #[.slice (some ⟨blk, off, none⟩) l0.length cap, .int .i64 a, .int .i64 m, .int .i64 b, fv] W fun e W' => e = .returned (.tuple #[]) ∧ SWB encJob 8 w0 blk off (A ++ (V ++ (U ++ S))) W' := by
  obtain ⟨T, hT⟩ : ∃ T, A ++ (V ++ (U ++ S)) = T := ⟨_, rfl⟩
  have hTl : T.length = l0.length := by rw [← hT]; simp; omega
  have H := Lib.hid (show Rot w0 blk off T m U.length V.length W A U V S from ⟨rfl, rfl, hU, hV, by omega, hT, h⟩)
  have HT := Lib.hid hTl
  rw [hT]
  have e1 : (m : Int) - (a : Int) = (U.length : Int) := by omega
  have e2 : (b : Int) - (m : Int) = (V.length : Int) := by omega
  have hbm : m ≤ 1000000 ∧ b ≤ 1000000 := by omega
  obtain ⟨i0, hi0⟩ : ∃ i0, U.length = i0 := ⟨_, rfl⟩
  obtain ⟨j0, hj0⟩ : ∃ j0, V.length = j0 := ⟨_, rfl⟩
  rw [hi0] at e1 H
  rw [hj0] at e2 H
  clear h hT hTl ha hm hb hU hV hl hi0 hj0
  have hij : i0 ≤ 1000000 ∧ j0 ≤ 1000000 := by omega
  go_enter Try.func166, Try.ntmps166
  go_wp2
  clear e1 e2
  go_loopw [10, 11] (fun vi vj wr => ∃ (i j : Nat) (A U V S : List LJob), vi = .int .i64 i ∧ vj = .int .i64 j ∧ i ≤ 1000000 ∧ j ≤ 1000000 ∧ i ≤ m ∧ Rot w0 blk off T m i j wr A U V S) (fun vi vj _ => (intOf vi).toNat + (intOf vj).toNat)
  case atStart => exact ⟨i0, j0, A, U, V, S, by go_num, by go_num, hij.1, hij.2, by have := H.out.p; omega, H.out⟩
  case round =>
    clear H hij
    obtain ⟨i, j, A, U, V, S, rfl, rfl, hi, hj, him, h⟩ := hrel
    have hq : A.length + U.length + V.length + S.length = l0.length := by have e := congrArg List.length h.t; rw [HT.out] at e; simp only [List.length_append] at e; omega
    have H := Lib.hid h
    have HQ := Lib.hid hq
    have hi0 := h.i0
    have hj0 := h.j0
    clear h hq
    by_cases hne : i = j
    · have hb1 : ((i : Int) != (j : Int)) = false := by rw [bne_eq_false_iff_eq]; omega
      have hcx := swapRange_z (cap := cap) R hsz A U [] V S i ((m : Int) - (i : Int)) m (by have := H.out.p; omega) (by have := H.out.u; omega) (by have := H.out.v; omega) (by simp) (by have := HQ.out; simp; omega) H.out.w fv
      have HN := Lib.hid hne
      clear hne
      go_wp2_with fail
      (with_reducible refine hcx.mono ?_)
      clear hcx
      rintro e w' ⟨rfl, hw⟩
      have HW := Lib.hid hw
      clear hw
      go_wp2
      go_end0
      exact ⟨rfl, by rw [← H.out.t]; exact HW.out⟩
    · have hb1 : ((i : Int) != (j : Int)) = true := by rw [bne_iff_ne]; omega
      by_cases hlt : j < i
      · have hcx := swapRange_z (cap := cap) R hsz A (U.take j) (U.drop j) V S j ((m : Int) - (i : Int)) m (by have := H.out.p; omega) (by have := H.out.u; simp; omega) (by have := H.out.v; omega) (by have := H.out.u; simp; omega) (by have := HQ.out; have := H.out.u; simp; omega)
          (by rw [← List.append_assoc (U.take j), List.take_append_drop]; exact H.out.w) fv
        clear hne
        go_wp2_with fail
        (with_reducible refine hcx.mono ?_)
        clear hcx
        rintro e w' ⟨rfl, hw⟩
        have h2 : Rot w0 blk off T m (i - j) j w' (A ++ V) (U.drop j) (U.take j) S := ⟨by rw [List.length_drop, H.out.u], by rw [List.length_take, H.out.u]; omega, by omega, hj0, by rw [List.length_append, H.out.v]; have := H.out.p; omega, by rw [← H.out.t, List.append_assoc, ← List.append_assoc (U.take j), List.take_append_drop], by rw [List.append_assoc]; exact hw⟩
        have H2 := Lib.hid h2
        clear h2 hw
        go_wp2
        go_roundw
        case rel => exact ⟨i - j, j, _, _, _, _, by go_num, rfl, by omega, hj, by omega, H2.out⟩
        case measure => simp [intOf]; omega
      · have hcx := swapRange_z (cap := cap) R hsz A U (V.take (j - i)) (V.drop (j - i)) S i ((m : Int) - (i : Int)) ((m : Int) + (j : Int) - (i : Int)) (by have := H.out.p; omega) (by have := H.out.u; omega) (by have := H.out.v; simp; omega) (by have := H.out.v; simp; omega) (by have := HQ.out; have := H.out.v; simp; omega)
          (by rw [← List.append_assoc (V.take (j - i)), List.take_append_drop]; exact H.out.w) fv
        go_wp2_with fail
        (with_reducible refine hcx.mono ?_)
        clear hcx
        rintro e w' ⟨rfl, hw⟩
        have h2 : Rot w0 blk off T m i (j - i) w' A (V.drop (j - i)) (V.take (j - i)) (U ++ S) := ⟨by rw [List.length_drop, H.out.v]; omega, by rw [List.length_take, H.out.v]; omega, by omega, by omega, H.out.p, by rw [← H.out.t, ← List.append_assoc (V.take (j - i)), List.take_append_drop], hw⟩
        have H2 := Lib.hid h2
        clear h2 hw hne
        go_wp2
        go_roundw
        case rel => exact ⟨i, j - i, _, _, _, _, rfl, by go_num, by omega, by omega, him, H2.out⟩
        case measure => simp [intOf]; omega
end
end Go.Proofs.Ytcfninipcghbmaa
