/-
  slices.swapRangeCmpFunc at jobs.
-/
import Derived.Test.YtcfninipcghbmaaStabW
import Derived.Test.YtcfninipcghbmaaTJob
import Derived.BigRegion
set_option linter.unusedVariables false
set_option linter.unusedSimpArgs false
namespace Go.Proofs.Ytcfninipcghbmaa
open Go.Shelf Go.RowKit Go.Sort

instance : Inhabited LJob := ⟨⟨0, 0, 0, 0, 0, ⟨0, 0, 0⟩⟩⟩
theorem setJob (W : World) (b o : Nat) (y : LJob) : W.setCells b o (encJob y) = ((((((((W.setCell ⟨b, o, none⟩ (.int .i64 y.id)).setCell ⟨b, o + 1, none⟩ (.int .i64 y.prio)).setCell ⟨b, o + 2, none⟩ (.int .i64 y.seq)).setCell ⟨b, o + 3, none⟩ (.int .i64 y.phase)).setCell ⟨b, o + 4, none⟩ (.int .i64 y.node)).setCell ⟨b, o + 5, none⟩ (.int .i64 y.need.a)).setCell ⟨b, o + 6, none⟩ (.int .i64 y.need.b)).setCell ⟨b, o + 7, none⟩ (.int .i64 y.need.c)) := rfl
section
variable {w0 W : World} {blk off cap : Nat} {l0 : List LJob}
set_option maxRecDepth 100000 in
set_option maxHeartbeats 1600000 in
theorem swapRange_t (R : RowL encJob 8 w0 blk off l0) (hsz : l0.length ≤ 1000000) (A X M Y S : List LJob) (n a b : Nat) (ha : A.length = a) (hX : X.length = n) (hY : Y.length = n) (hb : a + n + M.length = b)
    (hl : (A ++ (X ++ (M ++ (Y ++ S)))).length = l0.length) (h : SWB encJob 8 w0 blk off (A ++ (X ++ (M ++ (Y ++ S)))) W) (fv : Value) :
    Calls Try.prog 168 #[.slice (some ⟨blk, off, none⟩) l0.length cap, .int .i64 a, .int .i64 b, .int .i64 n, fv] W fun e W' => e = .returned (.tuple #[]) ∧ SWB encJob 8 w0 blk off (A ++ (Y ++ (M ++ (X ++ S)))) W' := by
  have hln : a + n + M.length + n + S.length = l0.length := by simp at hl; omega
  have H := Lib.hid h
  have HX := Lib.hid (And.intro ha (And.intro hX (And.intro hY hb)))
  have HL := Lib.hid hl
  obtain ⟨m, hm⟩ : ∃ m, M.length = m := ⟨_, rfl⟩
  rw [hm] at hb hln
  obtain ⟨s, hs⟩ : ∃ s, S.length = s := ⟨_, rfl⟩
  rw [hs] at hln
  have HM := Lib.hid (And.intro hm hs)
  have hb1 : a + n ≤ b := by omega
  have hbn : b + n ≤ l0.length := by omega
  clear h ha hX hY hb hl hm hs hln
  go_enter Try.func168, Try.ntmps168
  go_wp2
  go_loopw [10] (fun i wr => ∃ k : Nat, k ≤ n ∧ i = .int .i64 k ∧ SWB encJob 8 w0 blk off (A ++ (Y.take k ++ (X.drop k ++ (M ++ (X.take k ++ (Y.drop k ++ S)))))) wr) (fun i _ => n - (intOf i).toNat)
  case atStart => exact ⟨0, Nat.zero_le _, rfl, by simpa using H.out⟩
  case round =>
    obtain ⟨k, hk, rfl, hw⟩ := hrel
    by_cases hlt : k < n
    · obtain ⟨x, hx⟩ : ∃ x, X[k]? = some x := ⟨_, List.getElem?_eq_getElem (by have := HX.out; omega)⟩
      obtain ⟨y, hy⟩ : ∃ y, Y[k]? = some y := ⟨_, List.getElem?_eq_getElem (by have := HX.out; omega)⟩
      have dx : X.drop k = x :: X.drop (k + 1) := by rw [List.drop_eq_getElem_cons (by have := HX.out; omega)]; congr 1; exact (List.getElem?_eq_some_iff.1 hx).2
      have dy : Y.drop k = y :: Y.drop (k + 1) := by rw [List.drop_eq_getElem_cons (by have := HX.out; omega)]; congr 1; exact (List.getElem?_eq_some_iff.1 hy).2
      have tx : X.take (k + 1) = X.take k ++ [x] := by rw [List.take_add_one, hx]; rfl
      have ty : Y.take (k + 1) = Y.take k ++ [y] := by rw [List.take_add_one, hy]; rfl
      have e1 : A ++ (Y.take k ++ (X.drop k ++ (M ++ (X.take k ++ (Y.drop k ++ S))))) = (A ++ Y.take k) ++ x :: ((X.drop (k + 1) ++ (M ++ X.take k)) ++ y :: (Y.drop (k + 1) ++ S)) := by rw [dx, dy]; simp
      have e2 : A ++ (Y.take (k + 1) ++ (X.drop (k + 1) ++ (M ++ (X.take (k + 1) ++ (Y.drop (k + 1) ++ S))))) = (A ++ Y.take k) ++ y :: ((X.drop (k + 1) ++ (M ++ X.take k)) ++ x :: (Y.drop (k + 1) ++ S)) := by rw [tx, ty]; simp
      rw [e1] at hw
      have HE := Lib.hid e2
      clear hx hy dx dy tx ty e1 e2
      generalize hA1 : A ++ Y.take k = A1 at hw HE
      generalize hM1 : X.drop (k + 1) ++ (M ++ X.take k) = M1 at hw HE
      generalize hS1 : Y.drop (k + 1) ++ S = S1 at hw HE
      have hlA : A1.length = a + k := by rw [← hA1]; have := HX.out; simp; omega
      have hlM : A1.length + 1 + M1.length = b + k := by rw [← hA1, ← hM1]; have := HX.out; have := HM.out; simp; omega
      have hlS : (A1 ++ x :: (M1 ++ y :: S1)).length = l0.length := by rw [← hA1, ← hM1, ← hS1]; have := HX.out; have := HM.out; have := HL.out; simp at this ⊢; omega
      have HQ := Lib.hid hS1
      clear hA1 hM1 hS1
      have hs2 := hw.swapped R hlA.symm hlM.symm
      simp only [setJob, World.setCell_drew] at hs2
      have HS2 := Lib.hid hs2
      clear hs2
      obtain ⟨cx, fx⟩ := hw.cells R hlS (i := a + k) (x := x) (by rw [← hlA]; simp)
      obtain ⟨cy, fy⟩ := hw.cells R hlS (i := b + k) (x := y) (by rw [← hlM, show A1.length + 1 + M1.length = (A1 ++ x :: M1).length by simp; omega, show A1 ++ x :: (M1 ++ y :: S1) = (A1 ++ x :: M1) ++ y :: S1 by simp]; simp)
      have cx0 := cx 0 _ rfl
      have cx1 := cx 1 _ rfl
      have cx2 := cx 2 _ rfl
      have cx3 := cx 3 _ rfl
      have cx4 := cx 4 _ rfl
      have cx5 := cx 5 _ rfl
      have cx6 := cx 6 _ rfl
      have cx7 := cx 7 _ rfl
      have cy0 := cy 0 _ rfl
      have cy1 := cy 1 _ rfl
      have cy2 := cy 2 _ rfl
      have cy3 := cy 3 _ rfl
      have cy4 := cy 4 _ rfl
      have cy5 := cy 5 _ rfl
      have cy6 := cy 6 _ rfl
      have cy7 := cy 7 _ rfl
      simp only [Nat.add_zero] at cx0 cy0
      have hab : a + k < b + k := by omega
      have wa : IntKind.i64.wrap ((a : Int) + (k : Int)) = ((a + k : Nat) : Int) := by rw [IntKind.wrap_i64]; omega
      have wb : IntKind.i64.wrap ((b : Int) + (k : Int)) = ((b + k : Nat) : Int) := by rw [IntKind.wrap_i64]; omega
      have ia : ((a + k : Nat) : Int) < (l0.length : Int) := by omega
      have ib : ((b + k : Nat) : Int) < (l0.length : Int) := by omega
      clear hlA hlM hlS hw cx cy
      generalize a + k = ai at *
      generalize b + k = bi at *
      go_wp2
      go_region
      all_goals
        go_wp2
        go_roundw
        case rel => exact ⟨k + 1, by omega, by go_num, by rw [HQ.out, HE.out]; exact HS2.out.1⟩
        case measure => simp [intOf]; omega
    · obtain rfl : k = n := by omega
      have e1 := HX.out.2.1
      have e2 := HX.out.2.2.1
      rw [List.take_of_length_le (by omega), List.drop_of_length_le (by omega), List.take_of_length_le (by omega), List.drop_of_length_le (by omega)] at hw
      have HW := Lib.hid hw
      clear hw e1 e2
      go_wp2
      go_end0
      exact ⟨rfl, by simpa using HW.out⟩
end
end Go.Proofs.Ytcfninipcghbmaa
