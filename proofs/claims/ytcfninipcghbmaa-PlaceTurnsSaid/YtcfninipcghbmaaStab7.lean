/-
  slices.stableCmpFunc, slices.SortStableFunc at jobs.
-/
import Derived.Test.YtcfninipcghbmaaStab6
import Derived.Test.YtcfninipcghbmaaStabQ
set_option linter.unusedVariables false
set_option linter.unusedSimpArgs false
namespace Go.Proofs.Ytcfninipcghbmaa
open Go.Shelf Go.RowKit Go.Sort

section
variable {w0 W : World} {blk off cap : Nat} {l0 : List LJob}
theorem pass_split {k c : Nat} {o b l : List LJob} (h : Pass jobLt k c o b l) : l = l.take (c * k) ++ ((b.drop (c * k)).take k ++ b.drop (c * k + k)) := by
  conv => lhs; rw [← List.take_append_drop (c * k) l, h.rest, ← List.take_append_drop k (b.drop (c * k)), List.drop_drop]
theorem pass_merge {bs c : Nat} {o b l : List LJob} (h : Pass jobLt (2 * bs) c o b l) (hs : SB jobLt bs o b) (hc : c * (2 * bs) ≤ o.length) :
    Pass jobLt (2 * bs) (c + 1) o b (l.take (c * (2 * bs)) ++ (smerge jobLt ((b.drop (c * (2 * bs))).take bs) ((b.drop (c * (2 * bs) + bs)).take bs) ++ b.drop (c * (2 * bs) + 2 * bs))) := by
  rw [← hs.pair jobOrd c]; exact h.step hc
theorem SB.asc2 {bs : Nat} {o b : List LJob} (hs : SB jobLt bs o b) (c : Nat) : Asc jobLt ((b.drop (c * (2 * bs))).take bs) ∧ Asc jobLt ((b.drop (c * (2 * bs) + bs)).take bs) := by
  have e1 := hs.asc jobOrd (2 * c)
  have e2 := hs.asc jobOrd (2 * c + 1)
  rw [show 2 * c * bs = c * (2 * bs) by rw [Nat.mul_comm 2 c, Nat.mul_assoc]] at e1
  rw [show (2 * c + 1) * bs = c * (2 * bs) + bs by rw [Nat.add_mul, Nat.one_mul, Nat.mul_comm 2 c, Nat.mul_assoc]] at e2
  exact ⟨e1, e2⟩
/-- The merge that a pass asks for. -/
theorem pass_sym {bs c a m e : Nat} {o b l : List LJob} (h : Pass jobLt (2 * bs) c o b l) (hs : SB jobLt bs o b) (ho : o.length = l0.length) (ha : c * (2 * bs) = a) (hm : a + bs = m) (hmn : m ≤ l0.length) (he : m + min bs (l0.length - m) = e) (hw : SWB encJob 8 w0 blk off l W) :
    Sym w0 blk off l0 (l.take a) ((b.drop a).take bs) ((b.drop m).take bs) (b.drop (m + bs)) a m e W := by
  have hb := h.blen
  have hl := h.len
  have h2 := hs.asc2 c
  have h3 := pass_split h
  rw [ha] at h2 h3
  rw [hm] at h2
  refine ⟨by rw [List.length_take]; omega, by rw [List.length_take, List.length_drop]; omega, by rw [List.length_take, List.length_drop]; omega, by rw [List.length_drop]; omega, h2.1, h2.2, ?_⟩
  rw [pair_blocks, List.append_assoc, hm, show a + 2 * bs = m + bs by omega] at h3
  rw [← h3]
  exact hw
theorem pass_last {bs c a m : Nat} {o b l : List LJob} (h : Pass jobLt (2 * bs) c o b l) (hs : SB jobLt bs o b) (ho : o.length = l0.length) (ha : c * (2 * bs) = a) (hm : a + bs = m) (han : a ≤ l0.length) (hmn : l0.length ≤ m) : Pass jobLt (2 * bs) (c + 1) o b l := by
  have h1 := pass_merge h hs (by omega)
  have h3 := pass_split h
  rw [ha] at h1 h3
  rw [hm, List.drop_of_length_le (l := b) (i := m) (by rw [h.blen]; omega), List.take_nil, smerge_nil] at h1
  rw [pair_blocks, List.append_assoc, hm, List.drop_of_length_le (l := b) (i := m) (by rw [h.blen]; omega), List.take_nil, List.nil_append] at h3
  rwa [← h3] at h1
set_option maxRecDepth 100000 in
set_option maxHeartbeats 3200000 in
theorem stable_t (R : RowL encJob 8 w0 blk off l0) (hsz : l0.length ≤ 1000000) (L : List LJob) (hL : L.length = l0.length) (h : SWB encJob 8 w0 blk off L W) :
    Calls Try.prog 149 #[.slice (some ⟨blk, off, none⟩) l0.length cap, .int .i64 l0.length, .func (.func 130) #[] #[]] W fun e W' => e = .returned (.tuple #[]) ∧ SWB encJob 8 w0 blk off (ssort jobLt L) W' := by
  have H := Lib.hid (And.intro h hL)
  clear h hL
  obtain ⟨n, hn⟩ : ∃ n, l0.length = n := ⟨_, rfl⟩
  have HN := Lib.hid hn
  rw [hn] at hsz ⊢
  clear hn
  go_enter Try.func149, Try.ntmps149
  go_wp2
  go_loopg [7, 8] (n + 1) (fun g va vb wr => ∃ (c a b : Nat) (l : List LJob), va = .int .i64 a ∧ vb = .int .i64 b ∧ a + 20 ≤ b ∧ b ≤ a + 20 ∧ a ≤ n ∧ n - a ≤ g ∧ Hid (c * 20 = a ∧ Pass jobLt 20 c L L l ∧ SWB encJob 8 w0 blk off l wr))
  case atStart => exact ⟨0, 0, 20, L, rfl, rfl, by omega, by omega, by omega, by omega, Lib.hid ⟨rfl, Pass.start rfl, H.out.1⟩⟩
  case round =>
    obtain ⟨c, a, b, l, rfl, rfl, hab, hba, han, hg, HP⟩ := hrel
    have hstep := HP.out.2.1.step (by rw [HP.out.1, H.out.2, HN.out]; exact han)
    have hspl := pass_split HP.out.2.1
    have hw := HP.out.2.2
    rw [hspl] at hw
    rw [HP.out.1] at hw hstep
    have hla : (l.take a).length = a := by rw [List.length_take, HP.out.2.1.len, H.out.2, HN.out]; omega
    by_cases hlt : b ≤ n
    · have hcx := insSort_t (cap := cap) R (by rw [HN.out]; exact hsz) (l.take a) ((L.drop a).take 20) (L.drop (a + 20)) a b hla (by rw [List.length_take, List.length_drop, H.out.2, HN.out]; omega) (by rw [hla, List.length_take, List.length_drop, List.length_drop, H.out.2, HN.out]; omega) hw
      rw [HN.out] at hcx
      have HS := Lib.hid hstep
      clear hstep hspl hw hla
      go_wp2_with fail
      (with_reducible refine hcx.mono ?_)
      clear hcx
      rintro e w' ⟨rfl, hw⟩
      have HW := Lib.hid hw
      clear hw
      go_wp2
      go_roundg (n - (a + 20))
      case measure => omega
      case rel => exact ⟨c + 1, b, b + 20, _, rfl, by go_num, by omega, by omega, by omega, by omega, Lib.hid ⟨by have := HP.out.1; omega, HS.out, HW.out⟩⟩
    · have hcx := insSort_t (cap := cap) R (by rw [HN.out]; exact hsz) (l.take a) ((L.drop a).take 20) (L.drop (a + 20)) a n hla (by rw [List.length_take, List.length_drop, H.out.2, HN.out]; omega) (by rw [hla, List.length_take, List.length_drop, List.length_drop, H.out.2, HN.out]; omega) hw
      rw [HN.out] at hcx
      have HS := Lib.hid (hstep.finish (by rw [H.out.2, HN.out]; have := HP.out.1; omega))
      clear hstep hspl hw hla
      go_wp2_with fail
      (with_reducible refine hcx.mono ?_)
      clear hcx
      rintro e w' ⟨rfl, hw⟩
      obtain ⟨l1, hl1⟩ : ∃ l1, l.take a ++ (ssort jobLt ((L.drop a).take 20) ++ L.drop (a + 20)) = l1 := ⟨_, rfl⟩
      rw [hl1] at hw HS
      have HW := Lib.hid (And.intro HS.out hw)
      clear hw HS hl1 HP
      go_wp2
      go_loopg [6] (n + 1) (fun g v6 wr => ∃ (bs : Nat) (l : List LJob), v6 = .int .i64 bs ∧ 1 ≤ bs ∧ bs ≤ 2000000 ∧ n - bs ≤ g ∧ Hid (SB jobLt bs L l ∧ SWB encJob 8 w0 blk off l wr))
      case atStart => exact ⟨20, l1, rfl, by omega, by omega, by omega, HW⟩
      case round =>
        clear HW
        obtain ⟨bs, l2, rfl, hb1, hb2, hg2, HB⟩ := hrel
        by_cases hbn : bs < n
        · obtain ⟨wo, rfl⟩ : ∃ wo : World, wo = wr := ⟨_, rfl⟩
          obtain ⟨d, hd⟩ : ∃ d, 2 * bs = d := ⟨_, rfl⟩
          have hzd : 2 * (bs : Int) = (d : Int) := by omega
          have hd2 : 2 * bs ≤ d ∧ d ≤ 2 * bs := by omega
          have HD := Lib.hid hd
          clear hd
          go_wp2
          go_loopg [7, 8] (n + 1) (fun g va vb wr => ∃ (c a b : Nat) (l : List LJob), va = .int .i64 a ∧ vb = .int .i64 b ∧ a + d ≤ b ∧ b ≤ a + d ∧ a ≤ n ∧ n - a ≤ g ∧ Hid (c * (2 * bs) = a ∧ Pass jobLt (2 * bs) c L l2 l ∧ SWB encJob 8 w0 blk off l wr))
          case atStart => exact ⟨0, 0, d, l2, rfl, rfl, by omega, by omega, by omega, by omega, Lib.hid ⟨by simp, Pass.start HB.out.1.1, HB.out.2⟩⟩
          case round =>
            obtain ⟨c3, a3, b3, l3, rfl, rfl, hab3, hba3, han3, hg3, HP⟩ := hrel
            obtain ⟨m, hm⟩ : ∃ m, a3 + bs = m := ⟨_, rfl⟩
            have hzm : (a3 : Int) + (bs : Int) = (m : Int) := by omega
            have hmm : a3 + bs ≤ m ∧ m ≤ a3 + bs := by omega
            have hmg := pass_merge HP.out.2.1 HB.out.1 (by rw [HP.out.1, H.out.2, HN.out]; exact han3)
            rw [HP.out.1, hm, show a3 + 2 * bs = m + bs by omega] at hmg
            by_cases hlt3 : b3 ≤ n
            · have hsy := pass_sym (l0 := l0) (a := a3) (m := m) (e := b3) HP.out.2.1 HB.out.1 H.out.2 HP.out.1 hm (by rw [HN.out]; omega) (by rw [HN.out]; omega) HP.out.2.2
              have hcx := symMerge_t (cap := cap) R (by rw [HN.out]; exact hsz) (b3 + 1) _ _ _ _ _ _ _ _ hsy (by rw [List.length_take, List.length_drop, HB.out.1.1, H.out.2, HN.out]; omega) (by rw [List.length_take, List.length_drop, HB.out.1.1, H.out.2, HN.out]; omega) (by omega)
              rw [HN.out] at hcx
              have HM := Lib.hid hmg
              clear hmg hsy hm
              go_wp2_with fail
              (with_reducible refine hcx.mono ?_)
              clear hcx
              rintro e w' ⟨rfl, hw⟩
              have HW := Lib.hid hw
              clear hw
              go_wp2
              go_roundg (n - b3)
              case measure => omega
              case rel => exact ⟨c3 + 1, b3, b3 + d, _, rfl, by go_num, by omega, by omega, by omega, by omega, Lib.hid ⟨by have h1 := HP.out.1; have h2 := HD.out; rw [Nat.add_mul]; omega, HM.out, HW.out⟩⟩
            · by_cases hmn : m < n
              · have hsy := pass_sym (l0 := l0) (a := a3) (m := m) (e := n) HP.out.2.1 HB.out.1 H.out.2 HP.out.1 hm (by rw [HN.out]; omega) (by rw [HN.out]; omega) HP.out.2.2
                have hcx := symMerge_t (cap := cap) R (by rw [HN.out]; exact hsz) (n + 1) _ _ _ _ _ _ _ _ hsy (by rw [List.length_take, List.length_drop, HB.out.1.1, H.out.2, HN.out]; omega) (by rw [List.length_take, List.length_drop, HB.out.1.1, H.out.2, HN.out]; omega) (by omega)
                rw [HN.out] at hcx
                have HM := Lib.hid (hmg.finish (by rw [H.out.2, HN.out, Nat.add_mul]; have := HP.out.1; omega))
                clear hmg hsy hm
                go_wp2_with fail
                (with_reducible refine hcx.mono ?_)
                clear hcx
                rintro e w' ⟨rfl, hw⟩
                have HW := Lib.hid hw
                clear hw
                go_wp2
                go_roundg (n - d)
                case measure => omega
                case rel => exact ⟨d, _, by go_num, by omega, by omega, Nat.le_refl _, Lib.hid ⟨by rw [← HD.out]; exact HM.out, HW.out⟩⟩
              · have HM := Lib.hid ((pass_last (l0 := l0) HP.out.2.1 HB.out.1 H.out.2 HP.out.1 hm (by rw [HN.out]; exact han3) (by rw [HN.out]; omega)).finish (by rw [H.out.2, HN.out, Nat.add_mul]; have := HP.out.1; omega))
                clear hmg hm
                go_wp2
                go_roundg (n - d)
                case measure => omega
                case rel => exact ⟨d, _, by go_num, by omega, by omega, Nat.le_refl _, Lib.hid ⟨by rw [← HD.out]; exact HM.out, HP.out.2.2⟩⟩
        · go_wp2
          go_end0
          exact ⟨rfl, by rw [← HB.out.1.whole (by rw [H.out.2, HN.out]; omega)]; exact HB.out.2⟩
end
end Go.Proofs.Ytcfninipcghbmaa
