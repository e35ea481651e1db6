/-
  LAYER 32 (cache): the law CacheBest, walked.
-/
import Derived.Test.YtcafmodenbifhaaCacheF
set_option linter.unusedVariables false
set_option linter.unusedSimpArgs false
namespace Go.Proofs.Ytcafmodenbifhaa
open Go.RowKit Go.Maps

theorem insN_mem {L : List LNode} (h : Rising (idsN L)) {n : LNode} (hn : n ∈ L) : insN L n = L := by
  induction L with
  | nil => cases hn
  | cons a r ih =>
    have h' : Rising (a.id :: idsN r) := h
    obtain ⟨h1, h2⟩ := List.pairwise_cons.1 h'
    unfold insN
    rcases List.mem_cons.1 hn with e | hn2
    · rw [e, if_neg (by omega), if_pos rfl]
    · have h3 := h1 n.id (List.mem_map.2 ⟨n, hn2, rfl⟩)
      rw [if_pos h3, ih h2 hn2]
theorem put_nodes {X : CX} (h : Rising (idsN X.nodes)) (n : LNode) : (X.put n).1.nodes = insN X.nodes n := by
  unfold CX.put
  split
  · rename_i hn
    exact (insN_mem h hn).symm
  · rfl
theorem of_known {X : CX} {r : LRes} (h : r ∈ X.needs) : X.of r = X := by unfold CX.of; rw [if_pos h]
theorem best_known (X : CX) (r : LRes) : r ∈ (X.best r).needs := by
  unfold CX.best CX.of
  split
  · rename_i h; exact h
  · simp
theorem best_best (X : CX) (r : LRes) : (X.best r).best r = X.best r := by
  have h1 := best_known X r
  have h2 := best_s X r
  generalize X.best r = Y at h1 h2 ⊢
  cases Y with
  | mk a b c d =>
    simp only at h1 h2
    subst h2
    show CX.of ⟨a, [], c, d + (([] : List Int).length : Int) * (c.length : Int)⟩ r = _
    rw [of_known h1]
    simp
theorem insN_at {L : List LNode} (n : LNode) {k nn : Nat} (hl : L.length = nn) (hk : k ≤ nn) (h1 : ∀ m ∈ L.take k, m.id < n.id) (h2 : ∀ m, L[k]? = some m → ¬ m.id < n.id) (k' : Nat) (hk' : k' = if (∃ m, L[k]? = some m ∧ m.id = n.id) then k + 1 else k) : L.take k ++ [n] ++ L.drop k' = insN L n := by
  rw [hk', insN_split n k (by omega) h1 h2]
/-- The cache, and the law's own row of nodes. -/
structure CB (w1 w : World) (c : Nat) (X : CX) (S : Nat → Prop) (A : Option Addr) (nn cap : Nat) (L : List LNode) : Prop where
  c1 : C1 w1 w c X S
  own : OwnL encNode 55 10 w w1.heap.size A nn cap L
  out : ∀ ad, A = some ad → ¬ S ad.block
section
variable {w1 w w' : World} {c : Nat} {X X' : CX} {S S' : Nat → Prop} {A : Option Addr} {nn cap : Nat} {L : List LNode}
theorem CB.then (h : CB w1 w c X S A nn cap L) (hb : Below w.heap.size w w') : CB w1 w' c X S A nn cap L := ⟨h.c1.then hb, h.own.below hb, h.out⟩
theorem CB.step (h : CB w1 w c X S A nn cap L) (h' : CaO w' c X' S') (ht : Turned S S' w w') : CB w1 w' c X' S' A nn cap L :=
  ⟨h.c1.step h' ht, h.own.kept ht.kept h.out, fun ad ha hs => (ht.new _ hs).elim (h.out ad ha) (fun h9 => by have := (h.own.at_base ad ha).2; omega)⟩
end
set_option maxRecDepth 100000 in
set_option maxHeartbeats 6400000 in
theorem best32 (A : Option Addr) (n cap : Nat) (l : List LAct32) (w : World) (h : Rd encAct32 14 w A n l) (hw : ∀ a ∈ l, wfAct32 a) :
    Calls Try.prog 6 #[.slice A n cap] w fun e w' => e = .returned (.bool true) ∧ Below w.heap.size w w' := by
  by_cases hb1 : 100 < n
  · go_enter Try.func6, Try.ntmps6
    have hcx := awake32 w
    go_wp2_with fail
    (with_reducible refine hcx.mono ?_)
    clear hcx
    rintro e w' ⟨rfl, hb⟩
    have HE := Lib.hid hb
    clear hb
    go_wp2
    go_ret
    exact ⟨rfl, HE.out⟩
  have hn : n ≤ 100 := by omega
  have H1 := Lib.hid (And.intro h hw)
  clear h hw hb1
  go_enter Try.func6, Try.ntmps6
  have hcx := caNew_t w
  go_wp2_with fail
  (with_reducible refine hcx.mono ?_)
  clear hcx
  rintro e w2 ⟨rfl, hw2⟩
  have hc1 := C1.made w
  rw [← hw2] at hc1
  obtain ⟨c, hc⟩ : ∃ c, w.heap.size = c := ⟨_, rfl⟩
  obtain ⟨S0, hS0⟩ : ∃ S0 : Nat → Prop, (fun k => k = w.heap.size) = S0 := ⟨_, rfl⟩
  rw [hS0, hc] at hc1
  try rw [hc]
  have HC : Hid (CB w w2 c ⟨[], [], [], 0⟩ S0 none 0 0 []) := Lib.hid ⟨hc1, OwnL.nil _ _, fun ad ha => (by cases ha)⟩
  clear hc1 hS0 hc hw2
  go_wp2
  go_loopw [4, 5] (fun v i wr => ∃ (k : Nat) (X : CX) (S : Nat → Prop) (A2 : Option Addr) (nn cap2 : Nat), k ≤ n ∧ i = .int .i64 k ∧ v = .slice A2 nn cap2 ∧ CB w wr c X S A2 nn cap2 X.nodes ∧ X.Small k) (fun _ i _ => n - (intOf i).toNat)
  case atStart => exact ⟨0, _, _, _, _, _, Nat.zero_le _, rfl, rfl, HC.out, CX.Small.zero⟩
  case round =>
    obtain ⟨k, X, S, A2, nn, cap2, hk, rfl, rfl, hC, hsX⟩ := hrel
    have H4 := Lib.hid (And.intro hC hsX)
    have hnn : nn ≤ 100 := by have h1 := hC.own.len; have h2 := hsX.nodes; omega
    clear hC hsX
    by_cases hlt : k < n
    · obtain ⟨ab, ao, ac, hAe, hx, hal, hc1⟩ := Act32_cells H1.out.1 hlt
      subst hAe
      have hwa := H1.out.2 ac (List.mem_of_getElem? hx)
      have HCC : Hid (∀ W : World, Below w.heap.size w W → ∀ j v, (encAct32 ac)[j]? = some v → W.cell? ⟨ab, ao + k * 14 + j, none⟩ = some v) := Lib.hid fun W hW j v hv => (hW.cell (p := ⟨ab, ao + k * 14 + j, none⟩) hal).trans (hc1 j v hv)
      have hck := HCC.out wr H4.out.1.c1.below
      have xk : wr.cell? ⟨ab, ao + k * 14, none⟩ = some (.int .i64 ac.kind) := hck 0 _ rfl
      have HW := Lib.hid hwa
      clear hx hal hc1 hwa
      by_cases hk1 : ac.kind = 1
      · have t1 : (ac.kind == 1) = true := by simp [hk1]
        clear hk1
        have x0 : wr.cell? ⟨ab, ao + k * 14 + 1, none⟩ = some (.int .i64 ac.node.id) := hck 1 _ rfl
        have x1 : wr.cell? ⟨ab, ao + k * 14 + 1 + 1, none⟩ = some (.int .i64 ac.node.inc) := hck 2 _ rfl
        have x2 : wr.cell? ⟨ab, ao + k * 14 + 1 + 2, none⟩ = some (.int .i64 ac.node.load) := hck 3 _ rfl
        have x3 : wr.cell? ⟨ab, ao + k * 14 + 1 + 3, none⟩ = some (.int .i64 ac.node.cap.a) := hck 4 _ rfl
        have x4 : wr.cell? ⟨ab, ao + k * 14 + 1 + 4, none⟩ = some (.int .i64 ac.node.cap.b) := hck 5 _ rfl
        have x5 : wr.cell? ⟨ab, ao + k * 14 + 1 + 5, none⟩ = some (.int .i64 ac.node.cap.c) := hck 6 _ rfl
        have x6 : wr.cell? ⟨ab, ao + k * 14 + 1 + 6, none⟩ = some (.int .i64 ac.node.used.a) := hck 7 _ rfl
        have x7 : wr.cell? ⟨ab, ao + k * 14 + 1 + 7, none⟩ = some (.int .i64 ac.node.used.b) := hck 8 _ rfl
        have x8 : wr.cell? ⟨ab, ao + k * 14 + 1 + 8, none⟩ = some (.int .i64 ac.node.used.c) := hck 9 _ rfl
        have x9 : wr.cell? ⟨ab, ao + k * 14 + 1 + 9, none⟩ = some (.bool ac.node.up) := hck 10 _ rfl
        clear hck
        have hcx := caPut_o H4.out.1.c1.a ac.node HW.out.2.1 ⟨by have := H4.out.2.nodes; omega, by have := H4.out.2.stale; omega⟩
        go_wp2_with fail
        (with_reducible refine hcx.mono ?_)
        clear hcx xk x0 x1 x2 x3 x4 x5 x6 x7 x8 x9
        rintro e w5 ⟨rfl, S5, h5, ht5⟩
        have H5 := Lib.hid (H4.out.1.step h5 ht5)
        have HR := Lib.hid H4.out.1.c1.a.rising
        have hsz5 : w.heap.size ≤ w5.heap.size := H5.out.c1.below.size
        obtain ⟨L, hL⟩ : ∃ L, X.nodes = L := ⟨_, rfl⟩
        have HL := Lib.hid hL
        rw [hL] at H5 HR
        clear h5 ht5 hL
        have hLn : L.length = nn := H5.out.own.len
        have HLN := Lib.hid hLn
        clear hLn
        go_wp2
        go_loopw [6, 7] (fun v i wi => ∃ (q : Nat) (A6 : Option Addr) (c6 : Nat), q ≤ nn ∧ i = .int .i64 q ∧ v = .slice A6 q c6 ∧ OwnL encNode 55 10 wi w5.heap.size A6 q c6 (L.take q) ∧ (∀ m ∈ L.take q, m.id < ac.node.id) ∧ Below w5.heap.size w5 wi) (fun _ i _ => nn - (intOf i).toNat)
        case atStart => exact ⟨0, none, 0, Nat.zero_le _, rfl, rfl, OwnL.nil _ _, fun m hm => (by simp at hm), Below.refl _ _⟩
        case round =>
          obtain ⟨q, A6, c6, hq, rfl, rfl, hO, hids, hB⟩ := hrel
          have H6 := Lib.hid (And.intro hO (And.intro hids hB))
          clear hO hids hB
          go_upto_region 14 with fail
          by_cases hqn : q < nn
          · obtain ⟨rb, ro, m, hAe2, hm, hrl, hmc⟩ := Rd.at_ ((H5.out.own.rd (enc := encNode) (sz := 10) Node_len).below H6.out.2.2) hqn
            subst hAe2
            have m0 := hmc 0 _ rfl
            have m1 := hmc 1 _ rfl
            have m2 := hmc 2 _ rfl
            have m3 := hmc 3 _ rfl
            have m4 := hmc 4 _ rfl
            have m5 := hmc 5 _ rfl
            have m6 := hmc 6 _ rfl
            have m7 := hmc 7 _ rfl
            have m8 := hmc 8 _ rfl
            have m9 := hmc 9 _ rfl
            simp only [Nat.add_zero] at m0
            clear hmc
            have t2 : decide ((q : Int) < (nn : Int)) = true := decide_eq_true (by omega)
            by_cases hid : m.id < ac.node.id
            · have t3 : decide (m.id < ac.node.id) = true := decide_eq_true hid
              have htk : L.take (q + 1) = L.take q ++ [m] := take_succ_of _ _ _ hm
              have HT := Lib.hid (And.intro htk (And.intro hid hm))
              have HM := Lib.hid hm
              clear htk hid hm m0 m1 m2 m3 m4 m5 m6 m7 m8 m9
              have HMC : Hid (∀ W : World, Below wr.heap.size wr W → W.cell? ⟨rb, ro + q * 10, none⟩ = some (.int .i64 m.id)) := Lib.hid fun W hW => by
                obtain ⟨b_, o_, m_, hAe3, hm3, _, hmc⟩ := Rd.at_ ((H5.out.own.rd (enc := encNode) (sz := 10) Node_len).below (H6.out.2.2.trans (hW.mono H6.out.2.2.size))) hqn
                cases hAe3
                have e := HM.out.symm.trans hm3
                cases e
                exact hmc 0 _ rfl
              have HXC : Hid (∀ W : World, Below wr.heap.size wr W → W.cell? ⟨ab, ao + k * 14 + 1, none⟩ = some (.int .i64 ac.node.id)) := Lib.hid fun W hW => HCC.out W (H5.out.c1.below.trans ((H6.out.2.2.trans (hW.mono H6.out.2.2.size)).mono hsz5)) 1 _ rfl
              skip
              refine Cont.start (by kernel_rfl) ?_
              have HWD := Lib.hid (Below.refl wr.heap.size wr).drew
              generalize wr.drew = wd at HWD ⊢
              refine cont_free 0 18 47 [] [.o (eqV (.int .i64 ((q : Nat) : Int))), .o (eqV (.slice (some ⟨rb, ro, none⟩) nn cap2)), .o (eqV (.int .i64 ((nn : Nat) : Int))), .b true, .b true, .o (eqV (.slice (some ⟨rb, ro, none⟩) nn cap2)), .o (eqV (.int .i64 ((q : Nat) : Int))), .o (eqV (.pointer (some ⟨rb, ro + q * 10, none⟩))), .o (eqV (.pointer (some ⟨rb, ro + q * 10, none⟩))), .o (eqV (.int .i64 m.id)), .o (eqV (.slice (some ⟨ab, ao, none⟩) n cap)), .o (eqV (.int .i64 ((k : Nat) : Int))), .o (eqV (.pointer (some ⟨ab, ao + k * 14, none⟩))), .o (eqV (.pointer (some ⟨ab, ao + k * 14 + 1, none⟩))), .o (eqV (.pointer (some ⟨ab, ao + k * 14 + 1, none⟩))), .o (eqV (.int .i64 ac.node.id)), .b true, .b true] [false, false, false, false, true, false, false, false, false, false, false, false, false, false, false, false, false, true] (by kernel_rfl) (by kernel_rfl) (by kernel_rfl) (by kernel_rfl) (by kernel_rfl) (by kernel_rfl) (by kernel_rfl) rfl (by kernel_rfl) (by kernel_rfl) ⟨?_, ?_, ?_, ?_, ?_, ?_, ?_, ?_, ?_, ?_, ?_, ?_, ?_, ?_, ?_, ?_, trivial⟩ ?fin
              · intro a w hb hoth hdep
                refine step_on (want_none rfl) ?_
                have e7 : a.tmps[7]? = some (.int .i64 ((q : Nat) : Int)) := ev_seg hoth 7 (by kernel_rfl) rfl
                exact step_val ((BigFrame.run_move _ rfl w).trans (by rw [ev_of e7])) rfl
              · intro a w hb hoth hdep
                refine step_on (want_none rfl) ?_
                have e4 : a.tmps[4]? = some (.slice (some ⟨rb, ro, none⟩) nn cap2) := ev_seg hoth 4 (by kernel_rfl) rfl
                exact step_val ((BigFrame.run_move _ rfl w).trans (by rw [ev_of e4])) rfl
              · intro a w hb hoth hdep
                refine step_on (want_none rfl) ?_
                obtain ⟨v1, e48, hv1⟩ := ev_dep hdep 1 48 (by kernel_rfl) (by kernel_rfl)
                replace hv1 : v1 = .slice (some ⟨rb, ro, none⟩) nn cap2 := hv1
                subst hv1
                refine step_val (x := .int .i64 ((nn : Nat) : Int)) ?_ rfl
                simp [go_sem, e48]
              · intro a w hb hoth hdep
                refine step_on (want_none rfl) ?_
                obtain ⟨v0, e47, hv0⟩ := ev_dep hdep 0 47 (by kernel_rfl) (by kernel_rfl)
                replace hv0 : v0 = .int .i64 ((q : Nat) : Int) := hv0
                subst hv0
                obtain ⟨v2, e49, hv2⟩ := ev_dep hdep 2 49 (by kernel_rfl) (by kernel_rfl)
                replace hv2 : v2 = .int .i64 ((nn : Nat) : Int) := hv2
                subst hv2
                refine step_val (x := .bool true) ?_ rfl
                simp [go_sem, e47, e49, t2, hqn]
              · intro a w hb hoth hdep
                refine step_on ((want_dep hdep 4 51 true rfl (by kernel_rfl) (by kernel_rfl) (fun v h => h)).trans rfl) ?_
                have e4 : a.tmps[4]? = some (.slice (some ⟨rb, ro, none⟩) nn cap2) := ev_seg hoth 4 (by kernel_rfl) rfl
                exact step_val ((BigFrame.run_move _ rfl w).trans (by rw [ev_of e4])) rfl
              · intro a w hb hoth hdep
                refine step_on ((want_dep hdep 4 51 true rfl (by kernel_rfl) (by kernel_rfl) (fun v h => h)).trans rfl) ?_
                have e7 : a.tmps[7]? = some (.int .i64 ((q : Nat) : Int)) := ev_seg hoth 7 (by kernel_rfl) rfl
                exact step_val ((BigFrame.run_move _ rfl w).trans (by rw [ev_of e7])) rfl
              · intro a w hb hoth hdep
                refine step_on ((want_dep hdep 4 51 true rfl (by kernel_rfl) (by kernel_rfl) (fun v h => h)).trans rfl) ?_
                obtain ⟨v5, e52, hv5⟩ := ev_dep hdep 5 52 (by kernel_rfl) (by kernel_rfl)
                replace hv5 : v5 = .slice (some ⟨rb, ro, none⟩) nn cap2 := hv5
                subst hv5
                obtain ⟨v6, e53, hv6⟩ := ev_dep hdep 6 53 (by kernel_rfl) (by kernel_rfl)
                replace hv6 : v6 = .int .i64 ((q : Nat) : Int) := hv6
                subst hv6
                refine step_val (x := .pointer (some ⟨rb, ro + q * 10, none⟩)) ?_ rfl
                simp [go_sem, e52, e53, hqn, Try.underlying22]
              · intro a w hb hoth hdep
                refine step_on ((want_dep hdep 4 51 true rfl (by kernel_rfl) (by kernel_rfl) (fun v h => h)).trans rfl) ?_
                obtain ⟨v7, e54, hv7⟩ := ev_dep hdep 7 54 (by kernel_rfl) (by kernel_rfl)
                replace hv7 : v7 = .pointer (some ⟨rb, ro + q * 10, none⟩) := hv7
                subst hv7
                refine step_val (x := .pointer (some ⟨rb, ro + q * 10, none⟩)) ?_ rfl
                simp [go_sem, e54]
              · intro a w hb hoth hdep
                refine step_on ((want_dep hdep 4 51 true rfl (by kernel_rfl) (by kernel_rfl) (fun v h => h)).trans rfl) ?_
                obtain ⟨v8, e55, hv8⟩ := ev_dep hdep 8 55 (by kernel_rfl) (by kernel_rfl)
                replace hv8 : v8 = .pointer (some ⟨rb, ro + q * 10, none⟩) := hv8
                subst hv8
                have m0 := HMC.out w (HWD.out.trans (hb.mono HWD.out.size))
                refine step_val (x := .int .i64 m.id) ?_ rfl
                simp [go_sem, e55, m0]
              · intro a w hb hoth hdep
                refine step_on ((want_dep hdep 4 51 true rfl (by kernel_rfl) (by kernel_rfl) (fun v h => h)).trans rfl) ?_
                have e0 : a.tmps[0]? = some (.slice (some ⟨ab, ao, none⟩) n cap) := ev_seg hoth 0 (by kernel_rfl) rfl
                exact step_val ((BigFrame.run_move _ rfl w).trans (by rw [ev_of e0])) rfl
              · intro a w hb hoth hdep
                refine step_on ((want_dep hdep 4 51 true rfl (by kernel_rfl) (by kernel_rfl) (fun v h => h)).trans rfl) ?_
                have e5 : a.tmps[5]? = some (.int .i64 ((k : Nat) : Int)) := ev_seg hoth 5 (by kernel_rfl) rfl
                exact step_val ((BigFrame.run_move _ rfl w).trans (by rw [ev_of e5])) rfl
              · intro a w hb hoth hdep
                refine step_on ((want_dep hdep 4 51 true rfl (by kernel_rfl) (by kernel_rfl) (fun v h => h)).trans rfl) ?_
                obtain ⟨v10, e57, hv10⟩ := ev_dep hdep 10 57 (by kernel_rfl) (by kernel_rfl)
                replace hv10 : v10 = .slice (some ⟨ab, ao, none⟩) n cap := hv10
                subst hv10
                obtain ⟨v11, e58, hv11⟩ := ev_dep hdep 11 58 (by kernel_rfl) (by kernel_rfl)
                replace hv11 : v11 = .int .i64 ((k : Nat) : Int) := hv11
                subst hv11
                refine step_val (x := .pointer (some ⟨ab, ao + k * 14, none⟩)) ?_ rfl
                simp [go_sem, e57, e58, hlt, Try.underlying34]
              · intro a w hb hoth hdep
                refine step_on ((want_dep hdep 4 51 true rfl (by kernel_rfl) (by kernel_rfl) (fun v h => h)).trans rfl) ?_
                obtain ⟨v12, e59, hv12⟩ := ev_dep hdep 12 59 (by kernel_rfl) (by kernel_rfl)
                replace hv12 : v12 = .pointer (some ⟨ab, ao + k * 14, none⟩) := hv12
                subst hv12
                refine step_val (x := .pointer (some ⟨ab, ao + k * 14 + 1, none⟩)) ?_ rfl
                simp [go_sem, e59]
              · intro a w hb hoth hdep
                refine step_on ((want_dep hdep 4 51 true rfl (by kernel_rfl) (by kernel_rfl) (fun v h => h)).trans rfl) ?_
                obtain ⟨v13, e60, hv13⟩ := ev_dep hdep 13 60 (by kernel_rfl) (by kernel_rfl)
                replace hv13 : v13 = .pointer (some ⟨ab, ao + k * 14 + 1, none⟩) := hv13
                subst hv13
                refine step_val (x := .pointer (some ⟨ab, ao + k * 14 + 1, none⟩)) ?_ rfl
                simp [go_sem, e60]
              · intro a w hb hoth hdep
                refine step_on ((want_dep hdep 4 51 true rfl (by kernel_rfl) (by kernel_rfl) (fun v h => h)).trans rfl) ?_
                obtain ⟨v14, e61, hv14⟩ := ev_dep hdep 14 61 (by kernel_rfl) (by kernel_rfl)
                replace hv14 : v14 = .pointer (some ⟨ab, ao + k * 14 + 1, none⟩) := hv14
                subst hv14
                have x0 := HXC.out w (HWD.out.trans (hb.mono HWD.out.size))
                refine step_val (x := .int .i64 ac.node.id) ?_ rfl
                simp [go_sem, e61, x0]
              · intro a w hb hoth hdep
                refine step_on ((want_dep hdep 4 51 true rfl (by kernel_rfl) (by kernel_rfl) (fun v h => h)).trans rfl) ?_
                obtain ⟨v9, e56, hv9⟩ := ev_dep hdep 9 56 (by kernel_rfl) (by kernel_rfl)
                replace hv9 : v9 = .int .i64 m.id := hv9
                subst hv9
                obtain ⟨v15, e62, hv15⟩ := ev_dep hdep 15 62 (by kernel_rfl) (by kernel_rfl)
                replace hv15 : v15 = .int .i64 ac.node.id := hv15
                subst hv15
                refine step_val (x := .bool true) ?_ rfl
                simp [go_sem, e56, e62, t3]
              case fin =>
                intro wz hbz
                iterate 18 (rintro _ rfl)
                refine FinC.nil ?_
                refine cont_end (by kernel_rfl) ?_
                have hbw : Below wr.heap.size wr wz := HWD.out.trans (hbz.mono HWD.out.size)
                have H7 : Hid (OwnL encNode 55 10 wz w5.heap.size A6 q c6 (L.take q) ∧ Below w5.heap.size w5 wz) := Lib.hid ⟨H6.out.1.below hbw, H6.out.2.2.trans (hbw.mono H6.out.2.2.size)⟩
                clear hbz hbw HWD
                clear t3 HMC HXC
                obtain ⟨rb_, ro_, m_, hAe3, hm3, _, hmc⟩ := Rd.at_ ((H5.out.own.rd (enc := encNode) (sz := 10) Node_len).below H7.out.2) hqn
                cases hAe3
                obtain rfl : m_ = m := by have := HM.out.symm.trans hm3; injection this with this; exact this.symm
                have m0 := hmc 0 _ rfl
                have m1 := hmc 1 _ rfl
                have m2 := hmc 2 _ rfl
                have m3 := hmc 3 _ rfl
                have m4 := hmc 4 _ rfl
                have m5 := hmc 5 _ rfl
                have m6 := hmc 6 _ rfl
                have m7 := hmc 7 _ rfl
                have m8 := hmc 8 _ rfl
                have m9 := hmc 9 _ rfl
                simp only [Nat.add_zero] at m0
                clear hmc hm3
                go_wp2_with (at_builtin; refine wp_app (enc := encNode) Node_len Node_one rfl (.tmp 65) (.tmp 70) 22 rfl 55 zeroNode 80 Try.underlying22 Try.infoNode rfl (by decide) w5.heap.size A6 q c6 _ rfl (H7.out.1.alloc _) _ 1 _ [m_] (by rfl) (Rd.new1 _ m_ _ _ _ rfl) (q + 1) rfl _ rfl (by omega) (by omega) (by have := H7.out.2.size; simp; omega) ?_; intro A8 c8 w8 ho8 hg8 _; have hb8 := (H7.out.2.alloc H7.out.2.size _).grown hg8 (by have := H7.out.2.size; simp; omega) (own_block_ge H7.out.1))
                go_roundw
                case rel => exact ⟨q + 1, A8, c8, by omega, by go_num, rfl, by rw [HT.out.1]; exact ho8, fun z hz => by rw [HT.out.1] at hz; exact (List.mem_append.1 hz).elim (H6.out.2.1 z) (fun e => by rw [List.mem_singleton.1 e]; exact HT.out.2.1), hb8⟩
                case measure => simp [intOf]; omega
            · have t3 : decide (m.id < ac.node.id) = false := decide_eq_false hid
              have HM := Lib.hid hm
              have HQ : Hid (∀ z, L[q]? = some z → ¬ z.id < ac.node.id) := Lib.hid fun z hz => by have := hm.symm.trans hz; injection this with this; rw [← this]; exact hid
              have HID := Lib.hid H6.out.2.1
              clear hm hid m0 m1 m2 m3 m4 m5 m6 m7 m8 m9
              have HMC : Hid (∀ W : World, Below wr.heap.size wr W → W.cell? ⟨rb, ro + q * 10, none⟩ = some (.int .i64 m.id)) := Lib.hid fun W hW => by
                obtain ⟨b_, o_, m_, hAe3, hm3, _, hmc⟩ := Rd.at_ ((H5.out.own.rd (enc := encNode) (sz := 10) Node_len).below (H6.out.2.2.trans (hW.mono H6.out.2.2.size))) hqn
                cases hAe3
                have e := HM.out.symm.trans hm3
                cases e
                exact hmc 0 _ rfl
              have HXC : Hid (∀ W : World, Below wr.heap.size wr W → W.cell? ⟨ab, ao + k * 14 + 1, none⟩ = some (.int .i64 ac.node.id)) := Lib.hid fun W hW => HCC.out W (H5.out.c1.below.trans ((H6.out.2.2.trans (hW.mono H6.out.2.2.size)).mono hsz5)) 1 _ rfl
              skip
              refine Cont.start (by kernel_rfl) ?_
              have HWD := Lib.hid (Below.refl wr.heap.size wr).drew
              generalize wr.drew = wd at HWD ⊢
              refine cont_free 0 18 47 [] [.o (eqV (.int .i64 ((q : Nat) : Int))), .o (eqV (.slice (some ⟨rb, ro, none⟩) nn cap2)), .o (eqV (.int .i64 ((nn : Nat) : Int))), .b true, .b true, .o (eqV (.slice (some ⟨rb, ro, none⟩) nn cap2)), .o (eqV (.int .i64 ((q : Nat) : Int))), .o (eqV (.pointer (some ⟨rb, ro + q * 10, none⟩))), .o (eqV (.pointer (some ⟨rb, ro + q * 10, none⟩))), .o (eqV (.int .i64 m.id)), .o (eqV (.slice (some ⟨ab, ao, none⟩) n cap)), .o (eqV (.int .i64 ((k : Nat) : Int))), .o (eqV (.pointer (some ⟨ab, ao + k * 14, none⟩))), .o (eqV (.pointer (some ⟨ab, ao + k * 14 + 1, none⟩))), .o (eqV (.pointer (some ⟨ab, ao + k * 14 + 1, none⟩))), .o (eqV (.int .i64 ac.node.id)), .b false, .b false] [false, false, false, false, true, false, false, false, false, false, false, false, false, false, false, false, false, true] (by kernel_rfl) (by kernel_rfl) (by kernel_rfl) (by kernel_rfl) (by kernel_rfl) (by kernel_rfl) (by kernel_rfl) rfl (by kernel_rfl) (by kernel_rfl) ⟨?_, ?_, ?_, ?_, ?_, ?_, ?_, ?_, ?_, ?_, ?_, ?_, ?_, ?_, ?_, ?_, trivial⟩ ?fin
              · intro a w hb hoth hdep
                refine step_on (want_none rfl) ?_
                have e7 : a.tmps[7]? = some (.int .i64 ((q : Nat) : Int)) := ev_seg hoth 7 (by kernel_rfl) rfl
                exact step_val ((BigFrame.run_move _ rfl w).trans (by rw [ev_of e7])) rfl
              · intro a w hb hoth hdep
                refine step_on (want_none rfl) ?_
                have e4 : a.tmps[4]? = some (.slice (some ⟨rb, ro, none⟩) nn cap2) := ev_seg hoth 4 (by kernel_rfl) rfl
                exact step_val ((BigFrame.run_move _ rfl w).trans (by rw [ev_of e4])) rfl
              · intro a w hb hoth hdep
                refine step_on (want_none rfl) ?_
                obtain ⟨v1, e48, hv1⟩ := ev_dep hdep 1 48 (by kernel_rfl) (by kernel_rfl)
                replace hv1 : v1 = .slice (some ⟨rb, ro, none⟩) nn cap2 := hv1
                subst hv1
                refine step_val (x := .int .i64 ((nn : Nat) : Int)) ?_ rfl
                simp [go_sem, e48]
              · intro a w hb hoth hdep
                refine step_on (want_none rfl) ?_
                obtain ⟨v0, e47, hv0⟩ := ev_dep hdep 0 47 (by kernel_rfl) (by kernel_rfl)
                replace hv0 : v0 = .int .i64 ((q : Nat) : Int) := hv0
                subst hv0
                obtain ⟨v2, e49, hv2⟩ := ev_dep hdep 2 49 (by kernel_rfl) (by kernel_rfl)
                replace hv2 : v2 = .int .i64 ((nn : Nat) : Int) := hv2
                subst hv2
                refine step_val (x := .bool true) ?_ rfl
                simp [go_sem, e47, e49, t2, hqn]
              · intro a w hb hoth hdep
                refine step_on ((want_dep hdep 4 51 true rfl (by kernel_rfl) (by kernel_rfl) (fun v h => h)).trans rfl) ?_
                have e4 : a.tmps[4]? = some (.slice (some ⟨rb, ro, none⟩) nn cap2) := ev_seg hoth 4 (by kernel_rfl) rfl
                exact step_val ((BigFrame.run_move _ rfl w).trans (by rw [ev_of e4])) rfl
              · intro a w hb hoth hdep
                refine step_on ((want_dep hdep 4 51 true rfl (by kernel_rfl) (by kernel_rfl) (fun v h => h)).trans rfl) ?_
                have e7 : a.tmps[7]? = some (.int .i64 ((q : Nat) : Int)) := ev_seg hoth 7 (by kernel_rfl) rfl
                exact step_val ((BigFrame.run_move _ rfl w).trans (by rw [ev_of e7])) rfl
              · intro a w hb hoth hdep
                refine step_on ((want_dep hdep 4 51 true rfl (by kernel_rfl) (by kernel_rfl) (fun v h => h)).trans rfl) ?_
                obtain ⟨v5, e52, hv5⟩ := ev_dep hdep 5 52 (by kernel_rfl) (by kernel_rfl)
                replace hv5 : v5 = .slice (some ⟨rb, ro, none⟩) nn cap2 := hv5
                subst hv5
                obtain ⟨v6, e53, hv6⟩ := ev_dep hdep 6 53 (by kernel_rfl) (by kernel_rfl)
                replace hv6 : v6 = .int .i64 ((q : Nat) : Int) := hv6
                subst hv6
                refine step_val (x := .pointer (some ⟨rb, ro + q * 10, none⟩)) ?_ rfl
                simp [go_sem, e52, e53, hqn, Try.underlying22]
              · intro a w hb hoth hdep
                refine step_on ((want_dep hdep 4 51 true rfl (by kernel_rfl) (by kernel_rfl) (fun v h => h)).trans rfl) ?_
                obtain ⟨v7, e54, hv7⟩ := ev_dep hdep 7 54 (by kernel_rfl) (by kernel_rfl)
                replace hv7 : v7 = .pointer (some ⟨rb, ro + q * 10, none⟩) := hv7
                subst hv7
                refine step_val (x := .pointer (some ⟨rb, ro + q * 10, none⟩)) ?_ rfl
                simp [go_sem, e54]
              · intro a w hb hoth hdep
                refine step_on ((want_dep hdep 4 51 true rfl (by kernel_rfl) (by kernel_rfl) (fun v h => h)).trans rfl) ?_
                obtain ⟨v8, e55, hv8⟩ := ev_dep hdep 8 55 (by kernel_rfl) (by kernel_rfl)
                replace hv8 : v8 = .pointer (some ⟨rb, ro + q * 10, none⟩) := hv8
                subst hv8
                have m0 := HMC.out w (HWD.out.trans (hb.mono HWD.out.size))
                refine step_val (x := .int .i64 m.id) ?_ rfl
                simp [go_sem, e55, m0]
              · intro a w hb hoth hdep
                refine step_on ((want_dep hdep 4 51 true rfl (by kernel_rfl) (by kernel_rfl) (fun v h => h)).trans rfl) ?_
                have e0 : a.tmps[0]? = some (.slice (some ⟨ab, ao, none⟩) n cap) := ev_seg hoth 0 (by kernel_rfl) rfl
                exact step_val ((BigFrame.run_move _ rfl w).trans (by rw [ev_of e0])) rfl
              · intro a w hb hoth hdep
                refine step_on ((want_dep hdep 4 51 true rfl (by kernel_rfl) (by kernel_rfl) (fun v h => h)).trans rfl) ?_
                have e5 : a.tmps[5]? = some (.int .i64 ((k : Nat) : Int)) := ev_seg hoth 5 (by kernel_rfl) rfl
                exact step_val ((BigFrame.run_move _ rfl w).trans (by rw [ev_of e5])) rfl
              · intro a w hb hoth hdep
                refine step_on ((want_dep hdep 4 51 true rfl (by kernel_rfl) (by kernel_rfl) (fun v h => h)).trans rfl) ?_
                obtain ⟨v10, e57, hv10⟩ := ev_dep hdep 10 57 (by kernel_rfl) (by kernel_rfl)
                replace hv10 : v10 = .slice (some ⟨ab, ao, none⟩) n cap := hv10
                subst hv10
                obtain ⟨v11, e58, hv11⟩ := ev_dep hdep 11 58 (by kernel_rfl) (by kernel_rfl)
                replace hv11 : v11 = .int .i64 ((k : Nat) : Int) := hv11
                subst hv11
                refine step_val (x := .pointer (some ⟨ab, ao + k * 14, none⟩)) ?_ rfl
                simp [go_sem, e57, e58, hlt, Try.underlying34]
              · intro a w hb hoth hdep
                refine step_on ((want_dep hdep 4 51 true rfl (by kernel_rfl) (by kernel_rfl) (fun v h => h)).trans rfl) ?_
                obtain ⟨v12, e59, hv12⟩ := ev_dep hdep 12 59 (by kernel_rfl) (by kernel_rfl)
                replace hv12 : v12 = .pointer (some ⟨ab, ao + k * 14, none⟩) := hv12
                subst hv12
                refine step_val (x := .pointer (some ⟨ab, ao + k * 14 + 1, none⟩)) ?_ rfl
                simp [go_sem, e59]
              · intro a w hb hoth hdep
                refine step_on ((want_dep hdep 4 51 true rfl (by kernel_rfl) (by kernel_rfl) (fun v h => h)).trans rfl) ?_
                obtain ⟨v13, e60, hv13⟩ := ev_dep hdep 13 60 (by kernel_rfl) (by kernel_rfl)
                replace hv13 : v13 = .pointer (some ⟨ab, ao + k * 14 + 1, none⟩) := hv13
                subst hv13
                refine step_val (x := .pointer (some ⟨ab, ao + k * 14 + 1, none⟩)) ?_ rfl
                simp [go_sem, e60]
              · intro a w hb hoth hdep
                refine step_on ((want_dep hdep 4 51 true rfl (by kernel_rfl) (by kernel_rfl) (fun v h => h)).trans rfl) ?_
                obtain ⟨v14, e61, hv14⟩ := ev_dep hdep 14 61 (by kernel_rfl) (by kernel_rfl)
                replace hv14 : v14 = .pointer (some ⟨ab, ao + k * 14 + 1, none⟩) := hv14
                subst hv14
                have x0 := HXC.out w (HWD.out.trans (hb.mono HWD.out.size))
                refine step_val (x := .int .i64 ac.node.id) ?_ rfl
                simp [go_sem, e61, x0]
              · intro a w hb hoth hdep
                refine step_on ((want_dep hdep 4 51 true rfl (by kernel_rfl) (by kernel_rfl) (fun v h => h)).trans rfl) ?_
                obtain ⟨v9, e56, hv9⟩ := ev_dep hdep 9 56 (by kernel_rfl) (by kernel_rfl)
                replace hv9 : v9 = .int .i64 m.id := hv9
                subst hv9
                obtain ⟨v15, e62, hv15⟩ := ev_dep hdep 15 62 (by kernel_rfl) (by kernel_rfl)
                replace hv15 : v15 = .int .i64 ac.node.id := hv15
                subst hv15
                refine step_val (x := .bool false) ?_ rfl
                simp [go_sem, e56, e62, t3]
              case fin =>
                intro wz hbz
                iterate 18 (rintro _ rfl)
                refine FinC.nil ?_
                refine cont_end (by kernel_rfl) ?_
                have hbw : Below wr.heap.size wr wz := HWD.out.trans (hbz.mono HWD.out.size)
                have H7 : Hid (OwnL encNode 55 10 wz w5.heap.size A6 q c6 (L.take q) ∧ Below w5.heap.size w5 wz) := Lib.hid ⟨H6.out.1.below hbw, H6.out.2.2.trans (hbw.mono H6.out.2.2.size)⟩
                clear hbz hbw HWD
                clear t3 HMC HXC H6
                have hck := HCC.out wz (H5.out.c1.below.trans (H7.out.2.mono hsz5))
                have x0 : wz.cell? ⟨ab, ao + k * 14 + 1, none⟩ = some (.int .i64 ac.node.id) := hck 1 _ rfl
                have x1 : wz.cell? ⟨ab, ao + k * 14 + 1 + 1, none⟩ = some (.int .i64 ac.node.inc) := hck 2 _ rfl
                have x2 : wz.cell? ⟨ab, ao + k * 14 + 1 + 2, none⟩ = some (.int .i64 ac.node.load) := hck 3 _ rfl
                have x3 : wz.cell? ⟨ab, ao + k * 14 + 1 + 3, none⟩ = some (.int .i64 ac.node.cap.a) := hck 4 _ rfl
                have x4 : wz.cell? ⟨ab, ao + k * 14 + 1 + 4, none⟩ = some (.int .i64 ac.node.cap.b) := hck 5 _ rfl
                have x5 : wz.cell? ⟨ab, ao + k * 14 + 1 + 5, none⟩ = some (.int .i64 ac.node.cap.c) := hck 6 _ rfl
                have x6 : wz.cell? ⟨ab, ao + k * 14 + 1 + 6, none⟩ = some (.int .i64 ac.node.used.a) := hck 7 _ rfl
                have x7 : wz.cell? ⟨ab, ao + k * 14 + 1 + 7, none⟩ = some (.int .i64 ac.node.used.b) := hck 8 _ rfl
                have x8 : wz.cell? ⟨ab, ao + k * 14 + 1 + 8, none⟩ = some (.int .i64 ac.node.used.c) := hck 9 _ rfl
                have x9 : wz.cell? ⟨ab, ao + k * 14 + 1 + 9, none⟩ = some (.bool ac.node.up) := hck 10 _ rfl
                clear hck
                go_upto_region 18 with (at_builtin; refine wp_app (enc := encNode) Node_len Node_one rfl (.tmp 74) (.tmp 80) 22 rfl 55 zeroNode 80 Try.underlying22 Try.infoNode rfl (by decide) w5.heap.size A6 q c6 _ rfl (H7.out.1.alloc _) _ 1 _ [ac.node] (by rfl) (Rd.new1 _ ac.node _ _ _ rfl) (q + 1) rfl _ rfl (by omega) (by omega) (by have := H7.out.2.size; simp; omega) ?_; intro A8 c8 w8 ho8 hg8 _; have hb8 := (H7.out.2.alloc H7.out.2.size _).grown hg8 (by have := H7.out.2.size; simp; omega) (own_block_ge H7.out.1))
                have H8 := Lib.hid (And.intro ho8 hb8)
                clear ho8 hg8 hb8 H7 x0 x1 x2 x3 x4 x5 x6 x7 x8 x9
                have HMC : Hid (∀ W : World, Below w8.heap.size w8 W → W.cell? ⟨rb, ro + q * 10, none⟩ = some (.int .i64 m.id)) := Lib.hid fun W hW => by
                  obtain ⟨b_, o_, m_, hAe3, hm3, _, hmc⟩ := Rd.at_ ((H5.out.own.rd (enc := encNode) (sz := 10) Node_len).below (H8.out.2.trans (hW.mono H8.out.2.size))) hqn
                  cases hAe3
                  have e := HM.out.symm.trans hm3
                  cases e
                  exact hmc 0 _ rfl
                have HXC : Hid (∀ W : World, Below w8.heap.size w8 W → W.cell? ⟨ab, ao + k * 14 + 1, none⟩ = some (.int .i64 ac.node.id)) := Lib.hid fun W hW => HCC.out W (H5.out.c1.below.trans ((H8.out.2.trans (hW.mono H8.out.2.size)).mono hsz5)) 1 _ rfl
                by_cases he : m.id = ac.node.id
                · have t4 : (m.id == ac.node.id) = true := by simp [he]
                  have HK : Hid (q + 1 ≤ nn ∧ L.take q ++ [ac.node] ++ L.drop (q + 1) = insN L ac.node) := Lib.hid ⟨by omega, insN_at ac.node HLN.out (by omega) HID.out HQ.out (q + 1) (by rw [if_pos ⟨m, HM.out, he⟩])⟩
                  clear he
                  refine Cont.start (by kernel_rfl) ?_
                  have HWD := Lib.hid (Below.refl w8.heap.size w8).drew
                  generalize w8.drew = wd at HWD ⊢
                  refine cont_free 0 18 82 [] [.o (eqV (.int .i64 ((q : Nat) : Int))), .o (eqV (.slice (some ⟨rb, ro, none⟩) nn cap2)), .o (eqV (.int .i64 ((nn : Nat) : Int))), .b true, .b true, .o (eqV (.slice (some ⟨rb, ro, none⟩) nn cap2)), .o (eqV (.int .i64 ((q : Nat) : Int))), .o (eqV (.pointer (some ⟨rb, ro + q * 10, none⟩))), .o (eqV (.pointer (some ⟨rb, ro + q * 10, none⟩))), .o (eqV (.int .i64 m.id)), .o (eqV (.slice (some ⟨ab, ao, none⟩) n cap)), .o (eqV (.int .i64 ((k : Nat) : Int))), .o (eqV (.pointer (some ⟨ab, ao + k * 14, none⟩))), .o (eqV (.pointer (some ⟨ab, ao + k * 14 + 1, none⟩))), .o (eqV (.pointer (some ⟨ab, ao + k * 14 + 1, none⟩))), .o (eqV (.int .i64 ac.node.id)), .b true, .b true] [false, false, false, false, true, false, false, false, false, false, false, false, false, false, false, false, false, true] (by kernel_rfl) (by kernel_rfl) (by kernel_rfl) (by kernel_rfl) (by kernel_rfl) (by kernel_rfl) (by kernel_rfl) rfl (by kernel_rfl) (by kernel_rfl) ⟨?_, ?_, ?_, ?_, ?_, ?_, ?_, ?_, ?_, ?_, ?_, ?_, ?_, ?_, ?_, ?_, trivial⟩ ?fin
                  · intro a w hb hoth hdep
                    refine step_on (want_none rfl) ?_
                    have e7 : a.tmps[7]? = some (.int .i64 ((q : Nat) : Int)) := ev_seg hoth 7 (by kernel_rfl) rfl
                    exact step_val ((BigFrame.run_move _ rfl w).trans (by rw [ev_of e7])) rfl
                  · intro a w hb hoth hdep
                    refine step_on (want_none rfl) ?_
                    have e4 : a.tmps[4]? = some (.slice (some ⟨rb, ro, none⟩) nn cap2) := ev_seg hoth 4 (by kernel_rfl) rfl
                    exact step_val ((BigFrame.run_move _ rfl w).trans (by rw [ev_of e4])) rfl
                  · intro a w hb hoth hdep
                    refine step_on (want_none rfl) ?_
                    obtain ⟨v1, e83, hv1⟩ := ev_dep hdep 1 83 (by kernel_rfl) (by kernel_rfl)
                    replace hv1 : v1 = .slice (some ⟨rb, ro, none⟩) nn cap2 := hv1
                    subst hv1
                    refine step_val (x := .int .i64 ((nn : Nat) : Int)) ?_ rfl
                    simp [go_sem, e83]
                  · intro a w hb hoth hdep
                    refine step_on (want_none rfl) ?_
                    obtain ⟨v0, e82, hv0⟩ := ev_dep hdep 0 82 (by kernel_rfl) (by kernel_rfl)
                    replace hv0 : v0 = .int .i64 ((q : Nat) : Int) := hv0
                    subst hv0
                    obtain ⟨v2, e84, hv2⟩ := ev_dep hdep 2 84 (by kernel_rfl) (by kernel_rfl)
                    replace hv2 : v2 = .int .i64 ((nn : Nat) : Int) := hv2
                    subst hv2
                    refine step_val (x := .bool true) ?_ rfl
                    simp [go_sem, e82, e84, t2, hqn]
                  · intro a w hb hoth hdep
                    refine step_on ((want_dep hdep 4 86 true rfl (by kernel_rfl) (by kernel_rfl) (fun v h => h)).trans rfl) ?_
                    have e4 : a.tmps[4]? = some (.slice (some ⟨rb, ro, none⟩) nn cap2) := ev_seg hoth 4 (by kernel_rfl) rfl
                    exact step_val ((BigFrame.run_move _ rfl w).trans (by rw [ev_of e4])) rfl
                  · intro a w hb hoth hdep
                    refine step_on ((want_dep hdep 4 86 true rfl (by kernel_rfl) (by kernel_rfl) (fun v h => h)).trans rfl) ?_
                    have e7 : a.tmps[7]? = some (.int .i64 ((q : Nat) : Int)) := ev_seg hoth 7 (by kernel_rfl) rfl
                    exact step_val ((BigFrame.run_move _ rfl w).trans (by rw [ev_of e7])) rfl
                  · intro a w hb hoth hdep
                    refine step_on ((want_dep hdep 4 86 true rfl (by kernel_rfl) (by kernel_rfl) (fun v h => h)).trans rfl) ?_
                    obtain ⟨v5, e87, hv5⟩ := ev_dep hdep 5 87 (by kernel_rfl) (by kernel_rfl)
                    replace hv5 : v5 = .slice (some ⟨rb, ro, none⟩) nn cap2 := hv5
                    subst hv5
                    obtain ⟨v6, e88, hv6⟩ := ev_dep hdep 6 88 (by kernel_rfl) (by kernel_rfl)
                    replace hv6 : v6 = .int .i64 ((q : Nat) : Int) := hv6
                    subst hv6
                    refine step_val (x := .pointer (some ⟨rb, ro + q * 10, none⟩)) ?_ rfl
                    simp [go_sem, e87, e88, hqn, Try.underlying22]
                  · intro a w hb hoth hdep
                    refine step_on ((want_dep hdep 4 86 true rfl (by kernel_rfl) (by kernel_rfl) (fun v h => h)).trans rfl) ?_
                    obtain ⟨v7, e89, hv7⟩ := ev_dep hdep 7 89 (by kernel_rfl) (by kernel_rfl)
                    replace hv7 : v7 = .pointer (some ⟨rb, ro + q * 10, none⟩) := hv7
                    subst hv7
                    refine step_val (x := .pointer (some ⟨rb, ro + q * 10, none⟩)) ?_ rfl
                    simp [go_sem, e89]
                  · intro a w hb hoth hdep
                    refine step_on ((want_dep hdep 4 86 true rfl (by kernel_rfl) (by kernel_rfl) (fun v h => h)).trans rfl) ?_
                    obtain ⟨v8, e90, hv8⟩ := ev_dep hdep 8 90 (by kernel_rfl) (by kernel_rfl)
                    replace hv8 : v8 = .pointer (some ⟨rb, ro + q * 10, none⟩) := hv8
                    subst hv8
                    have m0 := HMC.out w (HWD.out.trans (hb.mono HWD.out.size))
                    refine step_val (x := .int .i64 m.id) ?_ rfl
                    simp [go_sem, e90, m0]
                  · intro a w hb hoth hdep
                    refine step_on ((want_dep hdep 4 86 true rfl (by kernel_rfl) (by kernel_rfl) (fun v h => h)).trans rfl) ?_
                    have e0 : a.tmps[0]? = some (.slice (some ⟨ab, ao, none⟩) n cap) := ev_seg hoth 0 (by kernel_rfl) rfl
                    exact step_val ((BigFrame.run_move _ rfl w).trans (by rw [ev_of e0])) rfl
                  · intro a w hb hoth hdep
                    refine step_on ((want_dep hdep 4 86 true rfl (by kernel_rfl) (by kernel_rfl) (fun v h => h)).trans rfl) ?_
                    have e5 : a.tmps[5]? = some (.int .i64 ((k : Nat) : Int)) := ev_seg hoth 5 (by kernel_rfl) rfl
                    exact step_val ((BigFrame.run_move _ rfl w).trans (by rw [ev_of e5])) rfl
                  · intro a w hb hoth hdep
                    refine step_on ((want_dep hdep 4 86 true rfl (by kernel_rfl) (by kernel_rfl) (fun v h => h)).trans rfl) ?_
                    obtain ⟨v10, e92, hv10⟩ := ev_dep hdep 10 92 (by kernel_rfl) (by kernel_rfl)
                    replace hv10 : v10 = .slice (some ⟨ab, ao, none⟩) n cap := hv10
                    subst hv10
                    obtain ⟨v11, e93, hv11⟩ := ev_dep hdep 11 93 (by kernel_rfl) (by kernel_rfl)
                    replace hv11 : v11 = .int .i64 ((k : Nat) : Int) := hv11
                    subst hv11
                    refine step_val (x := .pointer (some ⟨ab, ao + k * 14, none⟩)) ?_ rfl
                    simp [go_sem, e92, e93, hlt, Try.underlying34]
                  · intro a w hb hoth hdep
                    refine step_on ((want_dep hdep 4 86 true rfl (by kernel_rfl) (by kernel_rfl) (fun v h => h)).trans rfl) ?_
                    obtain ⟨v12, e94, hv12⟩ := ev_dep hdep 12 94 (by kernel_rfl) (by kernel_rfl)
                    replace hv12 : v12 = .pointer (some ⟨ab, ao + k * 14, none⟩) := hv12
                    subst hv12
                    refine step_val (x := .pointer (some ⟨ab, ao + k * 14 + 1, none⟩)) ?_ rfl
                    simp [go_sem, e94]
                  · intro a w hb hoth hdep
                    refine step_on ((want_dep hdep 4 86 true rfl (by kernel_rfl) (by kernel_rfl) (fun v h => h)).trans rfl) ?_
                    obtain ⟨v13, e95, hv13⟩ := ev_dep hdep 13 95 (by kernel_rfl) (by kernel_rfl)
                    replace hv13 : v13 = .pointer (some ⟨ab, ao + k * 14 + 1, none⟩) := hv13
                    subst hv13
                    refine step_val (x := .pointer (some ⟨ab, ao + k * 14 + 1, none⟩)) ?_ rfl
                    simp [go_sem, e95]
                  · intro a w hb hoth hdep
                    refine step_on ((want_dep hdep 4 86 true rfl (by kernel_rfl) (by kernel_rfl) (fun v h => h)).trans rfl) ?_
                    obtain ⟨v14, e96, hv14⟩ := ev_dep hdep 14 96 (by kernel_rfl) (by kernel_rfl)
                    replace hv14 : v14 = .pointer (some ⟨ab, ao + k * 14 + 1, none⟩) := hv14
                    subst hv14
                    have x0 := HXC.out w (HWD.out.trans (hb.mono HWD.out.size))
                    refine step_val (x := .int .i64 ac.node.id) ?_ rfl
                    simp [go_sem, e96, x0]
                  · intro a w hb hoth hdep
                    refine step_on ((want_dep hdep 4 86 true rfl (by kernel_rfl) (by kernel_rfl) (fun v h => h)).trans rfl) ?_
                    obtain ⟨v9, e91, hv9⟩ := ev_dep hdep 9 91 (by kernel_rfl) (by kernel_rfl)
                    replace hv9 : v9 = .int .i64 m.id := hv9
                    subst hv9
                    obtain ⟨v15, e97, hv15⟩ := ev_dep hdep 15 97 (by kernel_rfl) (by kernel_rfl)
                    replace hv15 : v15 = .int .i64 ac.node.id := hv15
                    subst hv15
                    refine step_val (x := .bool true) ?_ rfl
                    simp [go_sem, e91, e97, t4]
                  case fin =>
                    intro wz hbz
                    iterate 18 (rintro _ rfl)
                    refine FinC.nil ?_
                    refine cont_end (by kernel_rfl) ?_
                    have hbw : Below w8.heap.size w8 wz := HWD.out.trans (hbz.mono HWD.out.size)
                    have H9 : Hid (OwnL encNode 55 10 wz w5.heap.size A8 (q + 1) c8 (L.take q ++ [ac.node]) ∧ Below w5.heap.size w5 wz) := Lib.hid ⟨H8.out.1.below hbw, H8.out.2.trans (hbw.mono H8.out.2.size)⟩
                    clear hbz hbw HWD H8
                    clear t4 t2 HMC HXC
                    obtain ⟨i0, hi0, hz0⟩ := Option.map_eq_some_iff.1 Try.infoNode
                    simp only [Prod.mk.injEq] at hz0
                    obtain ⟨A9, hcut, hrd⟩ := cut_from (P := Try.prog) 22 55 .i64 Try.underlying22 hi0 hz0.2.1 (some ⟨rb, ro, none⟩) nn cap2 (q + 1) HK.out.1 H5.out.own.cap
                    replace hcut : ∀ W : World, (Instr.slice 22 (.slice (some ⟨rb, ro, none⟩) nn cap2) (some (.int .i64 ((q : Int) + 1))) none none).run Try.prog W = .ok (.slice A9 (nn - (q + 1)) (cap2 - (q + 1))) W := fun W => by have := hcut W; rwa [Int.natCast_add, Int.natCast_one] at this
                    have HRD := Lib.hid (hrd _ encNode wz L ((H5.out.own.rd (enc := encNode) (sz := 10) Node_len).below H9.out.2))
                    clear hrd hi0 hz0
                    have hkn := HK.out.1
                    go_wp2_with (at_builtin; refine wp_app (enc := encNode) Node_len Node_one rfl (.tmp 102) (.tmp 105) 22 rfl 55 zeroNode 80 Try.underlying22 Try.infoNode rfl (by decide) w5.heap.size A8 (q + 1) c8 _ rfl H9.out.1 A9 (nn - (q + 1)) (cap2 - (q + 1)) (L.drop (q + 1)) (by rfl) HRD.out nn (by omega) _ rfl (by omega) (by omega) H9.out.2.size ?_; intro A10 c10 w10 ho10 hg10 _; have hb10 := H9.out.2.grown hg10 H9.out.2.size (own_block_ge H9.out.1); have HE : Hid (CB w w10 c (X.put ac.node).1 S5 A10 nn c10 (X.put ac.node).1.nodes) := Lib.hid ⟨H5.out.c1.then hb10, (by rw [put_nodes (by rw [HL.out]; exact HR.out), HL.out, ← HK.out.2]; exact ho10.lower hsz5), fun ad ha hs => by have h1 := (ho10.at_base ad ha).1; have h2 := H5.out.c1.a.lt _ hs; omega⟩; clear ho10 hg10 hb10)
                    clear hcut HRD
                    go_roundw
                    case rel => exact ⟨k + 1, (X.put ac.node).1, S5, A10, _, c10, by omega, by go_num, rfl, HE.out, H4.out.2.put _⟩
                    case measure => simp [intOf]; omega
                · have t4 : (m.id == ac.node.id) = false := by simp [he]
                  have HK : Hid (q ≤ nn ∧ L.take q ++ [ac.node] ++ L.drop q = insN L ac.node) := Lib.hid ⟨by omega, insN_at ac.node HLN.out (by omega) HID.out HQ.out q (by rw [if_neg (by rintro ⟨z, hz, hz2⟩; have := HM.out.symm.trans hz; injection this with this; rw [← this] at hz2; exact he hz2)])⟩
                  clear he
                  refine Cont.start (by kernel_rfl) ?_
                  have HWD := Lib.hid (Below.refl w8.heap.size w8).drew
                  generalize w8.drew = wd at HWD ⊢
                  refine cont_free 0 18 82 [] [.o (eqV (.int .i64 ((q : Nat) : Int))), .o (eqV (.slice (some ⟨rb, ro, none⟩) nn cap2)), .o (eqV (.int .i64 ((nn : Nat) : Int))), .b true, .b true, .o (eqV (.slice (some ⟨rb, ro, none⟩) nn cap2)), .o (eqV (.int .i64 ((q : Nat) : Int))), .o (eqV (.pointer (some ⟨rb, ro + q * 10, none⟩))), .o (eqV (.pointer (some ⟨rb, ro + q * 10, none⟩))), .o (eqV (.int .i64 m.id)), .o (eqV (.slice (some ⟨ab, ao, none⟩) n cap)), .o (eqV (.int .i64 ((k : Nat) : Int))), .o (eqV (.pointer (some ⟨ab, ao + k * 14, none⟩))), .o (eqV (.pointer (some ⟨ab, ao + k * 14 + 1, none⟩))), .o (eqV (.pointer (some ⟨ab, ao + k * 14 + 1, none⟩))), .o (eqV (.int .i64 ac.node.id)), .b false, .b false] [false, false, false, false, true, false, false, false, false, false, false, false, false, false, false, false, false, true] (by kernel_rfl) (by kernel_rfl) (by kernel_rfl) (by kernel_rfl) (by kernel_rfl) (by kernel_rfl) (by kernel_rfl) rfl (by kernel_rfl) (by kernel_rfl) ⟨?_, ?_, ?_, ?_, ?_, ?_, ?_, ?_, ?_, ?_, ?_, ?_, ?_, ?_, ?_, ?_, trivial⟩ ?fin
                  · intro a w hb hoth hdep
                    refine step_on (want_none rfl) ?_
                    have e7 : a.tmps[7]? = some (.int .i64 ((q : Nat) : Int)) := ev_seg hoth 7 (by kernel_rfl) rfl
                    exact step_val ((BigFrame.run_move _ rfl w).trans (by rw [ev_of e7])) rfl
                  · intro a w hb hoth hdep
                    refine step_on (want_none rfl) ?_
                    have e4 : a.tmps[4]? = some (.slice (some ⟨rb, ro, none⟩) nn cap2) := ev_seg hoth 4 (by kernel_rfl) rfl
                    exact step_val ((BigFrame.run_move _ rfl w).trans (by rw [ev_of e4])) rfl
                  · intro a w hb hoth hdep
                    refine step_on (want_none rfl) ?_
                    obtain ⟨v1, e83, hv1⟩ := ev_dep hdep 1 83 (by kernel_rfl) (by kernel_rfl)
                    replace hv1 : v1 = .slice (some ⟨rb, ro, none⟩) nn cap2 := hv1
                    subst hv1
                    refine step_val (x := .int .i64 ((nn : Nat) : Int)) ?_ rfl
                    simp [go_sem, e83]
                  · intro a w hb hoth hdep
                    refine step_on (want_none rfl) ?_
                    obtain ⟨v0, e82, hv0⟩ := ev_dep hdep 0 82 (by kernel_rfl) (by kernel_rfl)
                    replace hv0 : v0 = .int .i64 ((q : Nat) : Int) := hv0
                    subst hv0
                    obtain ⟨v2, e84, hv2⟩ := ev_dep hdep 2 84 (by kernel_rfl) (by kernel_rfl)
                    replace hv2 : v2 = .int .i64 ((nn : Nat) : Int) := hv2
                    subst hv2
                    refine step_val (x := .bool true) ?_ rfl
                    simp [go_sem, e82, e84, t2, hqn]
                  · intro a w hb hoth hdep
                    refine step_on ((want_dep hdep 4 86 true rfl (by kernel_rfl) (by kernel_rfl) (fun v h => h)).trans rfl) ?_
                    have e4 : a.tmps[4]? = some (.slice (some ⟨rb, ro, none⟩) nn cap2) := ev_seg hoth 4 (by kernel_rfl) rfl
                    exact step_val ((BigFrame.run_move _ rfl w).trans (by rw [ev_of e4])) rfl
                  · intro a w hb hoth hdep
                    refine step_on ((want_dep hdep 4 86 true rfl (by kernel_rfl) (by kernel_rfl) (fun v h => h)).trans rfl) ?_
                    have e7 : a.tmps[7]? = some (.int .i64 ((q : Nat) : Int)) := ev_seg hoth 7 (by kernel_rfl) rfl
                    exact step_val ((BigFrame.run_move _ rfl w).trans (by rw [ev_of e7])) rfl
                  · intro a w hb hoth hdep
                    refine step_on ((want_dep hdep 4 86 true rfl (by kernel_rfl) (by kernel_rfl) (fun v h => h)).trans rfl) ?_
                    obtain ⟨v5, e87, hv5⟩ := ev_dep hdep 5 87 (by kernel_rfl) (by kernel_rfl)
                    replace hv5 : v5 = .slice (some ⟨rb, ro, none⟩) nn cap2 := hv5
                    subst hv5
                    obtain ⟨v6, e88, hv6⟩ := ev_dep hdep 6 88 (by kernel_rfl) (by kernel_rfl)
                    replace hv6 : v6 = .int .i64 ((q : Nat) : Int) := hv6
                    subst hv6
                    refine step_val (x := .pointer (some ⟨rb, ro + q * 10, none⟩)) ?_ rfl
                    simp [go_sem, e87, e88, hqn, Try.underlying22]
                  · intro a w hb hoth hdep
                    refine step_on ((want_dep hdep 4 86 true rfl (by kernel_rfl) (by kernel_rfl) (fun v h => h)).trans rfl) ?_
                    obtain ⟨v7, e89, hv7⟩ := ev_dep hdep 7 89 (by kernel_rfl) (by kernel_rfl)
                    replace hv7 : v7 = .pointer (some ⟨rb, ro + q * 10, none⟩) := hv7
                    subst hv7
                    refine step_val (x := .pointer (some ⟨rb, ro + q * 10, none⟩)) ?_ rfl
                    simp [go_sem, e89]
                  · intro a w hb hoth hdep
                    refine step_on ((want_dep hdep 4 86 true rfl (by kernel_rfl) (by kernel_rfl) (fun v h => h)).trans rfl) ?_
                    obtain ⟨v8, e90, hv8⟩ := ev_dep hdep 8 90 (by kernel_rfl) (by kernel_rfl)
                    replace hv8 : v8 = .pointer (some ⟨rb, ro + q * 10, none⟩) := hv8
                    subst hv8
                    have m0 := HMC.out w (HWD.out.trans (hb.mono HWD.out.size))
                    refine step_val (x := .int .i64 m.id) ?_ rfl
                    simp [go_sem, e90, m0]
                  · intro a w hb hoth hdep
                    refine step_on ((want_dep hdep 4 86 true rfl (by kernel_rfl) (by kernel_rfl) (fun v h => h)).trans rfl) ?_
                    have e0 : a.tmps[0]? = some (.slice (some ⟨ab, ao, none⟩) n cap) := ev_seg hoth 0 (by kernel_rfl) rfl
                    exact step_val ((BigFrame.run_move _ rfl w).trans (by rw [ev_of e0])) rfl
                  · intro a w hb hoth hdep
                    refine step_on ((want_dep hdep 4 86 true rfl (by kernel_rfl) (by kernel_rfl) (fun v h => h)).trans rfl) ?_
                    have e5 : a.tmps[5]? = some (.int .i64 ((k : Nat) : Int)) := ev_seg hoth 5 (by kernel_rfl) rfl
                    exact step_val ((BigFrame.run_move _ rfl w).trans (by rw [ev_of e5])) rfl
                  · intro a w hb hoth hdep
                    refine step_on ((want_dep hdep 4 86 true rfl (by kernel_rfl) (by kernel_rfl) (fun v h => h)).trans rfl) ?_
                    obtain ⟨v10, e92, hv10⟩ := ev_dep hdep 10 92 (by kernel_rfl) (by kernel_rfl)
                    replace hv10 : v10 = .slice (some ⟨ab, ao, none⟩) n cap := hv10
                    subst hv10
                    obtain ⟨v11, e93, hv11⟩ := ev_dep hdep 11 93 (by kernel_rfl) (by kernel_rfl)
                    replace hv11 : v11 = .int .i64 ((k : Nat) : Int) := hv11
                    subst hv11
                    refine step_val (x := .pointer (some ⟨ab, ao + k * 14, none⟩)) ?_ rfl
                    simp [go_sem, e92, e93, hlt, Try.underlying34]
                  · intro a w hb hoth hdep
                    refine step_on ((want_dep hdep 4 86 true rfl (by kernel_rfl) (by kernel_rfl) (fun v h => h)).trans rfl) ?_
                    obtain ⟨v12, e94, hv12⟩ := ev_dep hdep 12 94 (by kernel_rfl) (by kernel_rfl)
                    replace hv12 : v12 = .pointer (some ⟨ab, ao + k * 14, none⟩) := hv12
                    subst hv12
                    refine step_val (x := .pointer (some ⟨ab, ao + k * 14 + 1, none⟩)) ?_ rfl
                    simp [go_sem, e94]
                  · intro a w hb hoth hdep
                    refine step_on ((want_dep hdep 4 86 true rfl (by kernel_rfl) (by kernel_rfl) (fun v h => h)).trans rfl) ?_
                    obtain ⟨v13, e95, hv13⟩ := ev_dep hdep 13 95 (by kernel_rfl) (by kernel_rfl)
                    replace hv13 : v13 = .pointer (some ⟨ab, ao + k * 14 + 1, none⟩) := hv13
                    subst hv13
                    refine step_val (x := .pointer (some ⟨ab, ao + k * 14 + 1, none⟩)) ?_ rfl
                    simp [go_sem, e95]
                  · intro a w hb hoth hdep
                    refine step_on ((want_dep hdep 4 86 true rfl (by kernel_rfl) (by kernel_rfl) (fun v h => h)).trans rfl) ?_
                    obtain ⟨v14, e96, hv14⟩ := ev_dep hdep 14 96 (by kernel_rfl) (by kernel_rfl)
                    replace hv14 : v14 = .pointer (some ⟨ab, ao + k * 14 + 1, none⟩) := hv14
                    subst hv14
                    have x0 := HXC.out w (HWD.out.trans (hb.mono HWD.out.size))
                    refine step_val (x := .int .i64 ac.node.id) ?_ rfl
                    simp [go_sem, e96, x0]
                  · intro a w hb hoth hdep
                    refine step_on ((want_dep hdep 4 86 true rfl (by kernel_rfl) (by kernel_rfl) (fun v h => h)).trans rfl) ?_
                    obtain ⟨v9, e91, hv9⟩ := ev_dep hdep 9 91 (by kernel_rfl) (by kernel_rfl)
                    replace hv9 : v9 = .int .i64 m.id := hv9
                    subst hv9
                    obtain ⟨v15, e97, hv15⟩ := ev_dep hdep 15 97 (by kernel_rfl) (by kernel_rfl)
                    replace hv15 : v15 = .int .i64 ac.node.id := hv15
                    subst hv15
                    refine step_val (x := .bool false) ?_ rfl
                    simp [go_sem, e91, e97, t4]
                  case fin =>
                    intro wz hbz
                    iterate 18 (rintro _ rfl)
                    refine FinC.nil ?_
                    refine cont_end (by kernel_rfl) ?_
                    have hbw : Below w8.heap.size w8 wz := HWD.out.trans (hbz.mono HWD.out.size)
                    have H9 : Hid (OwnL encNode 55 10 wz w5.heap.size A8 (q + 1) c8 (L.take q ++ [ac.node]) ∧ Below w5.heap.size w5 wz) := Lib.hid ⟨H8.out.1.below hbw, H8.out.2.trans (hbw.mono H8.out.2.size)⟩
                    clear hbz hbw HWD H8
                    clear t4 t2 HMC HXC
                    obtain ⟨i0, hi0, hz0⟩ := Option.map_eq_some_iff.1 Try.infoNode
                    simp only [Prod.mk.injEq] at hz0
                    obtain ⟨A9, hcut, hrd⟩ := cut_from (P := Try.prog) 22 55 .i64 Try.underlying22 hi0 hz0.2.1 (some ⟨rb, ro, none⟩) nn cap2 q HK.out.1 H5.out.own.cap
                    have HRD := Lib.hid (hrd _ encNode wz L ((H5.out.own.rd (enc := encNode) (sz := 10) Node_len).below H9.out.2))
                    clear hrd hi0 hz0
                    have hkn := HK.out.1
                    go_wp2_with (at_builtin; refine wp_app (enc := encNode) Node_len Node_one rfl (.tmp 102) (.tmp 105) 22 rfl 55 zeroNode 80 Try.underlying22 Try.infoNode rfl (by decide) w5.heap.size A8 (q + 1) c8 _ rfl H9.out.1 A9 (nn - q) (cap2 - q) (L.drop q) (by rfl) HRD.out (q + 1 + (nn - q)) rfl _ rfl (by omega) (by omega) H9.out.2.size ?_; intro A10 c10 w10 ho10 hg10 _; have hb10 := H9.out.2.grown hg10 H9.out.2.size (own_block_ge H9.out.1); have HE : Hid (CB w w10 c (X.put ac.node).1 S5 A10 (q + 1 + (nn - q)) c10 (X.put ac.node).1.nodes) := Lib.hid ⟨H5.out.c1.then hb10, (by rw [put_nodes (by rw [HL.out]; exact HR.out), HL.out, ← HK.out.2]; exact ho10.lower hsz5), fun ad ha hs => by have h1 := (ho10.at_base ad ha).1; have h2 := H5.out.c1.a.lt _ hs; omega⟩; clear ho10 hg10 hb10)
                    clear hcut HRD
                    go_roundw
                    case rel => exact ⟨k + 1, (X.put ac.node).1, S5, A10, _, c10, by omega, by go_num, rfl, HE.out, H4.out.2.put _⟩
                    case measure => simp [intOf]; omega
          · have hqle : nn ≤ q := by omega
            have t2 : decide ((q : Int) < (nn : Int)) = false := decide_eq_false (by omega)
            have hLq : L[q]? = none := List.getElem?_eq_none (by have := HLN.out; omega)
            have HQ : Hid (∀ z, L[q]? = some z → ¬ z.id < ac.node.id) := Lib.hid fun z hz => by rw [hLq] at hz; cases hz
            have HN : Hid (L[q]? = none) := Lib.hid hLq
            have HID := Lib.hid H6.out.2.1
            clear hLq
            skip
            refine Cont.start (by kernel_rfl) ?_
            have HWD := Lib.hid (Below.refl wr.heap.size wr).drew
            generalize wr.drew = wd at HWD ⊢
            refine cont_free 0 18 47 [] [.o (eqV (.int .i64 ((q : Nat) : Int))), .o (eqV (.slice (A2) nn cap2)), .o (eqV (.int .i64 ((nn : Nat) : Int))), .b false, .b false, .u, .u, .u, .u, .u, .u, .u, .u, .u, .u, .u, .u, .b false] [false, false, false, false, true, true, true, true, true, true, true, true, true, true, true, true, true, true] (by kernel_rfl) (by kernel_rfl) (by kernel_rfl) (by kernel_rfl) (by kernel_rfl) (by kernel_rfl) (by kernel_rfl) rfl (by kernel_rfl) (by kernel_rfl) ⟨?_, ?_, ?_, ?_, trivial⟩ ?fin
            · intro a w hb hoth hdep
              refine step_on (want_none rfl) ?_
              have e7 : a.tmps[7]? = some (.int .i64 ((q : Nat) : Int)) := ev_seg hoth 7 (by kernel_rfl) rfl
              exact step_val ((BigFrame.run_move _ rfl w).trans (by rw [ev_of e7])) rfl
            · intro a w hb hoth hdep
              refine step_on (want_none rfl) ?_
              have e4 : a.tmps[4]? = some (.slice (A2) nn cap2) := ev_seg hoth 4 (by kernel_rfl) rfl
              exact step_val ((BigFrame.run_move _ rfl w).trans (by rw [ev_of e4])) rfl
            · intro a w hb hoth hdep
              refine step_on (want_none rfl) ?_
              obtain ⟨v1, e48, hv1⟩ := ev_dep hdep 1 48 (by kernel_rfl) (by kernel_rfl)
              replace hv1 : v1 = .slice (A2) nn cap2 := hv1
              subst hv1
              refine step_val (x := .int .i64 ((nn : Nat) : Int)) ?_ rfl
              simp [go_sem, e48]
            · intro a w hb hoth hdep
              refine step_on (want_none rfl) ?_
              obtain ⟨v0, e47, hv0⟩ := ev_dep hdep 0 47 (by kernel_rfl) (by kernel_rfl)
              replace hv0 : v0 = .int .i64 ((q : Nat) : Int) := hv0
              subst hv0
              obtain ⟨v2, e49, hv2⟩ := ev_dep hdep 2 49 (by kernel_rfl) (by kernel_rfl)
              replace hv2 : v2 = .int .i64 ((nn : Nat) : Int) := hv2
              subst hv2
              refine step_val (x := .bool false) ?_ rfl
              simp [go_sem, e47, e49, t2, hqle]
            case fin =>
              intro wz hbz
              iterate 18 (rintro _ rfl)
              refine FinC.nil ?_
              refine cont_end (by kernel_rfl) ?_
              have hbw : Below wr.heap.size wr wz := HWD.out.trans (hbz.mono HWD.out.size)
              have H7 : Hid (OwnL encNode 55 10 wz w5.heap.size A6 q c6 (L.take q) ∧ Below w5.heap.size w5 wz) := Lib.hid ⟨H6.out.1.below hbw, H6.out.2.2.trans (hbw.mono H6.out.2.2.size)⟩
              clear hbz hbw HWD
              clear H6
              have hck := HCC.out wz (H5.out.c1.below.trans (H7.out.2.mono hsz5))
              have x0 : wz.cell? ⟨ab, ao + k * 14 + 1, none⟩ = some (.int .i64 ac.node.id) := hck 1 _ rfl
              have x1 : wz.cell? ⟨ab, ao + k * 14 + 1 + 1, none⟩ = some (.int .i64 ac.node.inc) := hck 2 _ rfl
              have x2 : wz.cell? ⟨ab, ao + k * 14 + 1 + 2, none⟩ = some (.int .i64 ac.node.load) := hck 3 _ rfl
              have x3 : wz.cell? ⟨ab, ao + k * 14 + 1 + 3, none⟩ = some (.int .i64 ac.node.cap.a) := hck 4 _ rfl
              have x4 : wz.cell? ⟨ab, ao + k * 14 + 1 + 4, none⟩ = some (.int .i64 ac.node.cap.b) := hck 5 _ rfl
              have x5 : wz.cell? ⟨ab, ao + k * 14 + 1 + 5, none⟩ = some (.int .i64 ac.node.cap.c) := hck 6 _ rfl
              have x6 : wz.cell? ⟨ab, ao + k * 14 + 1 + 6, none⟩ = some (.int .i64 ac.node.used.a) := hck 7 _ rfl
              have x7 : wz.cell? ⟨ab, ao + k * 14 + 1 + 7, none⟩ = some (.int .i64 ac.node.used.b) := hck 8 _ rfl
              have x8 : wz.cell? ⟨ab, ao + k * 14 + 1 + 8, none⟩ = some (.int .i64 ac.node.used.c) := hck 9 _ rfl
              have x9 : wz.cell? ⟨ab, ao + k * 14 + 1 + 9, none⟩ = some (.bool ac.node.up) := hck 10 _ rfl
              clear hck
              go_upto_region 18 with (at_builtin; refine wp_app (enc := encNode) Node_len Node_one rfl (.tmp 74) (.tmp 80) 22 rfl 55 zeroNode 80 Try.underlying22 Try.infoNode rfl (by decide) w5.heap.size A6 q c6 _ rfl (H7.out.1.alloc _) _ 1 _ [ac.node] (by rfl) (Rd.new1 _ ac.node _ _ _ rfl) (q + 1) rfl _ rfl (by omega) (by omega) (by have := H7.out.2.size; simp; omega) ?_; intro A8 c8 w8 ho8 hg8 _; have hb8 := (H7.out.2.alloc H7.out.2.size _).grown hg8 (by have := H7.out.2.size; simp; omega) (own_block_ge H7.out.1))
              have H8 := Lib.hid (And.intro ho8 hb8)
              clear ho8 hg8 hb8 H7 x0 x1 x2 x3 x4 x5 x6 x7 x8 x9
              have HK : Hid (q ≤ nn ∧ L.take q ++ [ac.node] ++ L.drop q = insN L ac.node) := Lib.hid ⟨by omega, insN_at ac.node HLN.out (by omega) HID.out HQ.out q (by rw [if_neg (by rintro ⟨z, hz, _⟩; rw [HN.out] at hz; cases hz)])⟩
              refine Cont.start (by kernel_rfl) ?_
              have HWD := Lib.hid (Below.refl w8.heap.size w8).drew
              generalize w8.drew = wd at HWD ⊢
              refine cont_free 0 18 82 [] [.o (eqV (.int .i64 ((q : Nat) : Int))), .o (eqV (.slice (A2) nn cap2)), .o (eqV (.int .i64 ((nn : Nat) : Int))), .b false, .b false, .u, .u, .u, .u, .u, .u, .u, .u, .u, .u, .u, .u, .b false] [false, false, false, false, true, true, true, true, true, true, true, true, true, true, true, true, true, true] (by kernel_rfl) (by kernel_rfl) (by kernel_rfl) (by kernel_rfl) (by kernel_rfl) (by kernel_rfl) (by kernel_rfl) rfl (by kernel_rfl) (by kernel_rfl) ⟨?_, ?_, ?_, ?_, trivial⟩ ?fin
              · intro a w hb hoth hdep
                refine step_on (want_none rfl) ?_
                have e7 : a.tmps[7]? = some (.int .i64 ((q : Nat) : Int)) := ev_seg hoth 7 (by kernel_rfl) rfl
                exact step_val ((BigFrame.run_move _ rfl w).trans (by rw [ev_of e7])) rfl
              · intro a w hb hoth hdep
                refine step_on (want_none rfl) ?_
                have e4 : a.tmps[4]? = some (.slice (A2) nn cap2) := ev_seg hoth 4 (by kernel_rfl) rfl
                exact step_val ((BigFrame.run_move _ rfl w).trans (by rw [ev_of e4])) rfl
              · intro a w hb hoth hdep
                refine step_on (want_none rfl) ?_
                obtain ⟨v1, e83, hv1⟩ := ev_dep hdep 1 83 (by kernel_rfl) (by kernel_rfl)
                replace hv1 : v1 = .slice (A2) nn cap2 := hv1
                subst hv1
                refine step_val (x := .int .i64 ((nn : Nat) : Int)) ?_ rfl
                simp [go_sem, e83]
              · intro a w hb hoth hdep
                refine step_on (want_none rfl) ?_
                obtain ⟨v0, e82, hv0⟩ := ev_dep hdep 0 82 (by kernel_rfl) (by kernel_rfl)
                replace hv0 : v0 = .int .i64 ((q : Nat) : Int) := hv0
                subst hv0
                obtain ⟨v2, e84, hv2⟩ := ev_dep hdep 2 84 (by kernel_rfl) (by kernel_rfl)
                replace hv2 : v2 = .int .i64 ((nn : Nat) : Int) := hv2
                subst hv2
                refine step_val (x := .bool false) ?_ rfl
                simp [go_sem, e82, e84, t2, hqle]
              case fin =>
                intro wz hbz
                iterate 18 (rintro _ rfl)
                refine FinC.nil ?_
                refine cont_end (by kernel_rfl) ?_
                have hbw : Below w8.heap.size w8 wz := HWD.out.trans (hbz.mono HWD.out.size)
                have H9 : Hid (OwnL encNode 55 10 wz w5.heap.size A8 (q + 1) c8 (L.take q ++ [ac.node]) ∧ Below w5.heap.size w5 wz) := Lib.hid ⟨H8.out.1.below hbw, H8.out.2.trans (hbw.mono H8.out.2.size)⟩
                clear hbz hbw HWD H8
                clear t2 hqle hqn
                obtain ⟨i0, hi0, hz0⟩ := Option.map_eq_some_iff.1 Try.infoNode
                simp only [Prod.mk.injEq] at hz0
                obtain ⟨A9, hcut, hrd⟩ := cut_from (P := Try.prog) 22 55 .i64 Try.underlying22 hi0 hz0.2.1 (A2) nn cap2 q HK.out.1 H5.out.own.cap
                have HRD := Lib.hid (hrd _ encNode wz L ((H5.out.own.rd (enc := encNode) (sz := 10) Node_len).below H9.out.2))
                clear hrd hi0 hz0
                have hkn := HK.out.1
                go_wp2_with (at_builtin; refine wp_app (enc := encNode) Node_len Node_one rfl (.tmp 102) (.tmp 105) 22 rfl 55 zeroNode 80 Try.underlying22 Try.infoNode rfl (by decide) w5.heap.size A8 (q + 1) c8 _ rfl H9.out.1 A9 (nn - q) (cap2 - q) (L.drop q) (by rfl) HRD.out (q + 1 + (nn - q)) rfl _ rfl (by omega) (by omega) H9.out.2.size ?_; intro A10 c10 w10 ho10 hg10 _; have hb10 := H9.out.2.grown hg10 H9.out.2.size (own_block_ge H9.out.1); have HE : Hid (CB w w10 c (X.put ac.node).1 S5 A10 (q + 1 + (nn - q)) c10 (X.put ac.node).1.nodes) := Lib.hid ⟨H5.out.c1.then hb10, (by rw [put_nodes (by rw [HL.out]; exact HR.out), HL.out, ← HK.out.2]; exact ho10.lower hsz5), fun ad ha hs => by have h1 := (ho10.at_base ad ha).1; have h2 := H5.out.c1.a.lt _ hs; omega⟩; clear ho10 hg10 hb10)
                clear hcut HRD
                go_roundw
                case rel => exact ⟨k + 1, (X.put ac.node).1, S5, A10, _, c10, by omega, by go_num, rfl, HE.out, H4.out.2.put _⟩
                case measure => simp [intOf]; omega
      · by_cases hk2 : ac.kind = 2
        · have t1 : (ac.kind == 1) = false := by simp [hk1]
          have t2 : (ac.kind == 2) = true := by simp [hk2]
          clear hk1 hk2 hck
          obtain ⟨m, hm⟩ : ∃ m, (bestN ac.need X.nodes).getD zeroN = m := ⟨_, rfl⟩
          obtain ⟨q, hq⟩ : ∃ q, (bestN ac.need X.nodes).isSome = q := ⟨_, rfl⟩
          have HMQ := Lib.hid (And.intro hm hq)
          have hck := HCC.out wr H4.out.1.c1.below
          have r0 : wr.cell? ⟨ab, ao + k * 14 + 11, none⟩ = some (.int .i64 ac.need.a) := hck 11 _ rfl
          have r1 : wr.cell? ⟨ab, ao + k * 14 + 11 + 1, none⟩ = some (.int .i64 ac.need.b) := hck 12 _ rfl
          have r2 : wr.cell? ⟨ab, ao + k * 14 + 11 + 2, none⟩ = some (.int .i64 ac.need.c) := hck 13 _ rfl
          clear hck
          have hcx := best_t A2 nn cap2 X.nodes ac.need wr (H4.out.1.own.rd (enc := encNode) (sz := 10) Node_len) (by omega)
          rw [hm, hq] at hcx
          clear hm hq
          go_wp2_with fail
          (with_reducible refine hcx.mono ?_)
          clear hcx xk r0 r1 r2
          rintro e w5 ⟨rfl, hb5⟩
          have H5 : Hid (CB w w5 c X S A2 nn cap2 X.nodes ∧ True) := Lib.hid ⟨H4.out.1.then hb5, trivial⟩
          clear hb5
          go_upto_region 23 with fail
          have hb := Blk.new w5 55 (boxNode m)
          have hB : Below w5.heap.size w5 (w5.alloc (.cells (boxNode m) 55)) := (Below.refl _ _).alloc (Nat.le_refl _) _
          obtain ⟨p8, hp8⟩ : ∃ q, w5.heap.size = q := ⟨_, rfl⟩
          have H6 : Hid (CB w (w5.alloc (.cells (boxNode m) 55)) c X S A2 nn cap2 X.nodes ∧ Blk (w5.alloc (.cells (boxNode m) 55)) p8 55 (boxNode m) ∧ ¬ S p8) := Lib.hid ⟨H5.out.1.then hB, by rw [← hp8]; exact hb, fun h9 => (by have := H5.out.1.c1.a.lt _ h9; omega)⟩
          clear hb hB
          generalize (w5.alloc (.cells (boxNode m) 55)) = w6 at H6 ⊢
          try simp only [hp8]
          clear hp8
          have hck := HCC.out w6 H6.out.1.c1.below
          have r0 : w6.cell? ⟨ab, ao + k * 14 + 11, none⟩ = some (.int .i64 ac.need.a) := hck 11 _ rfl
          have r1 : w6.cell? ⟨ab, ao + k * 14 + 11 + 1, none⟩ = some (.int .i64 ac.need.b) := hck 12 _ rfl
          have r2 : w6.cell? ⟨ab, ao + k * 14 + 11 + 2, none⟩ = some (.int .i64 ac.need.c) := hck 13 _ rfl
          clear hck
          have hcx := caBest_o H6.out.1.c1.a ac.need HW.out.2.2 (H4.out.2.bd (by omega))
          rw [HMQ.out.1, HMQ.out.2] at hcx
          go_wp2_with fail
          (with_reducible refine hcx.mono ?_)
          clear hcx r0 r1 r2
          rintro e w7 ⟨rfl, S7, h9, ht9⟩
          have H7 : Hid (CB w w7 c (X.best ac.need) S7 A2 nn cap2 X.nodes ∧ (Blk w7 p8 55 (boxNode m) ∧ ¬ S7 p8) ∧ True) := Lib.hid ⟨H6.out.1.step h9 ht9, H6.out.1.c1.apart ht9 H6.out.2.1 H6.out.2.2, trivial⟩
          clear h9 ht9
          go_upto_region 24 with fail
          have hb := Blk.new w7 55 (boxNode m)
          have hB : Below w7.heap.size w7 (w7.alloc (.cells (boxNode m) 55)) := (Below.refl _ _).alloc (Nat.le_refl _) _
          obtain ⟨p10, hp10⟩ : ∃ q, w7.heap.size = q := ⟨_, rfl⟩
          have H8 : Hid (CB w (w7.alloc (.cells (boxNode m) 55)) c (X.best ac.need) S7 A2 nn cap2 X.nodes ∧ (Blk (w7.alloc (.cells (boxNode m) 55)) p8 55 (boxNode m) ∧ ¬ S7 p8) ∧ Blk (w7.alloc (.cells (boxNode m) 55)) p10 55 (boxNode m) ∧ ¬ S7 p10) := Lib.hid ⟨H7.out.1.then hB, ⟨H7.out.2.1.1.below hB H7.out.2.1.1.lt, H7.out.2.1.2⟩, by rw [← hp10]; exact hb, fun h9 => (by have := H7.out.1.c1.a.lt _ h9; omega)⟩
          clear hb hB
          generalize (w7.alloc (.cells (boxNode m) 55)) = w8 at H8 ⊢
          try simp only [hp10]
          clear hp10
          obtain ⟨lk, hlk⟩ : ∃ lk, (X.best ac.need).looked = lk := ⟨_, rfl⟩
          have HLK := Lib.hid hlk
          clear hlk
          have hcx := caLooked_o H8.out.1.c1.a
          rw [HLK.out] at hcx
          go_wp2_with fail
          (with_reducible refine hcx.mono ?_)
          clear hcx
          rintro e wq ⟨rfl, hw⟩
          replace hw := hw.symm
          subst hw
          have hck := HCC.out w8 H8.out.1.c1.below
          have r0 : w8.cell? ⟨ab, ao + k * 14 + 11, none⟩ = some (.int .i64 ac.need.a) := hck 11 _ rfl
          have r1 : w8.cell? ⟨ab, ao + k * 14 + 11 + 1, none⟩ = some (.int .i64 ac.need.b) := hck 12 _ rfl
          have r2 : w8.cell? ⟨ab, ao + k * 14 + 11 + 2, none⟩ = some (.int .i64 ac.need.c) := hck 13 _ rfl
          clear hck
          have hcx := caBest_o H8.out.1.c1.a ac.need HW.out.2.2 ((H4.out.2.best (by omega) ac.need).bd (by omega))
          rw [best_best, best_n, HMQ.out.1, HMQ.out.2] at hcx
          go_wp2_with fail
          (with_reducible refine hcx.mono ?_)
          clear hcx r0 r1 r2
          rintro e w9 ⟨rfl, S9, h9, ht9⟩
          have H9 : Hid (CB w w9 c (X.best ac.need) S9 A2 nn cap2 X.nodes ∧ (Blk w9 p8 55 (boxNode m) ∧ ¬ S9 p8) ∧ (Blk w9 p10 55 (boxNode m) ∧ ¬ S9 p10) ∧ True) := Lib.hid ⟨H8.out.1.step h9 ht9, H8.out.1.c1.apart ht9 H8.out.2.1.1 H8.out.2.1.2, H8.out.1.c1.apart ht9 H8.out.2.2.1 H8.out.2.2.2, trivial⟩
          clear h9 ht9
          go_upto_region 26 with fail
          have hb := Blk.new w9 55 (boxNode m)
          have hB : Below w9.heap.size w9 (w9.alloc (.cells (boxNode m) 55)) := (Below.refl _ _).alloc (Nat.le_refl _) _
          obtain ⟨p13, hp13⟩ : ∃ q, w9.heap.size = q := ⟨_, rfl⟩
          have H10 : Hid (CB w (w9.alloc (.cells (boxNode m) 55)) c (X.best ac.need) S9 A2 nn cap2 X.nodes ∧ (Blk (w9.alloc (.cells (boxNode m) 55)) p8 55 (boxNode m) ∧ ¬ S9 p8) ∧ (Blk (w9.alloc (.cells (boxNode m) 55)) p10 55 (boxNode m) ∧ ¬ S9 p10) ∧ Blk (w9.alloc (.cells (boxNode m) 55)) p13 55 (boxNode m) ∧ ¬ S9 p13) := Lib.hid ⟨H9.out.1.then hB, ⟨H9.out.2.1.1.below hB H9.out.2.1.1.lt, H9.out.2.1.2⟩, ⟨H9.out.2.2.1.1.below hB H9.out.2.2.1.1.lt, H9.out.2.2.1.2⟩, by rw [← hp13]; exact hb, fun h9 => (by have := H9.out.1.c1.a.lt _ h9; omega)⟩
          clear hb hB
          generalize (w9.alloc (.cells (boxNode m) 55)) = w10 at H10 ⊢
          try simp only [hp13]
          clear hp13
          have y0 := (H10.out.2.1.1).cell 0
          have y1 := (H10.out.2.1.1).cell 1
          have y2 := (H10.out.2.1.1).cell 2
          have y3 := (H10.out.2.1.1).cell 3
          have y4 := (H10.out.2.1.1).cell 4
          have y5 := (H10.out.2.1.1).cell 5
          have y6 := (H10.out.2.1.1).cell 6
          have y7 := (H10.out.2.1.1).cell 7
          have y8 := (H10.out.2.1.1).cell 8
          have y9 := (H10.out.2.1.1).cell 9
          have yl := (H10.out.2.1.1).lt
          simp only [boxNode, List.getElem?_toArray, List.getElem?_cons_zero, List.getElem?_cons_succ] at y0 y1 y2 y3 y4 y5 y6 y7 y8 y9
          have v0 := (H10.out.2.2.1.1).cell 0
          have v1 := (H10.out.2.2.1.1).cell 1
          have v2 := (H10.out.2.2.1.1).cell 2
          have v3 := (H10.out.2.2.1.1).cell 3
          have v4 := (H10.out.2.2.1.1).cell 4
          have v5 := (H10.out.2.2.1.1).cell 5
          have v6 := (H10.out.2.2.1.1).cell 6
          have v7 := (H10.out.2.2.1.1).cell 7
          have v8 := (H10.out.2.2.1.1).cell 8
          have v9 := (H10.out.2.2.1.1).cell 9
          have vl := (H10.out.2.2.1.1).lt
          simp only [boxNode, List.getElem?_toArray, List.getElem?_cons_zero, List.getElem?_cons_succ] at v0 v1 v2 v3 v4 v5 v6 v7 v8 v9
          have z0 := (H10.out.2.2.2.1).cell 0
          have z1 := (H10.out.2.2.2.1).cell 1
          have z2 := (H10.out.2.2.2.1).cell 2
          have z3 := (H10.out.2.2.2.1).cell 3
          have z4 := (H10.out.2.2.2.1).cell 4
          have z5 := (H10.out.2.2.2.1).cell 5
          have z6 := (H10.out.2.2.2.1).cell 6
          have z7 := (H10.out.2.2.2.1).cell 7
          have z8 := (H10.out.2.2.2.1).cell 8
          have z9 := (H10.out.2.2.2.1).cell 9
          have zl := (H10.out.2.2.2.1).lt
          simp only [boxNode, List.getElem?_toArray, List.getElem?_cons_zero, List.getElem?_cons_succ] at z0 z1 z2 z3 z4 z5 z6 z7 z8 z9
          have heq := fun (W : World) => neqNode m m W
          simp only [decide_true, Bool.not_true] at heq
          have hgd := fun (op : BinOp) (p q : Operand) (W : World) => guardNode op p q m m W
          have tqq : (q != q) = false := bne_self_eq_false q
          have tll : (lk != lk) = false := bne_self_eq_false lk
          have hcx := caLooked_o H10.out.1.c1.a
          rw [HLK.out] at hcx
          go_wp2_with fail
          (with_reducible refine hcx.mono ?_)
          clear hcx heq hgd y0 y1 y2 y3 y4 y5 y6 y7 y8 y9 v0 v1 v2 v3 v4 v5 v6 v7 v8 v9 z0 z1 z2 z3 z4 z5 z6 z7 z8 z9 yl vl zl
          rintro e wq ⟨rfl, hw⟩
          replace hw := hw.symm
          subst hw
          have HE : Hid (CB w w10 c (X.best ac.need) S9 A2 nn cap2 (X.best ac.need).nodes) := Lib.hid (by rw [best_n]; exact H10.out.1)
          go_wp2
          go_roundw
          case rel => exact ⟨k + 1, _, _, _, _, _, by omega, by go_num, rfl, HE.out, H4.out.2.best (by omega) _⟩
          case measure => simp [intOf]; omega
        · have t1 : (ac.kind == 1) = false := by simp [hk1]
          have t2 : (ac.kind == 2) = false := by simp [hk2]
          clear hk1 hk2 hck
          have hck := HCC.out wr H4.out.1.c1.below
          have r0 : wr.cell? ⟨ab, ao + k * 14 + 11, none⟩ = some (.int .i64 ac.need.a) := hck 11 _ rfl
          have r1 : wr.cell? ⟨ab, ao + k * 14 + 11 + 1, none⟩ = some (.int .i64 ac.need.b) := hck 12 _ rfl
          have r2 : wr.cell? ⟨ab, ao + k * 14 + 11 + 2, none⟩ = some (.int .i64 ac.need.c) := hck 13 _ rfl
          clear hck
          have hcx := caForget_o H4.out.1.c1.a ac.need HW.out.2.2
          go_wp2_with fail
          (with_reducible refine hcx.mono ?_)
          clear hcx xk r0 r1 r2
          rintro e w5 ⟨rfl, S5, h9, ht9⟩
          have HE : Hid (CB w w5 c (X.forget ac.need).1 S5 A2 nn cap2 (X.forget ac.need).1.nodes) := Lib.hid (by rw [forget_n]; exact H4.out.1.step h9 ht9)
          clear h9 ht9
          go_wp2
          go_roundw
          case rel => exact ⟨k + 1, _, _, _, _, _, by omega, by go_num, rfl, HE.out, H4.out.2.forget _⟩
          case measure => simp [intOf]; omega
    · have hcx := awake32 wr
      go_wp2_with fail
      (with_reducible refine hcx.mono ?_)
      clear hcx
      rintro e w9 ⟨rfl, hb9⟩
      have HE : Hid (Below w.heap.size w w9) := Lib.hid (H4.out.1.c1.below.trans (hb9.mono H4.out.1.c1.below.size))
      clear hb9
      go_wp2
      go_ret
      exact ⟨rfl, HE.out⟩
end Go.Proofs.Ytcafmodenbifhaa
