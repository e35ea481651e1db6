/-
  LAYER 45 (ledger): the law LedgerFirst.
-/
import Derived.Test.YtaajlegdcgfcgaaLedger7
set_option linter.unusedVariables false
set_option linter.unusedSimpArgs false
namespace Go.Proofs.Ytaajlegdcgfcgaa
open Go.RowKit Go.Maps

theorem checkL_zero (l : List LRow) (i : Nat) (s : LSt) (h : (checkL i s l).2 = 0) : checkL i s l = (0, 0) := by
  induction l generalizing i s with
  | nil => rfl
  | cons r l ih =>
    simp only [checkL] at h ⊢
    split
    · rename_i h0
      rw [if_pos h0] at h
      exact ih _ _ h
    · rename_i h0
      rw [if_neg h0] at h
      exact absurd h h0
theorem checkL_more (l more : List LRow) (i : Nat) (s : LSt) (h : (checkL i s l).2 = 0) : checkL i s (l ++ more) = (0, 0) ∨ ((checkL i s (l ++ more)).2 ≠ 0 ∧ i + l.length ≤ (checkL i s (l ++ more)).1) := by
  induction l generalizing i s with
  | nil =>
    rw [List.nil_append]
    clear h
    induction more generalizing i s with
    | nil => exact .inl rfl
    | cons r l ih =>
      simp only [checkL]
      split
      · rcases ih (i + 1) (asksS 4 0 s r) with h | ⟨h1, h2⟩
        · exact .inl h
        · exact .inr ⟨h1, by simp at h2 ⊢; omega⟩
      · rename_i h0
        exact .inr ⟨h0, by simp⟩
  | cons r l ih =>
    simp only [checkL, List.cons_append] at h ⊢
    split
    · rename_i h0
      rw [if_pos h0] at h
      rcases ih (i + 1) _ h with h | ⟨h1, h2⟩
      · exact .inl h
      · exact .inr ⟨h1, by rw [List.length_cons]; omega⟩
    · rename_i h0
      rw [if_neg h0] at h
      exact absurd h h0
theorem checkL_stop (l : List LRow) (i : Nat) (s : LSt) (h : (checkL i s l).2 ≠ 0) : ∃ k, k < l.length ∧ checkL i s l = (i + k, (checkL i s l).2) ∧ (∀ more, checkL i s (l ++ more) = checkL i s l) ∧ checkL i s (l.take k) = (0, 0) ∧ checkL i s (l.take (k + 1)) = checkL i s l := by
  induction l generalizing i s with
  | nil => exact absurd rfl h
  | cons r l ih =>
    by_cases h0 : asksE 4 0 s r = 0
    · have e : ∀ l', checkL i s (r :: l') = checkL (i + 1) (asksS 4 0 s r) l' := fun l' => by simp only [checkL, if_pos h0]
      rw [e] at h
      obtain ⟨k, h1, h2, h3, h4, h5⟩ := ih _ _ h
      refine ⟨k + 1, by rw [List.length_cons]; omega, ?_, fun more => ?_, ?_, ?_⟩
      · rw [e, h2]; congr 1; omega
      · rw [List.cons_append, e, e, h3]
      · rw [List.take_succ_cons, e, h4]
      · rw [List.take_succ_cons, e, e, h5]
    · have e : ∀ l', checkL i s (r :: l') = (i, asksE 4 0 s r) := fun l' => by simp only [checkL, if_neg h0]
      refine ⟨0, by simp, ?_, fun more => ?_, rfl, ?_⟩
      · rw [e]; rfl
      · rw [List.cons_append, e, e]
      · rw [List.take_succ_cons, e, e]

theorem check_eq (A : Option Addr) (n c : Nat) (l : List LRow) (w : World) (h : Rd encR 7 w A n l) (hw : ∀ r ∈ l, wfR r) (hn : n ≤ 100000) (k : Nat) (e : Int) (hk : checkL 0 LSt.zero l = (k, e)) :
    Calls Try.prog 46 #[.slice A n c] w fun e' w' => e' = .returned (.tuple #[.int .i64 (k : Int), .int .i64 e]) ∧ Below w.heap.size w w' := by
  have := check1 A n c l w h hw hn
  rw [hk] at this
  exact this

theorem ownL_empty (w : World) (base g : Nat) (hb : base ≤ w.heap.size) (hg : w.heap.size = g) : OwnL encR 146 7 (w.alloc (.cells #[] 146)) base (some ⟨g, 0, none⟩) 0 0 [] := by
  subst hg
  exact ⟨⟨by simp, .inr ⟨w.heap.size, 0, #[], rfl, hb, heap_alloc_new w _, Nat.le_refl _, by simp [maxLen], rfl, rfl⟩⟩, rfl⟩

set_option maxRecDepth 100000 in
set_option maxHeartbeats 3200000 in
theorem first45 (A B : Option Addr) (n c m d : Nat) (l more : List LRow) (w : World) (h : Rd encR 7 w A n l) (h' : Rd encR 7 w B m more) (hw : ∀ r ∈ l, wfR r) (hw' : ∀ r ∈ more, wfR r) (hnc : n ≤ c) :
    Calls Try.prog 9 #[.slice A n c, .slice B m d] w fun e w' => e = .returned (.bool true) ∧ Below w.heap.size w w' := by
  by_cases hb1 : 60 < n
  · go_enter Try.func9, Try.ntmps9
    go_wp2_with (go_at_call 45; with_reducible refine (awake45 _).mono ?_; rintro e w' ⟨rfl, hb⟩)
    go_ret
    exact ⟨rfl, hb⟩
  by_cases hb2 : 60 < m
  · have hge : n ≤ 60 := by omega
    clear hb1
    go_enter Try.func9, Try.ntmps9
    go_wp2_with (go_at_call 45; with_reducible refine (awake45 _).mono ?_; rintro e w' ⟨rfl, hb⟩)
    go_ret
    exact ⟨rfl, hb⟩
  have hn : n ≤ 60 := by omega
  have hm : m ≤ 60 := by omega
  clear hb1 hb2
  obtain ⟨k, e, hke⟩ : ∃ k e, checkL 0 LSt.zero l = (k, e) := ⟨_, _, rfl⟩
  obtain ⟨q, f, hqf⟩ : ∃ q f, checkL 0 LSt.zero (l ++ more) = (q, f) := ⟨_, _, rfl⟩
  have hwa : ∀ r ∈ l ++ more, wfR r := fun r hr => (List.mem_append.1 hr).elim (hw r) (hw' r)
  have HW := Lib.hid (And.intro hw (And.intro hwa (And.intro hke (And.intro hqf (And.intro h h')))))
  clear hw hw' hwa hke hqf h h'
  go_enter Try.func9, Try.ntmps9
  go_wp2_with fail
  with_reducible refine (check_eq A n c l w HW.out.2.2.2.2.1 HW.out.1 (by omega) k e HW.out.2.2.1).mono ?_
  rintro e' w1 ⟨rfl, hB1⟩
  go_wp2_with (first
    | (at_builtin; refine wp_app (enc := encR) (fun _ => rfl) row_one rfl (.tmp 28) (.tmp 29) 88 rfl 146 zeroR 56 Try.underlying88 Try.infoRow rfl (by decide) w1.heap.size _ 0 0 [] (by rfl) (ownL_empty w1 w1.heap.size w1.heap.size (Nat.le_refl _) rfl) A n c l (by rfl) ((HW.out.2.2.2.2.1.below hB1).alloc _) n (by omega) l (by rfl) (by omega) (by omega) (by simp) ?_; intro A2 c2 w2 ho2 hg2 _; have hb2 := ((Below.refl w1.heap.size w1).alloc (Nat.le_refl _) _).grown hg2 (by simp) (own_block_ge (ownL_empty w1 w1.heap.size w1.heap.size (Nat.le_refl _) rfl)))
    | (at_builtin; refine wp_app (enc := encR) (fun _ => rfl) row_one rfl (.tmp 30) (.tmp 31) 88 rfl 146 zeroR 56 Try.underlying88 Try.infoRow rfl (by decide) w1.heap.size A2 n c2 l (by rfl) ho2 B m d more (by rfl) ((HW.out.2.2.2.2.2.below (hB1.trans (hb2.mono hB1.size)))) (n + m) rfl _ rfl (by omega) (by omega) hb2.size ?_; intro A3 c3 w3 ho3 hg3 _; have hb3 := hb2.grown hg3 hb2.size (own_block_ge ho2)))
  with_reducible refine (check_eq A3 (n + m) c3 (l ++ more) w3 (ho3.rd encR_len) HW.out.2.1 (by omega) q f HW.out.2.2.2.1).mono ?_
  rintro e' w4 ⟨rfl, hB4⟩
  have hBa : Below w.heap.size w w4 := (hB1.trans (hb3.mono hB1.size)).trans (hB4.mono (by have := hb3.size; have := hB1.size; omega))
  have HB := Lib.hid hBa
  clear hB1 hb2 hb3 hB4 ho2 ho3 hg2 hg3 hBa
  by_cases he : e = 0
  · subst he
    have hz := checkL_zero l 0 LSt.zero (by rw [HW.out.2.2.1])
    have hk0 : k = 0 := by
      have := HW.out.2.2.1
      rw [hz] at this
      exact (Prod.mk.inj this).1.symm
    subst hk0
    have hmo := checkL_more l more 0 LSt.zero (by rw [HW.out.2.2.1])
    rw [HW.out.2.2.2.1] at hmo
    by_cases hf : f = 0
    · subst hf
      have hq0 : q = 0 := by
        rcases hmo with h | ⟨h, _⟩
        · exact (Prod.mk.inj h).1
        · exact absurd rfl h
      subst hq0
      clear hmo hz
      go_wp2_with (go_at_call 45; with_reducible refine (awake45 _).mono ?_; rintro e w' ⟨rfl, hb⟩)
      go_ret
      exact ⟨rfl, HB.out.trans (hb.mono HB.out.size)⟩
    · have hnq : n ≤ q := by
        rcases hmo with h | ⟨_, h⟩
        · exact absurd (Prod.mk.inj h).2 hf
        · have := HW.out.2.2.2.2.1.len
          simp at h
          omega
      have hf1 : (f == 0) = false := by simp [hf]
      have hf2 : (f != 0) = true := by simp [hf]
      clear hmo hz hf
      go_wp2_with (go_at_call 45; with_reducible refine (awake45 _).mono ?_; rintro e w' ⟨rfl, hb⟩)
      go_ret
      exact ⟨rfl, HB.out.trans (hb.mono HB.out.size)⟩
  · obtain ⟨k', hk', h2, h3, h4, h5⟩ := checkL_stop l 0 LSt.zero (by rw [HW.out.2.2.1]; exact he)
    have hke := HW.out.2.2.1
    rw [hke, Nat.zero_add] at h2
    obtain rfl : k = k' := (Prod.mk.inj h2).1
    have h3' := h3 more
    rw [HW.out.2.2.2.1, hke] at h3'
    obtain ⟨rfl, rfl⟩ := Prod.mk.inj h3'
    rw [hke] at h5
    have hln := HW.out.2.2.2.2.1.len
    rw [hln] at hk'
    have HK := Lib.hid (And.intro h4 h5)
    obtain ⟨i0, hi, hz0, hz1, hz2⟩ := info_parts Try.infoRow
    have hcut := cut_to (P := Try.prog) 88 146 .i64 Try.underlying88 hi A n c q (by omega) hnc
    have hcut2 : ∀ W : World, (Instr.slice 88 (.slice A n c) none (some (.int .i64 ((q : Int) + 1))) none).run Try.prog W = .ok (.slice A (q + 1) c) W := cut_to (P := Try.prog) 88 146 .i64 Try.underlying88 hi A n c (q + 1) (by omega) hnc
    have he1 : (f == 0) = false := by simp [he]
    have hee : (f != f) = false := bne_self_eq_false _
    have hqq : (((q : Nat) : Int) != ((q : Nat) : Int)) = false := bne_self_eq_false _
    clear h2 h3 h3' h4 h5 hke hln hz0 hz1 hz2 hi he
    go_wp2_with fail
    have hcx := check_eq A q c (l.take q) w4 (Rd.take (HW.out.2.2.2.2.1.below HB.out) (by omega)) (fun r hr => HW.out.1 r (List.mem_of_mem_take hr)) (by omega) 0 0 HK.out.1
    with_reducible refine hcx.mono ?_
    clear hcx
    rintro e' w5 ⟨rfl, hB5⟩
    have hBb := HB.out.trans (hB5.mono HB.out.size)
    go_wp2_with fail
    have hcx := check_eq A (q + 1) c (l.take (q + 1)) w5 (Rd.take (HW.out.2.2.2.2.1.below hBb) (by omega)) (fun r hr => HW.out.1 r (List.mem_of_mem_take hr)) (by omega) q f HK.out.2
    with_reducible refine hcx.mono ?_
    clear hcx
    rintro e' w6 ⟨rfl, hB6⟩
    have hBc := hBb.trans (hB6.mono hBb.size)
    clear hcut hcut2
    go_wp2_with (go_at_call 45; with_reducible refine (awake45 _).mono ?_; rintro e w' ⟨rfl, hb⟩)
    go_ret
    exact ⟨rfl, hBc.trans (hb.mono hBc.size)⟩

end Go.Proofs.Ytaajlegdcgfcgaa
