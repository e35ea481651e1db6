/-
  LAYER 41 (client): the object: a set, the open jobs, the replies.
  LAYER 41 (client): Open, Replies, Known.
  LAYER 41 (client): Known.
-/
import Derived.Test.YthhnocnkicoimaaDoorCl2
import Derived.Test.YthhnocnkicoimaaDoorObj
set_option linter.unusedVariables false
set_option linter.unusedSimpArgs false
namespace Go.Proofs.YthhnocnkicoimaaDoor
open Go.RowKit Go.Maps

structure ClV where
  mv : Value
  oa : Option Addr
  on : Nat
  oc : Nat
  ra : Option Addr
  rn : Nat
  rc : Nat
structure ClAt (w : World) (c : Nat) (v : ClV) (row opens : List Int) (reps : List LReply) : Prop where
  blk : Blk w c 32 #[v.mv, .slice v.oa v.on v.oc, .slice v.ra v.rn v.rc]
  set : MapSet w v.mv row
  own : OwnL encI 3 1 w 0 v.oa v.on v.oc opens
  rep : OwnL encReply 98 2 w 0 v.ra v.rn v.rc reps
/-- The object's blocks. -/
def clS (c : Nat) (v : ClV) (k : Nat) : Prop := k = c ∨ v.mv = .map (some k) ∨ (∃ ad, v.oa = some ad ∧ ad.block = k) ∨ ∃ ad, v.ra = some ad ∧ ad.block = k
theorem OwnL.blk_ {α : Type} {enc : α → List Value} {e sz base n c : Nat} {w : World} {A : Option Addr} {l : List α} (h : OwnL enc e sz w base A n c l) {ad : Addr} (ha : A = some ad) : ∃ cs, Blk w ad.block e cs := by
  rcases h.own.2 with ⟨hv, _⟩ | ⟨g, cap, cur, hv, _, hgb, _⟩
  · rw [ha] at hv; cases hv
  · rw [ha] at hv; cases hv; exact ⟨cur, hgb⟩
theorem Blk.ty {w : World} {g t t' : Nat} {cs cs' : Array Value} (h : Blk w g t cs) (h' : Blk w g t' cs') : t = t' := by
  have := h.symm.trans h'
  cases this
  rfl
section
variable {w w' : World} {c : Nat} {v : ClV} {row opens : List Int} {reps : List LReply}
theorem ClAt.below (h : ClAt w c v row opens reps) (hb : Below w.heap.size w w') : ClAt w' c v row opens reps :=
  ⟨h.blk.below hb h.blk.lt, h.set.below hb, h.own.below hb, h.rep.below hb⟩
theorem ClAt.oc_ne (h : ClAt w c v row opens reps) : ∀ ad, v.oa = some ad → ad.block ≠ c := fun ad ha e => by
  obtain ⟨cs, hcs⟩ := h.own.blk_ ha
  subst e
  exact absurd (hcs.ty h.blk) (by decide)
theorem ClAt.rc_ne (h : ClAt w c v row opens reps) : ∀ ad, v.ra = some ad → ad.block ≠ c := fun ad ha e => by
  obtain ⟨cs, hcs⟩ := h.rep.blk_ ha
  subst e
  exact absurd (hcs.ty h.blk) (by decide)
theorem ClAt.or_ne (h : ClAt w c v row opens reps) : ∀ ad ad', v.oa = some ad → v.ra = some ad' → ad.block ≠ ad'.block := fun ad ad' ha ha' e => by
  obtain ⟨cs, hcs⟩ := h.own.blk_ ha
  obtain ⟨cs', hcs'⟩ := h.rep.blk_ ha'
  rw [e] at hcs
  exact absurd (hcs.ty hcs') (by decide)
theorem ClAt.om_ne (h : ClAt w c v row opens reps) : ∀ ad, v.oa = some ad → v.mv ≠ .map (some ad.block) := fun ad ha => by
  obtain ⟨cs, hcs⟩ := h.own.blk_ ha
  exact h.set.ne_blk hcs
theorem ClAt.rm_ne (h : ClAt w c v row opens reps) : ∀ ad, v.ra = some ad → v.mv ≠ .map (some ad.block) := fun ad ha => by
  obtain ⟨cs, hcs⟩ := h.rep.blk_ ha
  exact h.set.ne_blk hcs
theorem ClAt.lt (h : ClAt w c v row opens reps) : ∀ k, clS c v k → k < w.heap.size := by
  rintro k (rfl | hm | ⟨ad, ha, rfl⟩ | ⟨ad, ha, rfl⟩)
  · exact h.blk.lt
  · exact h.set.lt k hm
  · obtain ⟨cs, hcs⟩ := h.own.blk_ ha; exact hcs.lt
  · obtain ⟨cs, hcs⟩ := h.rep.blk_ ha; exact hcs.lt
/-- What lies elsewhere and stays. -/
theorem ClAt.kept {F : Nat → Prop} (h : ClAt w c v row opens reps) (hk : Kept F w w') (hF : ∀ k, clS c v k → ¬ F k) : ClAt w' c v row opens reps :=
  ⟨h.blk.kept hk (hF c (.inl rfl)), h.set.kept hk (fun b hb => hF b (.inr (.inl hb))), h.own.kept hk (fun ad ha => hF _ (.inr (.inr (.inl ⟨ad, ha, rfl⟩)))), h.rep.kept hk (fun ad ha => hF _ (.inr (.inr (.inr ⟨ad, ha, rfl⟩))))⟩
/-- The set has turned. -/
theorem ClAt.marked {row' : List Int} (h : ClAt w c v row opens reps) (ht : SetTurn c 0 v.mv row' w w') : ∃ mv', ClAt w' c { v with mv := mv' } row' opens reps ∧ Turned (clS c v) (clS c { v with mv := mv' }) w w' := by
  obtain ⟨mv', hm, hb, hn⟩ := ht.ex
  refine ⟨mv', ⟨by simpa using hb _ _ h.blk, hm, h.own.kept ht.kept ?_, h.rep.kept ht.kept ?_⟩, ?_, ?_⟩
  · rintro ad ha (e | e)
    · exact h.oc_ne ad ha e
    · exact h.om_ne ad ha e
  · rintro ad ha (e | e)
    · exact h.rc_ne ad ha e
    · exact h.rm_ne ad ha e
  · exact ht.kept.mono (fun i _ e => e.elim .inl (fun e => .inr (.inl e)))
  · rintro k (rfl | e | e | e)
    · exact .inl (.inl rfl)
    · rcases hn with rfl | ⟨b, rfl, hge⟩
      · exact .inl (.inr (.inl e))
      · simp only at e
        cases e
        exact .inr hge
    · exact .inl (.inr (.inr (.inl e)))
    · exact .inl (.inr (.inr (.inr e)))
/-- The open jobs have turned, in memory of their own or in new memory; the field says so. -/
theorem ClAt.opened {A' : Option Addr} {n' c' : Nat} {l' : List Int} (h : ClAt w c v row opens reps) (ho : OwnL encI 3 1 w' 0 A' n' c' l') (hb : Blk w' c 32 #[v.mv, .slice A' n' c', .slice v.ra v.rn v.rc])
    (hk : Kept (fun k => k = c ∨ ∃ ad, v.oa = some ad ∧ ad.block = k) w w') (ha : ∀ ad, A' = some ad → v.oa = some ad ∨ w.heap.size ≤ ad.block) :
    ClAt w' c { v with oa := A', on := n', oc := c' } row l' reps ∧ Turned (clS c v) (clS c { v with oa := A', on := n', oc := c' }) w w' := by
  refine ⟨⟨hb, h.set.kept hk ?_, ho, h.rep.kept hk ?_⟩, hk.mono ?_, ?_⟩
  · rintro b hm (e | ⟨ad, ha', e⟩)
    · subst e; exact h.set.ne_blk h.blk hm
    · subst e; exact h.om_ne ad ha' hm
  · rintro ad hr (e | ⟨ad', ha', e⟩)
    · exact h.rc_ne ad hr e
    · exact h.or_ne ad' ad ha' hr e
  · exact fun i _ e => e.elim .inl (fun e => .inr (.inr (.inl e)))
  · rintro k (rfl | e | ⟨ad, e, rfl⟩ | e)
    · exact .inl (.inl rfl)
    · exact .inl (.inr (.inl e))
    · rcases ha ad e with h1 | h1
      · exact .inl (.inr (.inr (.inl ⟨ad, h1, rfl⟩)))
      · exact .inr h1
    · exact .inl (.inr (.inr (.inr e)))
/-- The replies have turned. -/
theorem ClAt.replied {A' : Option Addr} {n' c' : Nat} {l' : List LReply} (h : ClAt w c v row opens reps) (ho : OwnL encReply 98 2 w' 0 A' n' c' l') (hb : Blk w' c 32 #[v.mv, .slice v.oa v.on v.oc, .slice A' n' c'])
    (hk : Kept (fun k => k = c ∨ ∃ ad, v.ra = some ad ∧ ad.block = k) w w') (ha : ∀ ad, A' = some ad → v.ra = some ad ∨ w.heap.size ≤ ad.block) :
    ClAt w' c { v with ra := A', rn := n', rc := c' } row opens l' ∧ Turned (clS c v) (clS c { v with ra := A', rn := n', rc := c' }) w w' := by
  refine ⟨⟨hb, h.set.kept hk ?_, h.own.kept hk ?_, ho⟩, hk.mono ?_, ?_⟩
  · rintro b hm (e | ⟨ad, ha', e⟩)
    · subst e; exact h.set.ne_blk h.blk hm
    · subst e; exact h.rm_ne ad ha' hm
  · rintro ad hr (e | ⟨ad', ha', e⟩)
    · exact h.oc_ne ad hr e
    · exact h.or_ne ad ad' hr ha' e.symm
  · exact fun i _ e => e.elim .inl (fun e => .inr (.inr (.inr e)))
  · rintro k (rfl | e | e | ⟨ad, e, rfl⟩)
    · exact .inl (.inl rfl)
    · exact .inl (.inr (.inl e))
    · exact .inl (.inr (.inr (.inl e)))
    · rcases ha ad e with h1 | h1
      · exact .inl (.inr (.inr (.inr ⟨ad, h1, rfl⟩)))
      · exact .inr h1
end
/-- A client that has just been made. -/
theorem ClAt.made (w : World) : ClAt (w.alloc (.cells #[.map none, .slice none 0 0, .slice none 0 0] 32)) w.heap.size ⟨.map none, none, 0, 0, none, 0, 0⟩ [] [] [] :=
  ⟨Blk.new w _ _, MapSet.nil _, OwnL.nil _ _, OwnL.nil _ _⟩
theorem clNew_t (w : World) : Calls Tryd.prog 9 #[] w fun e w' => e = .returned (.pointer (some ⟨w.heap.size, 0, none⟩)) ∧ w' = w.alloc (.cells #[.map none, .slice none 0 0, .slice none 0 0] 32) := by
  go_enter Tryd.func9, Tryd.ntmps9
  go_wp2
  go_ret
  exact ⟨rfl, rfl⟩
end Go.Proofs.YthhnocnkicoimaaDoor
namespace Go.Proofs.YthhnocnkicoimaaDoor
open Go.RowKit Go.Maps

section
variable {w : World} {c : Nat} {v : ClV} {row opens : List Int} {reps : List LReply}
set_option maxHeartbeats 800000 in
theorem clOpen_t (h : ClAt w c v row opens reps) (hn : v.on ≤ 1000000) : Calls Tryd.prog 20 #[.pointer (some ⟨c, 0, none⟩)] w fun e w' => ∃ A' c', e = .returned (.slice A' v.on c') ∧ OwnL encI 3 1 w' w.heap.size A' v.on c' opens ∧ Below w.heap.size w w' := by
  have hcx := cloneI_t 0 v.oa v.on v.oc opens w h.own hn
  have x1 := h.blk.cell 1
  have xl := h.blk.lt
  simp only [List.getElem?_toArray, List.getElem?_cons_zero, List.getElem?_cons_succ] at x1
  clear h hn
  go_enter Tryd.func20, Tryd.ntmps20
  go_wp2_with fail
  (with_reducible refine hcx.mono ?_)
  clear hcx x1 xl
  rintro e w2 ⟨A', c', rfl, ho, hb⟩
  have HO := Lib.hid (And.intro ho hb)
  clear ho hb
  go_wp2
  go_ret
  exact ⟨A', c', rfl, HO.out.1, HO.out.2⟩
set_option maxHeartbeats 800000 in
theorem clReplies_t (h : ClAt w c v row opens reps) (hn : v.rn ≤ 1000000) : Calls Tryd.prog 16 #[.pointer (some ⟨c, 0, none⟩)] w fun e w' => ∃ A' c', e = .returned (.slice A' v.rn c') ∧ OwnL encReply 98 2 w' w.heap.size A' v.rn c' reps ∧ Below w.heap.size w w' := by
  have hcx := cloneR_t 0 v.ra v.rn v.rc reps w h.rep hn
  have x1 := h.blk.cell 2
  have xl := h.blk.lt
  simp only [List.getElem?_toArray, List.getElem?_cons_zero, List.getElem?_cons_succ] at x1
  clear h hn
  go_enter Tryd.func16, Tryd.ntmps16
  go_wp2_with fail
  (with_reducible refine hcx.mono ?_)
  clear hcx x1 xl
  rintro e w2 ⟨A', c', rfl, ho, hb⟩
  have HO := Lib.hid (And.intro ho hb)
  clear ho hb
  go_wp2
  go_ret
  exact ⟨A', c', rfl, HO.out.1, HO.out.2⟩
end
theorem clOpen_nil (w : World) : Calls Tryd.prog 20 #[.pointer none] w fun e w' => e = .returned (.slice none 0 0) ∧ w' = w := by
  go_enter Tryd.func20, Tryd.ntmps20
  go_wp2
  go_ret
  exact ⟨rfl, rfl⟩
theorem clReplies_nil (w : World) : Calls Tryd.prog 16 #[.pointer none] w fun e w' => e = .returned (.slice none 0 0) ∧ w' = w := by
  go_enter Tryd.func16, Tryd.ntmps16
  go_wp2
  go_ret
  exact ⟨rfl, rfl⟩
/-- An answer that says that there is such a job. -/
def saysM (r : LReply) : Bool := r.code == 0 || r.code == 8 || r.code == 10
def knownM (reps : List LReply) : List Int := markAll [] ((reps.filter saysM).map (·.job))
theorem markAll_snoc (row l : List Int) (x : Int) : markAll row (l ++ [x]) = putR (markAll row l) x := by simp [markAll, List.foldl_append]
theorem knownM_snoc (l : List LReply) (r : LReply) : knownM (l ++ [r]) = if saysM r then putR (knownM l) r.job else knownM l := by
  unfold knownM
  rw [List.filter_append]
  cases h : saysM r
  · simp [h]
  · simp only [List.filter_cons, h, List.filter_nil, if_true, List.map_append, List.map_cons, List.map_nil]
    exact markAll_snoc _ _ _
end Go.Proofs.YthhnocnkicoimaaDoor
namespace Go.Proofs.YthhnocnkicoimaaDoor
open Go.RowKit Go.Maps

/-- Known, on the way. -/
structure KI (w0 wr : World) (s : Nat) (mv : Value) (row : List Int) (base : Nat) (A : Option Addr) (n c : Nat) (reps : List LReply) : Prop where
  blk : Blk wr s 28 #[mv]
  set : MapSet wr mv row
  own : OwnL encReply 98 2 wr base A n c reps
  new : ∀ b, mv = .map (some b) → w0.heap.size ≤ b
  ge : w0.heap.size ≤ s
  bel : Below w0.heap.size w0 wr
section
variable {w0 wr w' : World} {s : Nat} {mv : Value} {row : List Int} {base : Nat} {A : Option Addr} {n c : Nat} {reps : List LReply}
theorem KI.below (h : KI w0 wr s mv row base A n c reps) (hb : Below wr.heap.size wr w') : KI w0 w' s mv row base A n c reps :=
  ⟨h.blk.below hb h.blk.lt, h.set.below hb, h.own.below hb, h.new, h.ge, h.bel.trans (hb.mono h.bel.size)⟩
theorem KI.turn {row' : List Int} (h : KI w0 wr s mv row base A n c reps) (ht : SetTurn s 0 mv row' wr w') : ∃ mv', KI w0 w' s mv' row' base A n c reps := by
  obtain ⟨mv', hm, hb, hn⟩ := ht.ex
  refine ⟨mv', by simpa using hb _ _ h.blk, hm, h.own.kept ht.kept ?_, ?_, h.ge, h.bel.trans (ht.kept.below h.bel.size ?_)⟩
  · rintro ad ha (e | e)
    · obtain ⟨cs, hcs⟩ := h.own.blk_ ha
      rw [e] at hcs
      exact absurd (hcs.ty h.blk) (by decide)
    · obtain ⟨cs, hcs⟩ := h.own.blk_ ha
      exact h.set.ne_blk hcs e
  · intro b e
    rcases hn with rfl | ⟨b', rfl, hge⟩
    · exact h.new b e
    · cases e; exact Nat.le_trans h.bel.size hge
  · rintro i hi (e | e)
    · have := h.ge; omega
    · have := h.new i e; omega
end
set_option maxRecDepth 100000 in
set_option maxHeartbeats 3200000 in
theorem known_t (pv : Value) (n : Nat) (reps : List LReply) (w : World) (hR : ∀ W, Below w.heap.size w W → Calls Tryd.prog 16 #[pv] W fun e w' => ∃ A' c', e = .returned (.slice A' n c') ∧ OwnL encReply 98 2 w' W.heap.size A' n c' reps ∧ Below W.heap.size W w')
    (hn : n ≤ 100000) (hw : ∀ r ∈ reps, wf64 r.job) : Calls Tryd.prog 18 #[pv] w fun e w' => ∃ A k c, e = .returned (.slice A k c) ∧ OwnL encI 3 1 w' w.heap.size A k c (knownM reps) ∧ Below w.heap.size w w' := by
  have hB1 : Below w.heap.size w (w.alloc (.cells #[.map none] 28)) := (Below.refl _ _).alloc (Nat.le_refl _) _
  have h1 := Blk.new w 28 #[.map none]
  have HR := Lib.hid (hR _ hB1)
  have HW := Lib.hid hw
  have H1 := Lib.hid (And.intro h1 hB1)
  clear hR hw hB1 h1
  go_enter Tryd.func18, Tryd.ntmps18
  go_wp2_with fail
  generalize w.alloc (.cells #[.map none] 28) = w1 at HR H1 ⊢
  (with_reducible refine HR.out.mono ?_)
  rintro e w2 ⟨A, c, rfl, hO, hB2⟩
  obtain ⟨s, hs⟩ : ∃ s, w.heap.size = s := ⟨_, rfl⟩
  have hK : KI w w2 s (.map none) (knownM (reps.take 0)) w1.heap.size A n c reps :=
    ⟨by rw [← hs]; exact H1.out.1.below hB2 H1.out.1.lt, MapSet.nil _, hO, fun b e => (by cases e), by omega, H1.out.2.trans (hB2.mono H1.out.2.size)⟩
  have HK := Lib.hid hK
  have hln := hO.len
  clear hK hO hB2 HR
  try simp only [hs]
  clear hs H1
  go_wp2
  go_loopw [9] (fun i wr => ∃ k : Nat, k ≤ n ∧ i = .int .i64 k ∧ ∃ mv, KI w wr s mv (knownM (reps.take k)) w1.heap.size A n c reps) (fun i _ => n - (intOf i).toNat)
  case atStart => exact ⟨0, Nat.zero_le _, rfl, _, HK.out⟩
  case round =>
    obtain ⟨k, hk, rfl, mv, hI⟩ := hrel
    by_cases hlt : k < n
    · obtain ⟨ab, ao, r, rfl, hr, hal, hcells⟩ := (hI.own.rd (enc := encReply) (sz := 2) (fun _ => rfl)).at_ hlt
      have g0 : wr.cell? ⟨ab, ao + k * 2, none⟩ = some (.int .i64 r.job) := hcells 0 _ rfl
      have g1 : wr.cell? ⟨ab, ao + k * 2 + 1, none⟩ = some (.int .i64 r.code) := hcells 1 _ rfl
      have hks : knownM (reps.take (k + 1)) = if saysM r then putR (knownM (reps.take k)) r.job else knownM (reps.take k) := by rw [take_succ_of _ _ _ hr, knownM_snoc]
      have hBa : Below wr.heap.size wr (wr.alloc (.cells #[.int .i64 r.job, .int .i64 r.code] 98)) := (Below.refl _ _).alloc (Nat.le_refl _) _
      have HX := Lib.hid (And.intro (Blk.new wr 98 #[.int .i64 r.job, .int .i64 r.code]) (And.intro (hI.below hBa) (And.intro hks (HW.out r (List.mem_of_getElem? hr)))))
      have hrl : (knownM (reps.take k)).length ≤ k := by
        have h1 := (length_markAll_le [] (((reps.take k).filter saysM).map (·.job))).2
        have h2 := List.length_filter_le saysM (reps.take k)
        unfold knownM
        simp only [List.length_nil, Nat.zero_add, List.length_map] at h1
        have h3 : (reps.take k).length ≤ k := List.length_take_le _ _
        omega
      have HL := Lib.hid hrl
      clear hcells hal hr hks hBa hI hrl
      have hcase : ((r.code == 0) = true ∧ saysM r = true) ∨ ((r.code == 0) = false ∧ (r.code == 8) = true ∧ saysM r = true) ∨ ((r.code == 0) = false ∧ (r.code == 8) = false ∧ (r.code == 10) = true ∧ saysM r = true) ∨ ((r.code == 0) = false ∧ (r.code == 8) = false ∧ (r.code == 10) = false ∧ saysM r = false) := by
        unfold saysM
        cases (r.code == 0) <;> cases (r.code == 8) <;> cases (r.code == 10) <;> simp
      rcases hcase with ⟨t0, ts⟩ | ⟨t0, t1, ts⟩ | ⟨t0, t1, t2, ts⟩ | ⟨t0, t1, t2, ts⟩
      case inr.inr.inr =>
        have HS := Lib.hid ts
        clear ts
        go_wp2
        go_roundw
        case rel => exact ⟨k + 1, by omega, by go_num, mv, by rw [HX.out.2.2.1, HS.out]; exact HX.out.2.1⟩
        case measure => simp [intOf]; omega
      all_goals
        have HS := Lib.hid ts
        clear ts
        go_wp2_with fail
        have hb2 : Below (wr.alloc (.cells #[.int .i64 r.job, .int .i64 r.code] 98)).heap.size (wr.alloc (.cells #[.int .i64 r.job, .int .i64 r.code] 98)) ((wr.alloc (.cells #[.int .i64 r.job, .int .i64 r.code] 98)).alloc (.cells #[.int .i64 r.job] 3)) := (Below.refl _ _).alloc (Nat.le_refl _) _
        have hk2 := HX.out.2.1.below hb2
        have hl2 : RdI ((wr.alloc (.cells #[.int .i64 r.job, .int .i64 r.code] 98)).alloc (.cells #[.int .i64 r.job] 3)) (some ⟨wr.heap.size + 1, 0, none⟩) 1 [r.job] := by
          have := Rd.new1 (enc := encI) (sz := 1) (wr.alloc (.cells #[.int .i64 r.job, .int .i64 r.code] 98)) r.job #[.int .i64 r.job] 3 (0, 0) rfl
          rwa [show (wr.alloc (.cells #[.int .i64 r.job, .int .i64 r.code] 98)).heap.size = wr.heap.size + 1 by simp] at this
        (with_reducible refine (dMark s 0 _ #[mv] mv _ _ 1 1 [r.job] _ hk2.blk rfl hk2.set hl2 (by intro x hx; rw [List.mem_singleton.1 hx]; exact HX.out.2.2.2) (by have := HL.out; omega)).mono ?_)
        rintro e w6 ⟨rfl, ht6⟩
        obtain ⟨mv6, hk6⟩ := hk2.turn ht6
        have HF := Lib.hid hk6
        clear g0 g1 hb2 hk2 hl2 ht6 hk6
        go_wp2
        go_roundw
        case rel => exact ⟨k + 1, by omega, by go_num, mv6, by rw [HX.out.2.2.1, HS.out]; exact HF.out⟩
        case measure => simp [intOf]; omega
    · have hkn : k = n := by omega
      subst hkn
      have htk : reps.take k = reps := List.take_of_length_le (by omega)
      rw [htk] at hI
      have HI := Lib.hid hI
      have hrl : (knownM reps).length ≤ 1000000 := by
        have h1 := (length_markAll_le [] ((reps.filter saysM).map (·.job))).2
        have h2 := List.length_filter_le saysM reps
        unfold knownM
        simp only [List.length_nil, Nat.zero_add, List.length_map] at h1
        omega
      have hcx := dDrain s 0 _ #[mv] mv _ wr hI.blk rfl hI.set hrl
      clear hI hrl htk
      go_wp2_with fail
      (with_reducible refine hcx.mono ?_)
      clear hcx
      rintro e w6 ⟨A6, n6, c6, rfl, ho6, ht6⟩
      obtain ⟨mv6, hk6⟩ := HI.out.turn ht6
      have HF := Lib.hid (And.intro (ho6.lower HI.out.bel.size) hk6.bel)
      clear ho6 ht6 hk6
      go_wp2
      go_ret
      exact ⟨A6, n6, c6, rfl, HF.out.1, HF.out.2⟩
end Go.Proofs.YthhnocnkicoimaaDoor
