/-
  LAYER 32 (cache): fresh: what is stale is held against every known need.
-/
import Derived.Test.YtcafmodenbifhaaCacheB
set_option linter.unusedVariables false
set_option linter.unusedSimpArgs false
namespace Go.Proofs.Ytcafmodenbifhaa
open Go.RowKit Go.Maps

theorem own_ne_set {α : Type} {enc : α → List Value} {e : TypeId} {sz base n c b : Nat} {w : World} {A : Option Addr} {l : List α} {row : List Int} (h : OwnL enc e sz w base A n c l) (hm : MapSet w (.map (some b)) row) : ∀ ad, A = some ad → ad.block ≠ b := by
  intro ad ha e'
  rcases h.own.2 with ⟨hv, _⟩ | ⟨q, cap, cur, hv, _, hg, _⟩
  · rw [ha] at hv; cases hv
  · rw [ha] at hv
    cases hv
    have hb : Blk w q e cur := hg
    exact hm.ne_blk hb (by rw [show q = b from e'])
theorem len_of_iff {l m : List LRes} (hl : l.Nodup) (hm : m.Nodup) (h : ∀ x, x ∈ l ↔ x ∈ m) : l.length = m.length := ((List.perm_ext_iff_of_nodup hl hm).2 h).length_eq
theorem lenI_of_iff {l m : List Int} (hl : l.Nodup) (hm : m.Nodup) (h : ∀ x, x ∈ l ↔ x ∈ m) : l.length = m.length := ((List.perm_ext_iff_of_nodup hl hm).2 h).length_eq
theorem len_le_R {l m : List LRes} (h : l.Nodup) (hs : ∀ x ∈ l, x ∈ m) : l.length ≤ m.length := by
  induction l generalizing m with
  | nil => simp
  | cons x r ih =>
    obtain ⟨h1, h2⟩ := List.nodup_cons.1 h
    have hx := hs x List.mem_cons_self
    have := ih (m := m.erase x) h2 (fun y hy => (List.mem_erase_of_ne (fun e => h1 (by rw [← e]; exact hy))).2 (hs y (List.mem_cons_of_mem _ hy)))
    rw [List.length_erase_of_mem hx] at this
    have hm : 0 < m.length := List.length_pos_of_mem hx
    rw [List.length_cons]
    omega
/-- A cache in the midst of 'fresh'. -/
structure Fr (w0 w : World) (c : Nat) (X : CX) (lk : Int) (nm sm dm : Option Nat) (cb : LRes → Nat) (SS : LRes → Nat → Prop) (TT : LRes → LTh → Prop) (S0 : Nat → Prop) (A : Option Addr) (n cc : Nat) (st : LRes → Int → Prop) : Prop where
  at_ : CaAt w c ⟨X.nodes, [], X.needs, lk⟩ nm sm dm cb SS TT
  ok : ∀ r ∈ X.needs, ShOk X.nodes (st r) r (TT r)
  own : OwnL encI 3 1 w w0.heap.size A n cc X.stale
  out : ∀ ad, A = some ad → ¬ caS c X nm sm dm SS ad.block
  turn : Turned S0 (caS c X nm sm dm SS) w0 w
section
variable {w0 w w' : World} {c : Nat} {X : CX} {lk : Int} {nm sm dm : Option Nat} {cb : LRes → Nat} {SS : LRes → Nat → Prop} {TT : LRes → LTh → Prop} {S0 : Nat → Prop} {A : Option Addr} {n cc : Nat} {st : LRes → Int → Prop}
theorem Fr.below (h : Fr w0 w c X lk nm sm dm cb SS TT S0 A n cc st) (hb : Below w.heap.size w w') : Fr w0 w' c X lk nm sm dm cb SS TT S0 A n cc st := ⟨h.at_.below hb, h.ok, h.own.below hb, h.out, h.turn.then_below hb⟩
/-- What the range's own block turns is nothing of it. -/
theorem Fr.iter (h : Fr w0 w c X lk nm sm dm cb SS TT S0 A n cc st) {it : Nat} (hg : w.grownBy w' (some it)) (h1 : ¬ caS c X nm sm dm SS it) (h2 : ∀ ad, A = some ad → ad.block ≠ it) (h3 : w0.heap.size ≤ it) : Fr w0 w' c X lk nm sm dm cb SS TT S0 A n cc st :=
  ⟨h.at_.step fun k hk hl => hg.block k hl (fun e => h1 (by injection e with e; rw [← e]; exact hk)), h.ok, h.own.step fun ad ha _ hl => hg.block _ hl (fun e => h2 ad ha (by injection e)), h.out,
   ⟨⟨hg.os.trans h.turn.kept.os, hg.tape.trans h.turn.kept.tape, hg.output.trans h.turn.kept.output, Nat.le_trans h.turn.kept.size hg.size, fun k hk hn => (hg.block k (Nat.lt_of_lt_of_le hk h.turn.kept.size) (fun e => by injection e with e; omega)).trans (h.turn.kept.block k hk hn)⟩, h.turn.new⟩⟩
theorem Fr.mono {st' : LRes → Int → Prop} (h : Fr w0 w c X lk nm sm dm cb SS TT S0 A n cc st) (hs : ∀ r ∈ X.needs, ∀ q ∈ X.nodes, st r q.id → st' r q.id) : Fr w0 w c X lk nm sm dm cb SS TT S0 A n cc st' := ⟨h.at_, fun r hr => (h.ok r hr).mono (hs r hr), h.own, h.out, h.turn⟩
/-- One shelf is held against one node. -/
theorem Fr.hold (h : Fr w0 w c X lk nm sm dm cb SS TT S0 A n cc st) {r : LRes} (hr : r ∈ X.needs) {m : LNode} (hm : m ∈ X.nodes) {row' : List Int} {S' : Nat → Prop} {n' : Int} (hS : HpO w' (cb r) 118 (needT r) row' (shPut (TT r) m r) S')
    (ht : Turned (fun k => k = c ∨ SS r k) (fun k => k = c ∨ S' k) w w') (hb : Blk w' c 48 (caBox nm sm dm n')) (hc : ¬ S' c) :
    Fr w0 w' c X n' nm sm dm cb (fun q => if q = r then S' else SS q) (fun q => if q = r then shPut (TT r) m r else TT q) S0 A n cc (fun q z => st q z ∧ (q = r → z ≠ m.id)) := by
  obtain ⟨h1, h2⟩ := h.at_.hold hr hS ht hb hc
  have hsub : ∀ k, k = c ∨ SS r k → caS c X nm sm dm SS k := fun k hk => hk.elim (fun e => .inl (.inl e)) (fun hs => .inr ⟨r, hr, hs⟩)
  refine ⟨h1, fun q hq => ?_, h.own.kept ht.kept (fun ad ha hf => h.out ad ha (hsub _ hf)), fun ad ha hf => ?_, h.turn.trans h2⟩
  · by_cases e : q = r
    · subst e
      simp only [if_pos]
      exact ((h.ok q hr).hold h.at_.nodes.rising hm).mono fun p hp hst => ⟨hst.1, fun _ => hst.2⟩
    · simp only [if_neg e]
      exact (h.ok q hq).mono fun p hp hst => ⟨hst, fun e2 => absurd e2 e⟩
  · rcases h2.new _ hf with h3 | h3
    · exact h.out ad ha h3
    · have := (h.own.at_base ad ha).2; omega
end
theorem caS_stale (c : Nat) (X : CX) (l : List Int) (lk : Int) (nm sm dm : Option Nat) (SS : LRes → Nat → Prop) : caS c ⟨X.nodes, l, X.needs, lk⟩ nm sm dm SS = caS c X nm sm dm SS := rfl
set_option maxRecDepth 100000 in
set_option maxHeartbeats 6400000 in
theorem caFresh_o {w : World} {c : Nat} {X : CX} {S : Nat → Prop} (h : CaO w c X S) (hb : X.nodes.length ≤ 1000 ∧ X.stale.length ≤ 1000 ∧ X.needs.length ≤ 1000 ∧ 0 ≤ X.looked ∧ X.looked ≤ 10000000) :
    Calls Try.prog 37 #[.pointer (some ⟨c, 0, none⟩)] w fun e w' => e = .returned (.tuple #[]) ∧ ∃ S', CaO w' c ⟨X.nodes, [], X.needs, X.looked + (X.stale.length : Int) * (X.needs.length : Int)⟩ S' ∧ Turned S S' w w' := by
  obtain ⟨nm, sm, dm, cb, SS, TT, hA, hT, hst, rfl⟩ := h
  have hcx := dDrain c 2 _ _ _ X.stale w hA.blk rfl hA.marks (by omega)
  have HA := Lib.hid (And.intro hA (And.intro hT (And.intro hst hb)))
  clear hA hT hst hb
  go_enter Try.func37, Try.ntmps37
  go_wp2_with fail
  (with_reducible refine hcx.mono ?_)
  clear hcx
  rintro e w2 ⟨A, n, cc, rfl, hO, hset⟩
  obtain ⟨dm2, h2, ht2⟩ := HA.out.1.marked hset
  have hout : ∀ ad, A = some ad → ¬ caS c X nm sm dm2 SS ad.block := fun ad ha hf => by
    have h3 := (hO.at_base ad ha).1
    rcases hf with (e | e | e | e) | ⟨r, hr, hs⟩
    · have := HA.out.1.blk.lt; omega
    · have := HA.out.1.nodes.lt ad.block (by rw [e]); omega
    · have := HA.out.1.shelves.lt ad.block (by rw [e]); omega
    · exact own_ne_set hO (by have := h2.marks; rw [e] at this; exact this) ad ha rfl
    · obtain ⟨row, h4⟩ := HA.out.1.shelf r hr
      have := h4.lt _ hs; omega
  have HF : Hid (Fr w w2 c X X.looked nm sm dm2 cb SS TT (caS c X nm sm dm SS) A n cc (fun _ z => z ∈ X.stale)) := Lib.hid ⟨h2, HA.out.2.1, hO, hout, ht2⟩
  have hln := hO.len
  have hnn : n ≤ 1000 := by have := HA.out.2.2.2.2.1; omega
  have HL := Lib.hid hln
  clear hO hset h2 ht2 hout hln
  go_wp2
  go_loopw [11] (fun i wr => ∃ (k : Nat) (SS2 : LRes → Nat → Prop) (TT2 : LRes → LTh → Prop), k ≤ n ∧ i = .int .i64 k ∧ Fr w wr c X (X.looked + (k : Int) * (X.needs.length : Int)) nm sm dm2 cb SS2 TT2 (caS c X nm sm dm SS) A n cc (fun _ z => z ∈ X.stale ∧ z ∉ X.stale.take k)) (fun i _ => n - (intOf i).toNat)
  case atStart => exact ⟨0, SS, TT, Nat.zero_le _, rfl, by
    have := HF.out.mono (st' := fun _ z => z ∈ X.stale ∧ z ∉ X.stale.take 0) (fun r hr q hq hs => ⟨hs, by simp⟩)
    simpa using this⟩
  case round =>
    obtain ⟨k, SS2, TT2, hk, rfl, hF⟩ := hrel
    by_cases hlt : k < n
    · obtain ⟨ab, ao, id, hA2, hx, hcell⟩ := RdI.at_ (hF.own.rd (enc := encI) (sz := 1) (fun _ => rfl)) hlt
      subst hA2
      have hids : id ∈ X.stale := List.mem_of_getElem? hx
      have htk : X.stale.take (k + 1) = X.stale.take k ++ [id] := take_succ_of _ _ _ hx
      obtain ⟨hnm, hnid⟩ := nodeOf_in (HA.out.2.2.1 id hids)
      have HI := Lib.hid (And.intro hids (And.intro htk (And.intro hnm hnid)))
      have c1 : wr.cell? ⟨c, 1, none⟩ = some (.map sm) := (hF.at_.blk.cell 1).trans rfl
      have cl := hF.at_.blk.lt
      have H3 := Lib.hid hF
      clear hF hids htk hnm hnid hx
      cases sm with
      | none =>
        have hnn0 : X.needs = [] := by rcases H3.out.at_.shelves.is with ⟨_, h2⟩ | ⟨b, D, h2, _⟩; exact h2; cases h2
        have hrg := run_range_nilMap (P := Try.prog) wr 38 53 87 Try.underlying38
        have hnx : ∀ ty, (Instr.next (.pointer (some ⟨wr.heap.size, 0, none⟩)) false ty).run Try.prog (wr.alloc (.mapIter none 0 #[] 0)) = _ := fun ty => run_next_nilMap _ ty 0 0 #[]
        have HN0 := Lib.hid hnn0
        clear hnn0
        go_wp2
        refine wp_loop_rounds 1 ?_
        rw [rounds_succ]
        go_wp2
        have hF4 : Fr w (wr.alloc (.mapIter none 0 #[] 0)) c X (X.looked + ((k + 1 : Nat) : Int) * (X.needs.length : Int)) nm none dm2 cb SS2 TT2 (caS c X nm none dm SS) (some ⟨ab, ao, none⟩) n cc (fun _ z => z ∈ X.stale ∧ z ∉ X.stale.take (k + 1)) := by
          have := (H3.out.below ((Below.refl _ _).alloc (Nat.le_refl _) (.mapIter none 0 #[] 0))).mono (st' := fun _ z => z ∈ X.stale ∧ z ∉ X.stale.take (k + 1)) (fun r hr => by rw [HN0.out] at hr; cases hr)
          rw [HN0.out] at this ⊢
          simpa using this
        have H4 := Lib.hid hF4
        clear hF4 hrg hnx hcell c1 cl H3
        go_roundw
        case rel => exact ⟨k + 1, SS2, TT2, by omega, by go_num, H4.out⟩
        case measure => simp [intOf]; omega
      | some sb =>
        rcases H3.out.at_.shelves.is with ⟨h0, _⟩ | ⟨sb', D, hv, ho, hD⟩
        · cases h0
        cases hv
        have hwf := H3.out.at_.shelves.wf
        have hnd := H3.out.at_.shelves.nodup
        have HD := Lib.hid (And.intro hD (And.intro hwf hnd))
        have hszD := hD.size
        have HSZ := Lib.hid hszD
        clear hD hwf hnd hszD
        go_wp2_with (first
          | (at_range; refine wpList_range_own _ rfl _ 38 rfl 53 87 lawRes Try.underlying38 _ sb _ _ rfl ho ?_; intro w4 hrg0 hg0 hs0))
        try go_frame
        have H4 : Hid (Fr w w4 c X (X.looked + (k : Int) * (X.needs.length : Int)) nm (some sb) dm2 cb SS2 TT2 (caS c X nm (some sb) dm SS) (some ⟨ab, ao, none⟩) n cc (fun _ z => z ∈ X.stale ∧ z ∉ X.stale.take k)) := Lib.hid (H3.out.below ((Below.refl _ _).grown hg0 (Nat.le_refl _) (fun j hj => by cases hj)))
        obtain ⟨it, hit⟩ : ∃ it, wr.heap.size = it := ⟨_, rfl⟩
        have HIT : Hid (¬ caS c X nm (some sb) dm2 SS2 it ∧ ab ≠ it ∧ w.heap.size ≤ it ∧ it < w4.heap.size) := Lib.hid ⟨fun hf => by have := H3.out.at_.lt it hf; omega, fun e => by have := (H3.out.own.at_base _ rfl).2; simp at this; omega, by have := H3.out.turn.size; omega, by omega⟩
        rw [hit] at hrg0 ⊢
        have HR0 := Lib.hid hrg0
        clear hit hrg0 hg0 hs0 ho hcell c1 cl H3
        go_loopw [5] (fun _ wi => ∃ (left : Lit → Bool) (cnt : Nat) (ss : List LRes) (SS3 : LRes → Nat → Prop) (TT3 : LRes → LTh → Prop), wi.ranges Try.prog 53 heldR sb it X.needs.length D left cnt ∧ GathR X.needs left ss ∧ Fr w wi c X (X.looked + (k : Int) * (X.needs.length : Int) + (ss.length : Int)) nm (some sb) dm2 cb SS3 TT3 (caS c X nm (some sb) dm SS) (some ⟨ab, ao, none⟩) n cc (fun r z => (z ∈ X.stale ∧ z ∉ X.stale.take k) ∧ (r ∈ ss → z ≠ id)) ∧ ¬ caS c X nm (some sb) dm2 SS3 it ∧ it < wi.heap.size)
          (fun _ wi => wi.rangeLeft sb it)
        case atStart =>
          exact ⟨_, _, [], SS2, TT2, HR0.out, GathR.start HD.out.1 HD.out.2.1, by
            have := H4.out.mono (st' := fun r z => (z ∈ X.stale ∧ z ∉ X.stale.take k) ∧ (r ∈ ([] : List LRes) → z ≠ id)) (fun r hr q hq hs => ⟨hs, fun h => by cases h⟩)
            simpa using this, HIT.out.1, HIT.out.2.2.2⟩
        case round =>
          obtain ⟨left, cnt, ss, SS3, TT3, hrg, hG, hF, hio, hil⟩ := hrel
          have H5 := Lib.hid (And.intro hG (And.intro hF (And.intro hio hil)))
          clear hG hF hio hil
          go_wp2_with (first
            | (at_next; refine wpList_next_RV _ rfl _ rfl sb it _ D X.needs _ HD.out.1 HD.out.2.1 left cnt rfl hrg ?_ ?_))
          · intro hc0 hl0
            have hall := H5.out.1.all hl0
            have hlen := len_of_iff H5.out.1.nodup HD.out.2.2 hall
            have hF6 : Fr w wr c X (X.looked + ((k + 1 : Nat) : Int) * (X.needs.length : Int)) nm (some sb) dm2 cb SS3 TT3 (caS c X nm (some sb) dm SS) (some ⟨ab, ao, none⟩) n cc (fun _ z => z ∈ X.stale ∧ z ∉ X.stale.take (k + 1)) := by
              have := H5.out.2.1.mono (st' := fun _ z => z ∈ X.stale ∧ z ∉ X.stale.take (k + 1)) (fun r hr q hq hs => ⟨hs.1.1, by
                rw [HI.out.2.1, List.mem_append, List.mem_singleton]
                exact fun h => h.elim hs.1.2 (hs.2 ((hall r).2 hr))⟩)
              rw [hlen] at this
              have e : X.looked + ((k + 1 : Nat) : Int) * (X.needs.length : Int) = X.looked + (k : Int) * (X.needs.length : Int) + (X.needs.length : Int) := by
                rw [Int.natCast_add, Int.add_mul]
                simp only [Int.natCast_one, Int.one_mul]
                omega
              rw [e]
              exact this
            have H6 := Lib.hid hF6
            clear hF6 hall hlen hc0 hl0 H5 hrg
            go_wp2
            go_roundw
            case rel => exact ⟨k + 1, SS3, TT3, by omega, by go_num, H6.out⟩
            case measure => simp [intOf]; omega
          · intro x w6 cnt2 hxm hlk hrg2 hcl hg2 hs2 hen
            obtain ⟨hG2, hns⟩ := H5.out.1.step HD.out.2.1 hxm hlk
            have hF6 := H5.out.2.1.iter hg2 H5.out.2.2.1 (fun ad ha => by cases ha; exact HIT.out.2.1) HIT.out.2.2.1
            obtain ⟨row, hSx⟩ := hF6.at_.shelf x hxm
            have hsl := len_le_R H5.out.1.nodup H5.out.1.sub
            have hmul : 0 ≤ (k : Int) * (X.needs.length : Int) ∧ (k : Int) * (X.needs.length : Int) ≤ 1000000 := by
              have h1 := HA.out.2.2.2.2.2.1
              have h2 : k * X.needs.length ≤ 1000 * 1000 := Nat.mul_le_mul (by omega) h1
              have h3 : (k : Int) * (X.needs.length : Int) = ((k * X.needs.length : Nat) : Int) := by simp
              rw [h3]
              omega
            have hcx := hold_t (lk := X.looked + (k : Int) * (X.needs.length : Int) + (ss.length : Int)) hF6.at_.blk hF6.at_.nodes hSx (fun hc => hF6.at_.own x hxm c hc (.inl rfl)) (fun q hq hs => hF6.at_.own x hxm q hs (.inr (.inl hq))) id (nodeOf X.nodes id) (HA.out.2.2.1 id HI.out.1) rfl (by rw [HI.out.2.2.2]; exact hF6.at_.nodes.wf id (HA.out.2.2.1 id HI.out.1)) (Nat.le_trans (hSx.row_le (m := idsN X.nodes) (fun a ha => (hF6.ok x hxm).sub a ha)) (by have := HA.out.2.2.2.1; unfold idsN; rw [List.length_map]; omega)) (by have := HA.out.2.2.2.2.2.2; have := HA.out.2.2.2.2.2.1; omega)
            have H6 := Lib.hid (And.intro hG2 (And.intro hF6 (And.intro hns (And.intro hrg2 (And.intro hcl (show it < w6.heap.size by rw [hs2]; exact H5.out.2.2.2))))))
            simp only [ptrV] at hen ⊢
            have HX := Lib.hid hxm
            clear hG2 hF6 hSx hsl hmul hlk hg2 hs2 hns hxm hcl
            go_wp2_with fail
            (with_reducible refine hcx.mono ?_)
            clear hcx hen
            rintro e w7 ⟨rfl, row', S', hS7, ht7, hb7, hc7⟩
            have hF7 := H6.out.2.1.hold HX.out HI.out.2.2.1 hS7 ht7 hb7 hc7
            have hfb : ¬ (sb = c ∨ SS3 x sb) := fun h => h.elim (fun e => H6.out.2.1.at_.ne_c.2.1 (by rw [e])) (fun hs => H6.out.2.1.at_.own x HX.out sb hs (.inr (.inr (.inl rfl))))
            have hfi : ¬ (it = c ∨ SS3 x it) := fun h => H5.out.2.2.1 (h.elim (fun e => .inl (.inl e)) (fun hs => .inr ⟨x, HX.out, hs⟩))
            have hrg7 := ranges_keptF H6.out.2.2.2.1 ht7.kept hfb hfi
            have hio7 : ¬ caS c X nm (some sb) dm2 (fun q => if q = x then S' else SS3 q) it := fun hf => by
              rcases (H6.out.2.1.at_.hold HX.out hS7 ht7 hb7 hc7).2.new it hf with h3 | h3
              · exact H5.out.2.2.1 h3
              · have := H6.out.2.2.2.2.2; omega
            have hF8 : Fr w w7 c X (X.looked + (k : Int) * (X.needs.length : Int) + ((ss ++ [x]).length : Int)) nm (some sb) dm2 cb (fun q => if q = x then S' else SS3 q) (fun q => if q = x then shPut (TT3 x) (nodeOf X.nodes id) x else TT3 q) (caS c X nm (some sb) dm SS) (some ⟨ab, ao, none⟩) n cc (fun r z => (z ∈ X.stale ∧ z ∉ X.stale.take k) ∧ (r ∈ ss ++ [x] → z ≠ id)) := by
              have := hF7.mono (st' := fun r z => (z ∈ X.stale ∧ z ∉ X.stale.take k) ∧ (r ∈ ss ++ [x] → z ≠ id)) (fun r hr q hq hs => ⟨hs.1.1, fun hm => (List.mem_append.1 hm).elim hs.1.2 (fun e => by have := hs.2 (List.mem_singleton.1 e); rw [HI.out.2.2.2] at this; exact this)⟩)
              have e : X.looked + (k : Int) * (X.needs.length : Int) + ((ss ++ [x]).length : Int) = X.looked + (k : Int) * (X.needs.length : Int) + (ss.length : Int) + 1 := by simp; omega
              rw [e]
              exact this
            have H8 := Lib.hid (And.intro hF8 (And.intro hrg7 (And.intro hio7 (show it < w7.heap.size from Nat.lt_of_lt_of_le H6.out.2.2.2.2.2 ht7.size))))
            have hcc := H6.out.2.2.2.2.1
            clear hF8 hF7 hrg7 hio7 hfb hfi hS7 ht7 hb7 hc7
            go_wp2
            go_roundw
            case rel => exact ⟨_, cnt2, ss ++ [x], _, _, H8.out.2.1, H6.out.1, H8.out.1, H8.out.2.2.1, H8.out.2.2.2⟩
            case measure => rw [H8.out.2.1.left_eq, hrg.left_eq]; exact hcc
    · have hkn : k = n := by omega
      subst hkn
      have HE : Hid (∃ S', CaO wr c ⟨X.nodes, [], X.needs, X.looked + (X.stale.length : Int) * (X.needs.length : Int)⟩ S' ∧ Turned (caS c X nm sm dm SS) S' w wr) := Lib.hid ⟨_, ⟨_, _, _, _, SS2, TT2, by rw [HL.out]; exact hF.at_, fun r hr => (hF.ok r hr).mono (fun q hq hs => by
        have e : X.stale.take k = X.stale := List.take_of_length_le (by rw [HL.out]; exact Nat.le_refl _)
        rw [e] at hs
        exact absurd hs.1 hs.2), fun z hz => (by cases hz), rfl⟩, hF.turn⟩
      clear hF
      go_wp2
      go_end0
      exact ⟨rfl, HE.out⟩
end Go.Proofs.Ytcafmodenbifhaa
