/-
  LAYER 39 (worker): the law WorkerSpeaks: what it keeps, and its walk.
-/
import Derived.Test.YthhnocnkicoimaaDoorWk13
import Derived.Test.YthhnocnkicoimaaDoorLd39
import Derived.Test.YthhnocnkicoimaaDoorMsgS
import Derived.Deep.CutRange
import Derived.BigQuiet
import Derived.Deep.CutBlock
set_option linter.unusedVariables false
set_option linter.unusedSimpArgs false
namespace Go.Proofs.YthhnocnkicoimaaDoor
open Go.RowKit Go.Maps

structure SN (s : WS) (k : Nat) : Prop where
  node : s.node = 2
  span : s.span = 6
  inc : 1 ≤ s.inc ∧ s.inc ≤ 2147483647
  un : 0 ≤ s.until_
  fi : 0 ≤ s.first ∧ s.first ≤ 1099511627777
  cap : rightR s.cap = true
  hj : ∀ x ∈ s.held, inM x 1 2147483647 = true
  dj : ∀ x ∈ s.done, inM x 1 2147483647 = true
  hl : s.held.length ≤ k
  dl : s.done.length ≤ k
  tl : s.told.length ≤ k
theorem SN.start : SN (WS.made 2 6 ⟨9, 9, 9⟩) 0 := ⟨rfl, rfl, ⟨by decide, by decide⟩, by decide, ⟨by decide, by decide⟩, by decide, by decide, by decide, by decide, by decide, by decide⟩
section
variable {s s' : WS} {k : Nat}
theorem SN.mod (h : SN s k) (h1 : s'.node = s.node) (h2 : s'.span = s.span) (h3 : s'.inc = s.inc) (h4 : s'.first = s.first) (h5 : s'.cap = s.cap) (hun : 0 ≤ s'.until_) (hh : ∀ x ∈ s'.held, inM x 1 2147483647 = true) (hd : ∀ x ∈ s'.done, inM x 1 2147483647 = true) (hl : s'.held.length ≤ k + 1) (hdl : s'.done.length ≤ k + 1) (htl : s'.told.length ≤ k + 1) : SN s' (k + 1) :=
  ⟨h1.trans h.node, h2.trans h.span, by rw [h3]; exact h.inc, hun, by rw [h4]; exact h.fi, by rw [h5]; exact h.cap, hh, hd, hl, hdl, htl⟩
theorem SN.same (h : SN s k) : SN s (k + 1) := h.mod rfl rfl rfl rfl rfl h.un h.hj h.dj (Nat.le_succ_of_le h.hl) (Nat.le_succ_of_le h.dl) (Nat.le_succ_of_le h.tl)
theorem SN.gone (h : SN s k) (h1 : s'.node = s.node) (h2 : s'.span = s.span) (h3 : 1 ≤ s'.inc ∧ s'.inc ≤ 2147483647) (h4 : 0 ≤ s'.first ∧ s'.first ≤ 1099511627777) (h5 : s'.cap = s.cap) (hun : 0 ≤ s'.until_) (e1 : s'.held = []) (e2 : s'.done = []) (e3 : s'.told = []) : SN s' (k + 1) :=
  ⟨h1.trans h.node, h2.trans h.span, h3, hun, h4, by rw [h5]; exact h.cap, by rw [e1]; simp, by rw [e2]; simp, by rw [e1]; simp, by rw [e2]; simp, by rw [e3]; simp⟩
theorem SN.size (h : SN s k) {r : LRes} (hr : rightR r = true) : SN (s.size_ r) (k + 1) :=
  ⟨h.node, h.span, h.inc, h.un, h.fi, hr, h.hj, h.dj, Nat.le_succ_of_le h.hl, Nat.le_succ_of_le h.dl, Nat.le_succ_of_le h.tl⟩
theorem SN.crash (h : SN s k) : SN s.crash (k + 1) := h.gone rfl rfl h.inc ⟨Int.le_refl 0, by show (0 : Int) ≤ _; omega⟩ rfl (Int.le_refl 0) rfl rfl rfl
theorem SN.boot (h : SN s k) : SN s.boot (k + 1) := h.gone rfl rfl ⟨by show 1 ≤ min (s.inc + 1) 2147483647; have := h.inc; omega, by show min (s.inc + 1) 2147483647 ≤ _; omega⟩ ⟨Int.le_refl 0, by show (0 : Int) ≤ _; omega⟩ rfl (Int.le_refl 0) rfl rfl rfl
theorem SN.tick (h : SN s k) (now : Int) : SN (s.tick now) (k + 1) := by
  have ht := tickI_le now
  unfold WS.tick WS.tick1
  split
  · have hi : 1 ≤ min (s.inc + 1) 2147483647 ∧ min (s.inc + 1) 2147483647 ≤ 2147483647 := by have := h.inc; omega
    unfold WS.tick2
    split
    · exact h.gone rfl rfl hi ⟨by show 0 ≤ tickI now + 1; omega, by show tickI now + 1 ≤ _; omega⟩ rfl (Int.le_refl 0) rfl rfl rfl
    · exact h.gone rfl rfl hi ⟨Int.le_refl 0, by show (0 : Int) ≤ _; omega⟩ rfl (Int.le_refl 0) rfl rfl rfl
  · unfold WS.tick2
    split
    · exact ⟨h.node, h.span, h.inc, h.un, ⟨by show 0 ≤ tickI now + 1; omega, by show tickI now + 1 ≤ _; omega⟩, h.cap, h.hj, h.dj, Nat.le_succ_of_le h.hl, Nat.le_succ_of_le h.dl, Nat.le_succ_of_le h.tl⟩
    · exact h.same
theorem tick_up (s : WS) (now : Int) : (s.tick now).up = s.up := by
  unfold WS.tick WS.tick1 WS.tick2
  split <;> split <;> rfl
theorem SN.fin (h : SN s k) {job : Int} (hj : job ∈ s.held) : SN (s.fin job) (k + 1) :=
  h.mod rfl rfl rfl rfl rfl h.un (fun x hx => h.hj x (List.mem_filter.1 (show x ∈ s.held.filter (· != job) from hx)).1)
    (fun x hx => ((mem_putR _ _ _).1 (show x ∈ putR s.done job from hx)).elim (fun e => by rw [e]; exact h.hj job hj) (h.dj x))
    (Nat.le_trans (List.length_filter_le _ _) (Nat.le_succ_of_le h.hl)) (Nat.le_trans (putR_len39 _ _) (Nat.succ_le_succ h.dl)) (Nat.le_succ_of_le h.tl)
theorem check_job {m : LMsg} (hc : checkM m = 0) (hk : m.kind = 3) : inM m.job 1 2147483647 = true := by
  unfold checkM at hc
  have hn : namesM m.kind = [3, 4, 5] := by rw [hk]; rfl
  rw [hn, if_neg (by simp)] at hc
  split at hc
  · cases hc
  · rename_i h
    simp only [not_or, Bool.not_eq_false] at h
    have hr := h.2.2
    unfold rightM bndM at hr
    simp only [List.all_cons, Bool.and_eq_true] at hr
    have h5 := hr.1.2.2.1
    unfold okB at h5
    rw [hn] at h5
    simpa [intsM] using h5
theorem SN.pass (h : SN s k) (e : Int) : SN (s.pass e) k := by
  unfold WS.pass
  split
  · exact ⟨h.node, h.span, h.inc, h.un, h.fi, h.cap, h.hj, h.dj, h.hl, h.dl, h.tl⟩
  · exact h
theorem SN.hear (h : SN s k) (now : Int) (m : LMsg) : SN (s.hear now m).1 (k + 1) := by
  unfold WS.hear
  split
  · rename_i hc
    have h1 := h.pass m.epoch
    split
    · unfold WS.heed
      split
      · show SN (if _ then _ else _) _
        split
        · exact h1.mod rfl rfl rfl rfl rfl (by show 0 ≤ max _ _; have := h1.un; omega) h1.hj h1.dj (Nat.le_succ_of_le h1.hl) (Nat.le_succ_of_le h1.dl) (Nat.le_succ_of_le h1.tl)
        · exact h1.same
      · split
        · rename_i hk
          show SN (if _ then _ else _) _
          split
          · exact h1.mod rfl rfl rfl rfl rfl h1.un (fun x hx => ((mem_putR _ _ _).1 (show x ∈ putR (s.pass m.epoch).held m.job from hx)).elim (fun e => by rw [e]; exact check_job hc.2.1 hk) (h1.hj x)) h1.dj (Nat.le_trans (putR_len39 _ _) (Nat.succ_le_succ h1.hl)) (Nat.le_succ_of_le h1.dl) (Nat.le_succ_of_le h1.tl)
          · exact h1.same
        · show SN ((s.pass m.epoch).stop m) _
          have hf : ∀ x ∈ (s.pass m.epoch).held.filter (· != m.job), inM x 1 2147483647 = true := fun x hx => h1.hj x (List.mem_filter.1 hx).1
          have hl : ((s.pass m.epoch).held.filter (· != m.job)).length ≤ k + 1 := Nat.le_trans (List.length_filter_le _ _) (Nat.le_succ_of_le h1.hl)
          unfold WS.stop
          split
          · exact h1.mod rfl rfl rfl rfl rfl h1.un hf h1.dj hl (Nat.le_succ_of_le h1.dl) (Nat.le_trans (putR_len39 _ _) (Nat.succ_le_succ h1.tl))
          · exact h1.mod rfl rfl rfl rfl rfl h1.un hf h1.dj hl (Nat.le_succ_of_le h1.dl) (Nat.le_succ_of_le h1.tl)
    · exact h1.same
  · exact h.same
/-- What is sent may be, comes from it, and goes to one of the replicas. -/
structure Sent (s : WS) (n : Int) (m : LMsg) : Prop where
  what : m.kind = 1 ∨ (m.kind = 5 ∧ m.job ∈ s.done)
  ok : checkM m = 0
  frm : m.frm = 102
  inc : m.inc = s.inc
  to_ : m.to_ < n
theorem place_rep {j : Nat} (hj : j < 5) : placeM (j : Int) = 1 := by unfold placeM; rw [if_pos ⟨by omega, by omega⟩]
theorem hello_sent (h : SN s k) (now : Int) {j : Nat} (hj : j < 5) {n : Int} (hn : (j : Int) < n) : Sent s n (s.hello now j) := by
  have ht := tickI_le now
  refine ⟨.inl rfl, ?_, by show 100 + s.node = 102; rw [h.node]; rfl, rfl, hn⟩
  unfold checkM
  rw [if_neg (by show ¬ namesM 1 = []; decide), if_neg]
  rintro (e | e | e)
  · exact e (by unfold pureM WS.hello; simp [namesM, keepM])
  · refine e ?_
    show (placeM (100 + s.node), placeM (j : Int)) = wayM 1
    rw [h.node, place_rep hj]
    rfl
  · have : rightM (s.hello now j) = true := by
      have h1 := h.inc
      unfold rightM bndM okB WS.hello
      simp [namesM, intsM, inM, h.cap, h1.1, h1.2, ht.1, ht.2]
    rw [this] at e
    cases e
theorem fins_sent (h : SN s k) {id : Int} (hid : id ∈ s.done) {j : Nat} (hj : j < 5) {n : Int} (hn : (j : Int) < n) : Sent s n (s.fins j id) := by
  have hi := h.dj id hid
  refine ⟨.inr ⟨rfl, hid⟩, ?_, by show 100 + s.node = 102; rw [h.node]; rfl, rfl, hn⟩
  unfold checkM
  rw [if_neg (by show ¬ namesM 5 = []; decide), if_neg]
  rintro (e | e | e)
  · exact e (by unfold pureM WS.fins; simp [namesM, keepM])
  · refine e ?_
    show (placeM (100 + s.node), placeM (j : Int)) = wayM 5
    rw [h.node, place_rep hj]
    rfl
  · have : rightM (s.fins j id) = true := by
      have h1 := h.inc
      unfold inM at hi
      simp only [Bool.and_eq_true, decide_eq_true_eq] at hi
      unfold rightM bndM okB WS.fins
      simp [namesM, intsM, inM, h1.1, h1.2, hi.1, hi.2]
      decide
    rw [this] at e
    cases e
theorem out_sent (h : SN s k) (now n : Int) : ∀ m ∈ s.out now (min n 5).toNat, Sent s n m := by
  intro m hm
  unfold WS.out at hm
  obtain ⟨j, hj, hm⟩ := List.mem_flatMap.1 hm
  have hj := List.mem_range.1 hj
  unfold WS.says at hm
  rcases List.mem_cons.1 hm with e | e
  · subst e
    exact hello_sent h now (by omega) (by omega)
  · obtain ⟨id, hid, rfl⟩ := List.mem_map.1 e
    exact fins_sent h (List.mem_filter.1 hid).1 (by omega) (by omega)
theorem out_len (h : SN s k) (now : Int) : ∀ q, (s.out now q).length ≤ q * (k + 1)
  | 0 => by simp [WS.out]
  | q + 1 => by
    rw [WS.out_succ, List.length_append, Nat.add_mul, Nat.one_mul]
    have h1 := out_len h now q
    have h2 : (s.says now q).length ≤ k + 1 := by
      unfold WS.says
      rw [List.length_cons, List.length_map]
      exact Nat.succ_le_succ (Nat.le_trans (List.length_filter_le _ _) h.dl)
    omega
def hellos (l : List LMsg) : Nat := l.countP (fun m => m.kind == 1)
theorem hellos_succ {l : List LMsg} {j : Nat} {m : LMsg} (hm : l[j]? = some m) : hellos (l.take (j + 1)) = hellos (l.take j) + (if m.kind = 1 then 1 else 0) := by
  unfold hellos
  rw [List.take_add_one, hm, List.countP_append]
  by_cases h : m.kind = 1 <;> simp [h]
theorem hellos_le {l : List LMsg} (j : Nat) : hellos (l.take j) ≤ l.length := Nat.le_trans List.countP_le_length (List.length_take_le' _ _)
theorem hellos_out (s : WS) (now : Int) : ∀ q, hellos (s.out now q) = q
  | 0 => rfl
  | q + 1 => by
    have h1 := hellos_out s now q
    unfold hellos at h1 ⊢
    rw [WS.out_succ, List.countP_append, h1]
    unfold WS.says
    rw [List.countP_cons, List.countP_map]
    have h2 : ((fun m : LMsg => m.kind == 1) ∘ s.fins (q : Int)) = fun _ => false := by funext x; rfl
    rw [h2]
    simp [WS.hello]
theorem mem_take39 {l : List Int} {i : Nat} {z : Int} (hz : l[i]? = some z) (y : Int) : decide (y ∈ l.take (i + 1)) = (decide (y ∈ l.take i) || (y == z)) := by
  rw [List.take_add_one, hz, Bool.eq_iff_iff]
  simp only [decide_eq_true_eq, Bool.or_eq_true, beq_iff_eq, Option.toList_some, List.mem_append, List.mem_singleton]
end
structure SF (w0 wr : World) (c : Nat) (v : WV) (s : WS) : Prop where
  ob : WkAt wr c v s
  sb : ∀ k, wkS c v k → w0.heap.size ≤ k
  bel : Below w0.heap.size w0 wr
section
variable {w0 wr w' : World} {c : Nat} {v v' : WV} {s s' : WS}
theorem SF.below (h : SF w0 wr c v s) (hb : Below wr.heap.size wr w') : SF w0 w' c v s := ⟨h.ob.below hb, h.sb, h.bel.trans (hb.mono h.bel.size)⟩
theorem SF.turn (h : SF w0 wr c v s) (h1 : WkAt w' c v' s') (ht : Turned (wkS c v) (wkS c v') wr w') : SF w0 w' c v' s' := ⟨h1, ht.ge h.bel.size h.sb, h.bel.trans (ht.below h.bel.size h.sb)⟩
theorem SF.keep (h : SF w0 wr c v s) {S' : Nat → Prop} (ht : Turned (wkS c v) S' wr w') {b : Nat} {t : TypeId} {cs : Array Value} (hb : Blk wr b t cs) (h1 : t ≠ 94) : Blk w' b t cs := hb.kept ht.kept (h.ob.not_blk hb h1)
end
theorem RdI.at_ltS {w : World} {kb ko n : Nat} {l : List Int} (h : RdI w (some ⟨kb, ko, none⟩) n l) {j : Nat} (hj : j < n) : kb < w.heap.size := by
  obtain ⟨b, o, x, e, hx, hlt, hc⟩ := Rd.at_ h hj
  cases e
  exact hlt
theorem wfAct39_S {a : LAct39} (h : wfAct39 a) : wf64 a.now ∧ wf64 a.n ∧ wf64 a.msg.job := ⟨h.2.1, h.2.2.1, h.2.2.2.1.2.2.2.2.2.1⟩
/-- What a tick tells, whatever the worker is. -/
theorem wkTickS {w : World} {c k : Nat} {v : WV} {s : WS} (h : WkAt w c v s) (hN : SN s k) (hk : k ≤ 900) (now n : Int) : Calls Tryd.prog 26 #[.pointer (some ⟨c, 0, none⟩), .int .i64 now, .int .i64 n] w fun e w' =>
    ∃ (A : Option Addr) (nn cc : Nat) (L : List LMsg) (t : WS) (v' : WV), e = .returned (.slice A nn cc) ∧ OwnL encMsg 38 12 w' w.heap.size A nn cc L ∧ WkAt w' c v' t ∧ Turned (wkS c v) (wkS c v') w w' ∧ SN t (k + 1) ∧ (∀ m ∈ L, Sent t n m) ∧ L.length ≤ 5 * (k + 2) ∧ hellos L = (if t.up then (min n 5).toNat else 0) := by
  rcases Bool.eq_false_or_eq_true s.up with hu | hu
  · refine (wkTick h now n hu (by have := hN.inc; omega) (by have := hN.un; have := hN.fi; have := hN.span; omega) (by have := hN.node; omega) (by have := hN.dl; omega)).mono ?_
    rintro e w' ⟨⟨A, nn, cc, rfl, ho⟩, v', hw', ht⟩
    have hT := hN.tick now
    refine ⟨A, nn, cc, _, s.tick now, v', rfl, ho, hw', ht, hT, out_sent hT now n, ?_, ?_⟩
    · refine Nat.le_trans (out_len hT now _) (Nat.mul_le_mul_right _ ?_)
      omega
    · rw [hellos_out, tick_up, hu]
      rfl
  · refine (wkTick_down h now n hu).mono ?_
    rintro e w' ⟨rfl, rfl⟩
    refine ⟨none, 0, 0, [], s, v, rfl, OwnL.nil _ _, h, .of_below (Below.refl _ _), hN.same, by simp, by simp, ?_⟩
    rw [hu]
    rfl
/-- The document's Check of what was sent. -/
theorem scheckS {s : WS} {n : Int} {m : LMsg} (h : Sent s n m) (w : World) : Calls Tryd.prog 43 #[aggMsg m] w fun e w' => e = .returned (.int .i64 0) ∧ Below w.heap.size w w' := by
  rcases h.what with hk | ⟨hk, _⟩
  · have := scheck_k1 m hk w
    rw [h.ok] at this
    exact this
  · have := scheck_k5 m hk w
    rw [h.ok] at this
    exact this
/-- A message is read as a whole. -/
theorem loadMsg {ops : Array Oper} {rest : List Oper} {op : Oper} {a : Act} {w : World} {Q : Exit → Act → World → Prop} (hgd : op.guard = none) (x : Operand) (ho : op.op = .load 38 x) (b o : Nat) (hx : a.eval x = .pointer (some ⟨b, o, none⟩)) (m : LMsg) (hc : ∀ j v, (encMsg m)[j]? = some v → w.cell? ⟨b, o + j, none⟩ = some v) (h : wpList Tryd.prog ops Q rest (a.put op.dst (.agg (boxMsg m))) w) : wpList Tryd.prog ops Q (op :: rest) a w :=
  wpList_load_mid hgd 38 x ho b o hx (encMsg m) _ (fun j v hv => hc j v hv) Tryd.underlying38 rfl (by kernel_rfl) h
/-- A message is laid as a whole into a box just made. -/
theorem storeMsg {ops : Array Oper} {rest : List Oper} {op : Oper} {a : Act} {w : World} {Q : Exit → Act → World → Prop} (hgd : op.guard = none) (hd : op.dst = none) (x y : Operand) (ho : op.op = .store 38 x y) (c : Array Value) (m : LMsg) (hx : a.eval x = .pointer (some ⟨w.heap.size, 0, none⟩)) (hy : a.eval y = .agg (boxMsg m)) (hcs : c.size = 12) (h : wpList Tryd.prog ops Q rest a (w.alloc (.cells (boxMsg m) 38))) : wpList Tryd.prog ops Q (op :: rest) a (w.alloc (.cells c 38)) :=
  wpList_plain hgd fun K9 hK => by
    unfold Oper.wp execOp
    have hr := run_storeAt_new (P := Tryd.prog) w 38 c (boxMsg m) (by kernel_rfl) (hcs.trans rfl) (by simp [boxMsg, Value.oneCell'])
    simp only [ho, hx, hy, Sem.run_bind, Sem.run_pure, Result.andThen_ok, hr]
    have h2 : ∀ d, d = none → K9 (a.put d undef) (w.alloc (.cells (boxMsg m) 38)) := fun d e => by subst e; exact hK _ _ h
    exact h2 _ hd


theorem actMsg39 (a : LAct39) : ∀ (j : Nat) (v : Value), (encMsg a.msg)[j]? = some v → (boxAct39 a)[3 + j]? = some v := by
  intro j v h
  have hj : j < 12 := by
    have := (List.getElem?_eq_some_iff.1 h).1
    simpa [encMsg] using this
  obtain rfl | rfl | rfl | rfl | rfl | rfl | rfl | rfl | rfl | rfl | rfl | rfl : j = 0 ∨ j = 1 ∨ j = 2 ∨ j = 3 ∨ j = 4 ∨ j = 5 ∨ j = 6 ∨ j = 7 ∨ j = 8 ∨ j = 9 ∨ j = 10 ∨ j = 11 := by omega
  all_goals exact h
theorem flagT {t : WS} {m : LMsg} {i : Nat} {b : Bool} (hst : decide (m.job ∈ t.done.take (i + 1)) = (decide (m.job ∈ t.done.take i) || b)) (hd : (m.kind == 1 || (m.kind == 5 && decide (m.job ∈ t.done.take i))) = true) : (m.kind == 1 || (m.kind == 5 && decide (m.job ∈ t.done.take (i + 1)))) = true := by
  rw [hst]
  revert hd
  cases (m.kind == 1) <;> cases (m.kind == 5) <;> cases decide (m.job ∈ t.done.take i) <;> cases b <;> simp
theorem flagC {t : WS} {m : LMsg} {i : Nat} {b : Bool} (hst : decide (m.job ∈ t.done.take (i + 1)) = (decide (m.job ∈ t.done.take i) || b)) (hd : (m.kind == 1 || (m.kind == 5 && decide (m.job ∈ t.done.take i))) = false) (h5 : (m.kind == 5) = true) : (m.kind == 1 || (m.kind == 5 && decide (m.job ∈ t.done.take (i + 1)))) = b := by
  rw [hst]
  revert hd h5
  cases (m.kind == 1) <;> cases (m.kind == 5) <;> cases decide (m.job ∈ t.done.take i) <;> cases b <;> simp
theorem flagN {t : WS} {m : LMsg} {i : Nat} (hd : (m.kind == 1 || (m.kind == 5 && decide (m.job ∈ t.done.take i))) = false) (h5 : (m.kind == 5) = false) : (m.kind == 1 || (m.kind == 5 && decide (m.job ∈ t.done.take (i + 1)))) = false := by
  rw [h5] at hd ⊢
  simpa using hd
theorem flagA {t : WS} {n : Int} {m : LMsg} {i : Nat} (h : Sent t n m) (hi : t.done.length ≤ i) : (m.kind == 1 || (m.kind == 5 && decide (m.job ∈ t.done.take i))) = true := by
  rw [List.take_of_length_le hi]
  rcases h.what with e | ⟨e, hm⟩
  · simp [e]
  · simp [e, hm]
set_option maxRecDepth 100000 in
set_option maxHeartbeats 12800000 in
theorem speaks39 (A : Option Addr) (n c0 : Nat) (l : List LAct39) (w : World) (h : Rd encAct39 18 w A n l) (hw : ∀ a ∈ l, wfAct39 a) (hwy : WaysAt w) :
    Calls Tryd.prog 7 #[.slice A n c0] w fun e w' => e = .returned (.bool true) ∧ Below w.heap.size w w' := by
  by_cases hb1 : 100 < n
  · go_enter Tryd.func7, Tryd.ntmps7
    go_wp2_with (go_at_call 22; with_reducible refine (awake39 _ hwy).mono ?_; rintro e w' ⟨rfl, hb⟩)
    go_ret
    exact ⟨rfl, hb⟩
  have hn : n ≤ 100 := by omega
  have Hh := Lib.hid (And.intro h (And.intro hw hwy))
  clear hb1 h hw hwy
  go_enter Tryd.func7, Tryd.ntmps7
  have hcx := wkNew (w := w) 2 6 ⟨9, 9, 9⟩ (by decide) (by decide) (by decide)
  go_wp2_with fail
  (with_reducible refine hcx.mono ?_)
  clear hcx
  rintro e w1 ⟨c, v, rfl, hw1, hs, hb⟩
  have HQ0 : Hid (SF w w1 c v (WS.made 2 6 ⟨9, 9, 9⟩)) := Lib.hid ⟨hw1, hs, hb⟩
  clear hw1 hs hb
  go_wp2
  go_loopw [5] (fun i wr => ∃ (k : Nat) (s : WS) (v : WV), k ≤ n ∧ i = .int .i64 k ∧ SF w wr c v s ∧ SN s k) (fun i _ => n - (intOf i).toNat)
  case atStart => exact ⟨0, _, v, Nat.zero_le _, rfl, HQ0.out, SN.start⟩
  case round =>
    clear HQ0
    obtain ⟨k, s, v, hk, rfl, hQ, hN⟩ := hrel
    by_cases hlt : k < n
    · obtain ⟨ab, ao, a, rfl, haa, hal, hcells⟩ := (Hh.out.1.below hQ.bel).at_ hlt
      have hwa := wfAct39_S (Hh.out.2.1 a (List.mem_of_getElem? haa))
      have HQ := Lib.hid (And.intro hQ hN)
      have HCE := Lib.hid hcells
      have HW := Lib.hid hwa
      have hk9 : k ≤ 900 := by omega
      clear haa hwa hQ hN hcells
      go_upto_block 1 with fail
      go_cut [6, 7, 8, 9, 10, 11, 12, 13, 14, 15, 16, 17] from 33 to 160 (fun _ _ _ _ _ _ _ _ _ _ _ _ wx => ∃ (s2 : WS) (v2 : WV), SF w wx c v2 s2 ∧ SN s2 (k + 1))
      case first =>
        have hcells := HCE.out
        have hba := Blk.new wr 62 (boxAct39 a)
        have hBA : Below wr.heap.size wr (wr.alloc (.cells (boxAct39 a) 62)) := (Below.refl _ _).alloc (Nat.le_refl _) _
        have H3 := Lib.hid (And.intro (HQ.out.1.below hBA) hba)
        have HN := Lib.hid HQ.out.2
        clear hba hBA HQ
        go_upto_region 10 with (first | (refine load39 rfl (.tmp 41) rfl ab (ao + k * 18) rfl a hcells ?_) | (refine store39 rfl rfl (.tmp 6) (.tmp 42) rfl _ a rfl rfl rfl ?_))
        generalize (wr.alloc (.cells (boxAct39 a) 62)) = w3 at H3 ⊢
        obtain ⟨ba, hba⟩ : ∃ ba, wr.heap.size = ba := ⟨_, rfl⟩
        rw [hba] at H3
        try rw [hba]
        clear hba hal hcells
        have e0 : w3.cell? ⟨ba, 0, none⟩ = some (.int .i64 a.kind) := (H3.out.2.cell 0).trans rfl
        have el := H3.out.2.lt
        go_upto_block 2 with fail
        clear e0 el
        by_cases hk1 : a.kind = 1
        · have t1 : (a.kind == 1) = true := by simp [hk1]
          clear hk1
          as_aux_lemma =>
            have e1 : w3.cell? ⟨ba, 1, none⟩ = some (.int .i64 a.now) := (H3.out.2.cell 1).trans rfl
            have e2 : w3.cell? ⟨ba, 2, none⟩ = some (.int .i64 a.n) := (H3.out.2.cell 2).trans rfl
            have el := H3.out.2.lt
            have hcx := wkTickS H3.out.1.ob HN.out hk9 a.now a.n
            go_wp2_with fail
            (with_reducible refine hcx.mono ?_)
            clear hcx e1 e2 el
            rintro e w5 ⟨A, nn, cc, L, t, v5, rfl, hoL, hw5, ht5, hT, hS, hlen, hhel⟩
            have H5 := Lib.hid (And.intro (H3.out.1.turn hw5 ht5) (H3.out.1.keep ht5 H3.out.2 (by decide)))
            have HL5 := Lib.hid (hoL.rd (enc := encMsg) (sz := 12) (fun _ => rfl))
            have HT := Lib.hid (And.intro hT (And.intro hS hhel))
            have hnn : nn ≤ 505 := by have := HL5.out.len; omega
            clear hw5 ht5 hoL hT hS hlen hhel H3 HN
            have hcx := wkInfo H5.out.1.ob (by rw [HT.out.1.span]; decide)
            go_wp2_with fail
            (with_reducible refine hcx.mono ?_)
            clear hcx
            rintro e w6 ⟨rfl, hb6⟩
            have H6 := Lib.hid (And.intro (H5.out.1.below hb6) (And.intro (H5.out.2.below hb6 H5.out.2.lt) (HL5.out.below hb6)))
            clear hb6 H5 HL5
            have hcx := wkDone H6.out.1.ob (by have := HT.out.1.dl; omega)
            go_wp2_with fail
            (with_reducible refine hcx.mono ?_)
            clear hcx
            rintro e w7 ⟨B, bn, bc, rfl, ho7, hb7⟩
            have H7 := Lib.hid (And.intro (H6.out.1.below hb7) (And.intro (H6.out.2.1.below hb7 H6.out.2.1.lt) (And.intro (H6.out.2.2.below hb7) (ho7.rd (enc := encI) (sz := 1) (fun _ => rfl)))))
            have hbn : bn ≤ 1000 := by have := H7.out.2.2.2.len; have := HT.out.1.dl; omega
            clear hb7 ho7 H6
            go_wp2_with fail
            go_loopw [12, 13] (fun xh xi wx => ∃ j : Nat, j ≤ nn ∧ xi = .int .i64 j ∧ xh = .int .i64 (hellos (L.take j)) ∧ Below w7.heap.size w7 wx) (fun _ xi _ => nn - (intOf xi).toNat)
            case atStart => exact ⟨0, Nat.zero_le _, rfl, rfl, Below.refl _ _⟩
            case round =>
              obtain ⟨j, hj, rfl, rfl, hbj⟩ := hrel
              by_cases hjn : j < nn
              · obtain ⟨mb, mo, m, rfl, hm, hml, hmc⟩ := (H7.out.2.2.1.below hbj).at_ hjn
                have hbm := Blk.new wr 38 (boxMsg m)
                have hBM : Below w7.heap.size w7 (wr.alloc (.cells (boxMsg m) 38)) := hbj.trans (((Below.refl _ _).alloc (Nat.le_refl _) _).mono hbj.size)
                have HM := Lib.hid (And.intro hBM hbm)
                have HS := Lib.hid (And.intro (HT.out.2.1 m (List.mem_of_getElem? hm)) (hellos_succ hm))
                have hhb : hellos (L.take j) ≤ 505 := by have := hellos_le (l := L) j; have := H7.out.2.2.1.len; omega
                clear hm hbm hBM hbj
                go_upto_region 21 with (first | (refine loadMsg rfl (.tmp 71) rfl mb (mo + j * 12) rfl m hmc ?_) | (refine storeMsg rfl rfl (.tmp 14) (.tmp 72) rfl _ m rfl rfl rfl ?_))
                generalize (wr.alloc (.cells (boxMsg m) 38)) = wB at HM ⊢
                obtain ⟨bm, hbm⟩ : ∃ bm, wr.heap.size = bm := ⟨_, rfl⟩
                rw [hbm] at HM
                try rw [hbm]
                clear hbm hml hmc
                have m0 : wB.cell? ⟨bm, 0, none⟩ = some (.int .i64 m.kind) := (HM.out.2.cell 0).trans rfl
                have ml := HM.out.2.lt
                go_upto_if 76 with (fail)
                clear m0 ml
                go_cut [12] from 76 to 78 (fun x12 wy => x12 = .int .i64 (hellos (L.take (j + 1)) : Nat) ∧ wy = wB)
                case first =>
                  by_cases hk1 : m.kind = 1
                  · have t1 : (m.kind == 1) = true := by simp [hk1]
                    have hsu := HS.out.2
                    rw [if_pos hk1] at hsu
                    clear hk1
                    go_wp2_with fail
                    go_meet
                    exact ⟨by rw [hsu]; go_num, rfl⟩
                  · have t1 : (m.kind == 1) = false := by simp [hk1]
                    have hsu := HS.out.2
                    rw [if_neg hk1] at hsu
                    clear hk1
                    go_wp2_with fail
                    go_meet
                    exact ⟨by rw [hsu]; rfl, rfl⟩
                case rest =>
                  obtain ⟨rfl, hwB⟩ := hcut
                  replace hwB := hwB.symm
                  subst hwB
                  go_wp2_with fail
                  go_loopw [15, 16] (fun xf xi wz => ∃ i : Nat, i ≤ bn ∧ xi = .int .i64 i ∧ xf = .bool (m.kind == 1 || (m.kind == 5 && decide (m.job ∈ t.done.take i))) ∧ Below wB.heap.size wB wz) (fun _ xi _ => bn - (intOf xi).toNat)
                  case atStart => exact ⟨0, Nat.zero_le _, rfl, by simp, Below.refl _ _⟩
                  case round =>
                    obtain ⟨i, hi, rfl, rfl, hbi⟩ := hrel
                    by_cases hin : i < bn
                    · obtain ⟨tb, tof, z, hAe, hz, hcz⟩ := RdI.at_ (H7.out.2.2.2.below HM.out.1) hin
                      have hyp := Lib.hid (H7.out.2.2.2.below HM.out.1)
                      rw [hAe] at hyp
                      have hcz2 := (hbi.cell (p := ⟨tb, tof + i, none⟩) (RdI.at_ltS hyp.out hin)).trans hcz
                      have hltz := Nat.lt_of_lt_of_le (RdI.at_ltS hyp.out hin) hbi.size
                      clear hyp hcz
                      have hst := mem_take39 hz m.job
                      have m0 : wr.cell? ⟨bm, 0, none⟩ = some (.int .i64 m.kind) := ((HM.out.2.below hbi HM.out.2.lt).cell 0).trans rfl
                      have m5 : wr.cell? ⟨bm, 5, none⟩ = some (.int .i64 m.job) := ((HM.out.2.below hbi HM.out.2.lt).cell 5).trans rfl
                      have ml := (HM.out.2.below hbi HM.out.2.lt).lt
                      have HB := Lib.hid (And.intro hbi hst)
                      rw [hAe]
                      clear hbi hst hz
                      rcases Bool.eq_false_or_eq_true (m.kind == 1 || (m.kind == 5 && decide (m.job ∈ t.done.take i))) with hd | hd
                      · have HD := Lib.hid hd
                        rw [hd]
                        clear hd
                        go_wp2_with fail
                        go_quiet (fail)
                        have HB2 := Lib.hid (HB.out.1.trans (below_dN nq))
                        have hst := HB.out.2
                        clear hcz2 m0 m5 HB
                        go_wp2_with fail
                        go_roundw
                        case rel => exact ⟨i + 1, by omega, by go_num, congrArg Value.bool (flagT hst HD.out).symm, HB2.out⟩
                        case measure => simp [intOf]; omega
                      · have HD := Lib.hid hd
                        rw [hd]
                        clear hd
                        rcases Bool.eq_false_or_eq_true (m.kind == 5) with t5 | t5
                        · have HT5 := Lib.hid t5
                          go_wp2_with fail
                          go_quiet (fail)
                          have HB2 := Lib.hid (HB.out.1.trans (below_dN nq))
                          have hst := HB.out.2
                          clear hcz2 m0 m5 HB
                          go_wp2_with fail
                          go_roundw
                          case rel => exact ⟨i + 1, by omega, by go_num, congrArg Value.bool (flagC hst HD.out HT5.out).symm, HB2.out⟩
                          case measure => simp [intOf]; omega
                        · have HT5 := Lib.hid t5
                          go_wp2_with fail
                          go_quiet (fail)
                          have HB2 := Lib.hid (HB.out.1.trans (below_dN nq))
                          have hst := HB.out.2
                          clear hcz2 m0 m5 HB
                          go_wp2_with fail
                          go_roundw
                          case rel => exact ⟨i + 1, by omega, by go_num, congrArg Value.bool (flagN HD.out HT5.out).symm, HB2.out⟩
                          case measure => simp [intOf]; omega
                    · obtain rfl : i = bn := by omega
                      have hall : (m.kind == 1 || (m.kind == 5 && decide (m.job ∈ t.done.take i))) = true := flagA HS.out.1 (by have := H7.out.2.2.2.len; omega)
                      rw [hall]
                      have HMx := Lib.hid (HM.out.2.below hbi HM.out.2.lt)
                      have HBx := Lib.hid (HM.out.1.trans (hbi.mono HM.out.1.size))
                      clear hall hin hbi HM
                      have hcx := scheckS HS.out.1 wr
                      obtain ⟨m0, m1, m2, m3, m4, m5, m6, m7, m8, m9, m10, m11⟩ := msgCells HMx.out
                      have ml := HMx.out.lt
                      go_wp2_with fail
                      (with_reducible refine hcx.mono ?_)
                      clear hcx ml m0 m1 m2 m3 m4 m5 m6 m7 m8 m9 m10 m11
                      rintro e w9 ⟨rfl, hb9⟩
                      have HM9 := Lib.hid (HMx.out.below hb9 HMx.out.lt)
                      have HB9 := Lib.hid (HBx.out.trans (hb9.mono HBx.out.size))
                      have HA9 := Lib.hid (H7.out.2.1.below HB9.out H7.out.2.1.lt)
                      clear hb9 HMx HBx
                      have m1 : w9.cell? ⟨bm, 1, none⟩ = some (.int .i64 102) := (HM9.out.cell 1).trans (congrArg (fun x => some (Value.int .i64 x)) HS.out.1.frm)
                      have m4 : w9.cell? ⟨bm, 4, none⟩ = some (.int .i64 t.inc) := (HM9.out.cell 4).trans (congrArg (fun x => some (Value.int .i64 x)) HS.out.1.inc)
                      have m2 : w9.cell? ⟨bm, 2, none⟩ = some (.int .i64 m.to_) := (HM9.out.cell 2).trans rfl
                      have ml := HM9.out.lt
                      have e2 : w9.cell? ⟨ba, 2, none⟩ = some (.int .i64 a.n) := (HA9.out.cell 2).trans rfl
                      have el := HA9.out.lt
                      have t2 : decide (a.n ≤ m.to_) = false := decide_eq_false (by have := HS.out.1.to_; omega)
                      have t3 : (t.inc != t.inc) = false := by simp
                      go_wp2_with fail
                      clear m1 m2 m4 ml e2 el t2 t3
                      go_roundw
                      case rel => exact ⟨j + 1, by omega, by go_num, rfl, HB9.out⟩
                      case measure => simp [intOf]; omega
              · have hjn2 : j = nn := by omega
                subst hjn2
                have H8 := Lib.hid (And.intro (H7.out.1.below hbj) (H7.out.2.1.below hbj H7.out.2.1.lt))
                have hhel := HT.out.2.2
                have hht : L.take j = L := List.take_of_length_le (by have := H7.out.2.2.1.len; omega)
                rw [hht]
                clear hht hbj H7 hjn
                have e2 : wr.cell? ⟨ba, 2, none⟩ = some (.int .i64 a.n) := (H8.out.2.cell 2).trans rfl
                have el := H8.out.2.lt
                have hcx := wkUp H8.out.1.ob
                go_wp2_with fail
                (with_reducible refine hcx.mono ?_)
                clear hcx e2 el
                rintro e w9 ⟨rfl, hw9⟩
                subst hw9
                rcases Bool.eq_false_or_eq_true t.up with hu | hu
                · rw [hu] at hhel ⊢
                  have hh2 : (hellos L : Int) = max (min a.n 5) 0 := by rw [hhel, if_pos rfl]; omega
                  have HE := Lib.hid hh2
                  rw [hh2]
                  clear hu hhel hh2
                  have t6 : (max (min a.n 5) 0 != max (min a.n 5) 0) = false := by simp
                  go_wp2_with fail
                  go_meet
                  exact ⟨t, v5, H8.out.1, HT.out.1⟩
                · rw [hu] at hhel ⊢
                  have hh2 : (hellos L : Int) = 0 := by rw [hhel]; rfl
                  rw [hh2]
                  clear hu hhel hh2
                  go_wp2_with fail
                  go_meet
                  exact ⟨t, v5, H8.out.1, HT.out.1⟩
        · have t1 : (a.kind == 1) = false := by simp [hk1]
          clear hk1
          by_cases hk2 : a.kind = 2
          · have t2 : (a.kind == 2) = true := by simp [hk2]
            clear hk2
            as_aux_lemma =>
              have e1 : w3.cell? ⟨ba, 1, none⟩ = some (.int .i64 a.now) := (H3.out.2.cell 1).trans rfl
              have el := H3.out.2.lt
              have hcm : ∀ j v, (encMsg a.msg)[j]? = some v → w3.cell? ⟨ba, 3 + j, none⟩ = some v := fun j v hv => (H3.out.2.cell (3 + j)).trans (actMsg39 a j v hv)
              have hcx := wkHear H3.out.1.ob (Hh.out.2.2.below H3.out.1.bel) (by have := HN.out.node; omega) a.now a.msg HW.out.2.2 HW.out.1 (by have := HN.out.hl; omega) (by have := HN.out.tl; omega)
              go_wp2_with (refine loadMsg rfl (.tmp 140) rfl ba 3 rfl a.msg hcm ?_)
              (with_reducible refine hcx.mono ?_)
              clear hcx hcm e1 el
              rintro e w5 ⟨rfl, v5, hw5, ht5⟩
              have HF := Lib.hid (H3.out.1.turn hw5 ht5)
              clear hw5 ht5
              go_wp2_with fail
              go_meet
              exact ⟨_, v5, HF.out, HN.out.hear _ _⟩
          · have t2 : (a.kind == 2) = false := by simp [hk2]
            clear hk2
            by_cases hk3 : a.kind = 3
            · have t3 : (a.kind == 3) = true := by simp [hk3]
              clear hk3
              as_aux_lemma =>
                have e1 : w3.cell? ⟨ba, 1, none⟩ = some (.int .i64 a.now) := (H3.out.2.cell 1).trans rfl
                have e2 : w3.cell? ⟨ba, 2, none⟩ = some (.int .i64 a.n) := (H3.out.2.cell 2).trans rfl
                have el := H3.out.2.lt
                rcases Bool.eq_false_or_eq_true (s.live a.now) with hl | hl
                · by_cases hin : a.n ∈ s.held
                  · have hcx := wkFinish_yes H3.out.1.ob a.now a.n hl HW.out.2.1 HW.out.1 hin (by have := HN.out.dl; omega)
                    go_wp2_with fail
                    (with_reducible refine hcx.mono ?_)
                    clear hcx e1 e2 el
                    rintro e w5 ⟨rfl, v5, hw5, ht5⟩
                    have HF := Lib.hid (H3.out.1.turn hw5 ht5)
                    clear hw5 ht5
                    go_wp2_with fail
                    go_meet
                    exact ⟨s.fin a.n, v5, HF.out, HN.out.fin hin⟩
                  · have hcx := wkFinish_no H3.out.1.ob a.now a.n hl HW.out.2.1 hin
                    go_wp2_with fail
                    (with_reducible refine hcx.mono ?_)
                    clear hcx e1 e2 el
                    rintro e w5 ⟨rfl, hw5⟩
                    have HF := Lib.hid H3.out.1
                    rw [← hw5] at HF
                    clear hw5
                    go_wp2_with fail
                    go_meet
                    exact ⟨s, v, HF.out, HN.out.same⟩
                · have hcx := wkFinish_dead H3.out.1.ob a.now a.n hl
                  go_wp2_with fail
                  (with_reducible refine hcx.mono ?_)
                  clear hcx e1 e2 el
                  rintro e w5 ⟨rfl, hw5⟩
                  have HF := Lib.hid H3.out.1
                  rw [← hw5] at HF
                  clear hw5
                  go_wp2_with fail
                  go_meet
                  exact ⟨s, v, HF.out, HN.out.same⟩
            · have t3 : (a.kind == 3) = false := by simp [hk3]
              clear hk3
              by_cases hk4 : a.kind = 4
              · have t4 : (a.kind == 4) = true := by simp [hk4]
                clear hk4
                as_aux_lemma =>
                  have e15 : w3.cell? ⟨ba, 15, none⟩ = some (.int .i64 a.res.a) := (H3.out.2.cell 15).trans rfl
                  have e16 : w3.cell? ⟨ba, 16, none⟩ = some (.int .i64 a.res.b) := (H3.out.2.cell 16).trans rfl
                  have e17 : w3.cell? ⟨ba, 17, none⟩ = some (.int .i64 a.res.c) := (H3.out.2.cell 17).trans rfl
                  have el := H3.out.2.lt
                  rcases Bool.eq_false_or_eq_true (rightR a.res) with hr | hr
                  · have hcx := wkResize_yes H3.out.1.ob (by rw [HN.out.span]; decide) a.res hr
                    go_wp2_with fail
                    (with_reducible refine hcx.mono ?_)
                    clear hcx e15 e16 e17 el
                    rintro e w5 ⟨rfl, v5, hw5, ht5⟩
                    have HF := Lib.hid (H3.out.1.turn hw5 ht5)
                    clear hw5 ht5
                    go_wp2_with fail
                    go_meet
                    exact ⟨_, v5, HF.out, HN.out.size hr⟩
                  · have hcx := wkResize_no H3.out.1.ob (by rw [HN.out.span]; decide) a.res hr
                    go_wp2_with fail
                    (with_reducible refine hcx.mono ?_)
                    clear hcx e15 e16 e17 el
                    rintro e w5 ⟨rfl, v5, hw5, ht5⟩
                    have HF := Lib.hid (H3.out.1.turn hw5 ht5)
                    clear hw5 ht5
                    go_wp2_with fail
                    go_meet
                    exact ⟨_, v5, HF.out, HN.out.same⟩
              · have t4 : (a.kind == 4) = false := by simp [hk4]
                clear hk4
                by_cases hk5 : a.kind = 5
                · have t5 : (a.kind == 5) = true := by simp [hk5]
                  clear hk5
                  as_aux_lemma =>
                    have hcx := wkCrash H3.out.1.ob
                    rcases Bool.eq_false_or_eq_true s.up with hu | hu
                    · rw [hu] at hcx
                      go_wp2_with fail
                      (with_reducible refine hcx.mono ?_)
                      clear hcx
                      rintro e w5 ⟨rfl, v5, hw5, ht5⟩
                      simp only [Bool.false_eq_true, if_true, if_false] at hw5
                      have HF := Lib.hid (H3.out.1.turn hw5 ht5)
                      clear hw5 ht5
                      go_wp2_with fail
                      go_meet
                      exact ⟨s.crash, v5, HF.out, HN.out.crash⟩
                    · rw [hu] at hcx
                      go_wp2_with fail
                      (with_reducible refine hcx.mono ?_)
                      clear hcx
                      rintro e w5 ⟨rfl, v5, hw5, ht5⟩
                      simp only [Bool.false_eq_true, if_true, if_false] at hw5
                      have HF := Lib.hid (H3.out.1.turn hw5 ht5)
                      clear hw5 ht5
                      go_wp2_with fail
                      go_meet
                      exact ⟨s, v5, HF.out, HN.out.same⟩
                · have t5 : (a.kind == 5) = false := by simp [hk5]
                  clear hk5
                  as_aux_lemma =>
                    have hcx := wkBoot H3.out.1.ob (by rw [HN.out.span]; decide) (by have := HN.out.inc; omega)
                    rcases Bool.eq_false_or_eq_true s.up with hu | hu
                    · rw [hu] at hcx
                      go_wp2_with fail
                      (with_reducible refine hcx.mono ?_)
                      clear hcx
                      rintro e w5 ⟨rfl, v5, hw5, ht5⟩
                      simp only [Bool.false_eq_true, if_true, if_false] at hw5
                      have HF := Lib.hid (H3.out.1.turn hw5 ht5)
                      clear hw5 ht5
                      go_wp2_with fail
                      go_meet
                      exact ⟨s, v5, HF.out, HN.out.same⟩
                    · rw [hu] at hcx
                      go_wp2_with fail
                      (with_reducible refine hcx.mono ?_)
                      clear hcx
                      rintro e w5 ⟨rfl, v5, hw5, ht5⟩
                      simp only [Bool.false_eq_true, if_true, if_false] at hw5
                      have HF := Lib.hid (H3.out.1.turn hw5 ht5)
                      clear hw5 ht5
                      go_wp2_with fail
                      go_meet
                      exact ⟨s.boot, v5, HF.out, HN.out.boot⟩
      case rest =>
        as_aux_lemma =>
          obtain ⟨s2, v2, hq, hn2⟩ := hcut
          have HF := Lib.hid (And.intro hq hn2)
          clear hq hn2 HQ HW HCE
          go_wp2_with fail
          go_roundw
          case rel => exact ⟨k + 1, s2, v2, by omega, by go_num, HF.out.1, HF.out.2⟩
          case measure => simp [intOf]; omega
    · as_aux_lemma =>
        have hkn : k = n := by omega
        subst hkn
        have HF := Lib.hid hQ.bel
        clear hQ hN
        go_wp2_with fail
        (with_reducible refine (awake39 _ (Hh.out.2.2.below HF.out)).mono ?_)
        rintro e w6 ⟨rfl, hb6⟩
        have HE := Lib.hid (HF.out.trans (hb6.mono HF.out.size))
        clear hb6
        go_wp2
        go_ret
        exact ⟨rfl, HE.out⟩
end Go.Proofs.YthhnocnkicoimaaDoor
