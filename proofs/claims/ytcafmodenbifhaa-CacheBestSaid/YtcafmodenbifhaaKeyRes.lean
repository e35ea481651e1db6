/-
  api.Res as a map's key: its law, its literal.
-/
import Derived.Test.YtcafmodenbifhaaSetL
import Derived.Test.YtcafmodenbifhaaTRes
import Derived.DeepKeys4
set_option linter.unusedVariables false
set_option linter.unusedSimpArgs false
namespace Go.Proofs.Ytcafmodenbifhaa
open Go.RowKit Go.Maps

theorem laidOutRes : laidOutB Try.prog = true := by kernel_rfl
theorem rowRes : 53 < Try.prog.types.size := of_decide_eq_true (by kernel_rfl)
theorem wideRes : (match Try.prog.underlying 53 with | some (.array _ _) | some (.struct _) => true | _ => false) = true := by rw [Try.underlying53]
theorem keyAtRes : Try.prog.keyTypeAt 2 53 = true := by kernel_rfl
set_option maxRecDepth 100000 in
theorem lawRes : Keyed Try.prog 53 := Keyed.of_law (deep_law_laid laidOutRes (m := 2) (by omega) rowRes keyAtRes wideRes)
theorem keyTypeRes : Try.prog.keyType 53 = true := by kernel_rfl
def litR (r : LRes) : Lit := .string (keyBytes [.int .i64 r.a, .int .i64 r.b, .int .i64 r.c])
theorem keyRes {r : LRes} (h : wfRes r) : keyOf Try.prog 53 (aggRes r) = some (litR r) := by
  have hc : Try.prog.cellsOf 53 = 3 := by kernel_rfl
  have hc1 : Try.prog.cellsOf 3 = 1 := by kernel_rfl
  have hf : (aggRes r).formed Try.prog 53 = true := by simp [Value.formed, Try.underlying53, hc]
  obtain ⟨m, hm⟩ : ∃ m, Try.prog.types.size + 1 = m + 2 := ⟨Try.prog.types.size - 1, by have := rowRes; omega⟩
  obtain ⟨h1, h2, h3⟩ := h
  unfold wf64 at h1 h2 h3
  have hk : Try.prog.keyLits (m + 2) 53 [.int .i64 r.a, .int .i64 r.b, .int .i64 r.c] = some [.int .i64 r.a, .int .i64 r.b, .int .i64 r.c] := by
    simp only [Program.keyLits, Try.underlying53, Try.underlying3, hc, hc1]
    simp [show List.range 3 = [0, 1, 2] from rfl, Program.keyLits, Try.underlying3, h1, h2, h3]
  unfold keyOf
  rw [Try.underlying53]
  simp only [keyTypeRes, hf, Bool.and_self, if_true]
  rw [hm]
  show (Program.keyLits _ _ _ [.int .i64 r.a, .int .i64 r.b, .int .i64 r.c]).map _ = _
  rw [hk]
  rfl
theorem litR_inj {a b : LRes} (ha : wfRes a) (hb : wfRes b) (h : litR a = litR b) : a = b := by
  have h2 := lawRes.inj (keyRes ha) (by rw [h]; exact keyRes hb)
  have h3 : #[Value.int .i64 a.a, .int .i64 a.b, .int .i64 a.c] = #[Value.int .i64 b.a, .int .i64 b.b, .int .i64 b.c] := Value.agg.inj h2
  simp at h3
  cases a; cases b
  simp_all
theorem isKeyRes (r : LRes) : WideAt.IsKeyLit (litR r) := by simp [litR, WideAt.IsKeyLit]

end Go.Proofs.Ytcafmodenbifhaa
