/-
  LAYER 12 (dirty): Len.
-/
import Derived.Test.YtcafmodenbifhaaDirty
set_option linter.unusedVariables false
set_option linter.unusedSimpArgs false
namespace Go.Proofs.Ytcafmodenbifhaa
open Go.RowKit Go.Maps

set_option maxHeartbeats 400000 in
/-- (*dirty.Set).Len -/
theorem dLen (s o : Nat) (t : TypeId) (cs : Array Value) (mv : Value) (row : List Int) (w : World) (hb : Blk w s t cs) (ho : cs[o]? = some mv) (hs : MapSet w mv row) :
    Calls Try.prog 40 #[.pointer (some ⟨s, o, none⟩)] w fun e w' => e = .returned (.int .i64 row.length) ∧ w = w' := by
  have hc : w.cell? ⟨s, o, none⟩ = some mv := (hb.cell o).trans ho
  have hrun := fun ty => hs.len ty
  obtain ⟨r, rfl⟩ := hs.shape
  clear ho
  go_enter Try.func40, Try.ntmps40
  go_wp2
  go_ret
  exact ⟨rfl, rfl⟩
theorem dLen_nil (w : World) : Calls Try.prog 40 #[.pointer none] w fun e w' => e = .returned (.int .i64 0) ∧ w = w' := by
  go_enter Try.func40, Try.ntmps40
  go_wp2
  go_ret
  exact ⟨rfl, rfl⟩

end Go.Proofs.Ytcafmodenbifhaa
