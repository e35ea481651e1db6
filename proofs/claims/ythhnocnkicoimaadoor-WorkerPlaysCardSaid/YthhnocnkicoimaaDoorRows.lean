/-
  NARROWER THAN 'FOR EVERY INPUT', by the rows' own cells (each row's printed sentence says how): ClientPlays: laid · ClientKnows: laid · WorkerFenced: laid · WorkerPlays: laid · WorkerSpeaks: laid.
  DERIVED. THE GIVEN ROWS OF THIS SEAT. 5 by the template 'for every input the law returns true; each argument reads behind the call as it read before'; 0 by the template 'total and deterministic' (their statements: YthhnocnkicoimaaDoorTotals.lean).
  GIVEN WITH THE SEED: the statements are not yours to turn. If you find one false, say at which input.
  Laid BY PROGRAM, IN A SANDBOX (cutbox-rows.mjs): the forced cells as the released guide's own fill.sh prints them over the translation 9412cdc3859c5611… (all of the seat's roots in one cut). By AI agents, Wed Nov 11 2026. No macro, syntax, notation, axiom, sorry.
-/
import Derived.Test.YthhnocnkicoimaaDoorChecked
import GoSem.Claim
import GoSem.ClaimJoined
import GoSem.ClaimMapViews
import Derived.JoinedTies
import Derived.KernelRfl
namespace Go.Proofs.YthhnocnkicoimaaDoor
/- THE CELL 'sum', in the pinned program and in every row, IS THE sha256 OF THE DUMP (.gsa) THAT YthhnocnkicoimaaDoorProg.lean LOADS. Nothing in Lean hashes anything: it is a label: what it is worth is what the hold of that sum in a sandbox is worth. -/
noncomputable def Tryd.pinned : Pinned := { name := "ythhnocnkicoimaadoor", sum := "9412cdc3859c5611fcf3a6a180545dd706021e80df668d91e662d04b511d2ccc", checked := Tryd.checked }
namespace Rows
def none {H : Type} : Left H := { results := [], args := [] }

/- WHAT THE LISTED PACKAGE-LEVEL VARIABLES READ AS WHEN THE CALL BEGINS. Each datum BY PROGRAM (the guide's laid-datum.mjs) off the statement by which the dump's own 'gosem.cut.vars' lays the variable. In a bare row this is a premise. The card (YthhnocnkicoimaaDoorCards.lean) ties it to the program's text. -/
def laid_reeve_msg_ways {H : Type} : DataW H := .agg [.agg [.lit (.int .i64 2), .lit (.int .i64 1)], .agg [.lit (.int .i64 1), .lit (.int .i64 2)], .agg [.lit (.int .i64 1), .lit (.int .i64 2)], .agg [.lit (.int .i64 1), .lit (.int .i64 2)], .agg [.lit (.int .i64 2), .lit (.int .i64 1)], .agg [.lit (.int .i64 3), .lit (.int .i64 1)], .agg [.lit (.int .i64 3), .lit (.int .i64 1)], .agg [.lit (.int .i64 1), .lit (.int .i64 3)]]

/-- 'reevelaw41.ClientPlays': WHATEVER THE INPUT: true; the input reads as it did. -/
def clientPlaysSpec : ChangeSpec := { name := "clientPlays", fn := fun _ => fun
  | [d] => { results := [.lit (.bool true)], args := [d] }
  | _ => none }
def clientPlaysRow : OpenClaim := { program := "ythhnocnkicoimaadoor", sum := "9412cdc3859c5611fcf3a6a180545dd706021e80df668d91e662d04b511d2ccc", func := "reeve/reevelaw41.ClientPlays", spec := "clientPlays", unfollowed := true, recurses := true, named := ["reeve/msg.ways"], apart := false, laid := [("reeve/msg.ways", laid_reeve_msg_ways)] }
def ClientPlaysSaid : Prop := clientPlaysRow.holds Tryd.pinned (OpenSpec.ofChange clientPlaysSpec)

/-- ITS FALSE NEIGHBOUR: 'it returns false'. Refute it at one input. -/
def clientPlaysWrong : ChangeSpec := { name := "clientPlays", fn := fun _ => fun
  | [d] => { results := [.lit (.bool false)], args := [d] }
  | _ => none }
def ClientPlaysWrongFalsely : Prop := clientPlaysRow.holds Tryd.pinned (OpenSpec.ofChange clientPlaysWrong)

/-- 'reevelaw41.ClientKnows': WHATEVER THE INPUT: true; the input reads as it did. -/
def clientKnowsSpec : ChangeSpec := { name := "clientKnows", fn := fun _ => fun
  | [d] => { results := [.lit (.bool true)], args := [d] }
  | _ => none }
def clientKnowsRow : OpenClaim := { program := "ythhnocnkicoimaadoor", sum := "9412cdc3859c5611fcf3a6a180545dd706021e80df668d91e662d04b511d2ccc", func := "reeve/reevelaw41.ClientKnows", spec := "clientKnows", unfollowed := true, recurses := true, named := ["reeve/msg.ways"], apart := false, laid := [("reeve/msg.ways", laid_reeve_msg_ways)] }
def ClientKnowsSaid : Prop := clientKnowsRow.holds Tryd.pinned (OpenSpec.ofChange clientKnowsSpec)

/-- ITS FALSE NEIGHBOUR: 'it returns false'. Refute it at one input. -/
def clientKnowsWrong : ChangeSpec := { name := "clientKnows", fn := fun _ => fun
  | [d] => { results := [.lit (.bool false)], args := [d] }
  | _ => none }
def ClientKnowsWrongFalsely : Prop := clientKnowsRow.holds Tryd.pinned (OpenSpec.ofChange clientKnowsWrong)

/-- 'reevelaw39.WorkerFenced': WHATEVER THE INPUT: true; the input reads as it did. -/
def workerFencedSpec : ChangeSpec := { name := "workerFenced", fn := fun _ => fun
  | [d] => { results := [.lit (.bool true)], args := [d] }
  | _ => none }
def workerFencedRow : OpenClaim := { program := "ythhnocnkicoimaadoor", sum := "9412cdc3859c5611fcf3a6a180545dd706021e80df668d91e662d04b511d2ccc", func := "reeve/reevelaw39.WorkerFenced", spec := "workerFenced", inPlace := ["sync/atomic.LoadInt64", "sync/atomic.CompareAndSwapInt64", "sync/atomic.AddInt64"], unfollowed := true, recurses := true, named := ["reeve/msg.ways"], apart := false, laid := [("reeve/msg.ways", laid_reeve_msg_ways)] }
def WorkerFencedSaid : Prop := workerFencedRow.holds Tryd.pinned (OpenSpec.ofChange workerFencedSpec)

/-- ITS FALSE NEIGHBOUR: 'it returns false'. Refute it at one input. -/
def workerFencedWrong : ChangeSpec := { name := "workerFenced", fn := fun _ => fun
  | [d] => { results := [.lit (.bool false)], args := [d] }
  | _ => none }
def WorkerFencedWrongFalsely : Prop := workerFencedRow.holds Tryd.pinned (OpenSpec.ofChange workerFencedWrong)

/-- 'reevelaw39.WorkerPlays': WHATEVER THE INPUT: true; the input reads as it did. -/
def workerPlaysSpec : ChangeSpec := { name := "workerPlays", fn := fun _ => fun
  | [d1, d2] => { results := [.lit (.bool true)], args := [d1, d2] }
  | _ => none }
def workerPlaysRow : OpenClaim := { program := "ythhnocnkicoimaadoor", sum := "9412cdc3859c5611fcf3a6a180545dd706021e80df668d91e662d04b511d2ccc", func := "reeve/reevelaw39.WorkerPlays", spec := "workerPlays", inPlace := ["sync/atomic.LoadInt64", "sync/atomic.CompareAndSwapInt64", "sync/atomic.AddInt64"], unfollowed := true, recurses := true, named := ["reeve/msg.ways"], apart := false, laid := [("reeve/msg.ways", laid_reeve_msg_ways)] }
def WorkerPlaysSaid : Prop := workerPlaysRow.holds Tryd.pinned (OpenSpec.ofChange workerPlaysSpec)

/-- ITS FALSE NEIGHBOUR: 'it returns false'. Refute it at one input. -/
def workerPlaysWrong : ChangeSpec := { name := "workerPlays", fn := fun _ => fun
  | [d1, d2] => { results := [.lit (.bool false)], args := [d1, d2] }
  | _ => none }
def WorkerPlaysWrongFalsely : Prop := workerPlaysRow.holds Tryd.pinned (OpenSpec.ofChange workerPlaysWrong)

/-- 'reevelaw39.WorkerSpeaks': WHATEVER THE INPUT: true; the input reads as it did. -/
def workerSpeaksSpec : ChangeSpec := { name := "workerSpeaks", fn := fun _ => fun
  | [d] => { results := [.lit (.bool true)], args := [d] }
  | _ => none }
def workerSpeaksRow : OpenClaim := { program := "ythhnocnkicoimaadoor", sum := "9412cdc3859c5611fcf3a6a180545dd706021e80df668d91e662d04b511d2ccc", func := "reeve/reevelaw39.WorkerSpeaks", spec := "workerSpeaks", inPlace := ["sync/atomic.LoadInt64", "sync/atomic.CompareAndSwapInt64", "sync/atomic.AddInt64"], unfollowed := true, recurses := true, named := ["reeve/msg.ways"], apart := false, laid := [("reeve/msg.ways", laid_reeve_msg_ways)] }
def WorkerSpeaksSaid : Prop := workerSpeaksRow.holds Tryd.pinned (OpenSpec.ofChange workerSpeaksSpec)

/-- ITS FALSE NEIGHBOUR: 'it returns false'. Refute it at one input. -/
def workerSpeaksWrong : ChangeSpec := { name := "workerSpeaks", fn := fun _ => fun
  | [d] => { results := [.lit (.bool false)], args := [d] }
  | _ => none }
def WorkerSpeaksWrongFalsely : Prop := workerSpeaksRow.holds Tryd.pinned (OpenSpec.ofChange workerSpeaksWrong)

/- THE SECOND FORM. 'bulk': how many values and letters a reading holds, each counted each time it is reached (what is shared counts as often as it is met; a slice's spare places count too). A statement '..UptoSaid' is the law's where the arguments, and the package variables that the reading takes, are together of bulk at most 1048576: NARROWER than '..Said'. Prove '..Said' where nothing that the law and all that it calls make is longer than what came in: it says more and counts as full. Else prove '..UptoSaid'. A law counts once. -/
mutual
def uptoBulk {H : Type} : DataW H → Nat
  | .lit (.string bytes) => bytes.length + 1
  | .lit _ => 1
  | .nil => 1
  | .ptr d => uptoBulk d + 1
  | .slice elems spare => uptoBulkAll elems + uptoBulkAll spare + 1
  | .agg parts => uptoBulkAll parts + 1
  | .iface _ d => uptoBulk d + 1
  | .map entries => uptoBulkEntries entries + 1
  | .held _ => 1
def uptoBulkAll {H : Type} : List (DataW H) → Nat
  | [] => 0
  | d :: r => uptoBulk d + uptoBulkAll r
def uptoBulkEntries {H : Type} : List (Lit × DataW H) → Nat
  | [] => 0
  | x :: r => uptoBulkEntry x + uptoBulkEntries r
def uptoBulkEntry {H : Type} : Lit × DataW H → Nat
  | (.string bytes, d) => bytes.length + uptoBulk d + 1
  | (_, d) => uptoBulk d + 1
 end
def uptoSmall : (H : Type) → List (DataW H) → Bool := fun _ ds => decide (uptoBulkAll ds ≤ 1048576)
def OpenSpec.upto (s : _root_.Go.ChangeSpec) : _root_.Go.OpenSpec := { _root_.Go.OpenSpec.ofChange s with cond := some uptoSmall }

/-- 'reevelaw41.ClientPlays', WHERE WHAT IT READS IS OF BULK AT MOST 1048576: true; the input reads as it did. -/
def clientPlaysUptoRow : OpenClaim := { program := "ythhnocnkicoimaadoor", sum := "9412cdc3859c5611fcf3a6a180545dd706021e80df668d91e662d04b511d2ccc", func := "reeve/reevelaw41.ClientPlays", spec := "clientPlays", unfollowed := true, recurses := true, named := ["reeve/msg.ways"], apart := false, laid := [("reeve/msg.ways", laid_reeve_msg_ways)], narrowed := true }
def ClientPlaysUptoSaid : Prop := clientPlaysUptoRow.holds Tryd.pinned (OpenSpec.upto clientPlaysSpec)

/-- 'reevelaw41.ClientKnows', WHERE WHAT IT READS IS OF BULK AT MOST 1048576: true; the input reads as it did. -/
def clientKnowsUptoRow : OpenClaim := { program := "ythhnocnkicoimaadoor", sum := "9412cdc3859c5611fcf3a6a180545dd706021e80df668d91e662d04b511d2ccc", func := "reeve/reevelaw41.ClientKnows", spec := "clientKnows", unfollowed := true, recurses := true, named := ["reeve/msg.ways"], apart := false, laid := [("reeve/msg.ways", laid_reeve_msg_ways)], narrowed := true }
def ClientKnowsUptoSaid : Prop := clientKnowsUptoRow.holds Tryd.pinned (OpenSpec.upto clientKnowsSpec)

/-- 'reevelaw39.WorkerFenced', WHERE WHAT IT READS IS OF BULK AT MOST 1048576: true; the input reads as it did. -/
def workerFencedUptoRow : OpenClaim := { program := "ythhnocnkicoimaadoor", sum := "9412cdc3859c5611fcf3a6a180545dd706021e80df668d91e662d04b511d2ccc", func := "reeve/reevelaw39.WorkerFenced", spec := "workerFenced", inPlace := ["sync/atomic.LoadInt64", "sync/atomic.CompareAndSwapInt64", "sync/atomic.AddInt64"], unfollowed := true, recurses := true, named := ["reeve/msg.ways"], apart := false, laid := [("reeve/msg.ways", laid_reeve_msg_ways)], narrowed := true }
def WorkerFencedUptoSaid : Prop := workerFencedUptoRow.holds Tryd.pinned (OpenSpec.upto workerFencedSpec)

/-- 'reevelaw39.WorkerPlays', WHERE WHAT IT READS IS OF BULK AT MOST 1048576: true; the input reads as it did. -/
def workerPlaysUptoRow : OpenClaim := { program := "ythhnocnkicoimaadoor", sum := "9412cdc3859c5611fcf3a6a180545dd706021e80df668d91e662d04b511d2ccc", func := "reeve/reevelaw39.WorkerPlays", spec := "workerPlays", inPlace := ["sync/atomic.LoadInt64", "sync/atomic.CompareAndSwapInt64", "sync/atomic.AddInt64"], unfollowed := true, recurses := true, named := ["reeve/msg.ways"], apart := false, laid := [("reeve/msg.ways", laid_reeve_msg_ways)], narrowed := true }
def WorkerPlaysUptoSaid : Prop := workerPlaysUptoRow.holds Tryd.pinned (OpenSpec.upto workerPlaysSpec)

/-- 'reevelaw39.WorkerSpeaks', WHERE WHAT IT READS IS OF BULK AT MOST 1048576: true; the input reads as it did. -/
def workerSpeaksUptoRow : OpenClaim := { program := "ythhnocnkicoimaadoor", sum := "9412cdc3859c5611fcf3a6a180545dd706021e80df668d91e662d04b511d2ccc", func := "reeve/reevelaw39.WorkerSpeaks", spec := "workerSpeaks", inPlace := ["sync/atomic.LoadInt64", "sync/atomic.CompareAndSwapInt64", "sync/atomic.AddInt64"], unfollowed := true, recurses := true, named := ["reeve/msg.ways"], apart := false, laid := [("reeve/msg.ways", laid_reeve_msg_ways)], narrowed := true }
def WorkerSpeaksUptoSaid : Prop := workerSpeaksUptoRow.holds Tryd.pinned (OpenSpec.upto workerSpeaksSpec)

end Rows
end Go.Proofs.YthhnocnkicoimaaDoor
