/-
  No cell of these rows narrows 'for every input' (looked for: loops, veiled, ifaces, maps, wideKeys, modest, calm, conditions, laid).
  DERIVED. THE GIVEN ROWS OF THIS SEAT. 9 by the template 'for every input the law returns true; each argument reads behind the call as it read before'; 0 by the template 'total and deterministic' (their statements: YtaajlegdcgfcgaaTotals.lean).
  GIVEN WITH THE SEED: the statements are not yours to turn. If you find one false, say at which input.
  Laid BY PROGRAM, IN A SANDBOX (cutbox-rows.mjs): the forced cells as the released guide's own fill.sh prints them over the translation faaf1eb17ccefeff… (all of the seat's roots in one cut). By AI agents, Wed Nov 11 2026. No macro, syntax, notation, axiom, sorry.
-/
import Derived.Test.YtaajlegdcgfcgaaChecked
import GoSem.Claim
import GoSem.ClaimJoined
import GoSem.ClaimMapViews
import Derived.JoinedTies
import Derived.KernelRfl
namespace Go.Proofs.Ytaajlegdcgfcgaa
/- THE CELL 'sum', in the pinned program and in every row, IS THE sha256 OF THE DUMP (.gsa) THAT YtaajlegdcgfcgaaProg.lean LOADS. Nothing in Lean hashes anything: it is a label: what it is worth is what the hold of that sum in a sandbox is worth. -/
noncomputable def Try.pinned : Pinned := { name := "ytaajlegdcgfcgaa", sum := "faaf1eb17ccefeff7fc8ad4210aff2d67a197bcea101f969dfd810241d4edca7", checked := Try.checked }
namespace Rows
def none {H : Type} : Left H := { results := [], args := [] }

/-- 'reevelaw28.PlaceTells': WHATEVER THE INPUT: true; the input reads as it did. -/
def placeTellsSpec : ChangeSpec := { name := "placeTells", fn := fun _ => fun
  | [d1, d2, d3] => { results := [.lit (.bool true)], args := [d1, d2, d3] }
  | _ => none }
def placeTellsRow : OpenClaim := { program := "ytaajlegdcgfcgaa", sum := "faaf1eb17ccefeff7fc8ad4210aff2d67a197bcea101f969dfd810241d4edca7", func := "reeve/reevelaw28.PlaceTells", spec := "placeTells", unfollowed := true, recurses := true, plainKeys := false, apart := false }
def PlaceTellsSaid : Prop := placeTellsRow.holds Try.pinned (OpenSpec.ofChange placeTellsSpec)

/-- ITS FALSE NEIGHBOUR: 'it returns false'. Refute it at one input. -/
def placeTellsWrong : ChangeSpec := { name := "placeTells", fn := fun _ => fun
  | [d1, d2, d3] => { results := [.lit (.bool false)], args := [d1, d2, d3] }
  | _ => none }
def PlaceTellsWrongFalsely : Prop := placeTellsRow.holds Try.pinned (OpenSpec.ofChange placeTellsWrong)

/-- 'reevelaw28.PlaceTurns': WHATEVER THE INPUT: true; the input reads as it did. -/
def placeTurnsSpec : ChangeSpec := { name := "placeTurns", fn := fun _ => fun
  | [d1, d2, d3] => { results := [.lit (.bool true)], args := [d1, d2, d3] }
  | _ => none }
def placeTurnsRow : OpenClaim := { program := "ytaajlegdcgfcgaa", sum := "faaf1eb17ccefeff7fc8ad4210aff2d67a197bcea101f969dfd810241d4edca7", func := "reeve/reevelaw28.PlaceTurns", spec := "placeTurns", unfollowed := true, recurses := true, plainKeys := false, apart := false }
def PlaceTurnsSaid : Prop := placeTurnsRow.holds Try.pinned (OpenSpec.ofChange placeTurnsSpec)

/-- ITS FALSE NEIGHBOUR: 'it returns false'. Refute it at one input. -/
def placeTurnsWrong : ChangeSpec := { name := "placeTurns", fn := fun _ => fun
  | [d1, d2, d3] => { results := [.lit (.bool false)], args := [d1, d2, d3] }
  | _ => none }
def PlaceTurnsWrongFalsely : Prop := placeTurnsRow.holds Try.pinned (OpenSpec.ofChange placeTurnsWrong)

/-- 'reevelaw12.DirtyPlays': WHATEVER THE INPUT: true; the input reads as it did. -/
def dirtyPlaysSpec : ChangeSpec := { name := "dirtyPlays", fn := fun _ => fun
  | [d] => { results := [.lit (.bool true)], args := [d] }
  | _ => none }
def dirtyPlaysRow : OpenClaim := { program := "ytaajlegdcgfcgaa", sum := "faaf1eb17ccefeff7fc8ad4210aff2d67a197bcea101f969dfd810241d4edca7", func := "reeve/reevelaw12.DirtyPlays", spec := "dirtyPlays", recurses := true, plainKeys := false, apart := false }
def DirtyPlaysSaid : Prop := dirtyPlaysRow.holds Try.pinned (OpenSpec.ofChange dirtyPlaysSpec)

/-- ITS FALSE NEIGHBOUR: 'it returns false'. Refute it at one input. -/
def dirtyPlaysWrong : ChangeSpec := { name := "dirtyPlays", fn := fun _ => fun
  | [d] => { results := [.lit (.bool false)], args := [d] }
  | _ => none }
def DirtyPlaysWrongFalsely : Prop := dirtyPlaysRow.holds Try.pinned (OpenSpec.ofChange dirtyPlaysWrong)

/-- 'reevelaw12.DirtyDrains': WHATEVER THE INPUT: true; the input reads as it did. -/
def dirtyDrainsSpec : ChangeSpec := { name := "dirtyDrains", fn := fun _ => fun
  | [d1, d2] => { results := [.lit (.bool true)], args := [d1, d2] }
  | _ => none }
def dirtyDrainsRow : OpenClaim := { program := "ytaajlegdcgfcgaa", sum := "faaf1eb17ccefeff7fc8ad4210aff2d67a197bcea101f969dfd810241d4edca7", func := "reeve/reevelaw12.DirtyDrains", spec := "dirtyDrains", recurses := true, plainKeys := false, apart := false }
def DirtyDrainsSaid : Prop := dirtyDrainsRow.holds Try.pinned (OpenSpec.ofChange dirtyDrainsSpec)

/-- ITS FALSE NEIGHBOUR: 'it returns false'. Refute it at one input. -/
def dirtyDrainsWrong : ChangeSpec := { name := "dirtyDrains", fn := fun _ => fun
  | [d1, d2] => { results := [.lit (.bool false)], args := [d1, d2] }
  | _ => none }
def DirtyDrainsWrongFalsely : Prop := dirtyDrainsRow.holds Try.pinned (OpenSpec.ofChange dirtyDrainsWrong)

/-- 'reevelaw30.ClassPlays': WHATEVER THE INPUT: true; the input reads as it did. -/
def classPlaysSpec : ChangeSpec := { name := "classPlays", fn := fun _ => fun
  | [d1, d2, d3] => { results := [.lit (.bool true)], args := [d1, d2, d3] }
  | _ => none }
def classPlaysRow : OpenClaim := { program := "ytaajlegdcgfcgaa", sum := "faaf1eb17ccefeff7fc8ad4210aff2d67a197bcea101f969dfd810241d4edca7", func := "reeve/reevelaw30.ClassPlays", spec := "classPlays", unfollowed := true, recurses := true, plainKeys := false, apart := false }
def ClassPlaysSaid : Prop := classPlaysRow.holds Try.pinned (OpenSpec.ofChange classPlaysSpec)

/-- ITS FALSE NEIGHBOUR: 'it returns false'. Refute it at one input. -/
def classPlaysWrong : ChangeSpec := { name := "classPlays", fn := fun _ => fun
  | [d1, d2, d3] => { results := [.lit (.bool false)], args := [d1, d2, d3] }
  | _ => none }
def ClassPlaysWrongFalsely : Prop := classPlaysRow.holds Try.pinned (OpenSpec.ofChange classPlaysWrong)

/-- 'reevelaw30.ClassParts': WHATEVER THE INPUT: true; the input reads as it did. -/
def classPartsSpec : ChangeSpec := { name := "classParts", fn := fun _ => fun
  | [d] => { results := [.lit (.bool true)], args := [d] }
  | _ => none }
def classPartsRow : OpenClaim := { program := "ytaajlegdcgfcgaa", sum := "faaf1eb17ccefeff7fc8ad4210aff2d67a197bcea101f969dfd810241d4edca7", func := "reeve/reevelaw30.ClassParts", spec := "classParts", unfollowed := true, recurses := true, plainKeys := false, apart := false }
def ClassPartsSaid : Prop := classPartsRow.holds Try.pinned (OpenSpec.ofChange classPartsSpec)

/-- ITS FALSE NEIGHBOUR: 'it returns false'. Refute it at one input. -/
def classPartsWrong : ChangeSpec := { name := "classParts", fn := fun _ => fun
  | [d] => { results := [.lit (.bool false)], args := [d] }
  | _ => none }
def ClassPartsWrongFalsely : Prop := classPartsRow.holds Try.pinned (OpenSpec.ofChange classPartsWrong)

/-- 'reevelaw45.LedgerFirst': WHATEVER THE INPUT: true; the input reads as it did. -/
def ledgerFirstSpec : ChangeSpec := { name := "ledgerFirst", fn := fun _ => fun
  | [d1, d2] => { results := [.lit (.bool true)], args := [d1, d2] }
  | _ => none }
def ledgerFirstRow : OpenClaim := { program := "ytaajlegdcgfcgaa", sum := "faaf1eb17ccefeff7fc8ad4210aff2d67a197bcea101f969dfd810241d4edca7", func := "reeve/reevelaw45.LedgerFirst", spec := "ledgerFirst", unfollowed := true, recurses := true, plainKeys := false, apart := false }
def LedgerFirstSaid : Prop := ledgerFirstRow.holds Try.pinned (OpenSpec.ofChange ledgerFirstSpec)

/-- ITS FALSE NEIGHBOUR: 'it returns false'. Refute it at one input. -/
def ledgerFirstWrong : ChangeSpec := { name := "ledgerFirst", fn := fun _ => fun
  | [d1, d2] => { results := [.lit (.bool false)], args := [d1, d2] }
  | _ => none }
def LedgerFirstWrongFalsely : Prop := ledgerFirstRow.holds Try.pinned (OpenSpec.ofChange ledgerFirstWrong)

/-- 'reevelaw45.LedgerChecks': WHATEVER THE INPUT: true; the input reads as it did. -/
def ledgerChecksSpec : ChangeSpec := { name := "ledgerChecks", fn := fun _ => fun
  | [d] => { results := [.lit (.bool true)], args := [d] }
  | _ => none }
def ledgerChecksRow : OpenClaim := { program := "ytaajlegdcgfcgaa", sum := "faaf1eb17ccefeff7fc8ad4210aff2d67a197bcea101f969dfd810241d4edca7", func := "reeve/reevelaw45.LedgerChecks", spec := "ledgerChecks", unfollowed := true, recurses := true, plainKeys := false, apart := false }
def LedgerChecksSaid : Prop := ledgerChecksRow.holds Try.pinned (OpenSpec.ofChange ledgerChecksSpec)

/-- ITS FALSE NEIGHBOUR: 'it returns false'. Refute it at one input. -/
def ledgerChecksWrong : ChangeSpec := { name := "ledgerChecks", fn := fun _ => fun
  | [d] => { results := [.lit (.bool false)], args := [d] }
  | _ => none }
def LedgerChecksWrongFalsely : Prop := ledgerChecksRow.holds Try.pinned (OpenSpec.ofChange ledgerChecksWrong)

/-- 'reevelaw32.CachePlays': WHATEVER THE INPUT: true; the input reads as it did. -/
def cachePlaysSpec : ChangeSpec := { name := "cachePlays", fn := fun _ => fun
  | [d1, d2] => { results := [.lit (.bool true)], args := [d1, d2] }
  | _ => none }
def cachePlaysRow : OpenClaim := { program := "ytaajlegdcgfcgaa", sum := "faaf1eb17ccefeff7fc8ad4210aff2d67a197bcea101f969dfd810241d4edca7", func := "reeve/reevelaw32.CachePlays", spec := "cachePlays", inPlace := ["sync/atomic.AddInt64", "sync/atomic.LoadInt64"], unfollowed := true, recurses := true, plainKeys := false, apart := false }
def CachePlaysSaid : Prop := cachePlaysRow.holds Try.pinned (OpenSpec.ofChange cachePlaysSpec)

/-- ITS FALSE NEIGHBOUR: 'it returns false'. Refute it at one input. -/
def cachePlaysWrong : ChangeSpec := { name := "cachePlays", fn := fun _ => fun
  | [d1, d2] => { results := [.lit (.bool false)], args := [d1, d2] }
  | _ => none }
def CachePlaysWrongFalsely : Prop := cachePlaysRow.holds Try.pinned (OpenSpec.ofChange cachePlaysWrong)

/- THE SECOND FORM. 'bulk': how many values and letters a reading holds, each counted each time it is reached (what is shared counts as often as it is met; a slice's spare places count too). A statement '..UptoSaid' is the law's where the arguments, and the package variables that the reading takes, are together of bulk at most 1048576: NARROWER than '..Said'. Prove '..Said' where nothing that the law and all that it calls make is longer than what came in: it says more and counts as full. Else prove '..UptoSaid'. A law counts once. -/
mutual
def uptoBulk {H : Type} : DataW H → Nat
  | .lit (.string bytes) => bytes.length + 1
  | .lit _ => 1
  | .nil => 1
  | .ptr d => uptoBulk d + 1
  | .slice elems spare => uptoBulkAll elems + uptoBulkAll spare + 1
  | .agg parts => uptoBulkAll parts + 1
  | .iface _ d => uptoBulk d + 1
  | .map entries => uptoBulkEntries entries + 1
  | .held _ => 1
def uptoBulkAll {H : Type} : List (DataW H) → Nat
  | [] => 0
  | d :: r => uptoBulk d + uptoBulkAll r
def uptoBulkEntries {H : Type} : List (Lit × DataW H) → Nat
  | [] => 0
  | x :: r => uptoBulkEntry x + uptoBulkEntries r
def uptoBulkEntry {H : Type} : Lit × DataW H → Nat
  | (.string bytes, d) => bytes.length + uptoBulk d + 1
  | (_, d) => uptoBulk d + 1
 end
def uptoSmall : (H : Type) → List (DataW H) → Bool := fun _ ds => decide (uptoBulkAll ds ≤ 1048576)
def OpenSpec.upto (s : _root_.Go.ChangeSpec) : _root_.Go.OpenSpec := { _root_.Go.OpenSpec.ofChange s with cond := some uptoSmall }

/-- 'reevelaw28.PlaceTells', WHERE WHAT IT READS IS OF BULK AT MOST 1048576: true; the input reads as it did. -/
def placeTellsUptoRow : OpenClaim := { program := "ytaajlegdcgfcgaa", sum := "faaf1eb17ccefeff7fc8ad4210aff2d67a197bcea101f969dfd810241d4edca7", func := "reeve/reevelaw28.PlaceTells", spec := "placeTells", unfollowed := true, recurses := true, plainKeys := false, apart := false, narrowed := true }
def PlaceTellsUptoSaid : Prop := placeTellsUptoRow.holds Try.pinned (OpenSpec.upto placeTellsSpec)

/-- 'reevelaw28.PlaceTurns', WHERE WHAT IT READS IS OF BULK AT MOST 1048576: true; the input reads as it did. -/
def placeTurnsUptoRow : OpenClaim := { program := "ytaajlegdcgfcgaa", sum := "faaf1eb17ccefeff7fc8ad4210aff2d67a197bcea101f969dfd810241d4edca7", func := "reeve/reevelaw28.PlaceTurns", spec := "placeTurns", unfollowed := true, recurses := true, plainKeys := false, apart := false, narrowed := true }
def PlaceTurnsUptoSaid : Prop := placeTurnsUptoRow.holds Try.pinned (OpenSpec.upto placeTurnsSpec)

/-- 'reevelaw12.DirtyPlays', WHERE WHAT IT READS IS OF BULK AT MOST 1048576: true; the input reads as it did. -/
def dirtyPlaysUptoRow : OpenClaim := { program := "ytaajlegdcgfcgaa", sum := "faaf1eb17ccefeff7fc8ad4210aff2d67a197bcea101f969dfd810241d4edca7", func := "reeve/reevelaw12.DirtyPlays", spec := "dirtyPlays", recurses := true, plainKeys := false, apart := false, narrowed := true }
def DirtyPlaysUptoSaid : Prop := dirtyPlaysUptoRow.holds Try.pinned (OpenSpec.upto dirtyPlaysSpec)

/-- 'reevelaw12.DirtyDrains', WHERE WHAT IT READS IS OF BULK AT MOST 1048576: true; the input reads as it did. -/
def dirtyDrainsUptoRow : OpenClaim := { program := "ytaajlegdcgfcgaa", sum := "faaf1eb17ccefeff7fc8ad4210aff2d67a197bcea101f969dfd810241d4edca7", func := "reeve/reevelaw12.DirtyDrains", spec := "dirtyDrains", recurses := true, plainKeys := false, apart := false, narrowed := true }
def DirtyDrainsUptoSaid : Prop := dirtyDrainsUptoRow.holds Try.pinned (OpenSpec.upto dirtyDrainsSpec)

/-- 'reevelaw30.ClassPlays', WHERE WHAT IT READS IS OF BULK AT MOST 1048576: true; the input reads as it did. -/
def classPlaysUptoRow : OpenClaim := { program := "ytaajlegdcgfcgaa", sum := "faaf1eb17ccefeff7fc8ad4210aff2d67a197bcea101f969dfd810241d4edca7", func := "reeve/reevelaw30.ClassPlays", spec := "classPlays", unfollowed := true, recurses := true, plainKeys := false, apart := false, narrowed := true }
def ClassPlaysUptoSaid : Prop := classPlaysUptoRow.holds Try.pinned (OpenSpec.upto classPlaysSpec)

/-- 'reevelaw30.ClassParts', WHERE WHAT IT READS IS OF BULK AT MOST 1048576: true; the input reads as it did. -/
def classPartsUptoRow : OpenClaim := { program := "ytaajlegdcgfcgaa", sum := "faaf1eb17ccefeff7fc8ad4210aff2d67a197bcea101f969dfd810241d4edca7", func := "reeve/reevelaw30.ClassParts", spec := "classParts", unfollowed := true, recurses := true, plainKeys := false, apart := false, narrowed := true }
def ClassPartsUptoSaid : Prop := classPartsUptoRow.holds Try.pinned (OpenSpec.upto classPartsSpec)

/-- 'reevelaw45.LedgerFirst', WHERE WHAT IT READS IS OF BULK AT MOST 1048576: true; the input reads as it did. -/
def ledgerFirstUptoRow : OpenClaim := { program := "ytaajlegdcgfcgaa", sum := "faaf1eb17ccefeff7fc8ad4210aff2d67a197bcea101f969dfd810241d4edca7", func := "reeve/reevelaw45.LedgerFirst", spec := "ledgerFirst", unfollowed := true, recurses := true, plainKeys := false, apart := false, narrowed := true }
def LedgerFirstUptoSaid : Prop := ledgerFirstUptoRow.holds Try.pinned (OpenSpec.upto ledgerFirstSpec)

/-- 'reevelaw45.LedgerChecks', WHERE WHAT IT READS IS OF BULK AT MOST 1048576: true; the input reads as it did. -/
def ledgerChecksUptoRow : OpenClaim := { program := "ytaajlegdcgfcgaa", sum := "faaf1eb17ccefeff7fc8ad4210aff2d67a197bcea101f969dfd810241d4edca7", func := "reeve/reevelaw45.LedgerChecks", spec := "ledgerChecks", unfollowed := true, recurses := true, plainKeys := false, apart := false, narrowed := true }
def LedgerChecksUptoSaid : Prop := ledgerChecksUptoRow.holds Try.pinned (OpenSpec.upto ledgerChecksSpec)

/-- 'reevelaw32.CachePlays', WHERE WHAT IT READS IS OF BULK AT MOST 1048576: true; the input reads as it did. -/
def cachePlaysUptoRow : OpenClaim := { program := "ytaajlegdcgfcgaa", sum := "faaf1eb17ccefeff7fc8ad4210aff2d67a197bcea101f969dfd810241d4edca7", func := "reeve/reevelaw32.CachePlays", spec := "cachePlays", inPlace := ["sync/atomic.AddInt64", "sync/atomic.LoadInt64"], unfollowed := true, recurses := true, plainKeys := false, apart := false, narrowed := true }
def CachePlaysUptoSaid : Prop := cachePlaysUptoRow.holds Try.pinned (OpenSpec.upto cachePlaysSpec)

end Rows
end Go.Proofs.Ytaajlegdcgfcgaa
