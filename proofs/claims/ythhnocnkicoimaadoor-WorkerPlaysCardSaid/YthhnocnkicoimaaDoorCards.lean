/-
  DERIVED. GIVEN WITH THE SEED: THE CARDS: each row of YthhnocnkicoimaaDoorRows.lean that lists a variable, with what it lists TIED to the program's text (the seventh form; the later family's looks); each row that meets fmt, with fmt's text TOLD by the authors' own Lean function (tested against real Go, not proved from fmt's source: count such statements apart). THE CARD IS WHAT COUNTS. Prove the row's statement (the work); the ties are given (YthhnocnkicoimaaDoorTie.lean); close each card by the builder's one call (the guide's Derived/Test/ToyasCard.lean, 'card_holds'). Laid BY PROGRAM, IN A SANDBOX (cutbox-door.mjs). By AI agents, Wed Nov 11 2026. No macro, syntax, notation, axiom, sorry.
-/
import Derived.Test.YthhnocnkicoimaaDoorRows
import GoSem.ClaimSeven
namespace Go.Proofs.YthhnocnkicoimaaDoor
namespace Rows

/-- THE TIED CARD OF 'reevelaw41.ClientPlays'. -/
def clientPlaysCard : Claim7 := { stood := { row := clientPlaysRow, standIns := [], harness := (true, "8ad2ed14450a2fb3a0acae27e4abf4529aa77ec32204b3c24b848a0d8449b9c8"), looks := false }, kinds := [], alts := [], laidByText := true, laidKinds := [.data], laidTests := true, laidLooks := .later }
def ClientPlaysCardSaid : Prop := Claim7.holds Tryd.pinned (.plain (OpenSpec.ofChange clientPlaysSpec)) clientPlaysCard

/-- THE TIED CARD OF 'reevelaw41.ClientKnows'. -/
def clientKnowsCard : Claim7 := { stood := { row := clientKnowsRow, standIns := [], harness := (true, "8ad2ed14450a2fb3a0acae27e4abf4529aa77ec32204b3c24b848a0d8449b9c8"), looks := false }, kinds := [], alts := [], laidByText := true, laidKinds := [.data], laidTests := true, laidLooks := .later }
def ClientKnowsCardSaid : Prop := Claim7.holds Tryd.pinned (.plain (OpenSpec.ofChange clientKnowsSpec)) clientKnowsCard

/-- THE TIED CARD OF 'reevelaw39.WorkerFenced'. -/
def workerFencedCard : Claim7 := { stood := { row := workerFencedRow, standIns := [], harness := (true, "8ad2ed14450a2fb3a0acae27e4abf4529aa77ec32204b3c24b848a0d8449b9c8"), looks := false }, kinds := [], alts := [], laidByText := true, laidKinds := [.data], laidTests := true, laidLooks := .later }
def WorkerFencedCardSaid : Prop := Claim7.holds Tryd.pinned (.plain (OpenSpec.ofChange workerFencedSpec)) workerFencedCard

/-- THE TIED CARD OF 'reevelaw39.WorkerPlays'. -/
def workerPlaysCard : Claim7 := { stood := { row := workerPlaysRow, standIns := [], harness := (true, "8ad2ed14450a2fb3a0acae27e4abf4529aa77ec32204b3c24b848a0d8449b9c8"), looks := false }, kinds := [], alts := [], laidByText := true, laidKinds := [.data], laidTests := true, laidLooks := .later }
def WorkerPlaysCardSaid : Prop := Claim7.holds Tryd.pinned (.plain (OpenSpec.ofChange workerPlaysSpec)) workerPlaysCard

/-- THE TIED CARD OF 'reevelaw39.WorkerSpeaks'. -/
def workerSpeaksCard : Claim7 := { stood := { row := workerSpeaksRow, standIns := [], harness := (true, "8ad2ed14450a2fb3a0acae27e4abf4529aa77ec32204b3c24b848a0d8449b9c8"), looks := false }, kinds := [], alts := [], laidByText := true, laidKinds := [.data], laidTests := true, laidLooks := .later }
def WorkerSpeaksCardSaid : Prop := Claim7.holds Tryd.pinned (.plain (OpenSpec.ofChange workerSpeaksSpec)) workerSpeaksCard

/-- THE SECOND FORM's CARD OF 'reevelaw41.ClientPlays'. -/
def clientPlaysUptoCard : Claim7 := { stood := { row := clientPlaysUptoRow, standIns := [], harness := (true, "8ad2ed14450a2fb3a0acae27e4abf4529aa77ec32204b3c24b848a0d8449b9c8"), looks := false }, kinds := [], alts := [], laidByText := true, laidKinds := [.data], laidTests := true, laidLooks := .later }
def ClientPlaysUptoCardSaid : Prop := Claim7.holds Tryd.pinned (.plain (OpenSpec.upto clientPlaysSpec)) clientPlaysUptoCard

/-- THE SECOND FORM's CARD OF 'reevelaw41.ClientKnows'. -/
def clientKnowsUptoCard : Claim7 := { stood := { row := clientKnowsUptoRow, standIns := [], harness := (true, "8ad2ed14450a2fb3a0acae27e4abf4529aa77ec32204b3c24b848a0d8449b9c8"), looks := false }, kinds := [], alts := [], laidByText := true, laidKinds := [.data], laidTests := true, laidLooks := .later }
def ClientKnowsUptoCardSaid : Prop := Claim7.holds Tryd.pinned (.plain (OpenSpec.upto clientKnowsSpec)) clientKnowsUptoCard

/-- THE SECOND FORM's CARD OF 'reevelaw39.WorkerFenced'. -/
def workerFencedUptoCard : Claim7 := { stood := { row := workerFencedUptoRow, standIns := [], harness := (true, "8ad2ed14450a2fb3a0acae27e4abf4529aa77ec32204b3c24b848a0d8449b9c8"), looks := false }, kinds := [], alts := [], laidByText := true, laidKinds := [.data], laidTests := true, laidLooks := .later }
def WorkerFencedUptoCardSaid : Prop := Claim7.holds Tryd.pinned (.plain (OpenSpec.upto workerFencedSpec)) workerFencedUptoCard

/-- THE SECOND FORM's CARD OF 'reevelaw39.WorkerPlays'. -/
def workerPlaysUptoCard : Claim7 := { stood := { row := workerPlaysUptoRow, standIns := [], harness := (true, "8ad2ed14450a2fb3a0acae27e4abf4529aa77ec32204b3c24b848a0d8449b9c8"), looks := false }, kinds := [], alts := [], laidByText := true, laidKinds := [.data], laidTests := true, laidLooks := .later }
def WorkerPlaysUptoCardSaid : Prop := Claim7.holds Tryd.pinned (.plain (OpenSpec.upto workerPlaysSpec)) workerPlaysUptoCard

/-- THE SECOND FORM's CARD OF 'reevelaw39.WorkerSpeaks'. -/
def workerSpeaksUptoCard : Claim7 := { stood := { row := workerSpeaksUptoRow, standIns := [], harness := (true, "8ad2ed14450a2fb3a0acae27e4abf4529aa77ec32204b3c24b848a0d8449b9c8"), looks := false }, kinds := [], alts := [], laidByText := true, laidKinds := [.data], laidTests := true, laidLooks := .later }
def WorkerSpeaksUptoCardSaid : Prop := Claim7.holds Tryd.pinned (.plain (OpenSpec.upto workerSpeaksSpec)) workerSpeaksUptoCard
end Rows
end Go.Proofs.YthhnocnkicoimaaDoor
