/-
  DERIVED. GIVEN WITH THE SEED: THE CARDS: each row of YtallfkecjibpmaaGreatDoorRows.lean that lists a variable, with what it lists TIED to the program's text (the seventh form; the later family's looks); each row that meets fmt, with fmt's text TOLD by the authors' own Lean function (tested against real Go, not proved from fmt's source: count such statements apart). THE CARD IS WHAT COUNTS. Prove the row's statement (the work); the ties are given (YtallfkecjibpmaaGreatDoorTie.lean); close each card by the builder's one call (the guide's Derived/Test/ToyasCard.lean, 'card_holds'). Laid BY PROGRAM, IN A SANDBOX (cutbox-door.mjs). By AI agents, Wed Nov 11 2026. No macro, syntax, notation, axiom, sorry.
-/
import Derived.Test.YtallfkecjibpmaaGreatDoorRows
import GoSem.ClaimSeven
namespace Go.Proofs.YtallfkecjibpmaaGreatDoor
namespace Rows

/-- THE TIED CARD OF 'motleylaw27.TapReads'. -/
def tapReadsCard : Claim7 := { stood := { row := tapReadsRow, standIns := [], harness := (true, "fec83925094ab397b749a6cfdcc37034cba80aa73e32accbecd58f473dbd5582"), looks := true }, kinds := [], alts := [], laidByText := true, laidKinds := [.data, .data, .data, .data, .sentinel, .sentinel, .pinned], laidTests := true, laidLooks := .later }
def TapReadsCardSaid : Prop := Claim7.holds Tryz.pinned (.plain (OpenSpec.ofChange tapReadsSpec)) tapReadsCard

/-- THE TIED CARD OF 'motleylaw27.TapMerges'. -/
def tapMergesCard : Claim7 := { stood := { row := tapMergesRow, standIns := [], harness := (true, "fec83925094ab397b749a6cfdcc37034cba80aa73e32accbecd58f473dbd5582"), looks := true }, kinds := [], alts := [], laidByText := true, laidKinds := [.data, .data, .data, .data, .sentinel, .sentinel, .pinned], laidTests := true, laidLooks := .later }
def TapMergesCardSaid : Prop := Claim7.holds Tryz.pinned (.plain (OpenSpec.ofChange tapMergesSpec)) tapMergesCard

/-- THE TIED CARD OF 'motleylaw27.TapStamps'. -/
def tapStampsCard : Claim7 := { stood := { row := tapStampsRow, standIns := [], harness := (true, "fec83925094ab397b749a6cfdcc37034cba80aa73e32accbecd58f473dbd5582"), looks := true }, kinds := [], alts := [], laidByText := true, laidKinds := [.data, .data, .data, .data, .sentinel, .sentinel, .pinned], laidTests := true, laidLooks := .later }
def TapStampsCardSaid : Prop := Claim7.holds Tryz.pinned (.plain (OpenSpec.ofChange tapStampsSpec)) tapStampsCard

/-- THE SECOND FORM's CARD OF 'motleylaw27.TapReads'. -/
def tapReadsUptoCard : Claim7 := { stood := { row := tapReadsUptoRow, standIns := [], harness := (true, "fec83925094ab397b749a6cfdcc37034cba80aa73e32accbecd58f473dbd5582"), looks := true }, kinds := [], alts := [], laidByText := true, laidKinds := [.data, .data, .data, .data, .sentinel, .sentinel, .pinned], laidTests := true, laidLooks := .later }
def TapReadsUptoCardSaid : Prop := Claim7.holds Tryz.pinned (.plain (OpenSpec.upto tapReadsSpec)) tapReadsUptoCard

/-- THE SECOND FORM's CARD OF 'motleylaw27.TapMerges'. -/
def tapMergesUptoCard : Claim7 := { stood := { row := tapMergesUptoRow, standIns := [], harness := (true, "fec83925094ab397b749a6cfdcc37034cba80aa73e32accbecd58f473dbd5582"), looks := true }, kinds := [], alts := [], laidByText := true, laidKinds := [.data, .data, .data, .data, .sentinel, .sentinel, .pinned], laidTests := true, laidLooks := .later }
def TapMergesUptoCardSaid : Prop := Claim7.holds Tryz.pinned (.plain (OpenSpec.upto tapMergesSpec)) tapMergesUptoCard

/-- THE SECOND FORM's CARD OF 'motleylaw27.TapStamps'. -/
def tapStampsUptoCard : Claim7 := { stood := { row := tapStampsUptoRow, standIns := [], harness := (true, "fec83925094ab397b749a6cfdcc37034cba80aa73e32accbecd58f473dbd5582"), looks := true }, kinds := [], alts := [], laidByText := true, laidKinds := [.data, .data, .data, .data, .sentinel, .sentinel, .pinned], laidTests := true, laidLooks := .later }
def TapStampsUptoCardSaid : Prop := Claim7.holds Tryz.pinned (.plain (OpenSpec.upto tapStampsSpec)) tapStampsUptoCard
end Rows
end Go.Proofs.YtallfkecjibpmaaGreatDoor
