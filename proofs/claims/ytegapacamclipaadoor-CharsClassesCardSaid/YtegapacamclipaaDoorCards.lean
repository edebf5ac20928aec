/-
  DERIVED. GIVEN WITH THE SEED: THE CARDS: each row of YtegapacamclipaaDoorRows.lean that lists a variable, with what it lists TIED to the program's text (the seventh form; the later family's looks); each row that meets fmt, with fmt's text TOLD by the authors' own Lean function (tested against real Go, not proved from fmt's source: count such statements apart). THE CARD IS WHAT COUNTS. Prove the row's statement (the work); the ties are given (YtegapacamclipaaDoorTie.lean); close each card by the builder's one call (the guide's Derived/Test/ToyasCard.lean, 'card_holds'). Laid BY PROGRAM, IN A SANDBOX (cutbox-door.mjs). By AI agents, Wed Nov 11 2026. No macro, syntax, notation, axiom, sorry.
-/
import Derived.Test.YtegapacamclipaaDoorRows
import GoSem.ClaimSeven
namespace Go.Proofs.YtegapacamclipaaDoor
namespace Rows

/-- THE TIED CARD OF 'motleylaw02.CharsForms'. -/
def charsFormsCard : Claim7 := { stood := { row := charsFormsRow, standIns := [], harness := (true, "9649e1590e8779e8d368bbb6cf5e6281371c82b0b9c0090db21218f0be23ac8f"), looks := false }, kinds := [], alts := [], laidByText := true, laidKinds := [.data, .pinned], laidTests := true, laidLooks := .later }
def CharsFormsCardSaid : Prop := Claim7.holds Tryd.pinned (.plain (OpenSpec.ofChange charsFormsSpec)) charsFormsCard

/-- THE TIED CARD OF 'motleylaw02.CharsFolds'. -/
def charsFoldsCard : Claim7 := { stood := { row := charsFoldsRow, standIns := [], harness := (true, "9649e1590e8779e8d368bbb6cf5e6281371c82b0b9c0090db21218f0be23ac8f"), looks := false }, kinds := [], alts := [], laidByText := true, laidKinds := [.data, .pinned], laidTests := true, laidLooks := .later }
def CharsFoldsCardSaid : Prop := Claim7.holds Tryd.pinned (.plain (OpenSpec.ofChange charsFoldsSpec)) charsFoldsCard

/-- THE TIED CARD OF 'motleylaw02.CharsSubs'. -/
def charsSubsCard : Claim7 := { stood := { row := charsSubsRow, standIns := [], harness := (true, "9649e1590e8779e8d368bbb6cf5e6281371c82b0b9c0090db21218f0be23ac8f"), looks := false }, kinds := [], alts := [], laidByText := true, laidKinds := [.data, .pinned], laidTests := true, laidLooks := .later }
def CharsSubsCardSaid : Prop := Claim7.holds Tryd.pinned (.plain (OpenSpec.ofChange charsSubsSpec)) charsSubsCard

/-- THE TIED CARD OF 'motleylaw02.CharsTurns'. -/
def charsTurnsCard : Claim7 := { stood := { row := charsTurnsRow, standIns := [], harness := (true, "9649e1590e8779e8d368bbb6cf5e6281371c82b0b9c0090db21218f0be23ac8f"), looks := false }, kinds := [], alts := [], laidByText := true, laidKinds := [.data, .pinned], laidTests := true, laidLooks := .later }
def CharsTurnsCardSaid : Prop := Claim7.holds Tryd.pinned (.plain (OpenSpec.ofChange charsTurnsSpec)) charsTurnsCard

/-- THE TIED CARD OF 'motleylaw02.CharsReads'. -/
def charsReadsCard : Claim7 := { stood := { row := charsReadsRow, standIns := [], harness := (true, "9649e1590e8779e8d368bbb6cf5e6281371c82b0b9c0090db21218f0be23ac8f"), looks := false }, kinds := [], alts := [], laidByText := true, laidKinds := [.data, .pinned], laidTests := true, laidLooks := .later }
def CharsReadsCardSaid : Prop := Claim7.holds Tryd.pinned (.plain (OpenSpec.ofChange charsReadsSpec)) charsReadsCard

/-- THE TIED CARD OF 'motleylaw02.CharsWrites'. -/
def charsWritesCard : Claim7 := { stood := { row := charsWritesRow, standIns := [], harness := (true, "9649e1590e8779e8d368bbb6cf5e6281371c82b0b9c0090db21218f0be23ac8f"), looks := false }, kinds := [], alts := [], laidByText := true, laidKinds := [.data, .pinned], laidTests := true, laidLooks := .later }
def CharsWritesCardSaid : Prop := Claim7.holds Tryd.pinned (.plain (OpenSpec.ofChange charsWritesSpec)) charsWritesCard

/-- THE TIED CARD OF 'motleylaw02.CharsFinds'. -/
def charsFindsCard : Claim7 := { stood := { row := charsFindsRow, standIns := [], harness := (true, "9649e1590e8779e8d368bbb6cf5e6281371c82b0b9c0090db21218f0be23ac8f"), looks := false }, kinds := [], alts := [], laidByText := true, laidKinds := [.data, .pinned], laidTests := true, laidLooks := .later }
def CharsFindsCardSaid : Prop := Claim7.holds Tryd.pinned (.plain (OpenSpec.ofChange charsFindsSpec)) charsFindsCard

/-- THE TIED CARD OF 'motleylaw02.CharsClasses'. -/
def charsClassesCard : Claim7 := { stood := { row := charsClassesRow, standIns := [], harness := (true, "9649e1590e8779e8d368bbb6cf5e6281371c82b0b9c0090db21218f0be23ac8f"), looks := false }, kinds := [], alts := [], laidByText := true, laidKinds := [.data, .pinned], laidTests := true, laidLooks := .later }
def CharsClassesCardSaid : Prop := Claim7.holds Tryd.pinned (.plain (OpenSpec.ofChange charsClassesSpec)) charsClassesCard

/-- THE SECOND FORM's CARD OF 'motleylaw02.CharsForms'. -/
def charsFormsUptoCard : Claim7 := { stood := { row := charsFormsUptoRow, standIns := [], harness := (true, "9649e1590e8779e8d368bbb6cf5e6281371c82b0b9c0090db21218f0be23ac8f"), looks := false }, kinds := [], alts := [], laidByText := true, laidKinds := [.data, .pinned], laidTests := true, laidLooks := .later }
def CharsFormsUptoCardSaid : Prop := Claim7.holds Tryd.pinned (.plain (OpenSpec.upto charsFormsSpec)) charsFormsUptoCard

/-- THE SECOND FORM's CARD OF 'motleylaw02.CharsFolds'. -/
def charsFoldsUptoCard : Claim7 := { stood := { row := charsFoldsUptoRow, standIns := [], harness := (true, "9649e1590e8779e8d368bbb6cf5e6281371c82b0b9c0090db21218f0be23ac8f"), looks := false }, kinds := [], alts := [], laidByText := true, laidKinds := [.data, .pinned], laidTests := true, laidLooks := .later }
def CharsFoldsUptoCardSaid : Prop := Claim7.holds Tryd.pinned (.plain (OpenSpec.upto charsFoldsSpec)) charsFoldsUptoCard

/-- THE SECOND FORM's CARD OF 'motleylaw02.CharsSubs'. -/
def charsSubsUptoCard : Claim7 := { stood := { row := charsSubsUptoRow, standIns := [], harness := (true, "9649e1590e8779e8d368bbb6cf5e6281371c82b0b9c0090db21218f0be23ac8f"), looks := false }, kinds := [], alts := [], laidByText := true, laidKinds := [.data, .pinned], laidTests := true, laidLooks := .later }
def CharsSubsUptoCardSaid : Prop := Claim7.holds Tryd.pinned (.plain (OpenSpec.upto charsSubsSpec)) charsSubsUptoCard

/-- THE SECOND FORM's CARD OF 'motleylaw02.CharsTurns'. -/
def charsTurnsUptoCard : Claim7 := { stood := { row := charsTurnsUptoRow, standIns := [], harness := (true, "9649e1590e8779e8d368bbb6cf5e6281371c82b0b9c0090db21218f0be23ac8f"), looks := false }, kinds := [], alts := [], laidByText := true, laidKinds := [.data, .pinned], laidTests := true, laidLooks := .later }
def CharsTurnsUptoCardSaid : Prop := Claim7.holds Tryd.pinned (.plain (OpenSpec.upto charsTurnsSpec)) charsTurnsUptoCard

/-- THE SECOND FORM's CARD OF 'motleylaw02.CharsReads'. -/
def charsReadsUptoCard : Claim7 := { stood := { row := charsReadsUptoRow, standIns := [], harness := (true, "9649e1590e8779e8d368bbb6cf5e6281371c82b0b9c0090db21218f0be23ac8f"), looks := false }, kinds := [], alts := [], laidByText := true, laidKinds := [.data, .pinned], laidTests := true, laidLooks := .later }
def CharsReadsUptoCardSaid : Prop := Claim7.holds Tryd.pinned (.plain (OpenSpec.upto charsReadsSpec)) charsReadsUptoCard

/-- THE SECOND FORM's CARD OF 'motleylaw02.CharsWrites'. -/
def charsWritesUptoCard : Claim7 := { stood := { row := charsWritesUptoRow, standIns := [], harness := (true, "9649e1590e8779e8d368bbb6cf5e6281371c82b0b9c0090db21218f0be23ac8f"), looks := false }, kinds := [], alts := [], laidByText := true, laidKinds := [.data, .pinned], laidTests := true, laidLooks := .later }
def CharsWritesUptoCardSaid : Prop := Claim7.holds Tryd.pinned (.plain (OpenSpec.upto charsWritesSpec)) charsWritesUptoCard

/-- THE SECOND FORM's CARD OF 'motleylaw02.CharsFinds'. -/
def charsFindsUptoCard : Claim7 := { stood := { row := charsFindsUptoRow, standIns := [], harness := (true, "9649e1590e8779e8d368bbb6cf5e6281371c82b0b9c0090db21218f0be23ac8f"), looks := false }, kinds := [], alts := [], laidByText := true, laidKinds := [.data, .pinned], laidTests := true, laidLooks := .later }
def CharsFindsUptoCardSaid : Prop := Claim7.holds Tryd.pinned (.plain (OpenSpec.upto charsFindsSpec)) charsFindsUptoCard

/-- THE SECOND FORM's CARD OF 'motleylaw02.CharsClasses'. -/
def charsClassesUptoCard : Claim7 := { stood := { row := charsClassesUptoRow, standIns := [], harness := (true, "9649e1590e8779e8d368bbb6cf5e6281371c82b0b9c0090db21218f0be23ac8f"), looks := false }, kinds := [], alts := [], laidByText := true, laidKinds := [.data, .pinned], laidTests := true, laidLooks := .later }
def CharsClassesUptoCardSaid : Prop := Claim7.holds Tryd.pinned (.plain (OpenSpec.upto charsClassesSpec)) charsClassesUptoCard
end Rows
end Go.Proofs.YtegapacamclipaaDoor
