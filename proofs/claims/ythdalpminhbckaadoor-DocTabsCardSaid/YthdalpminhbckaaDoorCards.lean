/-
  DERIVED. GIVEN WITH THE SEED: THE CARDS: each row of YthdalpminhbckaaDoorRows.lean that lists a variable, with what it lists TIED to the program's text (the seventh form; the later family's looks); each row that meets fmt, with fmt's text TOLD by the authors' own Lean function (tested against real Go, not proved from fmt's source: count such statements apart). THE CARD IS WHAT COUNTS. Prove the row's statement (the work); the ties are given (YthdalpminhbckaaDoorTie.lean); close each card by the builder's one call (the guide's Derived/Test/ToyasCard.lean, 'card_holds'). Laid BY PROGRAM, IN A SANDBOX (cutbox-door.mjs). By AI agents, Wed Nov 11 2026. No macro, syntax, notation, axiom, sorry.
-/
import Derived.Test.YthdalpminhbckaaDoorRows
import GoSem.ClaimSeven
namespace Go.Proofs.YthdalpminhbckaaDoor
namespace Rows

/-- THE TIED CARD OF 'motleylaw25.DocPlains'. -/
def docPlainsCard : Claim7 := { stood := { row := docPlainsRow, standIns := [], harness := (true, "1f9058681e7f4a6d82878512f728561c959d8c1a3bb497521d7bf630f3d2073f"), looks := false }, kinds := [], alts := [], laidByText := true, laidKinds := [.data, .pinned], laidTests := true, laidLooks := .later }
def DocPlainsCardSaid : Prop := Claim7.holds Tryd.pinned (.plain (OpenSpec.ofChange docPlainsSpec)) docPlainsCard

/-- THE TIED CARD OF 'motleylaw25.DocWords'. -/
def docWordsCard : Claim7 := { stood := { row := docWordsRow, standIns := [], harness := (true, "1f9058681e7f4a6d82878512f728561c959d8c1a3bb497521d7bf630f3d2073f"), looks := false }, kinds := [], alts := [], laidByText := true, laidKinds := [.data, .pinned], laidTests := true, laidLooks := .later }
def DocWordsCardSaid : Prop := Claim7.holds Tryd.pinned (.plain (OpenSpec.ofChange docWordsSpec)) docWordsCard

/-- THE TIED CARD OF 'motleylaw25.DocQuotes'. -/
def docQuotesCard : Claim7 := { stood := { row := docQuotesRow, standIns := [], harness := (true, "1f9058681e7f4a6d82878512f728561c959d8c1a3bb497521d7bf630f3d2073f"), looks := false }, kinds := [], alts := [], laidByText := true, laidKinds := [.data, .pinned], laidTests := true, laidLooks := .later }
def DocQuotesCardSaid : Prop := Claim7.holds Tryd.pinned (.plain (OpenSpec.ofChange docQuotesSpec)) docQuotesCard

/-- THE TIED CARD OF 'motleylaw25.DocTabs'. -/
def docTabsCard : Claim7 := { stood := { row := docTabsRow, standIns := [], harness := (true, "1f9058681e7f4a6d82878512f728561c959d8c1a3bb497521d7bf630f3d2073f"), looks := false }, kinds := [], alts := [], laidByText := true, laidKinds := [.data, .pinned], laidTests := true, laidLooks := .later }
def DocTabsCardSaid : Prop := Claim7.holds Tryd.pinned (.plain (OpenSpec.ofChange docTabsSpec)) docTabsCard

/-- THE TIED CARD OF 'motleylaw25.DocIndents'. -/
def docIndentsCard : Claim7 := { stood := { row := docIndentsRow, standIns := [], harness := (true, "1f9058681e7f4a6d82878512f728561c959d8c1a3bb497521d7bf630f3d2073f"), looks := false }, kinds := [], alts := [], laidByText := true, laidKinds := [.data, .pinned], laidTests := true, laidLooks := .later }
def DocIndentsCardSaid : Prop := Claim7.holds Tryd.pinned (.plain (OpenSpec.ofChange docIndentsSpec)) docIndentsCard

/-- THE TIED CARD OF 'motleylaw25.DocWraps'. -/
def docWrapsCard : Claim7 := { stood := { row := docWrapsRow, standIns := [], harness := (true, "1f9058681e7f4a6d82878512f728561c959d8c1a3bb497521d7bf630f3d2073f"), looks := false }, kinds := [], alts := [], laidByText := true, laidKinds := [.data, .pinned], laidTests := true, laidLooks := .later }
def DocWrapsCardSaid : Prop := Claim7.holds Tryd.pinned (.plain (OpenSpec.ofChange docWrapsSpec)) docWrapsCard

/-- THE TIED CARD OF 'motleylaw25.DocStrips'. -/
def docStripsCard : Claim7 := { stood := { row := docStripsRow, standIns := [], harness := (true, "1f9058681e7f4a6d82878512f728561c959d8c1a3bb497521d7bf630f3d2073f"), looks := false }, kinds := [], alts := [], laidByText := true, laidKinds := [.data, .pinned], laidTests := true, laidLooks := .later }
def DocStripsCardSaid : Prop := Claim7.holds Tryd.pinned (.plain (OpenSpec.ofChange docStripsSpec)) docStripsCard

/-- THE SECOND FORM's CARD OF 'motleylaw25.DocPlains'. -/
def docPlainsUptoCard : Claim7 := { stood := { row := docPlainsUptoRow, standIns := [], harness := (true, "1f9058681e7f4a6d82878512f728561c959d8c1a3bb497521d7bf630f3d2073f"), looks := false }, kinds := [], alts := [], laidByText := true, laidKinds := [.data, .pinned], laidTests := true, laidLooks := .later }
def DocPlainsUptoCardSaid : Prop := Claim7.holds Tryd.pinned (.plain (OpenSpec.upto docPlainsSpec)) docPlainsUptoCard

/-- THE SECOND FORM's CARD OF 'motleylaw25.DocWords'. -/
def docWordsUptoCard : Claim7 := { stood := { row := docWordsUptoRow, standIns := [], harness := (true, "1f9058681e7f4a6d82878512f728561c959d8c1a3bb497521d7bf630f3d2073f"), looks := false }, kinds := [], alts := [], laidByText := true, laidKinds := [.data, .pinned], laidTests := true, laidLooks := .later }
def DocWordsUptoCardSaid : Prop := Claim7.holds Tryd.pinned (.plain (OpenSpec.upto docWordsSpec)) docWordsUptoCard

/-- THE SECOND FORM's CARD OF 'motleylaw25.DocQuotes'. -/
def docQuotesUptoCard : Claim7 := { stood := { row := docQuotesUptoRow, standIns := [], harness := (true, "1f9058681e7f4a6d82878512f728561c959d8c1a3bb497521d7bf630f3d2073f"), looks := false }, kinds := [], alts := [], laidByText := true, laidKinds := [.data, .pinned], laidTests := true, laidLooks := .later }
def DocQuotesUptoCardSaid : Prop := Claim7.holds Tryd.pinned (.plain (OpenSpec.upto docQuotesSpec)) docQuotesUptoCard

/-- THE SECOND FORM's CARD OF 'motleylaw25.DocTabs'. -/
def docTabsUptoCard : Claim7 := { stood := { row := docTabsUptoRow, standIns := [], harness := (true, "1f9058681e7f4a6d82878512f728561c959d8c1a3bb497521d7bf630f3d2073f"), looks := false }, kinds := [], alts := [], laidByText := true, laidKinds := [.data, .pinned], laidTests := true, laidLooks := .later }
def DocTabsUptoCardSaid : Prop := Claim7.holds Tryd.pinned (.plain (OpenSpec.upto docTabsSpec)) docTabsUptoCard

/-- THE SECOND FORM's CARD OF 'motleylaw25.DocIndents'. -/
def docIndentsUptoCard : Claim7 := { stood := { row := docIndentsUptoRow, standIns := [], harness := (true, "1f9058681e7f4a6d82878512f728561c959d8c1a3bb497521d7bf630f3d2073f"), looks := false }, kinds := [], alts := [], laidByText := true, laidKinds := [.data, .pinned], laidTests := true, laidLooks := .later }
def DocIndentsUptoCardSaid : Prop := Claim7.holds Tryd.pinned (.plain (OpenSpec.upto docIndentsSpec)) docIndentsUptoCard

/-- THE SECOND FORM's CARD OF 'motleylaw25.DocWraps'. -/
def docWrapsUptoCard : Claim7 := { stood := { row := docWrapsUptoRow, standIns := [], harness := (true, "1f9058681e7f4a6d82878512f728561c959d8c1a3bb497521d7bf630f3d2073f"), looks := false }, kinds := [], alts := [], laidByText := true, laidKinds := [.data, .pinned], laidTests := true, laidLooks := .later }
def DocWrapsUptoCardSaid : Prop := Claim7.holds Tryd.pinned (.plain (OpenSpec.upto docWrapsSpec)) docWrapsUptoCard

/-- THE SECOND FORM's CARD OF 'motleylaw25.DocStrips'. -/
def docStripsUptoCard : Claim7 := { stood := { row := docStripsUptoRow, standIns := [], harness := (true, "1f9058681e7f4a6d82878512f728561c959d8c1a3bb497521d7bf630f3d2073f"), looks := false }, kinds := [], alts := [], laidByText := true, laidKinds := [.data, .pinned], laidTests := true, laidLooks := .later }
def DocStripsUptoCardSaid : Prop := Claim7.holds Tryd.pinned (.plain (OpenSpec.upto docStripsSpec)) docStripsUptoCard
end Rows
end Go.Proofs.YthdalpminhbckaaDoor
