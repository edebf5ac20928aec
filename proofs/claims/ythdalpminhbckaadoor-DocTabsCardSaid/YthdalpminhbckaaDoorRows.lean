/-
  NARROWER THAN 'FOR EVERY INPUT', by the rows' own cells (each row's printed sentence says how): DocPlains: laid · DocWords: laid · DocQuotes: laid · DocTabs: laid · DocIndents: laid · DocWraps: laid · DocStrips: laid.
  DERIVED. THE GIVEN ROWS OF THIS SEAT. 7 by the template 'for every input the law returns true; each argument reads behind the call as it read before'; 0 by the template 'total and deterministic' (their statements: YthdalpminhbckaaDoorTotals.lean).
  GIVEN WITH THE SEED: the statements are not yours to turn. If you find one false, say at which input.
  Laid BY PROGRAM, IN A SANDBOX (cutbox-rows.mjs): the forced cells as the released guide's own fill.sh prints them over the translation be4d6df7d23f64ca… (all of the seat's roots in one cut). By AI agents, Wed Nov 11 2026. No macro, syntax, notation, axiom, sorry.
-/
import Derived.Test.YthdalpminhbckaaDoorChecked
import GoSem.PinnedTables
import GoSem.Claim
import GoSem.ClaimJoined
import GoSem.ClaimMapViews
import Derived.JoinedTies
import Derived.KernelRfl
namespace Go.Proofs.YthdalpminhbckaaDoor
/- THE CELL 'sum', in the pinned program and in every row, IS THE sha256 OF THE DUMP (.gsa) THAT YthdalpminhbckaaDoorProg.lean LOADS. Nothing in Lean hashes anything: it is a label: what it is worth is what the hold of that sum in a sandbox is worth. -/
noncomputable def Tryd.pinned : Pinned := { name := "ythdalpminhbckaadoor", sum := "be4d6df7d23f64cae12502a829017d97de3af9bd41c21e932e98fb99e16f1459", checked := Tryd.checked }
namespace Rows
def none {H : Type} : Left H := { results := [], args := [] }

/- WHAT THE LISTED PACKAGE-LEVEL VARIABLES READ AS WHEN THE CALL BEGINS. Each datum BY PROGRAM (the guide's laid-datum.mjs) off the statement by which the dump's own 'gosem.cut.vars' lays the variable. In a bare row this is a premise. The card (YthdalpminhbckaaDoorCards.lean) ties it to the program's text. -/
def laid_unicode_utf8_acceptRanges {H : Type} : DataW H := .agg [.agg [.lit (.int .u8 128), .lit (.int .u8 191)], .agg [.lit (.int .u8 160), .lit (.int .u8 191)], .agg [.lit (.int .u8 128), .lit (.int .u8 159)], .agg [.lit (.int .u8 144), .lit (.int .u8 191)], .agg [.lit (.int .u8 128), .lit (.int .u8 143)], .agg [.lit (.int .u8 0), .lit (.int .u8 0)], .agg [.lit (.int .u8 0), .lit (.int .u8 0)], .agg [.lit (.int .u8 0), .lit (.int .u8 0)], .agg [.lit (.int .u8 0), .lit (.int .u8 0)], .agg [.lit (.int .u8 0), .lit (.int .u8 0)], .agg [.lit (.int .u8 0), .lit (.int .u8 0)], .agg [.lit (.int .u8 0), .lit (.int .u8 0)], .agg [.lit (.int .u8 0), .lit (.int .u8 0)], .agg [.lit (.int .u8 0), .lit (.int .u8 0)], .agg [.lit (.int .u8 0), .lit (.int .u8 0)], .agg [.lit (.int .u8 0), .lit (.int .u8 0)]]
/-- One of Go's own tables, pinned by name: the form's constant. -/
def laid_unicode_utf8_first : DataW Unit := Go.Pinned.utf8First

/-- 'motleylaw25.DocPlains': WHATEVER THE INPUT: true; the input reads as it did. -/
def docPlainsSpec : ChangeSpec := { name := "docPlains", fn := fun _ => fun
  | [d] => { results := [.lit (.bool true)], args := [d] }
  | _ => none }
def docPlainsRow : OpenClaim := { program := "ythdalpminhbckaadoor", sum := "be4d6df7d23f64cae12502a829017d97de3af9bd41c21e932e98fb99e16f1459", func := "motley/motleylaw25.DocPlains", spec := "docPlains", inPlace := ["internal/bytealg.IndexByteString"], unfollowed := true, recurses := true, named := ["unicode/utf8.first", "unicode/utf8.acceptRanges"], apart := false, laid := [("unicode/utf8.acceptRanges", laid_unicode_utf8_acceptRanges), ("unicode/utf8.first", laid_unicode_utf8_first)] }
def DocPlainsSaid : Prop := docPlainsRow.holds Tryd.pinned (OpenSpec.ofChange docPlainsSpec)

/-- ITS FALSE NEIGHBOUR: 'it returns false'. Refute it at one input. -/
def docPlainsWrong : ChangeSpec := { name := "docPlains", fn := fun _ => fun
  | [d] => { results := [.lit (.bool false)], args := [d] }
  | _ => none }
def DocPlainsWrongFalsely : Prop := docPlainsRow.holds Tryd.pinned (OpenSpec.ofChange docPlainsWrong)

/-- 'motleylaw25.DocWords': WHATEVER THE INPUT: true; the input reads as it did. -/
def docWordsSpec : ChangeSpec := { name := "docWords", fn := fun _ => fun
  | [d] => { results := [.lit (.bool true)], args := [d] }
  | _ => none }
def docWordsRow : OpenClaim := { program := "ythdalpminhbckaadoor", sum := "be4d6df7d23f64cae12502a829017d97de3af9bd41c21e932e98fb99e16f1459", func := "motley/motleylaw25.DocWords", spec := "docWords", inPlace := ["internal/bytealg.IndexByteString"], unfollowed := true, recurses := true, named := ["unicode/utf8.first", "unicode/utf8.acceptRanges"], apart := false, laid := [("unicode/utf8.acceptRanges", laid_unicode_utf8_acceptRanges), ("unicode/utf8.first", laid_unicode_utf8_first)] }
def DocWordsSaid : Prop := docWordsRow.holds Tryd.pinned (OpenSpec.ofChange docWordsSpec)

/-- ITS FALSE NEIGHBOUR: 'it returns false'. Refute it at one input. -/
def docWordsWrong : ChangeSpec := { name := "docWords", fn := fun _ => fun
  | [d] => { results := [.lit (.bool false)], args := [d] }
  | _ => none }
def DocWordsWrongFalsely : Prop := docWordsRow.holds Tryd.pinned (OpenSpec.ofChange docWordsWrong)

/-- 'motleylaw25.DocQuotes': WHATEVER THE INPUT: true; the input reads as it did. -/
def docQuotesSpec : ChangeSpec := { name := "docQuotes", fn := fun _ => fun
  | [d] => { results := [.lit (.bool true)], args := [d] }
  | _ => none }
def docQuotesRow : OpenClaim := { program := "ythdalpminhbckaadoor", sum := "be4d6df7d23f64cae12502a829017d97de3af9bd41c21e932e98fb99e16f1459", func := "motley/motleylaw25.DocQuotes", spec := "docQuotes", inPlace := ["internal/bytealg.IndexByteString", "internal/abi.NoEscape", "internal/bytealg.CountString", "internal/bytealg.IndexString", "internal/bytealg.MakeNoZero"], unfollowed := true, recurses := true, named := ["unicode/utf8.first", "unicode/utf8.acceptRanges", "internal/bytealg.MaxLen"], apart := false, laid := [("unicode/utf8.acceptRanges", laid_unicode_utf8_acceptRanges), ("unicode/utf8.first", laid_unicode_utf8_first)] }
def DocQuotesSaid : Prop := docQuotesRow.holds Tryd.pinned (OpenSpec.ofChange docQuotesSpec)

/-- ITS FALSE NEIGHBOUR: 'it returns false'. Refute it at one input. -/
def docQuotesWrong : ChangeSpec := { name := "docQuotes", fn := fun _ => fun
  | [d] => { results := [.lit (.bool false)], args := [d] }
  | _ => none }
def DocQuotesWrongFalsely : Prop := docQuotesRow.holds Tryd.pinned (OpenSpec.ofChange docQuotesWrong)

/-- 'motleylaw25.DocTabs': WHATEVER THE INPUT: true; the input reads as it did. -/
def docTabsSpec : ChangeSpec := { name := "docTabs", fn := fun _ => fun
  | [d1, d2] => { results := [.lit (.bool true)], args := [d1, d2] }
  | _ => none }
def docTabsRow : OpenClaim := { program := "ythdalpminhbckaadoor", sum := "be4d6df7d23f64cae12502a829017d97de3af9bd41c21e932e98fb99e16f1459", func := "motley/motleylaw25.DocTabs", spec := "docTabs", inPlace := ["internal/bytealg.IndexByteString", "internal/abi.NoEscape", "internal/bytealg.MakeNoZero", "internal/bytealg.CountString", "internal/bytealg.IndexString"], unfollowed := true, recurses := true, named := ["unicode/utf8.first", "unicode/utf8.acceptRanges", "internal/bytealg.MaxLen"], apart := false, laid := [("unicode/utf8.acceptRanges", laid_unicode_utf8_acceptRanges), ("unicode/utf8.first", laid_unicode_utf8_first)] }
def DocTabsSaid : Prop := docTabsRow.holds Tryd.pinned (OpenSpec.ofChange docTabsSpec)

/-- ITS FALSE NEIGHBOUR: 'it returns false'. Refute it at one input. -/
def docTabsWrong : ChangeSpec := { name := "docTabs", fn := fun _ => fun
  | [d1, d2] => { results := [.lit (.bool false)], args := [d1, d2] }
  | _ => none }
def DocTabsWrongFalsely : Prop := docTabsRow.holds Tryd.pinned (OpenSpec.ofChange docTabsWrong)

/-- 'motleylaw25.DocIndents': WHATEVER THE INPUT: true; the input reads as it did. -/
def docIndentsSpec : ChangeSpec := { name := "docIndents", fn := fun _ => fun
  | [d] => { results := [.lit (.bool true)], args := [d] }
  | _ => none }
def docIndentsRow : OpenClaim := { program := "ythdalpminhbckaadoor", sum := "be4d6df7d23f64cae12502a829017d97de3af9bd41c21e932e98fb99e16f1459", func := "motley/motleylaw25.DocIndents", spec := "docIndents", inPlace := ["internal/bytealg.IndexByteString", "internal/bytealg.CountString", "internal/bytealg.IndexString", "internal/abi.NoEscape", "internal/bytealg.MakeNoZero"], unfollowed := true, recurses := true, named := ["unicode/utf8.first", "unicode/utf8.acceptRanges", "internal/bytealg.MaxLen"], apart := false, laid := [("unicode/utf8.acceptRanges", laid_unicode_utf8_acceptRanges), ("unicode/utf8.first", laid_unicode_utf8_first)] }
def DocIndentsSaid : Prop := docIndentsRow.holds Tryd.pinned (OpenSpec.ofChange docIndentsSpec)

/-- ITS FALSE NEIGHBOUR: 'it returns false'. Refute it at one input. -/
def docIndentsWrong : ChangeSpec := { name := "docIndents", fn := fun _ => fun
  | [d] => { results := [.lit (.bool false)], args := [d] }
  | _ => none }
def DocIndentsWrongFalsely : Prop := docIndentsRow.holds Tryd.pinned (OpenSpec.ofChange docIndentsWrong)

/-- 'motleylaw25.DocWraps': WHATEVER THE INPUT: true; the input reads as it did. -/
def docWrapsSpec : ChangeSpec := { name := "docWraps", fn := fun _ => fun
  | [d1, d2] => { results := [.lit (.bool true)], args := [d1, d2] }
  | _ => none }
def docWrapsRow : OpenClaim := { program := "ythdalpminhbckaadoor", sum := "be4d6df7d23f64cae12502a829017d97de3af9bd41c21e932e98fb99e16f1459", func := "motley/motleylaw25.DocWraps", spec := "docWraps", inPlace := ["internal/bytealg.IndexByteString", "internal/bytealg.CountString", "internal/bytealg.IndexString", "internal/abi.NoEscape", "internal/bytealg.MakeNoZero"], unfollowed := true, recurses := true, named := ["unicode/utf8.first", "unicode/utf8.acceptRanges", "internal/bytealg.MaxLen"], apart := false, laid := [("unicode/utf8.acceptRanges", laid_unicode_utf8_acceptRanges), ("unicode/utf8.first", laid_unicode_utf8_first)] }
def DocWrapsSaid : Prop := docWrapsRow.holds Tryd.pinned (OpenSpec.ofChange docWrapsSpec)

/-- ITS FALSE NEIGHBOUR: 'it returns false'. Refute it at one input. -/
def docWrapsWrong : ChangeSpec := { name := "docWraps", fn := fun _ => fun
  | [d1, d2] => { results := [.lit (.bool false)], args := [d1, d2] }
  | _ => none }
def DocWrapsWrongFalsely : Prop := docWrapsRow.holds Tryd.pinned (OpenSpec.ofChange docWrapsWrong)

/-- 'motleylaw25.DocStrips': WHATEVER THE INPUT: true; the input reads as it did. -/
def docStripsSpec : ChangeSpec := { name := "docStrips", fn := fun _ => fun
  | [d] => { results := [.lit (.bool true)], args := [d] }
  | _ => none }
def docStripsRow : OpenClaim := { program := "ythdalpminhbckaadoor", sum := "be4d6df7d23f64cae12502a829017d97de3af9bd41c21e932e98fb99e16f1459", func := "motley/motleylaw25.DocStrips", spec := "docStrips", inPlace := ["internal/bytealg.IndexByteString", "internal/bytealg.CountString", "internal/bytealg.IndexString", "internal/abi.NoEscape", "internal/bytealg.MakeNoZero"], unfollowed := true, recurses := true, named := ["unicode/utf8.first", "unicode/utf8.acceptRanges", "internal/bytealg.MaxLen"], apart := false, laid := [("unicode/utf8.acceptRanges", laid_unicode_utf8_acceptRanges), ("unicode/utf8.first", laid_unicode_utf8_first)] }
def DocStripsSaid : Prop := docStripsRow.holds Tryd.pinned (OpenSpec.ofChange docStripsSpec)

/-- ITS FALSE NEIGHBOUR: 'it returns false'. Refute it at one input. -/
def docStripsWrong : ChangeSpec := { name := "docStrips", fn := fun _ => fun
  | [d] => { results := [.lit (.bool false)], args := [d] }
  | _ => none }
def DocStripsWrongFalsely : Prop := docStripsRow.holds Tryd.pinned (OpenSpec.ofChange docStripsWrong)

/- THE SECOND FORM. 'bulk': how many values and letters a reading holds, each counted each time it is reached (what is shared counts as often as it is met; a slice's spare places count too). A statement '..UptoSaid' is the law's where the arguments, and the package variables that the reading takes, are together of bulk at most 1048576: NARROWER than '..Said'. Prove '..Said' where nothing that the law and all that it calls make is longer than what came in: it says more and counts as full. Else prove '..UptoSaid'. A law counts once. -/
mutual
def uptoBulk {H : Type} : DataW H → Nat
  | .lit (.string bytes) => bytes.length + 1
  | .lit _ => 1
  | .nil => 1
  | .ptr d => uptoBulk d + 1
  | .slice elems spare => uptoBulkAll elems + uptoBulkAll spare + 1
  | .agg parts => uptoBulkAll parts + 1
  | .iface _ d => uptoBulk d + 1
  | .map entries => uptoBulkEntries entries + 1
  | .held _ => 1
def uptoBulkAll {H : Type} : List (DataW H) → Nat
  | [] => 0
  | d :: r => uptoBulk d + uptoBulkAll r
def uptoBulkEntries {H : Type} : List (Lit × DataW H) → Nat
  | [] => 0
  | x :: r => uptoBulkEntry x + uptoBulkEntries r
def uptoBulkEntry {H : Type} : Lit × DataW H → Nat
  | (.string bytes, d) => bytes.length + uptoBulk d + 1
  | (_, d) => uptoBulk d + 1
 end
def uptoSmall : (H : Type) → List (DataW H) → Bool := fun _ ds => decide (uptoBulkAll ds ≤ 1048576)
def OpenSpec.upto (s : _root_.Go.ChangeSpec) : _root_.Go.OpenSpec := { _root_.Go.OpenSpec.ofChange s with cond := some uptoSmall }

/-- 'motleylaw25.DocPlains', WHERE WHAT IT READS IS OF BULK AT MOST 1048576: true; the input reads as it did. -/
def docPlainsUptoRow : OpenClaim := { program := "ythdalpminhbckaadoor", sum := "be4d6df7d23f64cae12502a829017d97de3af9bd41c21e932e98fb99e16f1459", func := "motley/motleylaw25.DocPlains", spec := "docPlains", inPlace := ["internal/bytealg.IndexByteString"], unfollowed := true, recurses := true, named := ["unicode/utf8.first", "unicode/utf8.acceptRanges"], apart := false, laid := [("unicode/utf8.acceptRanges", laid_unicode_utf8_acceptRanges), ("unicode/utf8.first", laid_unicode_utf8_first)], narrowed := true }
def DocPlainsUptoSaid : Prop := docPlainsUptoRow.holds Tryd.pinned (OpenSpec.upto docPlainsSpec)

/-- 'motleylaw25.DocWords', WHERE WHAT IT READS IS OF BULK AT MOST 1048576: true; the input reads as it did. -/
def docWordsUptoRow : OpenClaim := { program := "ythdalpminhbckaadoor", sum := "be4d6df7d23f64cae12502a829017d97de3af9bd41c21e932e98fb99e16f1459", func := "motley/motleylaw25.DocWords", spec := "docWords", inPlace := ["internal/bytealg.IndexByteString"], unfollowed := true, recurses := true, named := ["unicode/utf8.first", "unicode/utf8.acceptRanges"], apart := false, laid := [("unicode/utf8.acceptRanges", laid_unicode_utf8_acceptRanges), ("unicode/utf8.first", laid_unicode_utf8_first)], narrowed := true }
def DocWordsUptoSaid : Prop := docWordsUptoRow.holds Tryd.pinned (OpenSpec.upto docWordsSpec)

/-- 'motleylaw25.DocQuotes', WHERE WHAT IT READS IS OF BULK AT MOST 1048576: true; the input reads as it did. -/
def docQuotesUptoRow : OpenClaim := { program := "ythdalpminhbckaadoor", sum := "be4d6df7d23f64cae12502a829017d97de3af9bd41c21e932e98fb99e16f1459", func := "motley/motleylaw25.DocQuotes", spec := "docQuotes", inPlace := ["internal/bytealg.IndexByteString", "internal/abi.NoEscape", "internal/bytealg.CountString", "internal/bytealg.IndexString", "internal/bytealg.MakeNoZero"], unfollowed := true, recurses := true, named := ["unicode/utf8.first", "unicode/utf8.acceptRanges", "internal/bytealg.MaxLen"], apart := false, laid := [("unicode/utf8.acceptRanges", laid_unicode_utf8_acceptRanges), ("unicode/utf8.first", laid_unicode_utf8_first)], narrowed := true }
def DocQuotesUptoSaid : Prop := docQuotesUptoRow.holds Tryd.pinned (OpenSpec.upto docQuotesSpec)

/-- 'motleylaw25.DocTabs', WHERE WHAT IT READS IS OF BULK AT MOST 1048576: true; the input reads as it did. -/
def docTabsUptoRow : OpenClaim := { program := "ythdalpminhbckaadoor", sum := "be4d6df7d23f64cae12502a829017d97de3af9bd41c21e932e98fb99e16f1459", func := "motley/motleylaw25.DocTabs", spec := "docTabs", inPlace := ["internal/bytealg.IndexByteString", "internal/abi.NoEscape", "internal/bytealg.MakeNoZero", "internal/bytealg.CountString", "internal/bytealg.IndexString"], unfollowed := true, recurses := true, named := ["unicode/utf8.first", "unicode/utf8.acceptRanges", "internal/bytealg.MaxLen"], apart := false, laid := [("unicode/utf8.acceptRanges", laid_unicode_utf8_acceptRanges), ("unicode/utf8.first", laid_unicode_utf8_first)], narrowed := true }
def DocTabsUptoSaid : Prop := docTabsUptoRow.holds Tryd.pinned (OpenSpec.upto docTabsSpec)

/-- 'motleylaw25.DocIndents', WHERE WHAT IT READS IS OF BULK AT MOST 1048576: true; the input reads as it did. -/
def docIndentsUptoRow : OpenClaim := { program := "ythdalpminhbckaadoor", sum := "be4d6df7d23f64cae12502a829017d97de3af9bd41c21e932e98fb99e16f1459", func := "motley/motleylaw25.DocIndents", spec := "docIndents", inPlace := ["internal/bytealg.IndexByteString", "internal/bytealg.CountString", "internal/bytealg.IndexString", "internal/abi.NoEscape", "internal/bytealg.MakeNoZero"], unfollowed := true, recurses := true, named := ["unicode/utf8.first", "unicode/utf8.acceptRanges", "internal/bytealg.MaxLen"], apart := false, laid := [("unicode/utf8.acceptRanges", laid_unicode_utf8_acceptRanges), ("unicode/utf8.first", laid_unicode_utf8_first)], narrowed := true }
def DocIndentsUptoSaid : Prop := docIndentsUptoRow.holds Tryd.pinned (OpenSpec.upto docIndentsSpec)

/-- 'motleylaw25.DocWraps', WHERE WHAT IT READS IS OF BULK AT MOST 1048576: true; the input reads as it did. -/
def docWrapsUptoRow : OpenClaim := { program := "ythdalpminhbckaadoor", sum := "be4d6df7d23f64cae12502a829017d97de3af9bd41c21e932e98fb99e16f1459", func := "motley/motleylaw25.DocWraps", spec := "docWraps", inPlace := ["internal/bytealg.IndexByteString", "internal/bytealg.CountString", "internal/bytealg.IndexString", "internal/abi.NoEscape", "internal/bytealg.MakeNoZero"], unfollowed := true, recurses := true, named := ["unicode/utf8.first", "unicode/utf8.acceptRanges", "internal/bytealg.MaxLen"], apart := false, laid := [("unicode/utf8.acceptRanges", laid_unicode_utf8_acceptRanges), ("unicode/utf8.first", laid_unicode_utf8_first)], narrowed := true }
def DocWrapsUptoSaid : Prop := docWrapsUptoRow.holds Tryd.pinned (OpenSpec.upto docWrapsSpec)

/-- 'motleylaw25.DocStrips', WHERE WHAT IT READS IS OF BULK AT MOST 1048576: true; the input reads as it did. -/
def docStripsUptoRow : OpenClaim := { program := "ythdalpminhbckaadoor", sum := "be4d6df7d23f64cae12502a829017d97de3af9bd41c21e932e98fb99e16f1459", func := "motley/motleylaw25.DocStrips", spec := "docStrips", inPlace := ["internal/bytealg.IndexByteString", "internal/bytealg.CountString", "internal/bytealg.IndexString", "internal/abi.NoEscape", "internal/bytealg.MakeNoZero"], unfollowed := true, recurses := true, named := ["unicode/utf8.first", "unicode/utf8.acceptRanges", "internal/bytealg.MaxLen"], apart := false, laid := [("unicode/utf8.acceptRanges", laid_unicode_utf8_acceptRanges), ("unicode/utf8.first", laid_unicode_utf8_first)], narrowed := true }
def DocStripsUptoSaid : Prop := docStripsUptoRow.holds Tryd.pinned (OpenSpec.upto docStripsSpec)

end Rows
end Go.Proofs.YthdalpminhbckaaDoor
