/-
  NARROWER THAN 'FOR EVERY INPUT', by the rows' own cells (each row's printed sentence says how): CharsForms: laid · CharsFolds: laid · CharsSubs: laid · CharsTurns: laid · CharsReads: laid · CharsWrites: laid · CharsFinds: laid · CharsClasses: laid.
  DERIVED. THE GIVEN ROWS OF THIS SEAT. 8 by the template 'for every input the law returns true; each argument reads behind the call as it read before'; 0 by the template 'total and deterministic' (their statements: YtegapacamclipaaDoorTotals.lean).
  GIVEN WITH THE SEED: the statements are not yours to turn. If you find one false, say at which input.
  Laid BY PROGRAM, IN A SANDBOX (cutbox-rows.mjs): the forced cells as the released guide's own fill.sh prints them over the translation 471093b20498ac68… (all of the seat's roots in one cut). By AI agents, Wed Nov 11 2026. No macro, syntax, notation, axiom, sorry.
-/
import Derived.Test.YtegapacamclipaaDoorChecked
import GoSem.PinnedTables
import GoSem.Claim
import GoSem.ClaimJoined
import GoSem.ClaimMapViews
import Derived.JoinedTies
import Derived.KernelRfl
namespace Go.Proofs.YtegapacamclipaaDoor
/- THE CELL 'sum', in the pinned program and in every row, IS THE sha256 OF THE DUMP (.gsa) THAT YtegapacamclipaaDoorProg.lean LOADS. Nothing in Lean hashes anything: it is a label: what it is worth is what the hold of that sum in a sandbox is worth. -/
noncomputable def Tryd.pinned : Pinned := { name := "ytegapacamclipaadoor", sum := "471093b20498ac68c13f9e7324a9377b149a4e763b9b915dd85e4fed03164b71", checked := Tryd.checked }
namespace Rows
def none {H : Type} : Left H := { results := [], args := [] }

/- WHAT THE LISTED PACKAGE-LEVEL VARIABLES READ AS WHEN THE CALL BEGINS. Each datum BY PROGRAM (the guide's laid-datum.mjs) off the statement by which the dump's own 'gosem.cut.vars' lays the variable. In a bare row this is a premise. The card (YtegapacamclipaaDoorCards.lean) ties it to the program's text. -/
def laid_unicode_utf8_acceptRanges {H : Type} : DataW H := .agg [.agg [.lit (.int .u8 128), .lit (.int .u8 191)], .agg [.lit (.int .u8 160), .lit (.int .u8 191)], .agg [.lit (.int .u8 128), .lit (.int .u8 159)], .agg [.lit (.int .u8 144), .lit (.int .u8 191)], .agg [.lit (.int .u8 128), .lit (.int .u8 143)], .agg [.lit (.int .u8 0), .lit (.int .u8 0)], .agg [.lit (.int .u8 0), .lit (.int .u8 0)], .agg [.lit (.int .u8 0), .lit (.int .u8 0)], .agg [.lit (.int .u8 0), .lit (.int .u8 0)], .agg [.lit (.int .u8 0), .lit (.int .u8 0)], .agg [.lit (.int .u8 0), .lit (.int .u8 0)], .agg [.lit (.int .u8 0), .lit (.int .u8 0)], .agg [.lit (.int .u8 0), .lit (.int .u8 0)], .agg [.lit (.int .u8 0), .lit (.int .u8 0)], .agg [.lit (.int .u8 0), .lit (.int .u8 0)], .agg [.lit (.int .u8 0), .lit (.int .u8 0)]]
/-- One of Go's own tables, pinned by name: the form's constant. -/
def laid_unicode_utf8_first : DataW Unit := Go.Pinned.utf8First

/-- 'motleylaw02.CharsForms': WHATEVER THE INPUT: true; the input reads as it did. -/
def charsFormsSpec : ChangeSpec := { name := "charsForms", fn := fun _ => fun
  | [d] => { results := [.lit (.bool true)], args := [d] }
  | _ => none }
def charsFormsRow : OpenClaim := { program := "ytegapacamclipaadoor", sum := "471093b20498ac68c13f9e7324a9377b149a4e763b9b915dd85e4fed03164b71", func := "motley/motleylaw02.CharsForms", spec := "charsForms", inPlace := ["internal/abi.NoEscape"], unfollowed := true, recurses := true, named := ["unicode/utf8.first", "unicode/utf8.acceptRanges"], apart := false, laid := [("unicode/utf8.acceptRanges", laid_unicode_utf8_acceptRanges), ("unicode/utf8.first", laid_unicode_utf8_first)] }
def CharsFormsSaid : Prop := charsFormsRow.holds Tryd.pinned (OpenSpec.ofChange charsFormsSpec)

/-- ITS FALSE NEIGHBOUR: 'it returns false'. Refute it at one input. -/
def charsFormsWrong : ChangeSpec := { name := "charsForms", fn := fun _ => fun
  | [d] => { results := [.lit (.bool false)], args := [d] }
  | _ => none }
def CharsFormsWrongFalsely : Prop := charsFormsRow.holds Tryd.pinned (OpenSpec.ofChange charsFormsWrong)

/-- 'motleylaw02.CharsFolds': WHATEVER THE INPUT: true; the input reads as it did. -/
def charsFoldsSpec : ChangeSpec := { name := "charsFolds", fn := fun _ => fun
  | [d1, d2] => { results := [.lit (.bool true)], args := [d1, d2] }
  | _ => none }
def charsFoldsRow : OpenClaim := { program := "ytegapacamclipaadoor", sum := "471093b20498ac68c13f9e7324a9377b149a4e763b9b915dd85e4fed03164b71", func := "motley/motleylaw02.CharsFolds", spec := "charsFolds", inPlace := ["internal/abi.NoEscape"], unfollowed := true, recurses := true, named := ["unicode/utf8.first", "unicode/utf8.acceptRanges"], apart := false, laid := [("unicode/utf8.acceptRanges", laid_unicode_utf8_acceptRanges), ("unicode/utf8.first", laid_unicode_utf8_first)] }
def CharsFoldsSaid : Prop := charsFoldsRow.holds Tryd.pinned (OpenSpec.ofChange charsFoldsSpec)

/-- ITS FALSE NEIGHBOUR: 'it returns false'. Refute it at one input. -/
def charsFoldsWrong : ChangeSpec := { name := "charsFolds", fn := fun _ => fun
  | [d1, d2] => { results := [.lit (.bool false)], args := [d1, d2] }
  | _ => none }
def CharsFoldsWrongFalsely : Prop := charsFoldsRow.holds Tryd.pinned (OpenSpec.ofChange charsFoldsWrong)

/-- 'motleylaw02.CharsSubs': WHATEVER THE INPUT: true; the input reads as it did. -/
def charsSubsSpec : ChangeSpec := { name := "charsSubs", fn := fun _ => fun
  | [d1, d2, d3] => { results := [.lit (.bool true)], args := [d1, d2, d3] }
  | _ => none }
def charsSubsRow : OpenClaim := { program := "ytegapacamclipaadoor", sum := "471093b20498ac68c13f9e7324a9377b149a4e763b9b915dd85e4fed03164b71", func := "motley/motleylaw02.CharsSubs", spec := "charsSubs", inPlace := ["internal/abi.NoEscape"], unfollowed := true, recurses := true, named := ["unicode/utf8.first", "unicode/utf8.acceptRanges"], apart := false, laid := [("unicode/utf8.acceptRanges", laid_unicode_utf8_acceptRanges), ("unicode/utf8.first", laid_unicode_utf8_first)] }
def CharsSubsSaid : Prop := charsSubsRow.holds Tryd.pinned (OpenSpec.ofChange charsSubsSpec)

/-- ITS FALSE NEIGHBOUR: 'it returns false'. Refute it at one input. -/
def charsSubsWrong : ChangeSpec := { name := "charsSubs", fn := fun _ => fun
  | [d1, d2, d3] => { results := [.lit (.bool false)], args := [d1, d2, d3] }
  | _ => none }
def CharsSubsWrongFalsely : Prop := charsSubsRow.holds Tryd.pinned (OpenSpec.ofChange charsSubsWrong)

/-- 'motleylaw02.CharsTurns': WHATEVER THE INPUT: true; the input reads as it did. -/
def charsTurnsSpec : ChangeSpec := { name := "charsTurns", fn := fun _ => fun
  | [d] => { results := [.lit (.bool true)], args := [d] }
  | _ => none }
def charsTurnsRow : OpenClaim := { program := "ytegapacamclipaadoor", sum := "471093b20498ac68c13f9e7324a9377b149a4e763b9b915dd85e4fed03164b71", func := "motley/motleylaw02.CharsTurns", spec := "charsTurns", inPlace := ["internal/abi.NoEscape"], unfollowed := true, recurses := true, named := ["unicode/utf8.first", "unicode/utf8.acceptRanges"], apart := false, laid := [("unicode/utf8.acceptRanges", laid_unicode_utf8_acceptRanges), ("unicode/utf8.first", laid_unicode_utf8_first)] }
def CharsTurnsSaid : Prop := charsTurnsRow.holds Tryd.pinned (OpenSpec.ofChange charsTurnsSpec)

/-- ITS FALSE NEIGHBOUR: 'it returns false'. Refute it at one input. -/
def charsTurnsWrong : ChangeSpec := { name := "charsTurns", fn := fun _ => fun
  | [d] => { results := [.lit (.bool false)], args := [d] }
  | _ => none }
def CharsTurnsWrongFalsely : Prop := charsTurnsRow.holds Tryd.pinned (OpenSpec.ofChange charsTurnsWrong)

/-- 'motleylaw02.CharsReads': WHATEVER THE INPUT: true; the input reads as it did. -/
def charsReadsSpec : ChangeSpec := { name := "charsReads", fn := fun _ => fun
  | [d] => { results := [.lit (.bool true)], args := [d] }
  | _ => none }
def charsReadsRow : OpenClaim := { program := "ytegapacamclipaadoor", sum := "471093b20498ac68c13f9e7324a9377b149a4e763b9b915dd85e4fed03164b71", func := "motley/motleylaw02.CharsReads", spec := "charsReads", inPlace := ["internal/abi.NoEscape"], unfollowed := true, recurses := true, named := ["unicode/utf8.first", "unicode/utf8.acceptRanges"], apart := false, laid := [("unicode/utf8.acceptRanges", laid_unicode_utf8_acceptRanges), ("unicode/utf8.first", laid_unicode_utf8_first)] }
def CharsReadsSaid : Prop := charsReadsRow.holds Tryd.pinned (OpenSpec.ofChange charsReadsSpec)

/-- ITS FALSE NEIGHBOUR: 'it returns false'. Refute it at one input. -/
def charsReadsWrong : ChangeSpec := { name := "charsReads", fn := fun _ => fun
  | [d] => { results := [.lit (.bool false)], args := [d] }
  | _ => none }
def CharsReadsWrongFalsely : Prop := charsReadsRow.holds Tryd.pinned (OpenSpec.ofChange charsReadsWrong)

/-- 'motleylaw02.CharsWrites': WHATEVER THE INPUT: true; the input reads as it did. -/
def charsWritesSpec : ChangeSpec := { name := "charsWrites", fn := fun _ => fun
  | [d] => { results := [.lit (.bool true)], args := [d] }
  | _ => none }
def charsWritesRow : OpenClaim := { program := "ytegapacamclipaadoor", sum := "471093b20498ac68c13f9e7324a9377b149a4e763b9b915dd85e4fed03164b71", func := "motley/motleylaw02.CharsWrites", spec := "charsWrites", inPlace := ["internal/abi.NoEscape"], unfollowed := true, recurses := true, named := ["unicode/utf8.first", "unicode/utf8.acceptRanges"], apart := false, laid := [("unicode/utf8.acceptRanges", laid_unicode_utf8_acceptRanges), ("unicode/utf8.first", laid_unicode_utf8_first)] }
def CharsWritesSaid : Prop := charsWritesRow.holds Tryd.pinned (OpenSpec.ofChange charsWritesSpec)

/-- ITS FALSE NEIGHBOUR: 'it returns false'. Refute it at one input. -/
def charsWritesWrong : ChangeSpec := { name := "charsWrites", fn := fun _ => fun
  | [d] => { results := [.lit (.bool false)], args := [d] }
  | _ => none }
def CharsWritesWrongFalsely : Prop := charsWritesRow.holds Tryd.pinned (OpenSpec.ofChange charsWritesWrong)

/-- 'motleylaw02.CharsFinds': WHATEVER THE INPUT: true; the input reads as it did. -/
def charsFindsSpec : ChangeSpec := { name := "charsFinds", fn := fun _ => fun
  | [d1, d2, d3] => { results := [.lit (.bool true)], args := [d1, d2, d3] }
  | _ => none }
def charsFindsRow : OpenClaim := { program := "ytegapacamclipaadoor", sum := "471093b20498ac68c13f9e7324a9377b149a4e763b9b915dd85e4fed03164b71", func := "motley/motleylaw02.CharsFinds", spec := "charsFinds", inPlace := ["internal/abi.NoEscape"], unfollowed := true, recurses := true, named := ["unicode/utf8.first", "unicode/utf8.acceptRanges"], apart := false, laid := [("unicode/utf8.acceptRanges", laid_unicode_utf8_acceptRanges), ("unicode/utf8.first", laid_unicode_utf8_first)] }
def CharsFindsSaid : Prop := charsFindsRow.holds Tryd.pinned (OpenSpec.ofChange charsFindsSpec)

/-- ITS FALSE NEIGHBOUR: 'it returns false'. Refute it at one input. -/
def charsFindsWrong : ChangeSpec := { name := "charsFinds", fn := fun _ => fun
  | [d1, d2, d3] => { results := [.lit (.bool false)], args := [d1, d2, d3] }
  | _ => none }
def CharsFindsWrongFalsely : Prop := charsFindsRow.holds Tryd.pinned (OpenSpec.ofChange charsFindsWrong)

/-- 'motleylaw02.CharsClasses': WHATEVER THE INPUT: true; the input reads as it did. -/
def charsClassesSpec : ChangeSpec := { name := "charsClasses", fn := fun _ => fun
  | [d1, d2] => { results := [.lit (.bool true)], args := [d1, d2] }
  | _ => none }
def charsClassesRow : OpenClaim := { program := "ytegapacamclipaadoor", sum := "471093b20498ac68c13f9e7324a9377b149a4e763b9b915dd85e4fed03164b71", func := "motley/motleylaw02.CharsClasses", spec := "charsClasses", inPlace := ["internal/abi.NoEscape"], unfollowed := true, recurses := true, named := ["unicode/utf8.first", "unicode/utf8.acceptRanges"], apart := false, laid := [("unicode/utf8.acceptRanges", laid_unicode_utf8_acceptRanges), ("unicode/utf8.first", laid_unicode_utf8_first)] }
def CharsClassesSaid : Prop := charsClassesRow.holds Tryd.pinned (OpenSpec.ofChange charsClassesSpec)

/-- ITS FALSE NEIGHBOUR: 'it returns false'. Refute it at one input. -/
def charsClassesWrong : ChangeSpec := { name := "charsClasses", fn := fun _ => fun
  | [d1, d2] => { results := [.lit (.bool false)], args := [d1, d2] }
  | _ => none }
def CharsClassesWrongFalsely : Prop := charsClassesRow.holds Tryd.pinned (OpenSpec.ofChange charsClassesWrong)

/- THE SECOND FORM. 'bulk': how many values and letters a reading holds, each counted each time it is reached (what is shared counts as often as it is met; a slice's spare places count too). A statement '..UptoSaid' is the law's where the arguments, and the package variables that the reading takes, are together of bulk at most 1048576: NARROWER than '..Said'. Prove '..Said' where nothing that the law and all that it calls make is longer than what came in: it says more and counts as full. Else prove '..UptoSaid'. A law counts once. -/
mutual
def uptoBulk {H : Type} : DataW H → Nat
  | .lit (.string bytes) => bytes.length + 1
  | .lit _ => 1
  | .nil => 1
  | .ptr d => uptoBulk d + 1
  | .slice elems spare => uptoBulkAll elems + uptoBulkAll spare + 1
  | .agg parts => uptoBulkAll parts + 1
  | .iface _ d => uptoBulk d + 1
  | .map entries => uptoBulkEntries entries + 1
  | .held _ => 1
def uptoBulkAll {H : Type} : List (DataW H) → Nat
  | [] => 0
  | d :: r => uptoBulk d + uptoBulkAll r
def uptoBulkEntries {H : Type} : List (Lit × DataW H) → Nat
  | [] => 0
  | x :: r => uptoBulkEntry x + uptoBulkEntries r
def uptoBulkEntry {H : Type} : Lit × DataW H → Nat
  | (.string bytes, d) => bytes.length + uptoBulk d + 1
  | (_, d) => uptoBulk d + 1
 end
def uptoSmall : (H : Type) → List (DataW H) → Bool := fun _ ds => decide (uptoBulkAll ds ≤ 1048576)
def OpenSpec.upto (s : _root_.Go.ChangeSpec) : _root_.Go.OpenSpec := { _root_.Go.OpenSpec.ofChange s with cond := some uptoSmall }

/-- 'motleylaw02.CharsForms', WHERE WHAT IT READS IS OF BULK AT MOST 1048576: true; the input reads as it did. -/
def charsFormsUptoRow : OpenClaim := { program := "ytegapacamclipaadoor", sum := "471093b20498ac68c13f9e7324a9377b149a4e763b9b915dd85e4fed03164b71", func := "motley/motleylaw02.CharsForms", spec := "charsForms", inPlace := ["internal/abi.NoEscape"], unfollowed := true, recurses := true, named := ["unicode/utf8.first", "unicode/utf8.acceptRanges"], apart := false, laid := [("unicode/utf8.acceptRanges", laid_unicode_utf8_acceptRanges), ("unicode/utf8.first", laid_unicode_utf8_first)], narrowed := true }
def CharsFormsUptoSaid : Prop := charsFormsUptoRow.holds Tryd.pinned (OpenSpec.upto charsFormsSpec)

/-- 'motleylaw02.CharsFolds', WHERE WHAT IT READS IS OF BULK AT MOST 1048576: true; the input reads as it did. -/
def charsFoldsUptoRow : OpenClaim := { program := "ytegapacamclipaadoor", sum := "471093b20498ac68c13f9e7324a9377b149a4e763b9b915dd85e4fed03164b71", func := "motley/motleylaw02.CharsFolds", spec := "charsFolds", inPlace := ["internal/abi.NoEscape"], unfollowed := true, recurses := true, named := ["unicode/utf8.first", "unicode/utf8.acceptRanges"], apart := false, laid := [("unicode/utf8.acceptRanges", laid_unicode_utf8_acceptRanges), ("unicode/utf8.first", laid_unicode_utf8_first)], narrowed := true }
def CharsFoldsUptoSaid : Prop := charsFoldsUptoRow.holds Tryd.pinned (OpenSpec.upto charsFoldsSpec)

/-- 'motleylaw02.CharsSubs', WHERE WHAT IT READS IS OF BULK AT MOST 1048576: true; the input reads as it did. -/
def charsSubsUptoRow : OpenClaim := { program := "ytegapacamclipaadoor", sum := "471093b20498ac68c13f9e7324a9377b149a4e763b9b915dd85e4fed03164b71", func := "motley/motleylaw02.CharsSubs", spec := "charsSubs", inPlace := ["internal/abi.NoEscape"], unfollowed := true, recurses := true, named := ["unicode/utf8.first", "unicode/utf8.acceptRanges"], apart := false, laid := [("unicode/utf8.acceptRanges", laid_unicode_utf8_acceptRanges), ("unicode/utf8.first", laid_unicode_utf8_first)], narrowed := true }
def CharsSubsUptoSaid : Prop := charsSubsUptoRow.holds Tryd.pinned (OpenSpec.upto charsSubsSpec)

/-- 'motleylaw02.CharsTurns', WHERE WHAT IT READS IS OF BULK AT MOST 1048576: true; the input reads as it did. -/
def charsTurnsUptoRow : OpenClaim := { program := "ytegapacamclipaadoor", sum := "471093b20498ac68c13f9e7324a9377b149a4e763b9b915dd85e4fed03164b71", func := "motley/motleylaw02.CharsTurns", spec := "charsTurns", inPlace := ["internal/abi.NoEscape"], unfollowed := true, recurses := true, named := ["unicode/utf8.first", "unicode/utf8.acceptRanges"], apart := false, laid := [("unicode/utf8.acceptRanges", laid_unicode_utf8_acceptRanges), ("unicode/utf8.first", laid_unicode_utf8_first)], narrowed := true }
def CharsTurnsUptoSaid : Prop := charsTurnsUptoRow.holds Tryd.pinned (OpenSpec.upto charsTurnsSpec)

/-- 'motleylaw02.CharsReads', WHERE WHAT IT READS IS OF BULK AT MOST 1048576: true; the input reads as it did. -/
def charsReadsUptoRow : OpenClaim := { program := "ytegapacamclipaadoor", sum := "471093b20498ac68c13f9e7324a9377b149a4e763b9b915dd85e4fed03164b71", func := "motley/motleylaw02.CharsReads", spec := "charsReads", inPlace := ["internal/abi.NoEscape"], unfollowed := true, recurses := true, named := ["unicode/utf8.first", "unicode/utf8.acceptRanges"], apart := false, laid := [("unicode/utf8.acceptRanges", laid_unicode_utf8_acceptRanges), ("unicode/utf8.first", laid_unicode_utf8_first)], narrowed := true }
def CharsReadsUptoSaid : Prop := charsReadsUptoRow.holds Tryd.pinned (OpenSpec.upto charsReadsSpec)

/-- 'motleylaw02.CharsWrites', WHERE WHAT IT READS IS OF BULK AT MOST 1048576: true; the input reads as it did. -/
def charsWritesUptoRow : OpenClaim := { program := "ytegapacamclipaadoor", sum := "471093b20498ac68c13f9e7324a9377b149a4e763b9b915dd85e4fed03164b71", func := "motley/motleylaw02.CharsWrites", spec := "charsWrites", inPlace := ["internal/abi.NoEscape"], unfollowed := true, recurses := true, named := ["unicode/utf8.first", "unicode/utf8.acceptRanges"], apart := false, laid := [("unicode/utf8.acceptRanges", laid_unicode_utf8_acceptRanges), ("unicode/utf8.first", laid_unicode_utf8_first)], narrowed := true }
def CharsWritesUptoSaid : Prop := charsWritesUptoRow.holds Tryd.pinned (OpenSpec.upto charsWritesSpec)

/-- 'motleylaw02.CharsFinds', WHERE WHAT IT READS IS OF BULK AT MOST 1048576: true; the input reads as it did. -/
def charsFindsUptoRow : OpenClaim := { program := "ytegapacamclipaadoor", sum := "471093b20498ac68c13f9e7324a9377b149a4e763b9b915dd85e4fed03164b71", func := "motley/motleylaw02.CharsFinds", spec := "charsFinds", inPlace := ["internal/abi.NoEscape"], unfollowed := true, recurses := true, named := ["unicode/utf8.first", "unicode/utf8.acceptRanges"], apart := false, laid := [("unicode/utf8.acceptRanges", laid_unicode_utf8_acceptRanges), ("unicode/utf8.first", laid_unicode_utf8_first)], narrowed := true }
def CharsFindsUptoSaid : Prop := charsFindsUptoRow.holds Tryd.pinned (OpenSpec.upto charsFindsSpec)

/-- 'motleylaw02.CharsClasses', WHERE WHAT IT READS IS OF BULK AT MOST 1048576: true; the input reads as it did. -/
def charsClassesUptoRow : OpenClaim := { program := "ytegapacamclipaadoor", sum := "471093b20498ac68c13f9e7324a9377b149a4e763b9b915dd85e4fed03164b71", func := "motley/motleylaw02.CharsClasses", spec := "charsClasses", inPlace := ["internal/abi.NoEscape"], unfollowed := true, recurses := true, named := ["unicode/utf8.first", "unicode/utf8.acceptRanges"], apart := false, laid := [("unicode/utf8.acceptRanges", laid_unicode_utf8_acceptRanges), ("unicode/utf8.first", laid_unicode_utf8_first)], narrowed := true }
def CharsClassesUptoSaid : Prop := charsClassesUptoRow.holds Tryd.pinned (OpenSpec.upto charsClassesSpec)

end Rows
end Go.Proofs.YtegapacamclipaaDoor
