/- PROVED: the card of TapParses ("motley/motleylaw27.TapParses"). Which moment, and which span, a text is, for all texts. The Go function returns true for every input, and its arguments read afterwards as before. Conditions: those that the card bears: the package-level variables that the row lists (math/bits.deBruijn32tab, math/bits.deBruijn64tab, internal/strconv.uint64pow10, unicode/utf8.acceptRanges, strconv.ErrRange, strconv.ErrSyntax, unicode/utf8.first) start as the program's text lays them. Written by the session's own program (wip/tools/genrow.py). -/
import Derived.Test.YtallfkecjibpmaaDoorRows
import Derived.Test.YtallfkecjibpmaaDoorTie
import Derived.Test.YtallfkecjibpmaaDoorCards
import Derived.Test.YtallfkecjibpmaaDoorLaidE
import Derived.Test.YtallfkecjibpmaaDoorM5
import Derived.Test.YtallfkecjibpmaaDoorPureTapParses
import Derived.WalkKit
import Derived.ProofKit
import Derived.OpenShut
import Derived.ShutString
import Derived.ChangeOld
import Derived.Below
import Derived.SizedLaws
import Derived.Handed
import Derived.LaidLaws
import Derived.SevenTiedAt
namespace Go.Proofs.YtallfkecjibpmaaDoor.tapParses
open Go.ChangeShapes Go.WideShapes Go.ChangeAt Go.RowKit
open Go.ChangeMaps (open_string shut_string)
set_option linter.unusedVariables false
set_option maxRecDepth 100000 in
theorem lifted (os : Os) (started : os.Started) (H : Type) (enc : TypeId × Value → H) :
    ReturnsInHanded {} Tryd.checked os 7 .any (fun w args => (Rows.tapParsesSpec.pre enc Tryd.prog Tryd.f7 Rows.tapParsesRow.domain false w args ∧ laidMetH Tryd.prog LaidE.laid w) ∧ sizedMet enc Tryd.prog Tryd.f7 (OpenSpec.ofChange Rows.tapParsesSpec) false w args) (Rows.tapParsesSpec.post enc Tryd.prog Tryd.f7 false true false false) := by
  refine LaidE.returns_shaped (C := Tryd.checked) (X := (fun w _ => laidMetH Tryd.prog LaidE.laid w)) (fun _ _ _ hh h => h.of_heap hh) LaidE.own started (by kernel_rfl) Tryd.func7
    (ChangeSpec.witness_shaped (enc := enc) (C := Tryd.checked) (os := os) (X := (fun w _ => laidMetH Tryd.prog LaidE.laid w)) false (LaidE.world os) #[.string ByteArray.empty] 8 rfl (World.shaped_of_RefB (by kernel_rfl) (by kernel_rfl)) (by kernel_rfl) (by kernel_rfl) (by kernel_rfl) (LaidE.world_met os _)) ?_
  intro W base args ds gs before hval0 hW hcnd hsz0 hX hsh _
  have hL : G.LaidW W := LaidE.laidW hX hsh
  have hsz : (DataW.weightsEach Tryd.prog (Tryd.f7.params.toList ++ Rows.tapParsesSpec.plain.varTypes Tryd.prog) (ds ++ gs)).all (· ≤ reachBytes) = true := hsz0
  have hval : ∀ (j : Nat) t v, Tryd.f7.params[j]? = some t → args[j]? = some v → Value.okWide Tryd.prog W .any base t v := hval0
  have hW' := hW
  obtain ⟨p, q, hA0, hV, rfl, hfz, hnd⟩ := hW
  have hA : DataW.TrodAll enc Tryd.prog W 0 (fun _ => true) true Tryd.f7.params.toList args.toList ds p := hA0
  rw [Tryd.params7] at hA hval hsz
  obtain ⟨v0, vs0, d0, ds0, p0, q0, hargs, rfl, rfl, h0, r0⟩ := trodAll_cons hA
  obtain ⟨rfl, rfl, rfl⟩ := trodAll_nil r0
  obtain rfl : args = #[v0] := by cases args; simp_all
  obtain ⟨rfl, rfl⟩ := trodVars_none hV
  obtain ⟨a0, rfl, rfl, rfl, y0⟩ := open_string Tryd.underlying9 (hval 0 9 v0 rfl rfl) h0
  have w0 : a0.size ≤ 140737488351232 := by
    have z := sized_string hsz (j := 0) (t := 9) rfl rfl
    rw [Array.length_toList] at z
    exact z
  clear hA0 hval0 hsz0 hsz
  refine (M.motleylaw27_TapParses.walk Pure.TapParses a0 W hL w0).mono fun e W' ⟨he, bel⟩ => ?_
  subst he
  exact ⟨_, rfl, _, _, _, [], _, [], hW', trodAll_mk1 (shut_bool Tryd.underlying4 _), (trodAll_cons_mk (shut_string Tryd.underlying9 y0) trodAll_mk0), rfl, bel.frame _, fun h => by cases h⟩
theorem over : Rows.tapParsesRow.holds Tryd.pinned (OpenSpec.ofChange Rows.tapParsesSpec) :=
  OpenClaim.holds_of_wide 7 Tryd.f7 rfl rfl rfl rfl rfl rfl rfl ⟨rfl, rfl, rfl, rfl, rfl⟩ rfl rfl rfl rfl rfl (by kernel_rfl) Tryd.func7 (by kernel_rfl)
    (of_decide_eq_true (by kernel_rfl)) (by unfold Func.isWrapper; first | (rw [if_pos (by decide +kernel)]; kernel_rfl) | (rw [if_neg (by decide +kernel)]; exact ⟨rfl, rfl⟩))
    (fun os started H enc _ => lifted os started H enc)
theorem proved : Rows.TapParsesSaid := over
theorem card : Rows.TapParsesCardSaid :=
  Claim7.holds_tied_plain_at .later [] [.data, .data, .data, .data, .sentinel, .sentinel, .pinned] true (true, "abd4d8e25d5a9f0c618252e5f831cda1db040089d4b10df557b45a1a481b4f4f") true proved (fun _ h => by cases h) (by kernel_rfl) (fun _ h => by cases h) tapParses_row_tie rfl ⟨rfl, rfl⟩ (by kernel_rfl) rfl
    (fun f fn hf hfn => by
      obtain rfl : f = 7 := Option.some.inj ((show Tryd.prog.funcNamed "motley/motleylaw27.TapParses" = some 7 by kernel_rfl).symm.trans hf) |>.symm
      obtain rfl : fn = Tryd.f7 := (Option.some.inj (Tryd.func7.symm.trans hfn)).symm
      exact ⟨by kernel_rfl, fun j t ht => by
        rw [Tryd.params7] at ht
        have hm : t ∈ [9] := by simpa using Array.mem_of_getElem? ht
        have hall : ([9].all fun u => !Tryd.prog.wantsStandIn u) = true := by kernel_rfl
        exact (show Tryd.prog.wantsStandIn t = false by simpa using List.all_eq_true.1 hall t hm)⟩)
    (by kernel_rfl)
end Go.Proofs.YtallfkecjibpmaaDoor.tapParses
namespace Go.Proofs.YtallfkecjibpmaaDoor
theorem tapParses_holds : Rows.TapParsesCardSaid := tapParses.card
#print axioms tapParses_holds
end Go.Proofs.YtallfkecjibpmaaDoor
