/- PROVED: the card of TapStamps ("motley/motleylaw27.TapStamps"). How a moment is written, and that it is read as what it was, for all numbers. The Go function returns true for every input, and its arguments read afterwards as before. Conditions: those that the card bears: the package-level variables that the row lists (math/bits.deBruijn32tab, math/bits.deBruijn64tab, internal/strconv.uint64pow10, unicode/utf8.acceptRanges, strconv.ErrRange, strconv.ErrSyntax, unicode/utf8.first) start as the program's text lays them. Written by the session's own program (wip/tools/genrow.py). -/
import Derived.Test.YtallfkecjibpmaaGreatDoorRows
import Derived.Test.YtallfkecjibpmaaGreatDoorTie
import Derived.Test.YtallfkecjibpmaaGreatDoorCards
import Derived.Test.YtallfkecjibpmaaGreatDoorLaidE
import Derived.Test.YtallfkecjibpmaaGreatDoorM3
import Derived.Test.YtallfkecjibpmaaGreatDoorPureTapStamps
import Derived.WalkKit
import Derived.ProofKit
import Derived.OpenShut
import Derived.ShutString
import Derived.ChangeOld
import Derived.Below
import Derived.SizedLaws
import Derived.Handed
import Derived.LaidLaws
import Derived.SevenTiedAt
namespace Go.Proofs.YtallfkecjibpmaaGreatDoor.tapStamps
open Go.ChangeShapes Go.WideShapes Go.ChangeAt Go.RowKit
open Go.ChangeMaps (open_string shut_string)
set_option linter.unusedVariables false
set_option maxRecDepth 100000 in
theorem lifted (os : Os) (started : os.Started) (H : Type) (enc : TypeId × Value → H) :
    ReturnsInHanded {} Tryz.checked os 5 .any (fun w args => (Rows.tapStampsSpec.pre enc Tryz.prog Tryz.f5 Rows.tapStampsRow.domain false w args ∧ laidMetH Tryz.prog LaidE.laid w) ∧ sizedMet enc Tryz.prog Tryz.f5 (OpenSpec.ofChange Rows.tapStampsSpec) false w args) (Rows.tapStampsSpec.post enc Tryz.prog Tryz.f5 false true false false) := by
  refine LaidE.returns_shaped (C := Tryz.checked) (X := (fun w _ => laidMetH Tryz.prog LaidE.laid w)) (fun _ _ _ hh h => h.of_heap hh) LaidE.own started (by kernel_rfl) Tryz.func5
    (ChangeSpec.witness_shaped (enc := enc) (C := Tryz.checked) (os := os) (X := (fun w _ => laidMetH Tryz.prog LaidE.laid w)) false (LaidE.world os) #[.int .i64 0] 8 rfl (World.shaped_of_RefB (by kernel_rfl) (by kernel_rfl)) (by kernel_rfl) (by kernel_rfl) (by kernel_rfl) (LaidE.world_met os _)) ?_
  intro W base args ds gs before hval0 hW hcnd hsz0 hX hsh _
  have hL : G.LaidW W := LaidE.laidW hX hsh
  have hsz : (DataW.weightsEach Tryz.prog (Tryz.f5.params.toList ++ Rows.tapStampsSpec.plain.varTypes Tryz.prog) (ds ++ gs)).all (· ≤ reachBytes) = true := hsz0
  have hval : ∀ (j : Nat) t v, Tryz.f5.params[j]? = some t → args[j]? = some v → Value.okWide Tryz.prog W .any base t v := hval0
  have hW' := hW
  obtain ⟨p, q, hA0, hV, rfl, hfz, hnd⟩ := hW
  have hA : DataW.TrodAll enc Tryz.prog W 0 (fun _ => true) true Tryz.f5.params.toList args.toList ds p := hA0
  rw [Tryz.params5] at hA hval hsz
  obtain ⟨v0, vs0, d0, ds0, p0, q0, hargs, rfl, rfl, h0, r0⟩ := trodAll_cons hA
  obtain ⟨rfl, rfl, rfl⟩ := trodAll_nil r0
  obtain rfl : args = #[v0] := by cases args; simp_all
  obtain ⟨rfl, rfl⟩ := trodVars_none hV
  obtain ⟨a0, rfl, rfl, rfl, w0⟩ := open_int Tryz.underlying3 (hval 0 3 v0 rfl rfl) h0
  clear hA0 hval0 hsz0 hsz
  refine (M.motleylaw27_TapStamps.walk Pure.TapStamps a0 W hL w0).mono fun e W' ⟨he, bel⟩ => ?_
  subst he
  exact ⟨_, rfl, _, _, _, [], _, [], hW', trodAll_mk1 (shut_bool Tryz.underlying4 _), (trodAll_cons_mk (shut_int Tryz.underlying3 w0) trodAll_mk0), rfl, bel.frame _, fun h => by cases h⟩
theorem over : Rows.tapStampsRow.holds Tryz.pinned (OpenSpec.ofChange Rows.tapStampsSpec) :=
  OpenClaim.holds_of_wide 5 Tryz.f5 rfl rfl rfl rfl rfl rfl rfl ⟨rfl, rfl, rfl, rfl, rfl⟩ rfl rfl rfl rfl rfl (by kernel_rfl) Tryz.func5 (by kernel_rfl)
    (of_decide_eq_true (by kernel_rfl)) (by unfold Func.isWrapper; first | (rw [if_pos (by decide +kernel)]; kernel_rfl) | (rw [if_neg (by decide +kernel)]; exact ⟨rfl, rfl⟩))
    (fun os started H enc _ => lifted os started H enc)
theorem proved : Rows.TapStampsSaid := over
theorem card : Rows.TapStampsCardSaid :=
  Claim7.holds_tied_plain_at .later [] [.data, .data, .data, .data, .sentinel, .sentinel, .pinned] true (true, "fec83925094ab397b749a6cfdcc37034cba80aa73e32accbecd58f473dbd5582") true proved (fun _ h => by cases h) (by kernel_rfl) (fun _ h => by cases h) tapStamps_row_tie rfl ⟨rfl, rfl⟩ (by kernel_rfl) rfl
    (fun f fn hf hfn => by
      obtain rfl : f = 5 := Option.some.inj ((show Tryz.prog.funcNamed "motley/motleylaw27.TapStamps" = some 5 by kernel_rfl).symm.trans hf) |>.symm
      obtain rfl : fn = Tryz.f5 := (Option.some.inj (Tryz.func5.symm.trans hfn)).symm
      exact ⟨by kernel_rfl, fun j t ht => by
        rw [Tryz.params5] at ht
        have hm : t ∈ [3] := by simpa using Array.mem_of_getElem? ht
        have hall : ([3].all fun u => !Tryz.prog.wantsStandIn u) = true := by kernel_rfl
        exact (show Tryz.prog.wantsStandIn t = false by simpa using List.all_eq_true.1 hall t hm)⟩)
    (by kernel_rfl)
end Go.Proofs.YtallfkecjibpmaaGreatDoor.tapStamps
namespace Go.Proofs.YtallfkecjibpmaaGreatDoor
theorem tapStamps_holds : Rows.TapStampsCardSaid := tapStamps.card
#print axioms tapStamps_holds
end Go.Proofs.YtallfkecjibpmaaGreatDoor
