/- PROVED: the card of TapWrites ("motley/motleylaw27.TapWrites"). Which protocol tests have, and that it is read as the tests, for all names and reasons (l), and results and directives (flags). The Go function returns true for every input, and its arguments read afterwards as before. Conditions: those that the card bears: the package-level variables that the row lists (math/bits.deBruijn32tab, math/bits.deBruijn64tab, internal/strconv.uint64pow10, unicode/utf8.acceptRanges, strconv.ErrRange, strconv.ErrSyntax, unicode/utf8.first) start as the program's text lays them. Written by the session's own program (wip/tools/genrow.py). -/
import Derived.Test.YtallfkecjibpmaaDoorRows
import Derived.Test.YtallfkecjibpmaaDoorTie
import Derived.Test.YtallfkecjibpmaaDoorCards
import Derived.WalkKit
import Derived.ProofKit
import Derived.OpenShut
import Derived.ShutString
import Derived.ChangeOld
import Derived.Below
import Derived.SizedLaws
import Derived.Handed
import Derived.LaidLaws
import Derived.SevenTiedAt
import Derived.Test.YtallfkecjibpmaaDoorVLaidE
import Derived.Test.YtallfkecjibpmaaDoorVM2
import Derived.Test.YtallfkecjibpmaaDoorVPureTapWrites
import Derived.Test.YtallfkecjibpmaaDoorVW
import Derived.Test.YtallfkecjibpmaaDoorVRowP
namespace Go.Proofs.YtallfkecjibpmaaDoor.tapWrites
open Go.ChangeShapes Go.WideShapes Go.ChangeAt Go.RowKit
open Go.ChangeMaps (open_string shut_string)
set_option linter.unusedVariables false
theorem laidOut : laidOutB Tryd.prog = true := by kernel_rfl
def IsRow (k : IntKind) (w : World) (a : Option Addr) (len cap : Nat) (zs : List Int) : Prop :=
  (a = none ∧ len = 0 ∧ cap = 0 ∧ zs = []) ∨
  ∃ x, a = some x ∧ len ≤ cap ∧ cap ≤ maxLen ∧ zs.length = cap ∧ (∀ i, i < zs.length → w.cell? (x.add i) = some (.int k (zs.getD i 0))) ∧ ∀ n ∈ zs, (Lit.int k n).wf = true
theorem walkW (a0 : Option Addr) (len0 cap0 : Nat) (z0 : List R.S84) (a1 : Option Addr) (len1 cap1 : Nat) (z1 : List Int) (w : World) (hL : G.LaidW w)
    (w0 : Go.Proofs.YtallfkecjibpmaaDoorW.PrintWords.Kd.C R.k84 w a0 z0.length z0 ∧ z0.length = len0 ∧ len0 ≤ cap0 ∧ ∀ x ∈ z0, x.f0.size ≤ 140737488351232 ∧ x.f1.size ≤ 140737488351232) (y0 : len0 * 32 ≤ 140737488351232) (w1 : IsRow .i64 w a1 len1 cap1 z1) (y1 : len1 * 8 ≤ 140737488351232) :
    Calls Tryd.prog 9 #[.slice a0 len0 cap0, .slice a1 len1 cap1] w fun e w' => e = .returned (.bool true) ∧ Below w.heap.size w w' := by
  obtain ⟨hr0, rfl, hc0, hs0⟩ := w0
  obtain ⟨l1, rfl, hr1, hm1, hw1, hc1⟩ := Go.Proofs.YtallfkecjibpmaaDoorW.PrintWords.ReadsInt.ofRowC w1
  obtain ⟨k, h⟩ := Pure.TapWrites z0 l1 y0 y1 hs0
  exact (M.motleylaw27_TapWrites.calls k _ _ z0 _ _ l1 true w hL hr0 hc0 (Go.Proofs.YtallfkecjibpmaaDoorW.PrintWords.Kd.C_of_reads (d := (0 : Int)) (h1 := fun _ => rfl) hr1) hc1 h).mono fun e w' h => h
set_option maxRecDepth 100000 in
theorem lifted (os : Os) (started : os.Started) (H : Type) (enc : TypeId × Value → H) :
    ReturnsInHanded {} Tryd.checked os 9 .any (fun w args => (Rows.tapWritesSpec.pre enc Tryd.prog Tryd.f9 Rows.tapWritesRow.domain false w args ∧ laidMetH Tryd.prog LaidE.laid w) ∧ sizedMet enc Tryd.prog Tryd.f9 (OpenSpec.ofChange Rows.tapWritesSpec) false w args) (Rows.tapWritesSpec.post enc Tryd.prog Tryd.f9 false true false false) := by
  refine LaidE.returns_shaped (C := Tryd.checked) (X := (fun w _ => laidMetH Tryd.prog LaidE.laid w)) (fun _ _ _ hh h => h.of_heap hh) LaidE.own started (by kernel_rfl) Tryd.func9
    (ChangeSpec.witness_shaped (enc := enc) (C := Tryd.checked) (os := os) (X := (fun w _ => laidMetH Tryd.prog LaidE.laid w)) false (LaidE.world os) #[.slice none 0 0, .slice none 0 0] 8 rfl (World.shaped_of_RefB (by kernel_rfl) (by kernel_rfl)) (by kernel_rfl) (by kernel_rfl) (by kernel_rfl) (LaidE.world_met os _)) ?_
  intro W base args ds gs before hval0 hW hcnd hsz0 hX hsh _
  have hL : G.LaidW W := LaidE.laidW hX hsh
  have hsz : (DataW.weightsEach Tryd.prog (Tryd.f9.params.toList ++ Rows.tapWritesSpec.plain.varTypes Tryd.prog) (ds ++ gs)).all (· ≤ reachBytes) = true := hsz0
  have hval : ∀ (j : Nat) t v, Tryd.f9.params[j]? = some t → args[j]? = some v → Value.okWide Tryd.prog W .any base t v := hval0
  have hW' := hW
  obtain ⟨p, q, hA0, hV, rfl, hfz, hnd⟩ := hW
  have hA : DataW.TrodAll enc Tryd.prog W 0 (fun _ => true) true Tryd.f9.params.toList args.toList ds p := hA0
  rw [Tryd.params9] at hA hval hsz
  obtain ⟨v0, vs0, d0, ds0, p0, q0, hargs, rfl, rfl, h0, r0⟩ := trodAll_cons hA
  obtain ⟨v1, vs1, d1, ds1, p1, q1, rfl, rfl, rfl, h1, r1⟩ := trodAll_cons r0
  obtain ⟨rfl, rfl, rfl⟩ := trodAll_nil r1
  obtain rfl : args = #[v0, v1] := by cases args; simp_all
  obtain ⟨rfl, rfl⟩ := trodVars_none hV
  obtain ⟨a0, len0, cap0, rfl⟩ := okWide_slice Tryd.underlying39 (hval 0 39 v0 rfl rfl)
  have k0 := h0
  have lt0 : ∀ x ∈ p0, x.block < W.heap.size := by obtain ⟨m, hm⟩ := k0; exact DataW.trod_lt m _ _ _ hm
  obtain ⟨z0, wa0, wb0, wc0, yy0, wd0⟩ := G.open_pairs (len := len0) Tryd.underlying39 Tryd.underlying84 Tryd.underlying9 (by kernel_rfl) (by kernel_rfl) hsz (j := 0) rfl rfl h0
  have y0 : len0 * 32 ≤ 140737488351232 := by have e : Tryd.prog.bytesOf 84 = 32 := by kernel_rfl
                                              rw [e] at yy0; exact yy0
  have w0 := And.intro wa0 (And.intro wb0 (And.intro wc0 wd0))
  obtain ⟨a1, len1, cap1, rfl⟩ := okWide_slice Tryd.underlying40 (hval 1 40 v1 rfl rfl)
  have k1 := h1
  have lt1 : ∀ x ∈ p1, x.block < W.heap.size := by obtain ⟨m, hm⟩ := k1; exact DataW.trod_lt m _ _ _ hm
  obtain ⟨z1, w1⟩ : ∃ zs, IsRow .i64 W a1 len1 cap1 zs := by
    obtain ⟨fuel, hf⟩ := h1
    rcases open_ints Tryd.underlying40 Tryd.underlying3 (by kernel_rfl) hf with ⟨hcs, _⟩ | ⟨x, l, c, zs, hcs, _, hl, hm, hz, _, hcell, hwz⟩
    · simp [Value.cells] at hcs
      obtain ⟨rfl, rfl, rfl⟩ := hcs
      exact ⟨[], .inl ⟨rfl, rfl, rfl, rfl⟩⟩
    · simp [Value.cells] at hcs
      obtain ⟨rfl, rfl, rfl⟩ := hcs
      exact ⟨zs, .inr ⟨_, rfl, hl, hm, by simpa using hz, hcell, hwz⟩⟩
  have y1 : len1 * 8 ≤ 140737488351232 := Go.Proofs.YtallfkecjibpmaaDoorW.PrintWords.sized_ints hsz (j := 1) (t := 40) rfl rfl Tryd.underlying40 Tryd.underlying3 (by kernel_rfl) (by kernel_rfl) h1
  clear hA0 hval0 hsz0 hsz
  refine (walkW a0 len0 cap0 z0 a1 len1 cap1 z1 W hL w0 y0 w1 y1).mono fun e W' ⟨he, bel⟩ => ?_
  subst he
  exact ⟨_, rfl, _, _, _, [], _, [], hW', trodAll_mk1 (shut_bool Tryd.underlying4 _), (trodAll_cons_mk (Below.trod laidOut (by kernel_rfl) (of_decide_eq_true (by kernel_rfl)) k0 bel lt0) (trodAll_cons_mk (Below.trod laidOut (by kernel_rfl) (of_decide_eq_true (by kernel_rfl)) k1 bel lt1) trodAll_mk0)), rfl, bel.frame _, fun h => by cases h⟩
theorem over : Rows.tapWritesRow.holds Tryd.pinned (OpenSpec.ofChange Rows.tapWritesSpec) :=
  OpenClaim.holds_of_wide 9 Tryd.f9 rfl rfl rfl rfl rfl rfl rfl ⟨rfl, rfl, rfl, rfl, rfl⟩ rfl rfl rfl rfl rfl (by kernel_rfl) Tryd.func9 (by kernel_rfl)
    (of_decide_eq_true (by kernel_rfl)) (by unfold Func.isWrapper; first | (rw [if_pos (by decide +kernel)]; kernel_rfl) | (rw [if_neg (by decide +kernel)]; exact ⟨rfl, rfl⟩))
    (fun os started H enc _ => lifted os started H enc)
theorem proved : Rows.TapWritesSaid := over
theorem card : Rows.TapWritesCardSaid :=
  Claim7.holds_tied_plain_at .later [] [.data, .data, .data, .data, .sentinel, .sentinel, .pinned] true (true, "abd4d8e25d5a9f0c618252e5f831cda1db040089d4b10df557b45a1a481b4f4f") true proved (fun _ h => by cases h) (by kernel_rfl) (fun _ h => by cases h) tapWrites_row_tie rfl ⟨rfl, rfl⟩ (by kernel_rfl) rfl
    (fun f fn hf hfn => by
      obtain rfl : f = 9 := Option.some.inj ((show Tryd.prog.funcNamed "motley/motleylaw27.TapWrites" = some 9 by kernel_rfl).symm.trans hf) |>.symm
      obtain rfl : fn = Tryd.f9 := (Option.some.inj (Tryd.func9.symm.trans hfn)).symm
      exact ⟨by kernel_rfl, fun j t ht => by
        rw [Tryd.params9] at ht
        have hm : t ∈ [39, 40] := by simpa using Array.mem_of_getElem? ht
        have hall : ([39, 40].all fun u => !Tryd.prog.wantsStandIn u) = true := by kernel_rfl
        exact (show Tryd.prog.wantsStandIn t = false by simpa using List.all_eq_true.1 hall t hm)⟩)
    (by kernel_rfl)
end Go.Proofs.YtallfkecjibpmaaDoor.tapWrites
namespace Go.Proofs.YtallfkecjibpmaaDoor
theorem tapWrites_holds : Rows.TapWritesCardSaid := tapWrites.card
#print axioms tapWrites_holds
end Go.Proofs.YtallfkecjibpmaaDoor
