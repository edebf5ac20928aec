/- strconv.FormatInt at base 16, for numbers of at most six digits: walked by hand. -/
import Derived.Test.YtegapacamclipaaGreatDoorProg
import Derived.WalkKit
import Derived.BigCall
import Derived.Below
import Derived.Deep.OwnRows
import Derived.Laws.BitsLemmas
import Derived.Test.YtegapacamclipaaGreatDoorWWords
set_option linter.unusedVariables false
set_option linter.unusedSimpArgs false
namespace Go.Proofs.YtegapacamclipaaGreatDoor.G
open Go.RowKit Go.Proofs.YtegapacamclipaaGreatDoorW.PrintWords
/-- The table's entry that is read at 16. -/
def TzW (w : World) : Prop := w.cell? ⟨7, 15, none⟩ = some (.int .u8 4)
theorem pow16 (w : World) : Calls Tryz.prog 74 #[.int .i64 16] w fun e w' => e = .returned (.bool true) ∧ w' = w := by
  go_enter Tryz.func74, Tryz.ntmps74
  go_wp2
  go_ret
  exact ⟨rfl, rfl⟩
theorem tz64 (w : World) (h : TzW w) : Calls Tryz.prog 89 #[.int .u64 16] w fun e w' => e = .returned (.int .i64 4) ∧ w' = w := by
  have e1 : IntKind.u64.wrap (bits .and .u64 16 (IntKind.u64.wrap (-16)) * 285870213051353865) / 288230376151711744 = 15 := by decide +kernel
  unfold TzW at h
  go_enter Tryz.func89, Tryz.ntmps89
  go_wp2
  go_ret
  exact ⟨rfl, rfl⟩
theorem tz16 (w : World) (h : TzW w) : Calls Tryz.prog 75 #[.int .u64 16] w fun e w' => e = .returned (.int .i64 4) ∧ w' = w := by
  have hz := tz64 w h
  go_enter Tryz.func75, Tryz.ntmps75
  go_wp2_with (go_at_call 89; refine hz.mono ?_; rintro e w' ⟨rfl, rfl⟩)
  go_ret
  exact ⟨rfl, rfl⟩
/-- A digit, and a number's digits, the last six at most. -/
def hexD (d : Nat) : UInt8 := if d < 10 then UInt8.ofNat (48 + d) else UInt8.ofNat (87 + d)
def hexF : Nat → Nat → List UInt8 → List UInt8
  | 0, u, l => hexD u :: l
  | n + 1, u, l => if u < 16 then hexD u :: l else hexF n (u / 16) (hexD (u % 16) :: l)
def hexL (u : Nat) : List UInt8 := hexF 6 u []
theorem wraps_u64 (n : Int) (h0 : 0 ≤ n) (h1 : n < 2 ^ 32) : IntKind.u64.wrap n = n := by
  simp [IntKind.wrap, IntKind.bits, IntKind.signed]; omega
theorem and15 (v : Nat) (h : v < 16777216) : bits .and .u64 (v : Int) 15 = ((v % 16 : Nat) : Int) := by
  have := bits_mask .u64 32 (by decide) wraps_u64 4 (by decide) (v : Int) (by omega) (by omega)
  rw [show ((2 : Int) ^ 4 - 1) = 15 by decide] at this
  rw [this]
  omega
def digsB : ByteArray := ⟨#[48, 49, 50, 51, 52, 53, 54, 55, 56, 57, 97, 98, 99, 100, 101, 102, 103, 104, 105, 106, 107, 108, 109, 110, 111, 112, 113, 114, 115, 116, 117, 118, 119, 120, 121, 122]⟩
theorem digs_at : ∀ d : Fin 16, digsB[d.1]? = some (hexD d.1) := by decide
theorem digs_run (d : Nat) (hd : d < 16) (W : World) : (Instr.index 9 (.string digsB) (.int .u64 (d : Int))).run Tryz.prog W = .ok (.int .u8 ((hexD d).toNat : Int)) W := by
  have h := digs_at ⟨d, hd⟩
  simp only at h
  simp [Instr.index, asIntOf, run_underlying Tryz.underlying9, h]
theorem digs_get (d : Nat) (hd : d < 16) (h : d < digsB.size) : digsB[d] = hexD d := by
  have h1 := digs_at ⟨d, hd⟩
  simp only at h1
  rw [getElem?_pos digsB d h] at h1
  exact Option.some.inj h1
theorem zeros_run : Tryz.zeroCells89 = Array.replicate 65 (.int .u8 0) := by kernel_rfl
theorem fin_key (v u n : Nat) (ds : List UInt8) (h : v < digsB.size) (hv : v < 16) (he : hexF n v ds = hexL u) : strOfNums (((digsB[v]).toNat : Int) :: ds.map fun d => (d.toNat : Int)) = ⟨(hexL u).toArray⟩ := by
  have e : hexF n v ds = hexD v :: ds := by
    cases n with
    | zero => rfl
    | succ n => rw [hexF, if_pos hv]
  rw [digs_get v hv, ← he, e]
  simp [strOfNums, Function.comp_def]
theorem slice_run (B i : Nat) (hi : i < 65) (W : World) : (Instr.sliceAt 89 (.pointer (some ⟨B, 0, none⟩)) (some (.int .i64 (i : Int))) none none).run Tryz.prog W = .ok (.slice (some ⟨B, i, none⟩) (65 - i) (65 - i)) W := by
  have hl : Tryz.prog.arrayLen 89 = 65 := by kernel_rfl
  have he : Tryz.prog.elem 89 = 5 := by kernel_rfl
  have h := run_sliceAt_array_l (P := Tryz.prog) W 89 ⟨B, 0, none⟩ (by rw [hl, he]; exact Tryz.underlying89) .i64 (i : Int) (by omega) (by rw [hl]; omega)
  rw [h, he, hl, Tryz.sizeOf5]
  simp only [slicedAt, Int.toNat_natCast, Result.andThen, if_neg (show ¬ 65 = i by omega)]
  simp [Addr.add]
  intro h
  exact h.symm
theorem conv_run (B i : Nat) (ds : List UInt8) (wr : World) (f : Nat → Value) (x : Int) (hr : wr.rowIs B 89 65 f) (hi : i + 1 + ds.length = 65) (hf : ∀ j, j < ds.length → f (i + 1 + j) = .int .u8 ((ds.getD j 0).toNat : Int)) :
    (convert 32 9 (.slice (some ⟨B, i, none⟩) (65 - i) (65 - i))).run Tryz.prog (wr.setCell ⟨B, i, none⟩ (.int .u8 x)) = .ok (.string (strOfNums (x :: ds.map fun d => (d.toNat : Int)))) (wr.setCell ⟨B, i, none⟩ (.int .u8 x)) := by
  refine string_of_reads Tryz.underlying32 Tryz.underlying5 Tryz.underlying9 ⟨by simp; omega, by omega, fun _ => ⟨_, rfl, fun j hj => ?_⟩⟩
  have h1 := (hr.set i (.int .u8 x)).cell (i := i + j) (by omega)
  rw [show (⟨B, i, none⟩ : Addr).add j = ⟨B, i + j, none⟩ by simp [Addr.add], h1]
  cases j with
  | zero => rw [Nat.add_zero, if_pos rfl]; rfl
  | succ j =>
    rw [if_neg (by omega), show i + (j + 1) = i + 1 + j by omega, hf j (by omega)]
    have hj2 : j < ds.length := by omega
    simp [List.getD_eq_getElem?_getD, hj2]
set_option maxHeartbeats 4000000 in
set_option maxRecDepth 100000 in
theorem formatBits16 (u : Nat) (hu : u < 16777216) (w : World) (hT : TzW w) :
    Calls Tryz.prog 56 #[.slice none 0 0, .int .u64 u, .int .i64 16, .bool false, .bool false] w fun e w' => e = .returned (.tuple #[.slice none 0 0, .string ⟨(hexL u).toArray⟩]) ∧ Below w.heap.size w w' := by
  have hp := Aside0.mk (fun W => pow16 W)
  have hz := Aside0.mk (fun W (h : TzW W) => tz16 W h)
  have hT2 := Aside0.mk (show ∀ o, TzW (w.alloc o) from fun o => by unfold TzW at hT ⊢; exact pw_cell_below ((Below.refl w.heap.size w).alloc (Nat.le_refl _) o) hT)
  have hrow : (w.alloc (.cells Tryz.zeroCells89 89)).rowIs w.heap.size 89 65 (fun _ => .int .u8 0) := by
    have := World.rowIs_alloc w Tryz.zeroCells89 89 (fun _ => .int .u8 0) (fun i hi => by rw [zeros_run] at hi ⊢; simp at hi; simp [hi])
    rw [zeros_run] at this ⊢
    simpa using this
  have hrowA := Aside0.mk hrow
  have hB0 := Aside0.mk ((Below.refl w.heap.size w).alloc (Nat.le_refl _) (.cells Tryz.zeroCells89 89))
  clear hrow hT
  go_enter Tryz.func56, Tryz.ntmps56
  go_wp2_with (first | (go_at_call 74; refine (hp.out _).mono ?_; rintro e w' ⟨rfl, rfl⟩) | (go_at_call 75; refine (hz.out _ (hT2.out _)).mono ?_; rintro e w' ⟨rfl, rfl⟩))
  go_loopw [1, 13] (fun uv iv wr => ∃ (v n i : Nat) (ds : List UInt8), uv = .int .u64 v ∧ iv = .int .i64 i ∧ v < 16777216 ∧ i + ds.length = 65 ∧ ds.length + n = 6 ∧ Aside0 (v < 16 ^ (n + 1)) ∧ Aside0 (hexF n v ds = hexL u) ∧ Aside0 (∃ f : Nat → Value, wr.rowIs w.heap.size 89 65 f ∧ ∀ j, j < ds.length → f (i + j) = .int .u8 ((ds.getD j 0).toNat : Int)) ∧ Aside0 (Below w.heap.size w wr)) (fun uv _ _ => (Go.RowKit.intOf uv).toNat)
  case atStart => exact ⟨u, 6, 65, [], rfl, rfl, hu, rfl, rfl, ⟨by simp; omega⟩, ⟨rfl⟩, ⟨_, hrowA.out, by simp⟩, hB0⟩
  case round =>
    obtain ⟨v, n, i, ds, rfl, rfl, hv, hi, hn, hvn, hh, hrw, hB⟩ := hrel
    obtain ⟨f, hrow0, hf0⟩ := hrw.out
    have hrow := Aside0.mk hrow0
    have hf := Aside0.mk hf0
    have hiA := Aside0.mk hi
    have hnA := Aside0.mk hn
    have hdA := Aside0.mk (show ds.length ≤ 6 ∧ 59 ≤ i ∧ i ≤ 65 from ⟨by omega, by omega, by omega⟩)
    obtain ⟨i1, rfl⟩ : ∃ i1, i = i1 + 1 := ⟨i - 1, by omega⟩
    have hc1 := hrow0.cell (i := i1) (by omega)
    have hz1 := hrow0.frozen i1
    have hib : (i1 : Int) < 65 := by omega
    clear hrow0 hf0 hi hn
    by_cases hlt : 16 ≤ v
    · have hlti : decide ((16 : Int) ≤ (v : Int)) = true := decide_eq_true (by omega)
      have ha := and15 v hv
      obtain ⟨n1, hn1⟩ : ∃ n1, n = n1 + 1 := by
        cases n with
        | zero => have := hvn.out; omega
        | succ n1 => exact ⟨n1, rfl⟩
      have hvA := Aside0.mk hv
      have hltA := Aside0.mk hlt
      have hnA1 := Aside0.mk hn1
      clear hn1
      go_wp2
      go_roundw
      case rel =>
        refine ⟨v / 16, n1, i1, hexD (v % 16) :: ds, by rw [Int.natCast_ediv]; rfl, rfl, by have := hvA.out; omega, ?_, ?_, ⟨?_⟩, ⟨?_⟩, ⟨_, hrow.out.set _ _, fun j hj => ?_⟩, ⟨hB.out.setCell (Nat.le_refl _) _⟩⟩
        · have := hiA.out; simp only [List.length_cons]; omega
        · have h1 := hnA.out; have h2 := hnA1.out; simp only [List.length_cons]; omega
        · have h1 := hvn.out
          rw [hnA1.out] at h1
          exact Nat.div_lt_of_lt_mul (by rw [Nat.pow_succ] at h1; omega)
        · have h1 := hh.out
          rw [hnA1.out, hexF, if_neg (by have := hltA.out; omega)] at h1
          exact h1
        · cases j with
          | zero =>
            rw [Nat.add_zero, if_pos rfl]
            exact congrArg (fun c : UInt8 => Value.int .u8 (c.toNat : Int)) (digs_get (v % 16) (Nat.mod_lt _ (by decide)) _)
          | succ j =>
            rw [if_neg (by omega)]
            have h1 := hf.out j (by simpa using hj)
            rw [show i1 + (j + 1) = i1 + 1 + j by omega, h1]
            simp
      case measure => simp [Go.RowKit.intOf]; have := hltA.out; omega
    · have hlti : decide ((16 : Int) ≤ (v : Int)) = false := decide_eq_false (by omega)
      have hvs : (v : Int) < 16 := by omega
      have hltA := Aside0.mk (show v < 16 by omega)
      have hsl := fun W => slice_run w.heap.size i1 (by omega) W
      have hcv := fun x : Int => conv_run w.heap.size i1 ds wr f x hrow.out hiA.out hf.out
      have hend := Aside0.mk hh.out
      clear hlt hlti
      go_wp2
      go_ret2
      refine ⟨?_, hB.out.setCell (Nat.le_refl _) _⟩
      exact congrArg (fun b : ByteArray => Ending.returned (.tuple #[.slice none 0 0, .string b])) (fin_key v u n ds _ hltA.out hend.out)
set_option maxHeartbeats 1000000 in
theorem fmtI16 (u : Nat) (hu : u < 16777216) (w : World) (hT : TzW w) :
    Calls Tryz.prog 41 #[.int .i64 u, .int .i64 16] w fun e w' => e = .returned (.string ⟨(hexL u).toArray⟩) ∧ Below w.heap.size w w' := by
  have hb := Aside0.mk (fun W (h : TzW W) => formatBits16 u hu W h)
  have hT2 := Aside0.mk hT
  have h1 : (u : Int) < 16777216 := by omega
  clear hT hu
  go_enter Tryz.func41, Tryz.ntmps41
  go_wp2_with (go_at_call 56; refine (hb.out _ hT2.out).mono ?_; rintro e w1 ⟨rfl, hB⟩)
  go_ret
  exact ⟨rfl, hB⟩
theorem fmt16 (u : Nat) (hu : u < 16777216) (w : World) (hT : TzW w) :
    Calls Tryz.prog 23 #[.int .i64 u, .int .i64 16] w fun e w' => e = .returned (.string ⟨(hexL u).toArray⟩) ∧ Below w.heap.size w w' := by
  have hb := Aside0.mk (fmtI16 u hu w hT)
  clear hT hu
  go_enter Tryz.func23, Tryz.ntmps23
  go_wp2_with (go_at_call 41; refine hb.out.mono ?_; rintro e w1 ⟨rfl, hB⟩)
  go_ret
  exact ⟨rfl, hB⟩
end Go.Proofs.YtegapacamclipaaGreatDoor.G
